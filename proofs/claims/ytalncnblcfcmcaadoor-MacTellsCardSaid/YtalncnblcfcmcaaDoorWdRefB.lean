/- The walks of the document's own letter, Count, Right. -/
import Derived.Test.YtalncnblcfcmcaaDoorMcRight
import Derived.Lib.MinMax
namespace Go.Proofs.YtalncnblcfcmcaaDoor
open Go.Shelf Go.RowKit

namespace Rd
/-- a byte as a number; behind the end 0 -/
def b (s : ByteArray) (i : Nat) : Nat := (s.get! i).toNat
theorem b_lt (s : ByteArray) (i : Nat) : b s i < 256 := UInt8.toNat_lt _
theorem b_at (s : ByteArray) {i : Nat} (h : i < s.size) : b s i = s[i].toNat := by
  unfold b
  rw [show s.get! i = s[i] from by simp [ByteArray.get!, h]; rfl]
theorem b_ext (s : ByteArray) (p q i : Nat) (hq : q ≤ s.size) (h : p + i < q) : b (s.extract p q) i = b s (p + i) := by
  rw [b_at _ (by rw [ByteArray.size_extract]; omega), b_at _ (by omega), ByteArray.getElem_extract]
def cls (a : Nat) : Nat × Nat × Nat :=
  (if 240 ≤ a then 4 else if 224 ≤ a then 3 else 2, if a = 224 then 160 else if a = 240 then 144 else 128, if a = 237 then 159 else if a = 244 then 143 else 191)
def tail (s : ByteArray) (n : Nat) : Bool := (List.range' 2 (n - 2)).all fun i => decide (128 ≤ b s i) && decide (b s i ≤ 191)
def long (s : ByteArray) : Nat :=
  if s.size = 0 then 0 else if b s 0 < 128 then 1 else if b s 0 < 194 ∨ 244 < b s 0 then 0 else
    if s.size < (cls (b s 0)).1 ∨ b s 1 < (cls (b s 0)).2.1 ∨ (cls (b s 0)).2.2 < b s 1 then 0 else if tail s (cls (b s 0)).1 then (cls (b s 0)).1 else 0
theorem cls_cases {a : Nat} (h1 : 194 ≤ a) (h2 : a ≤ 244) :
    (a = 224 ∧ cls a = (3, 160, 191)) ∨ (a = 237 ∧ cls a = (3, 128, 159)) ∨ (a = 240 ∧ cls a = (4, 144, 191)) ∨ (a = 244 ∧ cls a = (4, 128, 143)) ∨ (a < 224 ∧ cls a = (2, 128, 191)) ∨ ((224 < a ∧ a < 240 ∧ a ≠ 237) ∧ cls a = (3, 128, 191)) ∨ ((240 < a ∧ a < 244) ∧ cls a = (4, 128, 191)) := by
  unfold cls
  by_cases e1 : a = 224
  · subst e1; simp
  by_cases e2 : a = 237
  · subst e2; simp
  by_cases e3 : a = 240
  · subst e3; simp
  by_cases e4 : a = 244
  · subst e4; simp
  by_cases e5 : a < 224
  · simp [e1, e2, e3, e4, e5, show ¬ 240 ≤ a by omega, show ¬ 224 ≤ a by omega]
  by_cases e6 : a < 240
  · simp [e1, e2, e3, e4, e5, show ¬ 240 ≤ a by omega, show 224 ≤ a by omega]; omega
  · simp [e1, e2, e3, e4, e5, show 240 ≤ a by omega]; omega

theorem valid_iff (c : Nat) : (Utf8.valid (c : Int) = true) ↔ (c < 55296 ∨ 57344 ≤ c ∧ c ≤ 1114111) := by
  unfold Utf8.valid
  rw [Bool.or_eq_true, Bool.and_eq_true, Bool.and_eq_true, decide_eq_true_eq, decide_eq_true_eq, decide_eq_true_eq, decide_eq_true_eq]
  omega
def cp2 (a b : Nat) : Nat := (a % 32) * 64 + b % 64
def cp3 (a b c : Nat) : Nat := (a % 16) * 4096 + (b % 64) * 64 + c % 64
def cp4 (a b c d : Nat) : Nat := (a % 8) * 262144 + (b % 64) * 4096 + (c % 64) * 64 + d % 64
/-- the model's rune at a place, by bytes -/
theorem decode_b (s : ByteArray) (p : Nat) : Utf8.decode s p =
    (let cont (k : Nat) : Bool := decide (p + k < s.size) && (b s (p + k) / 64 == 2)
     if b s p < 128 then (b s p, 1)
     else if (b s p / 32 == 6 && cont 1) = true then
       (if cp2 (b s p) (b s (p + 1)) ≥ 128 then (cp2 (b s p) (b s (p + 1)), 2) else (65533, 1))
     else if (b s p / 16 == 14 && cont 1 && cont 2) = true then
       (if ((decide (cp3 (b s p) (b s (p + 1)) (b s (p + 2)) ≥ 2048)) && Utf8.valid (cp3 (b s p) (b s (p + 1)) (b s (p + 2)) : Nat)) = true then (cp3 (b s p) (b s (p + 1)) (b s (p + 2)), 3) else (65533, 1))
     else if (b s p / 8 == 30 && cont 1 && cont 2 && cont 3) = true then
       (if ((decide (cp4 (b s p) (b s (p + 1)) (b s (p + 2)) (b s (p + 3)) ≥ 65536)) && Utf8.valid (cp4 (b s p) (b s (p + 1)) (b s (p + 2)) (b s (p + 3)) : Nat)) = true then (cp4 (b s p) (b s (p + 1)) (b s (p + 2)) (b s (p + 3)), 4) else (65533, 1))
     else (65533, 1)) := by
  rfl

theorem dec_bad (s : ByteArray) (p : Nat) (h : 128 ≤ b s p ∧ b s p < 192 ∨ 248 ≤ b s p) : Utf8.decode s p = (65533, 1) := by
  have l0 := b_lt s p
  rw [decode_b]
  simp only
  rw [if_neg (by omega), if_neg (by simp; omega), if_neg (by simp; omega), if_neg (by simp; omega)]
theorem dec_two (s : ByteArray) (p : Nat) (h : 192 ≤ b s p ∧ b s p < 224) : Utf8.decode s p = if (p + 1 < s.size ∧ b s (p + 1) / 64 = 2) ∧ cp2 (b s p) (b s (p + 1)) ≥ 128 then (cp2 (b s p) (b s (p + 1)), 2) else (65533, 1) := by
  rw [decode_b]
  simp only
  rw [if_neg (by omega)]
  by_cases h1 : p + 1 < s.size ∧ b s (p + 1) / 64 = 2
  · rw [if_pos (by simp [h1]; omega)]
    by_cases h2 : cp2 (b s p) (b s (p + 1)) ≥ 128
    · rw [if_pos h2, if_pos ⟨h1, h2⟩]
    · rw [if_neg h2, if_neg (fun h => h2 h.2)]
  · rw [if_neg (by simp only [Bool.and_eq_true, decide_eq_true_eq, beq_iff_eq]; omega), if_neg (by simp; omega), if_neg (by simp; omega), if_neg (fun h => h1 h.1)]
theorem dec_three (s : ByteArray) (p : Nat) (h : 224 ≤ b s p ∧ b s p < 240) : Utf8.decode s p = if ((p + 1 < s.size ∧ b s (p + 1) / 64 = 2) ∧ (p + 2 < s.size ∧ b s (p + 2) / 64 = 2)) ∧ (cp3 (b s p) (b s (p + 1)) (b s (p + 2)) ≥ 2048 ∧ Utf8.valid (cp3 (b s p) (b s (p + 1)) (b s (p + 2)) : Nat) = true) then (cp3 (b s p) (b s (p + 1)) (b s (p + 2)), 3) else (65533, 1) := by
  rw [decode_b]
  simp only
  generalize cp3 (b s p) (b s (p + 1)) (b s (p + 2)) = c
  rw [if_neg (by omega), if_neg (by simp; omega)]
  by_cases h1 : (p + 1 < s.size ∧ b s (p + 1) / 64 = 2) ∧ (p + 2 < s.size ∧ b s (p + 2) / 64 = 2)
  · rw [if_pos (by simp [h1]; omega)]
    by_cases h2 : c ≥ 2048 ∧ Utf8.valid c = true
    · rw [if_pos (by simp [h2]), if_pos ⟨h1, h2⟩]
    · rw [if_neg (by rw [Bool.and_eq_true, decide_eq_true_eq]; exact h2), if_neg (fun h => h2 h.2)]
  · rw [if_neg (by simp only [Bool.and_eq_true, decide_eq_true_eq, beq_iff_eq]; omega), if_neg (by simp; omega), if_neg (fun h => h1 h.1)]
theorem dec_four (s : ByteArray) (p : Nat) (h : 240 ≤ b s p ∧ b s p < 248) : Utf8.decode s p = if ((p + 1 < s.size ∧ b s (p + 1) / 64 = 2) ∧ (p + 2 < s.size ∧ b s (p + 2) / 64 = 2) ∧ (p + 3 < s.size ∧ b s (p + 3) / 64 = 2)) ∧ (cp4 (b s p) (b s (p + 1)) (b s (p + 2)) (b s (p + 3)) ≥ 65536 ∧ Utf8.valid (cp4 (b s p) (b s (p + 1)) (b s (p + 2)) (b s (p + 3)) : Nat) = true) then (cp4 (b s p) (b s (p + 1)) (b s (p + 2)) (b s (p + 3)), 4) else (65533, 1) := by
  rw [decode_b]
  simp only
  generalize cp4 (b s p) (b s (p + 1)) (b s (p + 2)) (b s (p + 3)) = c
  rw [if_neg (by omega), if_neg (by simp; omega), if_neg (by simp; omega)]
  by_cases h1 : (p + 1 < s.size ∧ b s (p + 1) / 64 = 2) ∧ (p + 2 < s.size ∧ b s (p + 2) / 64 = 2) ∧ (p + 3 < s.size ∧ b s (p + 3) / 64 = 2)
  · rw [if_pos (by simp [h1]; omega)]
    by_cases h2 : c ≥ 65536 ∧ Utf8.valid c = true
    · rw [if_pos (by simp [h2]), if_pos ⟨h1, h2⟩]
    · rw [if_neg (by rw [Bool.and_eq_true, decide_eq_true_eq]; exact h2), if_neg (fun h => h2 h.2)]
  · rw [if_neg (by simp only [Bool.and_eq_true, decide_eq_true_eq, beq_iff_eq]; omega), if_neg (fun h => h1 h.1)]

theorem pick_if (C : Prop) [Decidable C] (c n : Nat) (hn : n ≠ 1) : (if (if C then (c, n) else (65533, 1)) = (65533, 1) then 0 else (if C then (c, n) else (65533, 1)).2) = if C then n else 0 := by
  by_cases h : C
  · rw [if_pos h, if_pos h, if_neg (fun e => hn (Prod.mk.inj e).2)]
  · rw [if_neg h, if_neg h, if_pos rfl]
theorem if_iff {C D : Prop} [Decidable C] [Decidable D] (h : C ↔ D) (n : Nat) : (if C then n else 0) = if D then n else 0 := by
  by_cases hc : C
  · rw [if_pos hc, if_pos (h.1 hc)]
  · rw [if_neg hc, if_neg (fun d => hc (h.2 d))]
theorem if_if {C D : Prop} [Decidable C] [Decidable D] (n : Nat) : (if C then 0 else if D then n else 0) = if ¬ C ∧ D then n else 0 := by
  by_cases hc : C
  · rw [if_pos hc, if_neg (fun h => h.1 hc)]
  · by_cases hd : D
    · rw [if_neg hc, if_pos hd, if_pos ⟨hc, hd⟩]
    · rw [if_neg hc, if_neg hd, if_neg (fun h => hd h.2)]

set_option maxHeartbeats 1000000 in
theorem long_ext (s : ByteArray) (p : Nat) (hp : p < s.size) : long (s.extract p s.size) = if Utf8.decode s p = (65533, 1) then 0 else (Utf8.decode s p).2 := by
  have hz : (s.extract p s.size).size = s.size - p := by rw [ByteArray.size_extract]; omega
  have e : ∀ i, p + i < s.size → b (s.extract p s.size) i = b s (p + i) := fun i hi => b_ext s p s.size i (Nat.le_refl _) hi
  have e0 := e 0 hp
  rw [Nat.add_zero] at e0
  have l0 := b_lt s p
  unfold long
  rw [if_neg (by omega), e0, hz]
  by_cases h1 : b s p < 128
  · rw [if_pos h1, decode_b]
    simp only
    rw [if_pos h1, if_neg (by intro h; have := (Prod.mk.inj h).1; omega)]
  rw [if_neg h1]
  by_cases h2 : b s p < 192 ∨ 248 ≤ b s p
  · rw [if_pos (by omega), dec_bad s p (by omega), if_pos rfl]
  have k1 : s.size - p < 2 ∨ (p + 1 < s.size ∧ b (s.extract p s.size) 1 = b s (p + 1)) := by
    by_cases h : p + 1 < s.size
    · exact .inr ⟨h, e 1 h⟩
    · exact .inl (by omega)
  have k2 : s.size - p < 3 ∨ (p + 2 < s.size ∧ b (s.extract p s.size) 2 = b s (p + 2)) := by
    by_cases h : p + 2 < s.size
    · exact .inr ⟨h, e 2 h⟩
    · exact .inl (by omega)
  have k3 : s.size - p < 4 ∨ (p + 3 < s.size ∧ b (s.extract p s.size) 3 = b s (p + 3)) := by
    by_cases h : p + 3 < s.size
    · exact .inr ⟨h, e 3 h⟩
    · exact .inl (by omega)
  clear e
  generalize (s.extract p s.size) = x at k1 k2 k3 ⊢
  by_cases h3 : b s p < 224
  · rw [dec_two s p (by omega), pick_if _ _ _ (by decide)]
    by_cases h4 : b s p < 194
    · rw [if_pos (by omega), if_neg (by unfold cp2; omega)]
    · rw [if_neg (by omega), show cls (b s p) = (2, 128, 191) from by unfold cls; rw [if_neg (by omega), if_neg (by omega), if_neg (by omega), if_neg (by omega), if_neg (by omega), if_neg (by omega)], if_if]
      apply if_iff
      simp only [tail, List.range', List.all_nil, Nat.sub_self, and_true]
      unfold cp2
      generalize b s p = a0 at *
      generalize b s (p + 1) = a1 at *
      generalize b x 1 = x1 at *
      clear k2 k3
      rcases k1 with k1 | ⟨k1, rfl⟩
      · omega
      · omega
  have hg := cls_cases (a := b s p)
  by_cases h4 : b s p < 240
  · rw [dec_three s p (by omega), pick_if _ _ _ (by decide), if_neg (by omega), if_if]
    rw [show (cls (b s p)).1 = 3 from by unfold cls; simp only; rw [if_neg (by omega), if_pos (by omega)]]
    apply if_iff
    rw [valid_iff]
    simp only [tail, List.range', List.all_nil, List.all_cons, Bool.and_true, Nat.reduceSub, Bool.and_eq_true, decide_eq_true_eq]
    have hg := hg (by omega) (by omega)
    generalize cls (b s p) = c at hg ⊢
    unfold cp3
    generalize b s p = a0 at *
    generalize b s (p + 1) = a1 at *
    generalize b s (p + 2) = a2 at *
    generalize b x 1 = x1 at *
    generalize b x 2 = x2 at *
    clear k3
    rcases hg with ⟨h3, rfl⟩ | ⟨h3, rfl⟩ | ⟨h3, rfl⟩ | ⟨h3, rfl⟩ | ⟨h3, rfl⟩ | ⟨h3, rfl⟩ | ⟨h3, rfl⟩
    all_goals try (exfalso; omega; done)
    all_goals simp only
    all_goals (
      rcases k2 with k2 | ⟨k2, rfl⟩
      · exact ⟨fun h => by omega, fun h => by omega⟩
      rcases k1 with k1 | ⟨k1, rfl⟩
      · omega
      exact ⟨fun h => by omega, fun h => by omega⟩)
  · rw [dec_four s p (by omega), pick_if _ _ _ (by decide)]
    by_cases h5 : 244 < b s p
    · rw [if_pos (by omega), if_neg (by rw [valid_iff]; unfold cp4; omega)]
    rw [if_neg (by omega), if_if]
    rw [show (cls (b s p)).1 = 4 from by unfold cls; simp only; rw [if_pos (by omega)]]
    apply if_iff
    rw [valid_iff]
    simp only [tail, List.range', List.all_nil, List.all_cons, Bool.and_true, Nat.reduceSub, Nat.reduceAdd, Bool.and_eq_true, decide_eq_true_eq]
    have hg := hg (by omega) (by omega)
    generalize cls (b s p) = c at hg ⊢
    unfold cp4
    generalize b s p = a0 at *
    generalize b s (p + 1) = a1 at *
    generalize b s (p + 2) = a2 at *
    generalize b s (p + 3) = a3 at *
    generalize b x 1 = x1 at *
    generalize b x 2 = x2 at *
    generalize b x 3 = x3 at *
    rcases hg with ⟨h3, rfl⟩ | ⟨h3, rfl⟩ | ⟨h3, rfl⟩ | ⟨h3, rfl⟩ | ⟨h3, rfl⟩ | ⟨h3, rfl⟩ | ⟨h3, rfl⟩
    all_goals try (exfalso; omega; done)
    all_goals simp only
    all_goals (
      rcases k3 with k3 | ⟨k3, rfl⟩
      · exact ⟨fun h => by omega, fun h => by omega⟩
      rcases k2 with k2 | ⟨k2, rfl⟩
      · omega
      rcases k1 with k1 | ⟨k1, rfl⟩
      · omega
      exact ⟨fun h => by omega, fun h => by omega⟩)

theorem long_le (s : ByteArray) : long s ≤ s.size := by
  unfold long
  repeat' split
  all_goals omega
theorem longAt (s : ByteArray) (p : Nat) (hp : p < s.size) : (long (s.extract p s.size) = 0 ∧ Utf8.decode s p = (65533, 1)) ∨ (0 < long (s.extract p s.size) ∧ (Utf8.decode s p).2 = long (s.extract p s.size) ∧ p + long (s.extract p s.size) ≤ s.size) := by
  have h := long_ext s p hp
  by_cases e : Utf8.decode s p = (65533, 1)
  · rw [if_pos e] at h; exact .inl ⟨h, e⟩
  · rw [if_neg e] at h
    have h1 := Lib.decode_width_pos s p hp
    have h2 := long_le (s.extract p s.size)
    rw [ByteArray.size_extract] at h2
    exact .inr ⟨by omega, h.symm, by omega⟩

/-- the document's letters -/
def letter (r : ByteArray) : Bool :=
  if r.size = 1 then decide (97 ≤ b r 0) && decide (b r 0 ≤ 122) else if r.size = 2 then
    (decide (945 ≤ cp2 (b r 0) (b r 1)) && decide (cp2 (b r 0) (b r 1) ≤ 969)) || (decide (1072 ≤ cp2 (b r 0) (b r 1)) && decide (cp2 (b r 0) (b r 1) ≤ 1103)) else false
def mark (r : ByteArray) : Bool := decide (r.size = 1) && (decide (b r 0 = 45) || (decide (48 ≤ b r 0) && decide (b r 0 ≤ 57)))

theorem among_letters (c : Nat) : Wd.among (c : Int) Wd.letters = decide ((97 ≤ c ∧ c ≤ 122) ∨ (945 ≤ c ∧ c ≤ 969) ∨ (1072 ≤ c ∧ c ≤ 1103)) := by
  rw [Bool.eq_iff_iff, decide_eq_true_eq]
  simp [Wd.among, Wd.letters, Wd.inSpan]
  omega
theorem among_marks (c : Nat) : Wd.among (c : Int) Wd.marks = decide ((48 ≤ c ∧ c ≤ 57) ∨ c = 45) := by
  rw [Bool.eq_iff_iff, decide_eq_true_eq]
  simp [Wd.among, Wd.marks, Wd.inSpan]
  omega

set_option maxHeartbeats 1000000 in
theorem step_law (s : ByteArray) (p n : Nat) (hp : p < s.size) (hn : long (s.extract p s.size) = n) (h0 : 0 < n) :
    letter (s.extract p (p + n)) = Wd.among ((Utf8.decode s p).1 : Int) Wd.letters ∧ mark (s.extract p (p + n)) = Wd.among ((Utf8.decode s p).1 : Int) Wd.marks := by
  rw [among_letters, among_marks]
  rcases longAt s p hp with h | ⟨_, h2, h3⟩
  · omega
  rw [hn] at h2 h3
  have hz : (s.extract p (p + n)).size = n := by rw [ByteArray.size_extract]; omega
  have e : ∀ i, i < n → b (s.extract p (p + n)) i = b s (p + i) := fun i hi => b_ext s p (p + n) i (by omega) (by omega)
  unfold letter mark
  rw [hz, e 0 h0, Nat.add_zero]
  have l0 := b_lt s p
  by_cases c1 : b s p < 128
  · have hd : Utf8.decode s p = (b s p, 1) := by rw [decode_b]; simp only; rw [if_pos c1]
    rw [hd] at h2 ⊢
    simp only at h2 ⊢
    subst h2
    rw [if_pos rfl]
    constructor
    · rw [Bool.eq_iff_iff]; simp; omega
    · rw [Bool.eq_iff_iff]; simp; omega
  by_cases c2 : b s p < 192 ∨ 248 ≤ b s p
  · exfalso
    have := long_ext s p hp
    rw [dec_bad s p (by omega), if_pos rfl] at this
    omega
  have hne : ¬ Utf8.decode s p = (65533, 1) := fun h => by
    have := long_ext s p hp
    rw [h, if_pos rfl] at this
    omega
  by_cases c3 : b s p < 224
  · rw [dec_two s p (by omega)] at h2 hne ⊢
    split at hne
    · rename_i hc
      rw [if_pos hc] at h2 ⊢
      simp only at h2 ⊢
      subst h2
      rw [if_neg (by decide), if_pos rfl, e 1 (by decide)]
      have h128 := hc.2
      generalize cp2 (b s p) (b s (p + 1)) = c at h128 ⊢
      constructor
      · rw [Bool.eq_iff_iff]; simp; omega
      · simp; omega
    · exact absurd rfl hne
  by_cases c4 : b s p < 240
  · rw [dec_three s p (by omega)] at h2 hne ⊢
    split at hne
    · rename_i hc
      rw [if_pos hc] at h2 ⊢
      simp only at h2 ⊢
      subst h2
      rw [if_neg (by decide), if_neg (by decide)]
      have h128 := hc.2.1
      generalize cp3 (b s p) (b s (p + 1)) (b s (p + 2)) = c at h128 ⊢
      constructor
      · simp; omega
      · simp; omega
    · exact absurd rfl hne
  · rw [dec_four s p (by omega)] at h2 hne ⊢
    split at hne
    · rename_i hc
      rw [if_pos hc] at h2 ⊢
      simp only at h2 ⊢
      subst h2
      rw [if_neg (by decide), if_neg (by decide)]
      have h128 := hc.2.1
      generalize cp4 (b s p) (b s (p + 1)) (b s (p + 2)) (b s (p + 3)) = c at h128 ⊢
      constructor
      · simp; omega
      · simp; omega
    · exact absurd rfl hne

end Rd
end Go.Proofs.YtalncnblcfcmcaaDoor

namespace Go.Proofs.YtalncnblcfcmcaaDoor
open Go.Shelf Go.RowKit

/-- one byte of a text -/
theorem b_idx (s : ByteArray) {i : Nat} (h : i < s.size) : (s[i].toNat : Int) = (Rd.b s i : Int) := by rw [Rd.b_at s h]
theorem tail_take (s : ByteArray) (n : Nat) {i : Nat} (hi : i < n) (h2 : 2 ≤ i) (hb : ¬ (128 ≤ Rd.b s i ∧ Rd.b s i ≤ 191)) : Rd.tail s n = false := by
  unfold Rd.tail
  rw [Bool.eq_false_iff]
  intro h
  rw [List.all_eq_true] at h
  have := h i (by rw [List.mem_range'_1]; omega)
  simp at this
  exact hb this
theorem tail_next (s : ByteArray) {i : Nat} (h2 : 2 ≤ i) (ht : (List.range' 2 (i - 2)).all (fun i => decide (128 ≤ Rd.b s i) && decide (Rd.b s i ≤ 191)) = true) (hb : 128 ≤ Rd.b s i ∧ Rd.b s i ≤ 191) : (List.range' 2 (i + 1 - 2)).all (fun i => decide (128 ≤ Rd.b s i) && decide (Rd.b s i ≤ 191)) = true := by
  rw [show i + 1 - 2 = (i - 2) + 1 by omega, List.range'_concat, List.all_append, ht, show 2 + 1 * (i - 2) = i by omega]
  simp [hb]

set_option maxRecDepth 100000 in
set_option maxHeartbeats 8000000 in
theorem rlong_any (s : ByteArray) (w : World) (hs : s.size ≤ 9007199254740992) :
    Calls Tryd.prog 63 #[.string s] w fun e w' => e = .returned (.int .i64 (Rd.long s : Int)) ∧ w = w' := by
  obtain ⟨q, hq⟩ : ∃ q, Rd.long s = q := ⟨_, rfl⟩
  rw [hq]
  unfold Rd.long at hq
  by_cases h0 : s.size = 0
  · rw [if_pos h0] at hq
    subst hq
    have h0' : (s.size : Int) = 0 := by omega
    clear h0
    go_enter Tryd.func63, Tryd.ntmps63
    go_wp2_with fail
    go_ret
    exact ⟨rfl, rfl⟩
  rw [if_neg h0] at hq
  have h0' : 0 < s.size := by omega
  have hne : ¬ (s.size : Int) = 0 := by omega
  have hl := Rd.b_lt s 0
  have e0 := b_idx s h0'
  generalize Rd.b s 0 = a at hq hl e0
  by_cases h1 : a < 128
  · rw [if_pos h1] at hq
    subst hq
    have h1' : (a : Int) < 128 := by omega
    go_enter Tryd.func63, Tryd.ntmps63
    go_wp2_with fail
    go_ret
    exact ⟨rfl, rfl⟩
  rw [if_neg h1] at hq
  have h1' : ¬ (a : Int) < 128 := by omega
  by_cases h2 : a < 194 ∨ 244 < a
  · rw [if_pos h2] at hq
    subst hq
    by_cases h3 : a < 194
    · have h3' : (a : Int) < 194 := by omega
      clear h2
      go_enter Tryd.func63, Tryd.ntmps63
      go_wp2_with fail
      go_ret
      exact ⟨rfl, rfl⟩
    · have h3' : ¬ (a : Int) < 194 := by omega
      have h4' : (244 : Int) < (a : Int) := by omega
      clear h2
      go_enter Tryd.func63, Tryd.ntmps63
      go_wp2_with fail
      go_ret
      exact ⟨rfl, rfl⟩
  rw [if_neg h2] at hq
  have h3' : ¬ (a : Int) < 194 := by omega
  have h4' : ¬ (244 : Int) < (a : Int) := by omega
  have hc := Rd.cls_cases (a := a) (by omega) (by omega)
  generalize Rd.cls a = c at hq hc
  have HQ := Lib.hid hq
  clear hq h2 h1
  rcases hc with ⟨h3, rfl⟩ | ⟨h3, rfl⟩ | ⟨h3, rfl⟩ | ⟨h3, rfl⟩ | ⟨h3, rfl⟩ | ⟨h3, rfl⟩ | ⟨h3, rfl⟩
  · subst h3
    go_enter Tryd.func63, Tryd.ntmps63
    go_upto_region 24 with fail
    by_cases k0 : s.size < 3
    · have hq := HQ.out
      rw [if_pos (.inl k0)] at hq
      subst hq
      have k0' : (s.size : Int) < 3 := by omega
      clear k0
      go_wp2_with fail
      go_ret
      exact ⟨rfl, rfl⟩
    have k0' : ¬ (s.size : Int) < 3 := by omega
    have h1s : 1 < s.size := by omega
    have e1 := b_idx s h1s
    have lx := Rd.b_lt s 1
    generalize Rd.b s 1 = x at HQ e1 lx
    by_cases k1 : x < 160
    · have hq := HQ.out
      rw [if_pos (.inr (.inl k1))] at hq
      subst hq
      have k1' : (x : Int) < 160 := by omega
      clear k1 k0
      go_wp2_with fail
      go_ret
      exact ⟨rfl, rfl⟩
    have k1' : ¬ (x : Int) < 160 := by omega
    by_cases k2 : 191 < x
    · have hq := HQ.out
      rw [if_pos (.inr (.inr k2))] at hq
      subst hq
      have k2' : (191 : Int) < (x : Int) := by omega
      clear k2 k1 k0
      go_wp2_with fail
      go_ret
      exact ⟨rfl, rfl⟩
    have k2' : ¬ (191 : Int) < (x : Int) := by omega
    have hq := HQ.out
    rw [if_neg (by simp only; omega)] at hq
    have HR := Lib.hid hq
    clear hq HQ k1 k2
    go_wp2_with fail
    go_loopw [7] (fun s7 wr => ∃ i : Nat, 2 ≤ i ∧ i ≤ 3 ∧ s7 = .int .i64 (i : Int) ∧ (List.range' 2 (i - 2)).all (fun i => decide (128 ≤ Rd.b s i) && decide (Rd.b s i ≤ 191)) = true ∧ wr = w) (fun s7 _ => 3 - (intOf s7).toNat)
    case atStart => exact ⟨2, by omega, by omega, rfl, rfl, rfl⟩
    case round =>
      obtain ⟨i, hi2, hi, rfl, ht, rfl⟩ := hrel
      have hi0 : (0 : Int) ≤ (i : Int) := by omega
      by_cases hlt : i < 3
      · have hlt' : (i : Int) < 3 := by omega
        have his : i < s.size := by omega
        have his' : (i : Int) < (s.size : Int) := by omega
        have ei := b_idx s his
        have ly := Rd.b_lt s i
        have HT1 := Lib.hid (tail_take s 3 hlt hi2)
        have HT2 := Lib.hid (tail_next s hi2 ht)
        generalize Rd.b s i = y at HT1 HT2 ei ly
        clear ht
        by_cases y1 : y < 128
        · have hq := HR.out
          rw [HT1.out (by omega)] at hq
          rw [if_neg (by simp)] at hq
          subst hq
          have y1' : (y : Int) < 128 := by omega
          go_wp2_with fail
          go_ret
          exact ⟨rfl, rfl⟩
        have y1' : ¬ (y : Int) < 128 := by omega
        by_cases y2 : 191 < y
        · have hq := HR.out
          rw [HT1.out (by omega)] at hq
          rw [if_neg (by simp)] at hq
          subst hq
          have y2' : (191 : Int) < (y : Int) := by omega
          go_wp2_with fail
          go_ret
          exact ⟨rfl, rfl⟩
        have y2' : ¬ (191 : Int) < (y : Int) := by omega
        have HT3 := Lib.hid (HT2.out (by omega))
        go_wp2_with fail
        refine ⟨⟨i + 1, by omega, by omega, by go_num, HT3.out, trivial⟩, by simp only [intOf]; omega⟩
      · obtain rfl : i = 3 := by omega
        have hlt' : ¬ ((3 : Nat) : Int) < 3 := by omega
        have hq := HR.out
        rw [show Rd.tail s 3 = true from ht, if_pos rfl] at hq
        subst hq
        clear ht HR
        go_wp2_with fail
        go_ret
        exact ⟨rfl, rfl⟩
  · subst h3
    go_enter Tryd.func63, Tryd.ntmps63
    go_upto_region 24 with fail
    by_cases k0 : s.size < 3
    · have hq := HQ.out
      rw [if_pos (.inl k0)] at hq
      subst hq
      have k0' : (s.size : Int) < 3 := by omega
      clear k0
      go_wp2_with fail
      go_ret
      exact ⟨rfl, rfl⟩
    have k0' : ¬ (s.size : Int) < 3 := by omega
    have h1s : 1 < s.size := by omega
    have e1 := b_idx s h1s
    have lx := Rd.b_lt s 1
    generalize Rd.b s 1 = x at HQ e1 lx
    by_cases k1 : x < 128
    · have hq := HQ.out
      rw [if_pos (.inr (.inl k1))] at hq
      subst hq
      have k1' : (x : Int) < 128 := by omega
      clear k1 k0
      go_wp2_with fail
      go_ret
      exact ⟨rfl, rfl⟩
    have k1' : ¬ (x : Int) < 128 := by omega
    by_cases k2 : 159 < x
    · have hq := HQ.out
      rw [if_pos (.inr (.inr k2))] at hq
      subst hq
      have k2' : (159 : Int) < (x : Int) := by omega
      clear k2 k1 k0
      go_wp2_with fail
      go_ret
      exact ⟨rfl, rfl⟩
    have k2' : ¬ (159 : Int) < (x : Int) := by omega
    have hq := HQ.out
    rw [if_neg (by simp only; omega)] at hq
    have HR := Lib.hid hq
    clear hq HQ k1 k2
    go_wp2_with fail
    go_loopw [7] (fun s7 wr => ∃ i : Nat, 2 ≤ i ∧ i ≤ 3 ∧ s7 = .int .i64 (i : Int) ∧ (List.range' 2 (i - 2)).all (fun i => decide (128 ≤ Rd.b s i) && decide (Rd.b s i ≤ 191)) = true ∧ wr = w) (fun s7 _ => 3 - (intOf s7).toNat)
    case atStart => exact ⟨2, by omega, by omega, rfl, rfl, rfl⟩
    case round =>
      obtain ⟨i, hi2, hi, rfl, ht, rfl⟩ := hrel
      have hi0 : (0 : Int) ≤ (i : Int) := by omega
      by_cases hlt : i < 3
      · have hlt' : (i : Int) < 3 := by omega
        have his : i < s.size := by omega
        have his' : (i : Int) < (s.size : Int) := by omega
        have ei := b_idx s his
        have ly := Rd.b_lt s i
        have HT1 := Lib.hid (tail_take s 3 hlt hi2)
        have HT2 := Lib.hid (tail_next s hi2 ht)
        generalize Rd.b s i = y at HT1 HT2 ei ly
        clear ht
        by_cases y1 : y < 128
        · have hq := HR.out
          rw [HT1.out (by omega)] at hq
          rw [if_neg (by simp)] at hq
          subst hq
          have y1' : (y : Int) < 128 := by omega
          go_wp2_with fail
          go_ret
          exact ⟨rfl, rfl⟩
        have y1' : ¬ (y : Int) < 128 := by omega
        by_cases y2 : 191 < y
        · have hq := HR.out
          rw [HT1.out (by omega)] at hq
          rw [if_neg (by simp)] at hq
          subst hq
          have y2' : (191 : Int) < (y : Int) := by omega
          go_wp2_with fail
          go_ret
          exact ⟨rfl, rfl⟩
        have y2' : ¬ (191 : Int) < (y : Int) := by omega
        have HT3 := Lib.hid (HT2.out (by omega))
        go_wp2_with fail
        refine ⟨⟨i + 1, by omega, by omega, by go_num, HT3.out, trivial⟩, by simp only [intOf]; omega⟩
      · obtain rfl : i = 3 := by omega
        have hlt' : ¬ ((3 : Nat) : Int) < 3 := by omega
        have hq := HR.out
        rw [show Rd.tail s 3 = true from ht, if_pos rfl] at hq
        subst hq
        clear ht HR
        go_wp2_with fail
        go_ret
        exact ⟨rfl, rfl⟩
  · subst h3
    go_enter Tryd.func63, Tryd.ntmps63
    go_upto_region 24 with fail
    by_cases k0 : s.size < 4
    · have hq := HQ.out
      rw [if_pos (.inl k0)] at hq
      subst hq
      have k0' : (s.size : Int) < 4 := by omega
      clear k0
      go_wp2_with fail
      go_ret
      exact ⟨rfl, rfl⟩
    have k0' : ¬ (s.size : Int) < 4 := by omega
    have h1s : 1 < s.size := by omega
    have e1 := b_idx s h1s
    have lx := Rd.b_lt s 1
    generalize Rd.b s 1 = x at HQ e1 lx
    by_cases k1 : x < 144
    · have hq := HQ.out
      rw [if_pos (.inr (.inl k1))] at hq
      subst hq
      have k1' : (x : Int) < 144 := by omega
      clear k1 k0
      go_wp2_with fail
      go_ret
      exact ⟨rfl, rfl⟩
    have k1' : ¬ (x : Int) < 144 := by omega
    by_cases k2 : 191 < x
    · have hq := HQ.out
      rw [if_pos (.inr (.inr k2))] at hq
      subst hq
      have k2' : (191 : Int) < (x : Int) := by omega
      clear k2 k1 k0
      go_wp2_with fail
      go_ret
      exact ⟨rfl, rfl⟩
    have k2' : ¬ (191 : Int) < (x : Int) := by omega
    have hq := HQ.out
    rw [if_neg (by simp only; omega)] at hq
    have HR := Lib.hid hq
    clear hq HQ k1 k2
    go_wp2_with fail
    go_loopw [7] (fun s7 wr => ∃ i : Nat, 2 ≤ i ∧ i ≤ 4 ∧ s7 = .int .i64 (i : Int) ∧ (List.range' 2 (i - 2)).all (fun i => decide (128 ≤ Rd.b s i) && decide (Rd.b s i ≤ 191)) = true ∧ wr = w) (fun s7 _ => 4 - (intOf s7).toNat)
    case atStart => exact ⟨2, by omega, by omega, rfl, rfl, rfl⟩
    case round =>
      obtain ⟨i, hi2, hi, rfl, ht, rfl⟩ := hrel
      have hi0 : (0 : Int) ≤ (i : Int) := by omega
      by_cases hlt : i < 4
      · have hlt' : (i : Int) < 4 := by omega
        have his : i < s.size := by omega
        have his' : (i : Int) < (s.size : Int) := by omega
        have ei := b_idx s his
        have ly := Rd.b_lt s i
        have HT1 := Lib.hid (tail_take s 4 hlt hi2)
        have HT2 := Lib.hid (tail_next s hi2 ht)
        generalize Rd.b s i = y at HT1 HT2 ei ly
        clear ht
        by_cases y1 : y < 128
        · have hq := HR.out
          rw [HT1.out (by omega)] at hq
          rw [if_neg (by simp)] at hq
          subst hq
          have y1' : (y : Int) < 128 := by omega
          go_wp2_with fail
          go_ret
          exact ⟨rfl, rfl⟩
        have y1' : ¬ (y : Int) < 128 := by omega
        by_cases y2 : 191 < y
        · have hq := HR.out
          rw [HT1.out (by omega)] at hq
          rw [if_neg (by simp)] at hq
          subst hq
          have y2' : (191 : Int) < (y : Int) := by omega
          go_wp2_with fail
          go_ret
          exact ⟨rfl, rfl⟩
        have y2' : ¬ (191 : Int) < (y : Int) := by omega
        have HT3 := Lib.hid (HT2.out (by omega))
        go_wp2_with fail
        refine ⟨⟨i + 1, by omega, by omega, by go_num, HT3.out, trivial⟩, by simp only [intOf]; omega⟩
      · obtain rfl : i = 4 := by omega
        have hlt' : ¬ ((4 : Nat) : Int) < 4 := by omega
        have hq := HR.out
        rw [show Rd.tail s 4 = true from ht, if_pos rfl] at hq
        subst hq
        clear ht HR
        go_wp2_with fail
        go_ret
        exact ⟨rfl, rfl⟩
  · subst h3
    go_enter Tryd.func63, Tryd.ntmps63
    go_upto_region 24 with fail
    by_cases k0 : s.size < 4
    · have hq := HQ.out
      rw [if_pos (.inl k0)] at hq
      subst hq
      have k0' : (s.size : Int) < 4 := by omega
      clear k0
      go_wp2_with fail
      go_ret
      exact ⟨rfl, rfl⟩
    have k0' : ¬ (s.size : Int) < 4 := by omega
    have h1s : 1 < s.size := by omega
    have e1 := b_idx s h1s
    have lx := Rd.b_lt s 1
    generalize Rd.b s 1 = x at HQ e1 lx
    by_cases k1 : x < 128
    · have hq := HQ.out
      rw [if_pos (.inr (.inl k1))] at hq
      subst hq
      have k1' : (x : Int) < 128 := by omega
      clear k1 k0
      go_wp2_with fail
      go_ret
      exact ⟨rfl, rfl⟩
    have k1' : ¬ (x : Int) < 128 := by omega
    by_cases k2 : 143 < x
    · have hq := HQ.out
      rw [if_pos (.inr (.inr k2))] at hq
      subst hq
      have k2' : (143 : Int) < (x : Int) := by omega
      clear k2 k1 k0
      go_wp2_with fail
      go_ret
      exact ⟨rfl, rfl⟩
    have k2' : ¬ (143 : Int) < (x : Int) := by omega
    have hq := HQ.out
    rw [if_neg (by simp only; omega)] at hq
    have HR := Lib.hid hq
    clear hq HQ k1 k2
    go_wp2_with fail
    go_loopw [7] (fun s7 wr => ∃ i : Nat, 2 ≤ i ∧ i ≤ 4 ∧ s7 = .int .i64 (i : Int) ∧ (List.range' 2 (i - 2)).all (fun i => decide (128 ≤ Rd.b s i) && decide (Rd.b s i ≤ 191)) = true ∧ wr = w) (fun s7 _ => 4 - (intOf s7).toNat)
    case atStart => exact ⟨2, by omega, by omega, rfl, rfl, rfl⟩
    case round =>
      obtain ⟨i, hi2, hi, rfl, ht, rfl⟩ := hrel
      have hi0 : (0 : Int) ≤ (i : Int) := by omega
      by_cases hlt : i < 4
      · have hlt' : (i : Int) < 4 := by omega
        have his : i < s.size := by omega
        have his' : (i : Int) < (s.size : Int) := by omega
        have ei := b_idx s his
        have ly := Rd.b_lt s i
        have HT1 := Lib.hid (tail_take s 4 hlt hi2)
        have HT2 := Lib.hid (tail_next s hi2 ht)
        generalize Rd.b s i = y at HT1 HT2 ei ly
        clear ht
        by_cases y1 : y < 128
        · have hq := HR.out
          rw [HT1.out (by omega)] at hq
          rw [if_neg (by simp)] at hq
          subst hq
          have y1' : (y : Int) < 128 := by omega
          go_wp2_with fail
          go_ret
          exact ⟨rfl, rfl⟩
        have y1' : ¬ (y : Int) < 128 := by omega
        by_cases y2 : 191 < y
        · have hq := HR.out
          rw [HT1.out (by omega)] at hq
          rw [if_neg (by simp)] at hq
          subst hq
          have y2' : (191 : Int) < (y : Int) := by omega
          go_wp2_with fail
          go_ret
          exact ⟨rfl, rfl⟩
        have y2' : ¬ (191 : Int) < (y : Int) := by omega
        have HT3 := Lib.hid (HT2.out (by omega))
        go_wp2_with fail
        refine ⟨⟨i + 1, by omega, by omega, by go_num, HT3.out, trivial⟩, by simp only [intOf]; omega⟩
      · obtain rfl : i = 4 := by omega
        have hlt' : ¬ ((4 : Nat) : Int) < 4 := by omega
        have hq := HR.out
        rw [show Rd.tail s 4 = true from ht, if_pos rfl] at hq
        subst hq
        clear ht HR
        go_wp2_with fail
        go_ret
        exact ⟨rfl, rfl⟩
  · have k240 : ¬ (240 : Int) ≤ (a : Int) := by omega
    have k224 : ¬ (224 : Int) ≤ (a : Int) := by omega
    have n1 : ¬ (a : Int) = 224 := by omega
    have n2 : ¬ (a : Int) = 237 := by omega
    have n3 : ¬ (a : Int) = 240 := by omega
    have n4 : ¬ (a : Int) = 244 := by omega
    clear h3
    go_enter Tryd.func63, Tryd.ntmps63
    go_upto_region 24 with fail
    by_cases k0 : s.size < 2
    · have hq := HQ.out
      rw [if_pos (.inl k0)] at hq
      subst hq
      have k0' : (s.size : Int) < 2 := by omega
      clear k0
      go_wp2_with fail
      go_ret
      exact ⟨rfl, rfl⟩
    have k0' : ¬ (s.size : Int) < 2 := by omega
    have h1s : 1 < s.size := by omega
    have e1 := b_idx s h1s
    have lx := Rd.b_lt s 1
    generalize Rd.b s 1 = x at HQ e1 lx
    by_cases k1 : x < 128
    · have hq := HQ.out
      rw [if_pos (.inr (.inl k1))] at hq
      subst hq
      have k1' : (x : Int) < 128 := by omega
      clear k1 k0
      go_wp2_with fail
      go_ret
      exact ⟨rfl, rfl⟩
    have k1' : ¬ (x : Int) < 128 := by omega
    by_cases k2 : 191 < x
    · have hq := HQ.out
      rw [if_pos (.inr (.inr k2))] at hq
      subst hq
      have k2' : (191 : Int) < (x : Int) := by omega
      clear k2 k1 k0
      go_wp2_with fail
      go_ret
      exact ⟨rfl, rfl⟩
    have k2' : ¬ (191 : Int) < (x : Int) := by omega
    have hq := HQ.out
    rw [if_neg (by simp only; omega)] at hq
    have HR := Lib.hid hq
    clear hq HQ k1 k2
    go_wp2_with fail
    go_loopw [7] (fun s7 wr => ∃ i : Nat, 2 ≤ i ∧ i ≤ 2 ∧ s7 = .int .i64 (i : Int) ∧ (List.range' 2 (i - 2)).all (fun i => decide (128 ≤ Rd.b s i) && decide (Rd.b s i ≤ 191)) = true ∧ wr = w) (fun s7 _ => 2 - (intOf s7).toNat)
    case atStart => exact ⟨2, by omega, by omega, rfl, rfl, rfl⟩
    case round =>
      obtain ⟨i, hi2, hi, rfl, ht, rfl⟩ := hrel
      have hi0 : (0 : Int) ≤ (i : Int) := by omega
      by_cases hlt : i < 2
      · have hlt' : (i : Int) < 2 := by omega
        have his : i < s.size := by omega
        have his' : (i : Int) < (s.size : Int) := by omega
        have ei := b_idx s his
        have ly := Rd.b_lt s i
        have HT1 := Lib.hid (tail_take s 2 hlt hi2)
        have HT2 := Lib.hid (tail_next s hi2 ht)
        generalize Rd.b s i = y at HT1 HT2 ei ly
        clear ht
        by_cases y1 : y < 128
        · have hq := HR.out
          rw [HT1.out (by omega)] at hq
          rw [if_neg (by simp)] at hq
          subst hq
          have y1' : (y : Int) < 128 := by omega
          go_wp2_with fail
          go_ret
          exact ⟨rfl, rfl⟩
        have y1' : ¬ (y : Int) < 128 := by omega
        by_cases y2 : 191 < y
        · have hq := HR.out
          rw [HT1.out (by omega)] at hq
          rw [if_neg (by simp)] at hq
          subst hq
          have y2' : (191 : Int) < (y : Int) := by omega
          go_wp2_with fail
          go_ret
          exact ⟨rfl, rfl⟩
        have y2' : ¬ (191 : Int) < (y : Int) := by omega
        have HT3 := Lib.hid (HT2.out (by omega))
        go_wp2_with fail
        refine ⟨⟨i + 1, by omega, by omega, by go_num, HT3.out, trivial⟩, by simp only [intOf]; omega⟩
      · obtain rfl : i = 2 := by omega
        have hlt' : ¬ ((2 : Nat) : Int) < 2 := by omega
        have hq := HR.out
        rw [show Rd.tail s 2 = true from ht, if_pos rfl] at hq
        subst hq
        clear ht HR
        go_wp2_with fail
        go_ret
        exact ⟨rfl, rfl⟩
  · have k240 : ¬ (240 : Int) ≤ (a : Int) := by omega
    have k224 : (224 : Int) ≤ (a : Int) := by omega
    have n1 : ¬ (a : Int) = 224 := by omega
    have n2 : ¬ (a : Int) = 237 := by omega
    have n3 : ¬ (a : Int) = 240 := by omega
    have n4 : ¬ (a : Int) = 244 := by omega
    clear h3
    go_enter Tryd.func63, Tryd.ntmps63
    go_upto_region 24 with fail
    by_cases k0 : s.size < 3
    · have hq := HQ.out
      rw [if_pos (.inl k0)] at hq
      subst hq
      have k0' : (s.size : Int) < 3 := by omega
      clear k0
      go_wp2_with fail
      go_ret
      exact ⟨rfl, rfl⟩
    have k0' : ¬ (s.size : Int) < 3 := by omega
    have h1s : 1 < s.size := by omega
    have e1 := b_idx s h1s
    have lx := Rd.b_lt s 1
    generalize Rd.b s 1 = x at HQ e1 lx
    by_cases k1 : x < 128
    · have hq := HQ.out
      rw [if_pos (.inr (.inl k1))] at hq
      subst hq
      have k1' : (x : Int) < 128 := by omega
      clear k1 k0
      go_wp2_with fail
      go_ret
      exact ⟨rfl, rfl⟩
    have k1' : ¬ (x : Int) < 128 := by omega
    by_cases k2 : 191 < x
    · have hq := HQ.out
      rw [if_pos (.inr (.inr k2))] at hq
      subst hq
      have k2' : (191 : Int) < (x : Int) := by omega
      clear k2 k1 k0
      go_wp2_with fail
      go_ret
      exact ⟨rfl, rfl⟩
    have k2' : ¬ (191 : Int) < (x : Int) := by omega
    have hq := HQ.out
    rw [if_neg (by simp only; omega)] at hq
    have HR := Lib.hid hq
    clear hq HQ k1 k2
    go_wp2_with fail
    go_loopw [7] (fun s7 wr => ∃ i : Nat, 2 ≤ i ∧ i ≤ 3 ∧ s7 = .int .i64 (i : Int) ∧ (List.range' 2 (i - 2)).all (fun i => decide (128 ≤ Rd.b s i) && decide (Rd.b s i ≤ 191)) = true ∧ wr = w) (fun s7 _ => 3 - (intOf s7).toNat)
    case atStart => exact ⟨2, by omega, by omega, rfl, rfl, rfl⟩
    case round =>
      obtain ⟨i, hi2, hi, rfl, ht, rfl⟩ := hrel
      have hi0 : (0 : Int) ≤ (i : Int) := by omega
      by_cases hlt : i < 3
      · have hlt' : (i : Int) < 3 := by omega
        have his : i < s.size := by omega
        have his' : (i : Int) < (s.size : Int) := by omega
        have ei := b_idx s his
        have ly := Rd.b_lt s i
        have HT1 := Lib.hid (tail_take s 3 hlt hi2)
        have HT2 := Lib.hid (tail_next s hi2 ht)
        generalize Rd.b s i = y at HT1 HT2 ei ly
        clear ht
        by_cases y1 : y < 128
        · have hq := HR.out
          rw [HT1.out (by omega)] at hq
          rw [if_neg (by simp)] at hq
          subst hq
          have y1' : (y : Int) < 128 := by omega
          go_wp2_with fail
          go_ret
          exact ⟨rfl, rfl⟩
        have y1' : ¬ (y : Int) < 128 := by omega
        by_cases y2 : 191 < y
        · have hq := HR.out
          rw [HT1.out (by omega)] at hq
          rw [if_neg (by simp)] at hq
          subst hq
          have y2' : (191 : Int) < (y : Int) := by omega
          go_wp2_with fail
          go_ret
          exact ⟨rfl, rfl⟩
        have y2' : ¬ (191 : Int) < (y : Int) := by omega
        have HT3 := Lib.hid (HT2.out (by omega))
        go_wp2_with fail
        refine ⟨⟨i + 1, by omega, by omega, by go_num, HT3.out, trivial⟩, by simp only [intOf]; omega⟩
      · obtain rfl : i = 3 := by omega
        have hlt' : ¬ ((3 : Nat) : Int) < 3 := by omega
        have hq := HR.out
        rw [show Rd.tail s 3 = true from ht, if_pos rfl] at hq
        subst hq
        clear ht HR
        go_wp2_with fail
        go_ret
        exact ⟨rfl, rfl⟩
  · have k240 : (240 : Int) ≤ (a : Int) := by omega
    have n1 : ¬ (a : Int) = 224 := by omega
    have n2 : ¬ (a : Int) = 237 := by omega
    have n3 : ¬ (a : Int) = 240 := by omega
    have n4 : ¬ (a : Int) = 244 := by omega
    clear h3
    go_enter Tryd.func63, Tryd.ntmps63
    go_upto_region 24 with fail
    by_cases k0 : s.size < 4
    · have hq := HQ.out
      rw [if_pos (.inl k0)] at hq
      subst hq
      have k0' : (s.size : Int) < 4 := by omega
      clear k0
      go_wp2_with fail
      go_ret
      exact ⟨rfl, rfl⟩
    have k0' : ¬ (s.size : Int) < 4 := by omega
    have h1s : 1 < s.size := by omega
    have e1 := b_idx s h1s
    have lx := Rd.b_lt s 1
    generalize Rd.b s 1 = x at HQ e1 lx
    by_cases k1 : x < 128
    · have hq := HQ.out
      rw [if_pos (.inr (.inl k1))] at hq
      subst hq
      have k1' : (x : Int) < 128 := by omega
      clear k1 k0
      go_wp2_with fail
      go_ret
      exact ⟨rfl, rfl⟩
    have k1' : ¬ (x : Int) < 128 := by omega
    by_cases k2 : 191 < x
    · have hq := HQ.out
      rw [if_pos (.inr (.inr k2))] at hq
      subst hq
      have k2' : (191 : Int) < (x : Int) := by omega
      clear k2 k1 k0
      go_wp2_with fail
      go_ret
      exact ⟨rfl, rfl⟩
    have k2' : ¬ (191 : Int) < (x : Int) := by omega
    have hq := HQ.out
    rw [if_neg (by simp only; omega)] at hq
    have HR := Lib.hid hq
    clear hq HQ k1 k2
    go_wp2_with fail
    go_loopw [7] (fun s7 wr => ∃ i : Nat, 2 ≤ i ∧ i ≤ 4 ∧ s7 = .int .i64 (i : Int) ∧ (List.range' 2 (i - 2)).all (fun i => decide (128 ≤ Rd.b s i) && decide (Rd.b s i ≤ 191)) = true ∧ wr = w) (fun s7 _ => 4 - (intOf s7).toNat)
    case atStart => exact ⟨2, by omega, by omega, rfl, rfl, rfl⟩
    case round =>
      obtain ⟨i, hi2, hi, rfl, ht, rfl⟩ := hrel
      have hi0 : (0 : Int) ≤ (i : Int) := by omega
      by_cases hlt : i < 4
      · have hlt' : (i : Int) < 4 := by omega
        have his : i < s.size := by omega
        have his' : (i : Int) < (s.size : Int) := by omega
        have ei := b_idx s his
        have ly := Rd.b_lt s i
        have HT1 := Lib.hid (tail_take s 4 hlt hi2)
        have HT2 := Lib.hid (tail_next s hi2 ht)
        generalize Rd.b s i = y at HT1 HT2 ei ly
        clear ht
        by_cases y1 : y < 128
        · have hq := HR.out
          rw [HT1.out (by omega)] at hq
          rw [if_neg (by simp)] at hq
          subst hq
          have y1' : (y : Int) < 128 := by omega
          go_wp2_with fail
          go_ret
          exact ⟨rfl, rfl⟩
        have y1' : ¬ (y : Int) < 128 := by omega
        by_cases y2 : 191 < y
        · have hq := HR.out
          rw [HT1.out (by omega)] at hq
          rw [if_neg (by simp)] at hq
          subst hq
          have y2' : (191 : Int) < (y : Int) := by omega
          go_wp2_with fail
          go_ret
          exact ⟨rfl, rfl⟩
        have y2' : ¬ (191 : Int) < (y : Int) := by omega
        have HT3 := Lib.hid (HT2.out (by omega))
        go_wp2_with fail
        refine ⟨⟨i + 1, by omega, by omega, by go_num, HT3.out, trivial⟩, by simp only [intOf]; omega⟩
      · obtain rfl : i = 4 := by omega
        have hlt' : ¬ ((4 : Nat) : Int) < 4 := by omega
        have hq := HR.out
        rw [show Rd.tail s 4 = true from ht, if_pos rfl] at hq
        subst hq
        clear ht HR
        go_wp2_with fail
        go_ret
        exact ⟨rfl, rfl⟩

end Go.Proofs.YtalncnblcfcmcaaDoor

namespace Go.Proofs.YtalncnblcfcmcaaDoor
open Go.Shelf Go.RowKit

set_option maxRecDepth 100000 in
set_option maxHeartbeats 4000000 in
theorem rletter_any (s : ByteArray) (w : World) :
    Calls Tryd.prog 64 #[.string s] w fun e w' => e = .returned (.bool (Rd.letter s)) ∧ Below w.heap.size w w' := by
  obtain ⟨q, hq⟩ : ∃ q, Rd.letter s = q := ⟨_, rfl⟩
  rw [hq]
  unfold Rd.letter at hq
  by_cases h1 : s.size = 1
  · rw [if_pos h1] at hq
    have h1' : (s.size : Int) = 1 := by omega
    have h0 : 0 < s.size := by omega
    have e0 := b_idx s h0
    have l0 := Rd.b_lt s 0
    generalize Rd.b s 0 = a at hq e0 l0
    by_cases k1 : 97 ≤ a
    · by_cases k2 : a ≤ 122
      · have k1' : (97 : Int) ≤ (a : Int) := by omega
        have k2' : (a : Int) ≤ 122 := by omega
        obtain rfl : q = true := by rw [← hq]; simp [k1, k2]
        clear hq h1 k1 k2
        go_enter Tryd.func64, Tryd.ntmps64
        go_wp2_with fail
        go_ret
        exact ⟨rfl, Below.refl _ _⟩
      · have k1' : (97 : Int) ≤ (a : Int) := by omega
        have k2' : ¬ (a : Int) ≤ 122 := by omega
        obtain rfl : q = false := by rw [← hq]; simp [k1, k2]
        clear hq h1 k1 k2
        go_enter Tryd.func64, Tryd.ntmps64
        go_wp2_with fail
        go_ret
        exact ⟨rfl, Below.refl _ _⟩
    · have k1' : ¬ (97 : Int) ≤ (a : Int) := by omega
      obtain rfl : q = false := by rw [← hq]; simp [k1]
      clear hq h1 k1
      go_enter Tryd.func64, Tryd.ntmps64
      go_wp2_with fail
      go_ret
      exact ⟨rfl, Below.refl _ _⟩
  rw [if_neg h1] at hq
  have h1' : ¬ (s.size : Int) = 1 := by omega
  by_cases h2 : s.size = 2
  · rw [if_pos h2] at hq
    have h2' : (s.size : Int) = 2 := by omega
    have h0 : 0 < s.size := by omega
    have h1s : 1 < s.size := by omega
    have h0' : (0 : Int) < (s.size : Int) := by omega
    have h1s' : (1 : Int) < (s.size : Int) := by omega
    have e0 := b_idx s h0
    have e1 := b_idx s h1s
    have l0 := Rd.b_lt s 0
    have l1 := Rd.b_lt s 1
    generalize Rd.b s 0 = a at hq e0 l0
    generalize Rd.b s 1 = b at hq e1 l1
    obtain ⟨m, hm⟩ : ∃ m, Rd.cp2 a b = m := ⟨_, rfl⟩
    rw [hm] at hq
    unfold Rd.cp2 at hm
    have HQ := Lib.hid hq
    have HM := Lib.hid hm
    obtain ⟨p, hp⟩ : ∃ p, a % 32 = p := ⟨_, rfl⟩
    obtain ⟨r, hr⟩ : ∃ r, b % 64 = r := ⟨_, rfl⟩
    have t1 : (a : Int).tmod 32 = (p : Int) := by rw [Int.tmod_eq_emod_of_nonneg (by omega)]; omega
    have t2 : (b : Int).tmod 64 = (r : Int) := by rw [Int.tmod_eq_emod_of_nonneg (by omega)]; omega
    have pp : p < 32 := by omega
    have rr : r < 64 := by omega
    have hpm : (p : Int) * 64 + (r : Int) = (m : Int) := by omega
    clear hq hm h1 h2 hp hr
    go_enter Tryd.func64, Tryd.ntmps64
    go_upto_region 5 with fail
    go_region
    clear hpm t1 t2 HM e0 e1
    have HB := Lib.hid (show Below w.heap.size w w.drew from (Below.refl _ _).drew)
    by_cases m1 : 945 ≤ m
    · have m1' : (945 : Int) ≤ (m : Int) := by omega
      by_cases m2 : m ≤ 969
      · have m2' : (m : Int) ≤ 969 := by omega
        obtain rfl : q = true := by rw [← HQ.out]; simp [m1, m2]
        clear m1 m2 HQ
        go_wp2_with fail
        go_ret
        exact ⟨rfl, HB.out⟩
      · have m2' : ¬ (m : Int) ≤ 969 := by omega
        by_cases m3 : 1072 ≤ m
        · have m3' : (1072 : Int) ≤ (m : Int) := by omega
          by_cases m4 : m ≤ 1103
          · have m4' : (m : Int) ≤ 1103 := by omega
            obtain rfl : q = true := by rw [← HQ.out]; simp [m3, m4]
            clear m1 m2 m3 m4 HQ
            go_wp2_with fail
            go_ret
            exact ⟨rfl, HB.out⟩
          · have m4' : ¬ (m : Int) ≤ 1103 := by omega
            obtain rfl : q = false := by rw [← HQ.out]; simp [m2, m4]
            clear m1 m2 m3 m4 HQ
            go_wp2_with fail
            go_ret
            exact ⟨rfl, HB.out⟩
        · have m3' : ¬ (1072 : Int) ≤ (m : Int) := by omega
          obtain rfl : q = false := by rw [← HQ.out]; simp [m2, m3]
          clear m1 m2 m3 HQ
          go_wp2_with fail
          go_ret
          exact ⟨rfl, HB.out⟩
    · have m1' : ¬ (945 : Int) ≤ (m : Int) := by omega
      have m3' : ¬ (1072 : Int) ≤ (m : Int) := by omega
      obtain rfl : q = false := by rw [← HQ.out]; simp [m1]; omega
      clear m1 HQ
      go_wp2_with fail
      go_ret
      exact ⟨rfl, HB.out⟩
  · rw [if_neg h2] at hq
    subst hq
    have h2' : ¬ (s.size : Int) = 2 := by omega
    clear h1 h2
    go_enter Tryd.func64, Tryd.ntmps64
    go_wp2_with fail
    go_ret
    exact ⟨rfl, Below.refl _ _⟩

set_option maxRecDepth 100000 in
set_option maxHeartbeats 4000000 in
theorem rcount_any (s : ByteArray) (w : World) (hs : s.size ≤ 9007199254740992) :
    Calls Tryd.prog 62 #[.string s] w fun e w' => e = .returned (.int .i64 (Lib.runeCount s)) ∧ w = w' := by
  go_enter Tryd.func62, Tryd.ntmps62
  go_wp2_with fail
  go_loopw [3, 4] (fun s3 s4 wr => ∃ (pos b acc : Nat), s4 = .int .i64 (pos : Int) ∧ s3 = .int .i64 (acc : Int) ∧ acc + Lib.runeCountFrom s b pos = Lib.runeCount s ∧ s.size ≤ pos + b ∧ acc ≤ pos ∧ pos ≤ s.size ∧ wr = w) (fun _ s4 _ => s.size - (intOf s4).toNat)
  case atStart => exact ⟨0, s.size, 0, rfl, rfl, by simp [Lib.runeCount], by omega, Nat.le_refl _, by omega, rfl⟩
  case round =>
    obtain ⟨pos, b, acc, rfl, rfl, hc, hb, ha, hps, rfl⟩ := hrel
    have hp0 : (0 : Int) ≤ (pos : Int) := by omega
    have HC := Lib.hid hc
    clear hc
    by_cases hp : pos < s.size
    · have hp' : (pos : Int) < (s.size : Int) := by omega
      have hp2 : (pos : Int) ≤ (s.size : Int) := by omega
      have hln := Rd.longAt s pos hp
      have HLG := Lib.hid (fun y => rlong_any (s.extract pos s.size) y (by rw [ByteArray.size_extract]; omega))
      generalize Rd.long (s.extract pos s.size) = n at hln HLG
      have hm : ∃ m, max n 1 = m ∧ (Utf8.decode s pos).2 = m ∧ pos + m ≤ s.size ∧ 0 < m := by
        rcases hln with ⟨h1, h2⟩ | ⟨h1, h2, h3⟩
        · exact ⟨1, by omega, by rw [h2], by omega, by omega⟩
        · exact ⟨n, by omega, h2, h3, h1⟩
      obtain ⟨m, hm1, hm2, hm3, hm4⟩ := hm
      have hmx : max (n : Int) 1 = (m : Int) := by omega
      have HM := Lib.hid hm2
      clear hln hm1 hm2
      go_wp2_with (go_at_call 63; (with_reducible refine (HLG.out _).mono ?_); rintro e u ⟨rfl, rfl⟩)
      cases b with
      | zero => omega
      | succ b =>
        refine ⟨⟨pos + m, b, acc + 1, by go_num, by go_num, ?_, by omega, by omega, by omega, trivial⟩, by simp only [intOf]; omega⟩
        rw [← HC.out, Lib.runeCountFrom, if_pos hp, HM.out]
        omega
    · have hp' : ¬ (pos : Int) < (s.size : Int) := by omega
      have hc := HC.out
      rw [Lib.runeCountFrom_end s b pos hp, Nat.add_zero] at hc
      have HE := Lib.hid hc
      clear hc HC
      go_wp2_with fail
      go_ret
      exact ⟨ret_int (by rw [HE.out]), rfl⟩

theorem toList_len (r : ByteArray) : r.toList.length = r.size := by rw [ByteArray.toList_eq]; simp
theorem toList_45 (r : ByteArray) {c : Nat} (h : r.size = 1) (hc : Rd.b r 0 = c) : (r.toList == [45]) = decide (c = 45) := by
  have h0 : 0 < r.size := by omega
  rw [Rd.b_at r h0] at hc
  have hl : r.toList = [r[0]] := by
    rw [ByteArray.toList_eq]
    refine List.ext_getElem (by simp; omega) fun i h1 h2 => ?_
    have : i = 0 := by simp at h2; omega
    subst this
    rfl
  rw [hl, Bool.eq_iff_iff, decide_eq_true_eq, beq_iff_eq, List.cons.injEq]
  rw [← hc, ← UInt8.toNat_inj]
  simp
theorem toList_n45 (r : ByteArray) (h : ¬ r.size = 1) : (r.toList == [45]) = false := by
  rw [beq_eq_false_iff_ne]
  intro e
  have := congrArg List.length e
  rw [toList_len] at this
  exact h this
namespace Wd
theorem ok_end (s : ByteArray) (f pos : Nat) (hp : ¬ pos < s.size) : runesOk s f pos = true := by
  cases f with
  | zero => rfl
  | succ f => rw [runesOk, if_neg hp]
theorem ok_next (s : ByteArray) (f pos : Nat) (hp : pos < s.size) (hf : s.size ≤ pos + f) : runesOk s f pos = (if !(among ((Utf8.decode s pos).1 : Int) letters) && (decide (pos = 0) || !(among ((Utf8.decode s pos).1 : Int) marks)) then false else runesOk s (f - 1) (pos + (Utf8.decode s pos).2)) := by
  cases f with
  | zero => omega
  | succ f => rw [runesOk, if_pos hp]; rfl
end Wd

set_option maxRecDepth 100000 in
set_option maxHeartbeats 8000000 in
theorem rRight_any (s : ByteArray) (w : World) (hs : s.size ≤ 9007199254740992) :
    Calls Tryd.prog 48 #[.string s] w fun e w' => e = .returned (.bool (Wd.right s)) ∧ Below w.heap.size w w' := by
  have HCT := Lib.hid (fun y => rcount_any s y hs)
  have HRG := Lib.hid (show Wd.right s = (Wd.runesOk s s.size 0 && (decide (0 < s.size) && decide (Lib.runeCount s ≤ 16))) from rfl)
  generalize Wd.right s = q at HRG ⊢
  have hrc := Lib.runeCount_le s
  generalize Lib.runeCount s = rc at HCT HRG hrc
  by_cases h0 : s.size = 0
  · obtain rfl : q = false := by rw [HRG.out]; simp [h0]
    have h0' : (s.size : Int) = 0 := by omega
    clear h0 HRG
    go_enter Tryd.func48, Tryd.ntmps48
    go_wp2_with fail
    go_ret
    exact ⟨rfl, Below.refl _ _⟩
  have h0' : ¬ (s.size : Int) = 0 := by omega
  have h0b : ((s.size : Int) == 0) = false := by rw [beq_eq_false_iff_ne]; exact h0'
  by_cases h16 : rc ≤ 16
  · have h16' : ¬ (16 : Int) < (rc : Int) := by omega
    have HOK := Lib.hid (show q = Wd.runesOk s s.size 0 from by rw [HRG.out]; simp [h16]; omega)
    clear h0 h16 HRG
    go_enter Tryd.func48, Tryd.ntmps48
    go_wp2_with (go_at_call 62; (with_reducible refine (HCT.out _).mono ?_); rintro e u ⟨rfl, rfl⟩)
    go_loopw [3] (fun s3 wr => ∃ (pos f : Nat), s3 = .int .i64 (pos : Int) ∧ q = Wd.runesOk s f pos ∧ s.size ≤ pos + f ∧ pos ≤ s.size ∧ Below w.heap.size w wr) (fun s3 _ => s.size - (intOf s3).toNat)
    case atStart => exact ⟨0, s.size, rfl, HOK.out, by omega, by omega, Below.refl _ _⟩
    case round =>
      obtain ⟨pos, f, rfl, hok, hf, hps, hbel⟩ := hrel
      have hp0 : (0 : Int) ≤ (pos : Int) := by omega
      have HB := Lib.hid hbel
      clear hbel HOK
      by_cases hp : pos < s.size
      · have hp' : (pos : Int) < (s.size : Int) := by omega
        have hp2 : (pos : Int) ≤ (s.size : Int) := by omega
        rw [Wd.ok_next s f pos hp hf] at hok
        have hln := Rd.longAt s pos hp
        have hst := Rd.step_law s pos
        have HLG := Lib.hid (fun y => rlong_any (s.extract pos s.size) y (by rw [ByteArray.size_extract]; omega))
        generalize Rd.long (s.extract pos s.size) = n at hln HLG hst
        by_cases hn : n = 0
        · have hd : Utf8.decode s pos = (65533, 1) := by
            rcases hln with ⟨_, h2⟩ | ⟨h1, _⟩
            · exact h2
            · omega
          rw [hd] at hok
          obtain rfl : q = false := by rw [hok]; exact if_pos (by simp [Wd.among, Wd.letters, Wd.marks, Wd.inSpan])
          have HL0 := Lib.hid (fun y => show Calls Tryd.prog 63 #[.string (s.extract pos s.size)] y fun e w' => e = .returned (.int .i64 0) ∧ y = w' from by
            have := HLG.out y
            rw [hn] at this
            exact this)
          clear hln hst HLG hok hn hd
          go_wp2_with (go_at_call 63; (with_reducible refine (HL0.out _).mono ?_); rintro e u ⟨rfl, rfl⟩)
          go_ret
          exact ⟨rfl, HB.out⟩
        have hn' : ¬ (n : Int) = 0 := by omega
        obtain ⟨h1, h2, h3⟩ : 0 < n ∧ (Utf8.decode s pos).2 = n ∧ pos + n ≤ s.size := by
          rcases hln with ⟨h1, _⟩ | h
          · omega
          · exact h
        obtain ⟨hs1, hs2⟩ := hst n hp rfl h1
        rw [h2, ← hs1, ← hs2] at hok
        obtain ⟨np, hnp⟩ : ∃ np, pos + n = np := ⟨_, rfl⟩
        rw [hnp] at hok h3
        have hnp' : (pos : Int) + (n : Int) = (np : Int) := by omega
        have hpn : (pos : Int) ≤ (np : Int) := by omega
        have hns : (np : Int) ≤ (s.size : Int) := by omega
        have hrz : (s.extract pos np).size = n := by rw [ByteArray.size_extract]; omega
        clear hs1 hs2 hst hln h2
        go_upto_region 9 with (go_at_call 63; (with_reducible refine (HLG.out _).mono ?_); rintro e u ⟨rfl, rfl⟩)
        have HLT := Lib.hid (fun y => rletter_any (s.extract pos np) y)
        have hmk : Rd.mark (s.extract pos np) = (decide ((s.extract pos np).size = 1) && (decide (Rd.b (s.extract pos np) 0 = 45) || (decide (48 ≤ Rd.b (s.extract pos np) 0) && decide (Rd.b (s.extract pos np) 0 ≤ 57)))) := rfl
        have hb0 : ∀ h : 0 < (s.extract pos np).size, ((s.extract pos np)[0].toNat : Int) = (Rd.b (s.extract pos np) 0 : Int) := fun h => b_idx _ h
        have lc := Rd.b_lt (s.extract pos np) 0
        generalize Rd.letter (s.extract pos np) = bl at HLT hok
        generalize Rd.mark (s.extract pos np) = bm at hmk hok
        generalize hcc : Rd.b (s.extract pos np) 0 = c at hmk hb0 lc
        have hbr : ∀ _ : (s.extract pos np).size = 1, Rd.b (s.extract pos np) 0 = c := fun _ => hcc
        clear hcc
        generalize s.extract pos np = r at HLT hrz hmk hb0 hbr ⊢
        have HOK := Lib.hid hok
        clear hok hn hnp
        by_cases h1n : n = 1
        · have hbn : ((n : Int) == 1) = true := by rw [beq_iff_eq]; omega
          have hrz1 : r.size = 1 := by omega
          have e0 := hb0 (by omega)
          by_cases k45 : c = 45
          · have h45 : (r.toList == [45]) = true := by rw [toList_45 r hrz1 (hbr hrz1)]; exact decide_eq_true k45
            obtain rfl : bm = true := by rw [hmk]; simp [hrz1, k45]
            clear hmk
            cases bl with
            | true =>
              go_wp2_with (go_at_call 64; (with_reducible refine (HLT.out _).mono ?_); rintro e y ⟨rfl, hby⟩)
              refine ⟨⟨np, f - 1, by go_num, by rw [HOK.out]; simp, by omega, by omega, HB.out.trans (hby.mono HB.out.size)⟩, by simp only [intOf]; omega⟩
            | false =>
              by_cases hz : pos = 0
              · have hzb : ((pos : Int) == 0) = true := by rw [beq_iff_eq]; omega
                obtain rfl : q = false := by rw [HOK.out]; simp [hz]
                clear hz HOK
                go_wp2_with (go_at_call 64; (with_reducible refine (HLT.out _).mono ?_); rintro e y ⟨rfl, hby⟩)
                go_ret
                exact ⟨rfl, HB.out.trans (hby.mono HB.out.size)⟩
              · have hzb : ((pos : Int) == 0) = false := by rw [beq_eq_false_iff_ne]; omega
                go_wp2_with (go_at_call 64; (with_reducible refine (HLT.out _).mono ?_); rintro e y ⟨rfl, hby⟩)
                refine ⟨⟨np, f - 1, by go_num, by rw [HOK.out]; simp [hz], by omega, by omega, HB.out.trans (hby.mono HB.out.size)⟩, by simp only [intOf]; omega⟩
          · have h45 : (r.toList == [45]) = false := by rw [toList_45 r hrz1 (hbr hrz1)]; exact decide_eq_false k45
            by_cases k48 : 48 ≤ c
            · have k48' : (48 : Int) ≤ (c : Int) := by omega
              by_cases k57 : c ≤ 57
              · have k57' : (c : Int) ≤ 57 := by omega
                obtain rfl : bm = true := by rw [hmk]; simp [hrz1, k48, k57]
                clear hmk
                cases bl with
                | true =>
                  go_wp2_with (go_at_call 64; (with_reducible refine (HLT.out _).mono ?_); rintro e y ⟨rfl, hby⟩)
                  refine ⟨⟨np, f - 1, by go_num, by rw [HOK.out]; simp, by omega, by omega, HB.out.trans (hby.mono HB.out.size)⟩, by simp only [intOf]; omega⟩
                | false =>
                  by_cases hz : pos = 0
                  · have hzb : ((pos : Int) == 0) = true := by rw [beq_iff_eq]; omega
                    obtain rfl : q = false := by rw [HOK.out]; simp [hz]
                    clear hz HOK
                    go_wp2_with (go_at_call 64; (with_reducible refine (HLT.out _).mono ?_); rintro e y ⟨rfl, hby⟩)
                    go_ret
                    exact ⟨rfl, HB.out.trans (hby.mono HB.out.size)⟩
                  · have hzb : ((pos : Int) == 0) = false := by rw [beq_eq_false_iff_ne]; omega
                    go_wp2_with (go_at_call 64; (with_reducible refine (HLT.out _).mono ?_); rintro e y ⟨rfl, hby⟩)
                    refine ⟨⟨np, f - 1, by go_num, by rw [HOK.out]; simp [hz], by omega, by omega, HB.out.trans (hby.mono HB.out.size)⟩, by simp only [intOf]; omega⟩
              · have k57' : ¬ (c : Int) ≤ 57 := by omega
                obtain rfl : bm = false := by rw [hmk]; simp [k45, k57]
                clear hmk
                cases bl with
                | true =>
                  go_wp2_with (go_at_call 64; (with_reducible refine (HLT.out _).mono ?_); rintro e y ⟨rfl, hby⟩)
                  refine ⟨⟨np, f - 1, by go_num, by rw [HOK.out]; simp, by omega, by omega, HB.out.trans (hby.mono HB.out.size)⟩, by simp only [intOf]; omega⟩
                | false =>
                  by_cases hz : pos = 0
                  · have hzb : ((pos : Int) == 0) = true := by rw [beq_iff_eq]; omega
                    obtain rfl : q = false := by rw [HOK.out]; simp [hz]
                    clear hz HOK
                    go_wp2_with (go_at_call 64; (with_reducible refine (HLT.out _).mono ?_); rintro e y ⟨rfl, hby⟩)
                    go_ret
                    exact ⟨rfl, HB.out.trans (hby.mono HB.out.size)⟩
                  · have hzb : ((pos : Int) == 0) = false := by rw [beq_eq_false_iff_ne]; omega
                    obtain rfl : q = false := by rw [HOK.out]; simp
                    clear hz HOK
                    go_wp2_with (go_at_call 64; (with_reducible refine (HLT.out _).mono ?_); rintro e y ⟨rfl, hby⟩)
                    go_ret
                    exact ⟨rfl, HB.out.trans (hby.mono HB.out.size)⟩
            · have k48' : ¬ (48 : Int) ≤ (c : Int) := by omega
              obtain rfl : bm = false := by rw [hmk]; simp [k45, k48]
              clear hmk
              cases bl with
              | true =>
                go_wp2_with (go_at_call 64; (with_reducible refine (HLT.out _).mono ?_); rintro e y ⟨rfl, hby⟩)
                refine ⟨⟨np, f - 1, by go_num, by rw [HOK.out]; simp, by omega, by omega, HB.out.trans (hby.mono HB.out.size)⟩, by simp only [intOf]; omega⟩
              | false =>
                by_cases hz : pos = 0
                · have hzb : ((pos : Int) == 0) = true := by rw [beq_iff_eq]; omega
                  obtain rfl : q = false := by rw [HOK.out]; simp [hz]
                  clear hz HOK
                  go_wp2_with (go_at_call 64; (with_reducible refine (HLT.out _).mono ?_); rintro e y ⟨rfl, hby⟩)
                  go_ret
                  exact ⟨rfl, HB.out.trans (hby.mono HB.out.size)⟩
                · have hzb : ((pos : Int) == 0) = false := by rw [beq_eq_false_iff_ne]; omega
                  obtain rfl : q = false := by rw [HOK.out]; simp
                  clear hz HOK
                  go_wp2_with (go_at_call 64; (with_reducible refine (HLT.out _).mono ?_); rintro e y ⟨rfl, hby⟩)
                  go_ret
                  exact ⟨rfl, HB.out.trans (hby.mono HB.out.size)⟩
        · have hbn : ((n : Int) == 1) = false := by rw [beq_eq_false_iff_ne]; omega
          have hrz1 : ¬ r.size = 1 := by omega
          have h45 : (r.toList == [45]) = false := toList_n45 r hrz1
          obtain rfl : bm = false := by rw [hmk]; simp [hrz1]
          clear hmk
          cases bl with
          | true =>
            go_wp2_with (go_at_call 64; (with_reducible refine (HLT.out _).mono ?_); rintro e y ⟨rfl, hby⟩)
            refine ⟨⟨np, f - 1, by go_num, by rw [HOK.out]; simp, by omega, by omega, HB.out.trans (hby.mono HB.out.size)⟩, by simp only [intOf]; omega⟩
          | false =>
            by_cases hz : pos = 0
            · have hzb : ((pos : Int) == 0) = true := by rw [beq_iff_eq]; omega
              obtain rfl : q = false := by rw [HOK.out]; simp [hz]
              clear hz HOK
              go_wp2_with (go_at_call 64; (with_reducible refine (HLT.out _).mono ?_); rintro e y ⟨rfl, hby⟩)
              go_ret
              exact ⟨rfl, HB.out.trans (hby.mono HB.out.size)⟩
            · have hzb : ((pos : Int) == 0) = false := by rw [beq_eq_false_iff_ne]; omega
              obtain rfl : q = false := by rw [HOK.out]; simp
              clear hz HOK
              go_wp2_with (go_at_call 64; (with_reducible refine (HLT.out _).mono ?_); rintro e y ⟨rfl, hby⟩)
              go_ret
              exact ⟨rfl, HB.out.trans (hby.mono HB.out.size)⟩
      · have hp' : ¬ (pos : Int) < (s.size : Int) := by omega
        rw [Wd.ok_end s f pos hp] at hok
        subst hok
        go_wp2_with fail
        go_ret
        exact ⟨rfl, HB.out⟩
  · have h16' : (16 : Int) < (rc : Int) := by omega
    obtain rfl : q = false := by rw [HRG.out]; simp [h16]
    clear h0 h16 HRG
    go_enter Tryd.func48, Tryd.ntmps48
    go_wp2_with (go_at_call 62; (with_reducible refine (HCT.out _).mono ?_); rintro e u ⟨rfl, rfl⟩)
    go_ret
    exact ⟨rfl, Below.refl _ _⟩

end Go.Proofs.YtalncnblcfcmcaaDoor
