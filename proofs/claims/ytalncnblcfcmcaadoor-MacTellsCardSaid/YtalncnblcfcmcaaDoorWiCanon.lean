/- Plain law: what is told of a number's bytes, one by one, is that they are the number's own. -/
import Derived.Test.YtalncnblcfcmcaaDoorWiScan
namespace Go.Proofs.YtalncnblcfcmcaaDoor
open Go.RowKit

namespace Wi
theorem byte_ofNat (b : UInt8) : UInt8.ofNat b.toNat = b := by simp

theorem putN_low (k : Nat) : ∀ (l : List UInt8) (b : UInt8), (∀ x ∈ l, 128 ≤ x.toNat) → b.toNat < 128 → (l = [] ∨ b.toNat ≠ 0) → l.length ≤ k → putN k (low l + 128 ^ l.length * b.toNat) = l ++ [b] := by
  induction k with
  | zero =>
    intro l b _ _ _ hk
    obtain rfl : l = [] := List.length_eq_zero_iff.1 (by omega)
    simp [low, putN]
  | succ k ih =>
    intro l b hl hb h0 hk
    cases l with
    | nil =>
      simp only [low, List.length_nil, Nat.pow_zero, Nat.one_mul, Nat.zero_add, List.nil_append, putN]
      rw [if_pos hb, byte_ofNat]
    | cons x l =>
      have hx := hl x (by simp)
      have hx2 := UInt8.toNat_lt x
      have hb0 : b.toNat ≠ 0 := by
        rcases h0 with h | h
        · cases h
        · exact h
      have hv : low (x :: l) + 128 ^ (x :: l).length * b.toNat = (x.toNat - 128) + 128 * (low l + 128 ^ l.length * b.toNat) := by
        simp only [low, List.length_cons, Nat.pow_succ]
        generalize 128 ^ l.length = P
        rw [Nat.mul_add, show P * 128 * b.toNat = 128 * (P * b.toNat) from by rw [Nat.mul_comm P 128, Nat.mul_assoc]]
        omega
      have hp : 1 ≤ 128 ^ l.length * b.toNat := Nat.mul_pos (Nat.pow_pos (by omega)) (by omega)
      rw [hv]
      have ih' := ih l b (fun y hy => hl y (by simp [hy])) hb (.inr hb0) (by simpa using hk)
      have hv1 : 1 ≤ low l + 128 ^ l.length * b.toNat := by omega
      generalize low l + 128 ^ l.length * b.toNat = v at hv1 ih'
      rw [putN, if_neg (by omega), show (x.toNat - 128 + 128 * v) % 128 + 128 = x.toNat by omega, show (x.toNat - 128 + 128 * v) / 128 = v by omega, ih', byte_ofNat]
      rfl

theorem putN_last (k : Nat) : ∀ w, 1 ≤ w → w < 128 ^ (k + 1) → ∃ l b, putN k w = l ++ [b] ∧ b.toNat ≠ 0 := by
  induction k with
  | zero =>
    intro w h1 h2
    have h2' : w < 128 := by simpa using h2
    exact ⟨[], UInt8.ofNat w, rfl, by rw [byte_nat (by omega)]; omega⟩
  | succ k ih =>
    intro w h1 h2
    by_cases h : w < 128
    · exact ⟨[], UInt8.ofNat w, by rw [putN, if_pos h]; rfl, by rw [byte_nat (by omega)]; omega⟩
    · have hd : w / 128 < 128 ^ (k + 1) := by
        rw [Nat.pow_succ] at h2
        exact Nat.div_lt_of_lt_mul (by rw [Nat.mul_comm]; exact h2)
      obtain ⟨l, b, e, hb⟩ := ih (w / 128) (by omega) hd
      exact ⟨UInt8.ofNat (w % 128 + 128) :: l, b, by rw [putN, if_neg h, e]; rfl, hb⟩

/-- what the document asks of the last byte -/
theorem at0_ref {t : List UInt8} {j u : Nat} (h : Scan t j u) (hj : j < t.length) (h9 : j ≤ 9) (hb : t[j].toNat < 128) :
    at0 t = if (j = 9 ∧ 1 < t[j].toNat) ∨ (0 < j ∧ t[j].toNat = 0) then none else some (u + 128 ^ j * t[j].toNat, j + 1) := by
  have hl : (t.take j).length = j := by simp; omega
  have hlow := h.lo h9
  have hu := low_lt (t.take j)
  rw [hl, ← hlow] at hu
  have hd := h.done hj h9 hb
  have hn := nx_low (x := t[j].toNat) hu h9
  rw [show t[j].toNat % 128 = t[j].toNat by omega] at hn
  rw [hn] at hd
  have hv : (j = 9 → t[j].toNat ≤ 1) → u + 128 ^ j * t[j].toNat < 18446744073709551616 := by
    intro h1
    rcases Nat.lt_or_ge j 9 with h8 | h8
    · have hp := pow_le (show j ≤ 8 by omega)
      have : 128 ^ j * t[j].toNat ≤ 72057594037927936 * 127 := Nat.mul_le_mul hp (by omega)
      omega
    · obtain rfl : j = 9 := by omega
      have e : (128 : Nat) ^ 9 = 9223372036854775808 := by decide
      rw [e] at hu ⊢
      have := h1 rfl
      omega
  by_cases hc : (j = 9 ∧ 1 < t[j].toNat) ∨ (0 < j ∧ t[j].toNat = 0)
  · rw [if_pos hc, hd]
    rw [if_neg]
    intro e
    rw [take_next hj] at e
    have hlen : (put ((u + 128 ^ j * t[j].toNat) % 18446744073709551616)).length = j + 1 := by rw [e]; simp; omega
    have hlt : (u + 128 ^ j * t[j].toNat) % 18446744073709551616 < 18446744073709551616 := Nat.mod_lt _ (by decide)
    have hdec := dec_put hlt []
    rw [e, List.append_assoc, dec_low (k := 10) (l := t.take j) _ h.hi (by omega), hl] at hdec
    obtain ⟨m, hm⟩ : ∃ m, 10 - j = m + 1 := ⟨9 - j, by omega⟩
    rw [hm] at hdec
    simp only [List.cons_append, List.nil_append, dec, if_pos hb, Option.map_some, Option.some.injEq, Prod.mk.injEq] at hdec
    have hv2 := hdec.1
    rw [← hlow] at hv2
    rcases hc with ⟨h1, h2⟩ | ⟨h1, h2⟩
    · subst h1
      have e9 : (128 : Nat) ^ 9 = 9223372036854775808 := by decide
      rw [e9] at hv2
      omega
    · rw [h2, Nat.mul_zero, Nat.add_zero] at hv2 e hlt
      have hge : 1 ≤ u % 18446744073709551616 := by
        rcases Nat.eq_zero_or_pos (u % 18446744073709551616) with h0 | h0
        · rw [h0] at e
          have := congrArg List.length e
          simp [put, putN] at this
          omega
        · exact h0
      obtain ⟨l, b, e2, hb2⟩ := putN_last 9 _ hge (Nat.lt_trans hlt two64)
      have e3 : l ++ [b] = t.take j ++ [t[j]] := by rw [← e2]; exact e
      have := (List.append_inj' e3 rfl).2
      simp at this
      rw [this] at hb2
      exact hb2 h2
  · rw [if_neg hc]
    have hv' := hv (fun e => by
      rcases Nat.lt_or_ge 1 t[j].toNat with h1 | h1
      · exact absurd (.inl ⟨e, h1⟩) hc
      · omega)
    rw [hd, Nat.mod_eq_of_lt hv', if_pos]
    rw [take_next hj]
    have := putN_low 9 (t.take j) t[j] h.hi hb (by
      rcases Nat.eq_zero_or_pos j with h0 | h0
      · left; subst h0; simp
      · right; intro e; exact hc (.inr ⟨h0, e⟩)) (by omega)
    rw [hl, ← hlow] at this
    exact this

end Wi
end Go.Proofs.YtalncnblcfcmcaaDoor
