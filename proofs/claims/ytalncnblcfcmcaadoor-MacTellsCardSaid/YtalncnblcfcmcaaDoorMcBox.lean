/- Tokens in boxes. -/
import Derived.Test.YtalncnblcfcmcaaDoorMcGet
import Derived.Test.YtalncnblcfcmcaaDoorMcGet2
import Derived.Lib.MinMax
namespace Go.Proofs.YtalncnblcfcmcaaDoor
open Go.RowKit

namespace Mc
theorem dl (s : ByteArray) : s.data.toList.length = s.size := by simp
/-- a number that is got stands there -/
theorem get_stands {s : ByteArray} {a : Int} (h : (Wi.get s a).2.2 = true) :
    ∃ a' f : Nat, a = (a' : Int) ∧ (Wi.get s a).2.1 = (f : Int) ∧ f ≤ s.size ∧ f = a' + (Wi.put (Wi.get s a).1).length ∧ s.data.toList.drop a' = Wi.put (Wi.get s a).1 ++ s.data.toList.drop f := by
  cases hg : Wi.get s a with
  | mk u r =>
    obtain ⟨f, b⟩ := r
    rw [hg] at h
    simp only at h
    subst h
    obtain ⟨a', e1, e2, e3, _, e5⟩ := get_true hg
    refine ⟨a', a' + (Wi.put u).length, e1, e2, e3, rfl, ?_⟩
    have := List.take_append_drop (Wi.put u).length (s.data.toList.drop a')
    rw [e5, List.drop_drop] at this
    exact this.symm
theorem extract_toList (s : ByteArray) (a b : Nat) : (s.extract a b).data.toList = (s.data.toList.drop a).take (b - a) := Lib.extract_data s a b
theorem putText_list (t : ByteArray) : (Wi.putText t).data.toList = Wi.put t.size ++ t.data.toList := by simp [Wi.putText]
theorem text_stands {s : ByteArray} {a m : Int} (h : (Wi.getText s a m).2.2 = true) :
    ∃ a' f : Nat, a = (a' : Int) ∧ (Wi.getText s a m).2.1 = (f : Int) ∧ f ≤ s.size ∧ ((Wi.getText s a m).1.size : Int) ≤ m ∧ s.data.toList.drop a' = (Wi.putText (Wi.getText s a m).1).data.toList ++ s.data.toList.drop f := by
  unfold Wi.getText at h ⊢
  split at h
  · rename_i hc
    obtain ⟨h1, h2, h3, h4⟩ := hc
    rw [if_pos ⟨h1, h2, h3, h4⟩]
    obtain ⟨a', f, e1, e2, e3, e4, e5⟩ := get_stands h1
    generalize hu : (Wi.get s a).1 = u at h3 h4 e4 e5 ⊢
    rw [e2] at h4 ⊢
    simp only [Int.toNat_natCast]
    have hz : (s.extract f (f + u)).size = u := by rw [ByteArray.size_extract]; omega
    refine ⟨a', f + u, e1, by omega, by omega, by rw [hz]; exact h3, ?_⟩
    rw [putText_list, hz, e5, List.append_assoc]
    congr 1
    rw [extract_toList, show f + u - f = u by omega]
    have := List.take_append_drop u (s.data.toList.drop f)
    rw [List.drop_drop] at this
    exact this.symm
  · cases h
theorem putc_list (c : Cav) : (putc c).data.toList = Wi.put (u64 c.k) ++ Wi.put c.n := by unfold putc; simp
theorem cav_stands {s : ByteArray} {a : Int} (h : (cavAt s a).2.2 = true) (hk : known (cavAt s a).1 = true) :
    ∃ a' f : Nat, a = (a' : Int) ∧ (cavAt s a).2.1 = (f : Int) ∧ f ≤ s.size ∧ s.data.toList.drop a' = (putc (cavAt s a).1).data.toList ++ s.data.toList.drop f := by
  unfold cavAt at h hk ⊢
  simp only [Bool.and_eq_true] at h hk ⊢
  obtain ⟨a', f, e1, e2, e3, e4, e5⟩ := get_stands h.1
  obtain ⟨b', g, d1, d2, d3, d4, d5⟩ := get_stands h.2
  have hbf : b' = f := by rw [e2] at d1; omega
  subst hbf
  refine ⟨a', g, e1, d2, d3, ?_⟩
  rw [putc_list]
  simp only
  have hu : u64 ((min (Wi.get s a).1 3 : Nat) : Int) = (Wi.get s a).1 := by
    unfold known at hk
    unfold u64
    simp at hk
    omega
  rw [hu, e5, d5, List.append_assoc]
theorem cavsB_list (l : List Cav) (c : Cav) : cavsB (l ++ [c]) = cavsB l ++ (putc c).data.toList := by unfold cavsB; simp
theorem cavsN_stands {s : ByteArray} {a : Nat} (h0 : a ≤ s.size) : ∀ n p, cavsN s (a : Int) n = some p → (∀ c ∈ p.1, known c = true) →
    ∃ f : Nat, p.2 = (f : Int) ∧ f ≤ s.size ∧ s.data.toList.drop a = cavsB p.1 ++ s.data.toList.drop f
  | 0, p, h, _ => by cases h; exact ⟨a, rfl, h0, rfl⟩
  | n + 1, p, h, hk => by
    rw [cavsN] at h
    cases hn : cavsN s (a : Int) n with
    | none => rw [hn] at h; cases h
    | some q =>
      rw [hn] at h
      simp only at h
      split at h
      · rename_i hc
        cases h
        simp only at hk ⊢
        obtain ⟨f, e1, e2, e3⟩ := cavsN_stands h0 n q hn (fun c hc => hk c (by simp [hc]))
        obtain ⟨a', g, d1, d2, d3, d4⟩ := cav_stands hc (hk _ (by simp))
        have : a' = f := by rw [e1] at d1; omega
        subst this
        refine ⟨g, d2, d3, ?_⟩
        rw [cavsB_list, List.append_assoc, ← d4]
        exact e3
      · cases h
theorem fits_known {l : List Cav} (h : fits l = true) : l.length ≤ 8 ∧ ∀ c ∈ l, known c = true := by
  unfold fits at h
  simp at h
  exact ⟨h.1, h.2⟩
theorem putB_list (t : ByteArray) (l : List Cav) (s : ByteArray) : (putB t l s).data.toList = (Wi.putText t).data.toList ++ (Wi.put l.length ++ (cavsB l ++ s.data.toList)) := by unfold putB; simp
/-- a token that is got stands there -/
theorem stands {s : ByteArray} {a : Int} {k : Tk} (h : get s a = some k) :
    ∃ a' f : Nat, a = (a' : Int) ∧ k.next = (f : Int) ∧ f ≤ s.size ∧ may k.t k.l k.s = true ∧ k.t.size ≤ 32 ∧ (∀ c ∈ k.l, c.n < 18446744073709551616) ∧ s.data.toList.drop a' = (putB k.t k.l k.s).data.toList ++ s.data.toList.drop f := by
  unfold get at h
  split at h
  · rename_i hc
    obtain ⟨h1, h2, h3⟩ := hc
    obtain ⟨a', f, e1, e2, e3, e4, e5⟩ := text_stands h1
    obtain ⟨b', g, d1, d2, d3, d4, d5⟩ := get_stands h2
    have : b' = f := by rw [e2] at d1; omega
    subst this
    rw [d2] at h
    cases hn : cavsN s (g : Int) (Wi.get s (Wi.getText s a 32).2.1).1 with
    | none => rw [hn] at h; cases h
    | some p =>
      rw [hn] at h
      simp only at h
      have hi := cavsN_in (s := s) (a := (g : Int)) (by omega) (by omega) _ p hn
      split at h
      · cases h
      · rename_i hp
        cases h
        simp only
        have hm : may (Wi.getText s a 32).1 p.1 (s.extract p.2.toNat (min (p.2 + 32) (s.size : Int)).toNat) = true := by
          unfold put at hp
          split at hp
          · assumption
          · exact absurd rfl hp
        have hm2 := hm
        unfold may at hm2
        simp only [Bool.and_eq_true, decide_eq_true_eq] at hm2
        obtain ⟨⟨_, hf⟩, hs⟩ := hm2
        obtain ⟨q, c1, c2, c3⟩ := cavsN_stands d3 _ p hn (fits_known hf).2
        rw [c1] at hs hm hi ⊢
        rw [ByteArray.size_extract] at hs
        have hq : q + 32 ≤ s.size := by omega
        have hmin : min ((q : Int) + 32) (s.size : Int) = ((q + 32 : Nat) : Int) := by omega
        rw [hmin] at hm ⊢
        simp only [Int.toNat_natCast] at hm ⊢
        refine ⟨a', q + 32, e1, rfl, hq, hm, by omega, hi.2.2.2, ?_⟩
        rw [putB_list, e5, d5, c3, hi.2.2.1, extract_toList, show q + 32 - q = 32 by omega]
        have := List.take_append_drop 32 (s.data.toList.drop q)
        rw [List.drop_drop] at this
        simp only [List.append_assoc]
        rw [this]
  · cases h

/-- what stands there is got -/
theorem get_at {s : ByteArray} {a : Nat} {n : Nat} {R : List UInt8} (hn : n < 18446744073709551616) (h : s.data.toList.drop a = Wi.put n ++ R) : Wi.get s (a : Int) = (n, ((a + (Wi.put n).length : Nat) : Int), true) := by
  have := get_found (s := s) (a := a) (u := n) (c := (Wi.put n).length) (by rw [h]; exact Wi.at0_yes hn R)
  rw [this, Int.natCast_add]
theorem drop_next {s : ByteArray} {a : Nat} {A R : List UInt8} (h : s.data.toList.drop a = A ++ R) : s.data.toList.drop (a + A.length) = R := by
  rw [← List.drop_drop, h, List.drop_left]
theorem drop_size {s : ByteArray} {a : Nat} {A R : List UInt8} (h : s.data.toList.drop a = A ++ R) (h0 : 0 < A.length) : a + A.length + R.length = s.size := by
  have := congrArg List.length h
  rw [List.length_drop, dl, List.length_append] at this
  omega
theorem text_at {s t : ByteArray} {a : Nat} {R : List UInt8} (ht : t.size ≤ 32) (h : s.data.toList.drop a = (Wi.putText t).data.toList ++ R) :
    Wi.getText s (a : Int) 32 = (t, ((a + (Wi.putText t).data.toList.length : Nat) : Int), true) := by
  rw [putText_list, List.append_assoc] at h
  have hg := get_at (n := t.size) (by omega) h
  have h2 := drop_next h
  have hl := (Wi.put_len t.size).1
  have hz := drop_size h (by omega)
  rw [List.length_append, dl] at hz
  unfold Wi.getText
  rw [hg]
  simp only [Int.toNat_natCast]
  rw [if_pos ⟨trivial, by omega, by omega, by omega⟩]
  have he : s.extract (a + (Wi.put t.size).length) (a + (Wi.put t.size).length + t.size) = t := by
    apply ByteArray.ext
    apply Array.toList_inj.1
    rw [extract_toList, h2, show a + (Wi.put t.size).length + t.size - (a + (Wi.put t.size).length) = t.data.toList.length by rw [dl]; omega, List.take_left]
  rw [he, putText_list, List.length_append, dl]
  congr 2
  omega
theorem cav_at {s : ByteArray} {a : Nat} {c : Cav} {R : List UInt8} (hk : known c = true) (hc : c.n < 18446744073709551616) (h : s.data.toList.drop a = (putc c).data.toList ++ R) :
    cavAt s (a : Int) = (c, ((a + (putc c).data.toList.length : Nat) : Int), true) := by
  rw [putc_list, List.append_assoc] at h
  have g1 := get_at (u64_lt c.k) h
  have h2 := drop_next h
  have g2 := get_at hc h2
  unfold cavAt
  rw [g1]
  simp only
  rw [g2]
  obtain ⟨k, n⟩ := c
  have hu : ((min (u64 k) 3 : Nat) : Int) = k := by
    unfold known at hk
    unfold u64
    simp at hk
    omega
  simp only [hu, putc_list, List.length_append, Bool.and_self]
  congr 2
  omega
theorem cavsN_at {s : ByteArray} {a : Nat} : ∀ (l : List Cav) {R : List UInt8}, (∀ c ∈ l, known c = true) → (∀ c ∈ l, c.n < 18446744073709551616) → s.data.toList.drop a = cavsB l ++ R → cavsN s (a : Int) l.length = some (l, ((a + (cavsB l).length : Nat) : Int)) := by
  intro l
  induction hn : l.length generalizing l with
  | zero =>
    intro R _ _ _
    obtain rfl := List.length_eq_zero_iff.1 hn
    rfl
  | succ n ih =>
    intro R hk hc h
    rcases List.eq_nil_or_concat l with rfl | ⟨l', c, rfl⟩
    · simp at hn
    · rw [List.concat_eq_append] at hn hk hc h ⊢
      rw [cavsB_list, List.append_assoc] at h
      have hl : l'.length = n := by simpa using hn
      have := ih l' hl (fun x hx => hk x (by simp [hx])) (fun x hx => hc x (by simp [hx])) h
      rw [cavsN, this]
      simp only
      have h2 := drop_next h
      rw [cav_at (hk c (by simp)) (hc c (by simp)) h2]
      simp only [if_true]
      rw [cavsB_list, List.length_append]
      congr 3
      omega
theorem got {s t g : ByteArray} {l : List Cav} {a : Nat} {R : List UInt8} (hm : may t l g = true) (ht : t.size ≤ 32) (hc : ∀ c ∈ l, c.n < 18446744073709551616) (h : s.data.toList.drop a = (putB t l g).data.toList ++ R) :
    get s (a : Int) = some ⟨t, l, g, ((a + (putB t l g).size : Nat) : Int)⟩ := by
  have hm2 := hm
  unfold may at hm2
  simp only [Bool.and_eq_true, decide_eq_true_eq] at hm2
  obtain ⟨⟨_, hf⟩, hs⟩ := hm2
  obtain ⟨hl8, hk⟩ := fits_known hf
  have hsz : (putB t l g).size = (Wi.putText t).data.toList.length + (Wi.put l.length).length + (cavsB l).length + 32 := by
    rw [← dl, putB_list]
    simp only [List.length_append]
    rw [dl g, hs]
    omega
  have h0 : 0 < (putB t l g).data.toList.length := by rw [dl, hsz]; omega
  have hz := drop_size h h0
  rw [dl, hsz] at hz
  rw [putB_list] at h
  simp only [List.append_assoc] at h
  have e1 := text_at ht h
  have h1 := drop_next h
  have e2 := get_at (n := l.length) (by omega) h1
  have h2 := drop_next h1
  have e3 := cavsN_at l hk hc h2
  have h3 := drop_next h2
  unfold get
  rw [e1]
  simp only
  rw [e2]
  simp only
  rw [if_pos ⟨trivial, trivial, hl8⟩, e3]
  simp only [Int.toNat_natCast]
  obtain ⟨q, hq⟩ : ∃ q, a + (Wi.putText t).data.toList.length + (Wi.put l.length).length + (cavsB l).length = q := ⟨_, rfl⟩
  rw [hq] at h3 ⊢
  have hmin : min ((q : Int) + 32) (s.size : Int) = ((q + 32 : Nat) : Int) := by omega
  rw [hmin]
  simp only [Int.toNat_natCast]
  have he : s.extract q (q + 32) = g := by
    apply ByteArray.ext
    apply Array.toList_inj.1
    rw [extract_toList, h3, show q + 32 - q = g.data.toList.length by rw [dl, hs]; omega, List.take_left]
  rw [he]
  have hp : put t l g = putB t l g := by unfold put; rw [if_pos hm]
  rw [hp, if_neg (by rw [hsz]; omega)]
  congr 2
  rw [hsz]
  omega

theorem putB_pos {t g : ByteArray} {l : List Cav} (hm : may t l g = true) : 32 ≤ (putB t l g).size := by
  unfold may at hm
  simp only [Bool.and_eq_true, decide_eq_true_eq] at hm
  rw [← dl, putB_list]
  simp only [List.length_append]
  rw [dl g, hm.2]
  omega
/-- no beginning of it is one -/
theorem torn {t g : ByteArray} {l : List Cav} (hm : may t l g = true) (ht : t.size ≤ 32) (hc : ∀ c ∈ l, c.n < 18446744073709551616) (n : Nat) (hn : n < (putB t l g).size) :
    get ((putB t l g).extract 0 n) 0 = none := by
  cases hg : get ((putB t l g).extract 0 n) 0 with
  | none => rfl
  | some k =>
    obtain ⟨a', f, e1, e2, e3, e4, e5, e6, e7⟩ := stands hg
    obtain rfl : a' = 0 := by omega
    rw [List.drop_zero, extract_toList, List.drop_zero, Nat.sub_zero] at e7
    have hw : (putB t l g).data.toList.drop 0 = (putB k.t k.l k.s).data.toList ++ ((List.drop f (List.take n (putB t l g).data.toList)) ++ (putB t l g).data.toList.drop n) := by
      rw [← List.append_assoc, ← e7, List.take_append_drop, List.drop_zero]
    have g1 := got e4 e5 e6 hw
    have g2 := got (s := putB t l g) (a := 0) (R := []) hm ht hc (by rw [List.append_nil, List.drop_zero])
    rw [g1] at g2
    have hsz : (putB k.t k.l k.s).size = (putB t l g).size := by
      have := congrArg (fun o : Option Tk => o.map Tk.next) g2
      simp at this
      omega
    have hl := congrArg List.length e7
    rw [List.length_take, List.length_append, dl, dl, hsz] at hl
    omega
theorem put_got {s : ByteArray} {a : Int} {k : Tk} (h : get s a = some k) : 0 ≤ a ∧ 0 ≤ k.next ∧ a ≤ k.next ∧ k.next ≤ (s.size : Int) ∧ put k.t k.l k.s = s.extract a.toNat k.next.toNat := by
  obtain ⟨a', f, e1, e2, e3, e4, e5, e6, e7⟩ := stands h
  subst e1
  rw [e2]
  have hp := putB_pos e4
  have hz := drop_size e7 (by rw [dl]; omega)
  rw [List.length_drop, dl, dl] at hz
  refine ⟨by omega, by omega, by omega, by omega, ?_⟩
  simp only [Int.toNat_natCast]
  unfold put
  rw [if_pos e4]
  apply ByteArray.ext
  apply Array.toList_inj.1
  rw [extract_toList, e7, show f - a' = (putB k.t k.l k.s).data.toList.length by rw [dl]; omega, List.take_left]
end Mc
end Go.Proofs.YtalncnblcfcmcaaDoor

namespace Go.Proofs.YtalncnblcfcmcaaDoor
open Go.RowKit

/-- a token in a box -/
structure Box (x : World) (b : Nat) (t : ByteArray) (v : Value) (s : ByteArray) (l : List Cav) : Prop where
  r : Row x b [.string t, v, .string s]
  cv : CavsAt x v l
  lt : b < x.heap.size
theorem Box.below {x y : World} {b : Nat} {t : ByteArray} {v : Value} {s : ByteArray} {l : List Cav} (h : Box x b t v s l) (hb : Below x.heap.size x y) : Box y b t v s l :=
  ⟨h.r.below hb h.lt, h.cv.below hb (Nat.le_refl _), Nat.lt_of_lt_of_le h.lt hb.size⟩
theorem Box.alloc {x : World} {b : Nat} {t : ByteArray} {v : Value} {s : ByteArray} {l : List Cav} (h : Box x b t v s l) (o : Obj) : Box (x.alloc o) b t v s l := h.below ((Below.refl _ _).alloc (Nat.le_refl _) o)
theorem Box.drew {x : World} {b : Nat} {t : ByteArray} {v : Value} {s : ByteArray} {l : List Cav} (h : Box x b t v s l) : Box x.drew b t v s l := ⟨h.r, h.cv, h.lt⟩
theorem Box.new (x : World) (t : ByteArray) (a : Option Addr) (n cap : Nat) (s : ByteArray) {l : List Cav} (hv : CavsAt x (.slice a n cap) l) : Box (x.alloc (.cells #[.string t, .slice a n cap, .string s] 24)) x.heap.size t (.slice a n cap) s l :=
  ⟨Row.at rfl (by simp), hv.alloc _, by simp⟩

theorem CavsAt.take {x : World} {a : Option Addr} {n cap : Nat} {l : List Cav} (h : CavsAt x (.slice a n cap) l) (m : Nat) (hm : m ≤ n) : CavsAt x (.slice a m cap) (l.take m) := by
  rcases h with ⟨h, rfl⟩ | ⟨ad, c, h, rfl⟩ | ⟨b, off, cp, h, hlt, hc⟩
  · cases h
    obtain rfl : m = 0 := by omega
    exact .inl ⟨rfl, rfl⟩
  · cases h
    obtain rfl : m = 0 := by omega
    exact .inr (.inl ⟨_, _, rfl, rfl⟩)
  · cases h
    refine .inr (.inr ⟨b, off, cap, by rw [List.length_take, Nat.min_eq_left hm], hlt, fun j hj => ?_⟩)
    rw [List.length_take] at hj
    rw [List.getElem_take]
    exact hc j (by omega)
/-- a token, and what was got of it -/
structure Bk (w y : World) (bt bu : Nat) (tn : ByteArray) (a3 a4 : Option Addr) (n p3 p4 : Nat) (st : ByteArray) (L : List Cav) : Prop where
  t : Box y bt tn (.slice a3 n p3) st L
  u : Box y bu tn (.slice a4 n p4) st L
  b : Below w.heap.size w y
theorem Bk.below {w y z : World} {bt bu : Nat} {tn : ByteArray} {a3 a4 : Option Addr} {n p3 p4 : Nat} {st : ByteArray} {L : List Cav} (h : Bk w y bt bu tn a3 a4 n p3 p4 st L) (hb : Below y.heap.size y z) : Bk w z bt bu tn a3 a4 n p3 p4 st L :=
  ⟨h.t.below hb, h.u.below hb, h.b.trans (hb.mono h.b.size)⟩
theorem Bk.drew {w y : World} {bt bu : Nat} {tn : ByteArray} {a3 a4 : Option Addr} {n p3 p4 : Nat} {st : ByteArray} {L : List Cav} (h : Bk w y bt bu tn a3 a4 n p3 p4 st L) : Bk w y.drew bt bu tn a3 a4 n p3 p4 st L :=
  ⟨h.t.drew, h.u.drew, h.b.drew⟩
theorem Bk.cells {w y : World} {bt bu : Nat} {tn : ByteArray} {a3 a4 : Option Addr} {n p3 p4 : Nat} {st : ByteArray} {L : List Cav} (h : Bk w y bt bu tn a3 a4 n p3 p4 st L) :
    (y.cell? ⟨bt, 0, none⟩ = some (.string tn) ∧ y.cell? ⟨bt, 1, none⟩ = some (.slice a3 n p3) ∧ y.cell? ⟨bt, 2, none⟩ = some (.string st)) ∧ (y.cell? ⟨bu, 0, none⟩ = some (.string tn) ∧ y.cell? ⟨bu, 1, none⟩ = some (.slice a4 n p4) ∧ y.cell? ⟨bu, 2, none⟩ = some (.string st)) :=
  ⟨⟨(Row.three h.t.r).1, (Row.three h.t.r).2.1, (Row.three h.t.r).2.2.1⟩, ⟨(Row.three h.u.r).1, (Row.three h.u.r).2.1, (Row.three h.u.r).2.2.1⟩⟩


namespace Mc
theorem getR_small (s : ByteArray) (a : Int) : (getR s a).1.l.length ≤ 1000 ∧ ∀ c ∈ (getR s a).1.l, c.n < 18446744073709551616 := by
  unfold getR
  cases h : get s a with
  | none => simp
  | some k =>
    obtain ⟨_, _, _, _, _, hm, _, h2, _⟩ := stands h
    unfold may at hm
    simp only [Bool.and_eq_true] at hm
    exact ⟨by have := (fits_known hm.1.2).1; show k.l.length ≤ 1000; omega, h2⟩
end Mc

end Go.Proofs.YtalncnblcfcmcaaDoor
