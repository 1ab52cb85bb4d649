/- The walks of mac.caveat, mac.Get. -/
import Derived.Test.YtalncnblcfcmcaaDoorMcPut
import Derived.Test.YtalncnblcfcmcaaDoorWiGetText
import Derived.Lib.MinMax
namespace Go.Proofs.YtalncnblcfcmcaaDoor
open Go.RowKit

namespace Mc
/-- the caveat that stands at a place, where it ends, whether there is one -/
def cavAt (s : ByteArray) (a : Int) : Cav × Int × Bool :=
  (⟨((min (Wi.get s a).1 3 : Nat) : Int), (Wi.get s (Wi.get s a).2.1).1⟩, (Wi.get s (Wi.get s a).2.1).2.1, (Wi.get s a).2.2 && (Wi.get s (Wi.get s a).2.1).2.2)
/-- so many of them, and where they end -/
def cavsN (s : ByteArray) (a : Int) : Nat → Option (List Cav × Int)
  | 0 => some ([], a)
  | n + 1 => match cavsN s a n with
    | none => none
    | some p => if (cavAt s p.2).2.2 = true then some (p.1 ++ [(cavAt s p.2).1], (cavAt s p.2).2.1) else none
/-- a token that was read -/
structure Tk where
  t : ByteArray
  l : List Cav
  s : ByteArray
  next : Int
def get (s : ByteArray) (a : Int) : Option Tk :=
  if (Wi.getText s a 32).2.2 = true ∧ (Wi.get s (Wi.getText s a 32).2.1).2.2 = true ∧ (Wi.get s (Wi.getText s a 32).2.1).1 ≤ 8 then
    match cavsN s (Wi.get s (Wi.getText s a 32).2.1).2.1 (Wi.get s (Wi.getText s a 32).2.1).1 with
    | none => none
    | some p =>
      if (put (Wi.getText s a 32).1 p.1 (s.extract p.2.toNat (min (p.2 + 32) (s.size : Int)).toNat)).size = 0 then none
      else some ⟨(Wi.getText s a 32).1, p.1, s.extract p.2.toNat (min (p.2 + 32) (s.size : Int)).toNat, min (p.2 + 32) (s.size : Int)⟩
  else none
theorem get_lt (s : ByteArray) (a : Int) : (Wi.get s a).1 < 18446744073709551616 := by
  cases h : Wi.get s a with
  | mk u r =>
    obtain ⟨f, b⟩ := r
    cases b with
    | true => obtain ⟨_, _, _, _, h2, _⟩ := get_true h; exact h2
    | false => have := (get_false h).1; subst this; show (0 : Nat) < _; decide
theorem cavAt_lt (s : ByteArray) (a : Int) : (cavAt s a).1.n < 18446744073709551616 := get_lt _ _
/-- an end is a place in the text -/
theorem get_in {s : ByteArray} {a : Int} (h : (Wi.get s a).2.2 = true) : 0 ≤ a ∧ 0 ≤ (Wi.get s a).2.1 ∧ (Wi.get s a).2.1 ≤ (s.size : Int) := by
  cases hg : Wi.get s a with
  | mk u r =>
    obtain ⟨f, b⟩ := r
    rw [hg] at h
    simp only at h
    subst h
    obtain ⟨a', e1, e2, e3, _⟩ := get_true hg
    simp only
    omega
theorem cavAt_in {s : ByteArray} {a : Int} (h : (cavAt s a).2.2 = true) : 0 ≤ (cavAt s a).2.1 ∧ (cavAt s a).2.1 ≤ (s.size : Int) := by
  unfold cavAt at h ⊢
  simp only [Bool.and_eq_true] at h
  exact (get_in h.2).2
theorem cavsN_in {s : ByteArray} {a : Int} (h0 : 0 ≤ a) (h1 : a ≤ (s.size : Int)) : ∀ n p, cavsN s a n = some p → 0 ≤ p.2 ∧ p.2 ≤ (s.size : Int) ∧ p.1.length = n ∧ ∀ c ∈ p.1, c.n < 18446744073709551616
  | 0, p, h => by cases h; exact ⟨h0, h1, rfl, by simp⟩
  | n + 1, p, h => by
    rw [cavsN] at h
    cases hn : cavsN s a n with
    | none => rw [hn] at h; cases h
    | some q =>
      rw [hn] at h
      have ih := cavsN_in h0 h1 n q hn
      simp only at h
      split at h
      · rename_i hc
        cases h
        have hi := cavAt_in hc
        refine ⟨hi.1, hi.2, by simp [ih.2.2.1], fun c hc2 => ?_⟩
        rcases List.mem_append.1 hc2 with h3 | h3
        · exact ih.2.2.2 c h3
        · rw [List.mem_singleton.1 h3]; exact cavAt_lt _ _
      · cases h
theorem cavsN_none {s : ByteArray} {a : Int} {n : Nat} (h : cavsN s a n = none) : ∀ m, n ≤ m → cavsN s a m = none := by
  intro m hm
  induction m with
  | zero => have : n = 0 := by omega
            subst this; exact h
  | succ m ih =>
    by_cases e : n = m + 1
    · rw [← e]; exact h
    · rw [cavsN, ih (by omega)]
end Mc

set_option maxHeartbeats 4000000 in
theorem caveat_any (s : ByteArray) (a : Int) (w : World) (hz : s.size ≤ 9007199254740992) :
    Calls Tryd.prog 32 #[.string s, .int .i64 a] w fun e w' => e = .returned (.tuple #[(Mc.cavAt s a).1.val, .int .i64 (Mc.cavAt s a).2.1, .bool (Mc.cavAt s a).2.2]) ∧ Below w.heap.size w w' := by
  have H1 := Lib.hid (fun y => Get_any s a y hz)
  have H2 := Lib.hid (fun y => Get_any s (Wi.get s a).2.1 y hz)
  have HE := Lib.hid (show Mc.cavAt s a = (⟨((min (Wi.get s a).1 3 : Nat) : Int), (Wi.get s (Wi.get s a).2.1).1⟩, (Wi.get s (Wi.get s a).2.1).2.1, (Wi.get s a).2.2 && (Wi.get s (Wi.get s a).2.1).2.2) from rfl)
  have hl1 := Mc.get_lt s a
  have hl2 := Mc.get_lt s (Wi.get s a).2.1
  generalize Mc.cavAt s a = z at HE ⊢
  generalize Wi.get s (Wi.get s a).2.1 = g2 at H2 HE hl2
  generalize Wi.get s a = g1 at H1 H2 HE hl1
  obtain ⟨u1, f1, b1⟩ := g1
  obtain ⟨u2, f2, b2⟩ := g2
  obtain ⟨zc, zn, zb⟩ := z
  unfold Wi.val at H1 H2
  simp only at H1 H2 HE hl1 hl2
  obtain ⟨m, hm⟩ : ∃ m, min u1 3 = m := ⟨_, rfl⟩
  have hmin : min (u1 : Int) 3 = (m : Int) := by omega
  have hm3 : m ≤ 3 := by omega
  have hw : IntKind.i64.wrap (m : Int) = (m : Int) := by rw [IntKind.wrap_i64]; omega
  rw [hm] at HE
  obtain ⟨e1, e2⟩ := Prod.mk.inj HE.out
  obtain ⟨e2, e3⟩ := Prod.mk.inj e2
  subst e1 e2 e3
  clear HE hm
  unfold Cav.val Cav.cells
  simp only
  go_enter Tryd.func32, Tryd.ntmps32
  go_upto_region 1 with fail
  have hr : Row (w.alloc (.cells #[.int .i64 0, .int .u64 0] 27)) w.heap.size [.int .i64 0, .int .u64 0] := Row.at rfl (by simp)
  have hb : Below w.heap.size w (w.alloc (.cells #[.int .i64 0, .int .u64 0] 27)) := (Below.refl _ _).alloc (Nat.le_refl _) _
  have hlt : w.heap.size < (w.alloc (.cells #[.int .i64 0, .int .u64 0] 27)).heap.size := by simp
  generalize w.alloc (.cells #[.int .i64 0, .int .u64 0] 27) = x at hr hb hlt ⊢
  go_wp2_with fail
  refine (H1.out _).mono ?_
  rintro e y ⟨rfl, hby⟩
  go_wp2_with fail
  refine (H2.out _).mono ?_
  rintro e z ⟨rfl, hbz⟩
  have hbyz := hby.trans (hbz.mono hby.size)
  have hr2 := hr.below hbyz hlt
  obtain ⟨c0, c1, q0, q1⟩ := Row.two hr2
  have hb2 := hb.trans (hbyz.mono hb.size)
  have HR := Lib.hid ((hr2.set 0 (.int .i64 (m : Int)) (by simp)).set 1 (.int .u64 (u2 : Int)) (by simp))
  have HB := Lib.hid ((hb2.setCell (p := ⟨w.heap.size, 0, none⟩) (Nat.le_refl _) (.int .i64 (m : Int))).setCell (p := ⟨w.heap.size, 1, none⟩) (Nat.le_refl _) (.int .u64 (u2 : Int)))
  clear hr hb hbyz hr2 hb2 hby hbz hlt
  cases b1 with
  | true =>
    go_wp2_with fail
    have hr3 := HR.out
    have hb3 := HB.out
    simp only [List.set_cons_zero, List.set_cons_succ] at hr3
    clear HR HB c0 c1 q0 q1
    obtain ⟨o0, o1, _⟩ := Row.two hr3
    generalize World.setCell _ _ _ = wz at hb3 o0 o1 ⊢
    refine bodyPost_ret (by simp [results, Tryd.results32, go_sem, o0, o1]; try rfl) rfl ?_
    exact ⟨by simp, hb3⟩
  | false =>
    go_wp2_with fail
    have hr3 := HR.out
    have hb3 := HB.out
    simp only [List.set_cons_zero, List.set_cons_succ] at hr3
    clear HR HB c0 c1 q0 q1
    obtain ⟨o0, o1, _⟩ := Row.two hr3
    generalize World.setCell _ _ _ = wz at hb3 o0 o1 ⊢
    refine bodyPost_ret (by simp [results, Tryd.results32, go_sem, o0, o1]; try rfl) rfl ?_
    exact ⟨by simp, hb3⟩

end Go.Proofs.YtalncnblcfcmcaaDoor
