/- The walk of demesnelaw08.examples. -/
import Derived.Test.YthcikclkocbhpaaFrAll
import Derived.Lib.SmallJoins
namespace Go.Proofs.Ythcikclkocbhpaa
open Go.RowKit

theorem All_any (s : ByteArray) (hs : s.size ≤ maxLen) (hbytes : (Fr.all s.data.toList 0).length * 16 ≤ 140737488355328) (w : World) :
    Calls Try.prog 13 #[.string s] w fun e W' => ∃ v, e = .returned (.tuple #[v, .int .i64 (endOf (Fr.all s.data.toList 0) : Nat)]) ∧ W'.ownsRow w.heap.size 9 1 v (Fr.all s.data.toList 0).length ((Fr.all s.data.toList 0).map fun x => strOf x.1) ∧ Below w.heap.size w W' :=
  callsIn_wide.1 (All_in s hs hbytes w)

theorem Put_lit (s : ByteArray) (l : List UInt8) (w : World) (h : Fr.put s.data.toList = l) :
    Calls Try.prog 10 #[.string s] w fun e w' => e = .returned (.string ⟨l.toArray⟩) ∧ Below w.heap.size w w' := by
  subst h; exact Put_any s w

theorem Next_lit (s : ByteArray) (i : Int) (v : Value) (w : World) (hs : s.size ≤ maxLen) (h : NextAt s.data.toList i = v) :
    Calls Try.prog 11 #[.string s, .int .i64 i] w fun e w' => e = .returned v ∧ Below w.heap.size w w' := by
  subst h; exact Next_any s i w hs

theorem Sum_lit (s : ByteArray) (n : Nat) (w : World) (hs : s.size ≤ maxLen) (h : Fr.sum s.data.toList = n) :
    Calls Try.prog 16 #[.string s] w fun e w' => e = .returned (.int .u32 (n : Nat)) ∧ w = w' := by
  subst h; exact Sum_any s w hs

theorem ex_put : Fr.put [97, 98] = [0, 0, 0, 2, 0x9e, 0x83, 0x48, 0x6d, 97, 98] := by decide +kernel
theorem ex_put0 : Fr.put [] = [0, 0, 0, 0, 0, 0, 0, 0] := by decide +kernel
theorem ex_next : Fr.next [120, 0, 0, 0, 2, 0x9e, 0x83, 0x48, 0x6d, 97, 98] 1 = some [97, 98] := by decide +kernel
theorem ex_all : Fr.all [0, 0, 0, 2, 0x9e, 0x83, 0x48, 0x6d, 97, 98, 0, 0, 0, 0, 0, 0, 0, 0, 0, 0] 0 = [([97, 98], 10), ([], 18)] := by decide +kernel
theorem ex_sum : Fr.sum [49, 50, 51, 52, 53, 54, 55, 56, 57] = 3421780262 := by decide +kernel

theorem All_ex (w : World) :
    Calls Try.prog 13 #[.string ⟨#[0, 0, 0, 2, 158, 131, 72, 109, 97, 98, 0, 0, 0, 0, 0, 0, 0, 0, 0, 0]⟩] w fun e W' => ∃ g cap, e = .returned (.tuple #[.slice (some ⟨g, 0, none⟩) 2 cap, .int .i64 18]) ∧ W'.cell? ⟨g, 0, none⟩ = some (.string ⟨#[97, 98]⟩) ∧ W'.cell? ⟨g, 1, none⟩ = some (.string ⟨#[]⟩) ∧ Below w.heap.size w W' := by
  refine (All_any ⟨#[0, 0, 0, 2, 158, 131, 72, 109, 97, 98, 0, 0, 0, 0, 0, 0, 0, 0, 0, 0]⟩ (sz (by decide)) (by rw [ex_all]; decide) w).mono ?_
  rw [ex_all]
  rintro e w' ⟨v, rfl, hr, hb⟩
  obtain ⟨g, cap, rfl⟩ := Go.Joins.ownsRow_form hr (by decide)
  exact ⟨g, cap, rfl, hr.cellAt 0 (by decide), hr.cellAt 1 (by decide), hb⟩

set_option maxHeartbeats 400000 in
theorem examples_any (w : World) :
    Calls Try.prog 9 #[] w fun e w' => e = .returned (.bool true) ∧ Below w.heap.size w w' := by
  have hx : (⟨#[0, 0, 0, 2, 158, 131, 72, 109, 97, 98]⟩ : ByteArray).extract 0 4 = ⟨#[0, 0, 0, 2]⟩ := rfl
  go_enter Try.func9, Try.ntmps9
  go_wp2_with fail
  refine (Put_lit _ _ _ ex_put).mono ?_
  rintro e w1 ⟨rfl, hb1⟩
  go_wp2_with fail
  rw [show (⟨#[120]⟩ ++ ⟨#[0, 0, 0, 2, 158, 131, 72, 109, 97, 98]⟩ : ByteArray) = ⟨#[120, 0, 0, 0, 2, 158, 131, 72, 109, 97, 98]⟩ from rfl]
  refine (Next_yes ⟨#[120, 0, 0, 0, 2, 158, 131, 72, 109, 97, 98]⟩ 1 11 _ _ (sz (by decide)) ex_next rfl).mono ?_
  rintro e w2 ⟨rfl, hb2⟩
  go_wp2_with fail
  refine (Put_lit _ _ _ ex_put0).mono ?_
  rintro e w3 ⟨rfl, hb3⟩
  go_wp2_with fail
  rw [show (⟨#[0, 0, 0, 2, 158, 131, 72, 109, 97, 98]⟩ ++ ⟨#[0, 0, 0, 0, 0, 0, 0, 0]⟩ ++ ⟨#[0, 0]⟩ : ByteArray) = ⟨#[0, 0, 0, 2, 158, 131, 72, 109, 97, 98, 0, 0, 0, 0, 0, 0, 0, 0, 0, 0]⟩ from rfl]
  refine (All_ex w3).mono ?_
  rintro e w4 ⟨g, cap, rfl, hc0, hc1, hb4⟩
  go_wp2_with fail
  refine (Sum_lit ⟨#[49, 50, 51, 52, 53, 54, 55, 56, 57]⟩ _ _ (sz (by decide)) ex_sum).mono ?_
  rintro e w5 ⟨rfl, rfl⟩
  go_wp2_with fail
  go_ret
  exact ⟨rfl, hb1.trans ((hb2.mono hb1.size).trans ((hb3.mono (Nat.le_trans hb1.size hb2.size)).trans (hb4.mono (Nat.le_trans hb1.size (Nat.le_trans hb2.size hb3.size)))))⟩

end Go.Proofs.Ythcikclkocbhpaa
