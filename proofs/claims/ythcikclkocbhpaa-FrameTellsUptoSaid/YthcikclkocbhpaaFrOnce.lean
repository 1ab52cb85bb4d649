/- The walk of FrameOnce. -/
import Derived.Test.YthcikclkocbhpaaFrEx
import Derived.Test.YthcikclkocbhpaaFrLaws
import Derived.Deep.RegionHeld3
namespace Go.Proofs.Ythcikclkocbhpaa
open Go.RowKit

theorem Put_eq (s : ByteArray) (k m : Nat) (b : List UInt8) (h : Fr.next s.data.toList k = some b) (hm : k + 8 + b.length = m) :
    (Fr.put b == (s.extract k m).toList) = true := by
  rw [Lib.toList_data, Lib.extract_data, beq_iff_eq, show m - k = b.length + 8 from by omega, Fr.put_next h]

set_option maxHeartbeats 1000000 in
theorem FrameOnce_walk (s : ByteArray) (i : Int) (w : World) (hs : s.size ≤ maxLen) (_hi : (Lit.int .i64 i).wf = true) :
    Calls Try.prog 7 #[.string s, .int .i64 i] w fun e w' => e = .returned (.bool true) ∧ Below w.heap.size w w' := by
  have hl : s.data.toList.length = s.size := by simp
  have hend : Fr.next s.data.toList s.size = none := by unfold Fr.next; rw [if_pos (by omega)]
  have hno : ∀ w, Calls Try.prog 11 #[.string s, .int .i64 (s.size : Int)] w fun e w' => e = .returned (.tuple #[.string ⟨#[]⟩, .int .i64 0, .bool false]) ∧ Below w.heap.size w w' := fun w => Next_no s s.size w hs hend
  have HNO := Lib.hid hno; clear hno hend
  by_cases hx : ∃ k b, i = (k : Nat) ∧ Fr.next s.data.toList k = some b
  · obtain ⟨k, b, rfl, hn⟩ := hx
    obtain ⟨m, hm⟩ : ∃ m, k + 8 + b.length = m := ⟨_, rfl⟩
    have hb := Fr.next_some hn
    have hms : m ≤ s.size := by omega
    have hkm : k ≤ m := by omega
    have HE := Lib.hid (Put_eq s k m b hn hm)
    have HN := Lib.hid (fun w => Next_yes s k m b w hs hn hm)
    clear hn hm hb hl
    unfold maxLen at hs
    go_enter Try.func7, Try.ntmps7
    go_wp2_with fail
    refine (examples_any _).mono ?_
    rintro e w1 ⟨rfl, hb1⟩
    go_wp2_with fail
    refine (HN.out _).mono ?_
    rintro e w2 ⟨rfl, hb2⟩
    go_upto_region 6 with fail
    have g1 : decide ((0 : Int) ≤ (k : Int)) = true := by simp
    have g2 : decide (m ≤ s.size) = true := by simp; omega
    have g3 : decide ((m : Int) ≤ (s.size : Int)) = true := by simp; omega
    go_region_held3 (fun _ => True) (exact trivial) ((first | (go_at_call 10; ((with_reducible refine (Put_any _ _).mono ?_); rintro e w3 ⟨rfl, hb3⟩))))
    go_wp2_with fail
    go_ret
    exact ⟨ret_bool HE.out, below4 hb1 (below4 hb2 (below_of_drew hb3))⟩
  · have HN : Hid (∀ w, Calls Try.prog 11 #[.string s, .int .i64 i] w fun e w' => e = .returned (.tuple #[.string ⟨#[]⟩, .int .i64 0, .bool false]) ∧ Below w.heap.size w w') := Lib.hid fun w => Next_lit s i _ w hs (by
      unfold NextAt
      by_cases h0 : i < 0
      · rw [if_pos h0]; rfl
      · rw [if_neg h0]
        cases hn : Fr.next s.data.toList i.toNat with
        | none => rfl
        | some b => exact absurd ⟨i.toNat, b, by omega, hn⟩ hx)
    clear hx hl
    unfold maxLen at hs
    go_enter Try.func7, Try.ntmps7
    go_wp2_with fail
    refine (examples_any _).mono ?_
    rintro e w1 ⟨rfl, hb1⟩
    go_wp2_with fail
    refine (HN.out _).mono ?_
    rintro e w2 ⟨rfl, hb2⟩
    go_wp2_with fail
    refine (HNO.out _).mono ?_
    rintro e w3 ⟨rfl, hb3⟩
    go_wp2_with fail
    go_ret
    exact ⟨rfl, below4 hb1 (below4 hb2 hb3)⟩

end Go.Proofs.Ythcikclkocbhpaa
