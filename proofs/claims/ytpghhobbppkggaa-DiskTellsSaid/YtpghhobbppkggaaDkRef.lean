/- The walks of the document's own small functions on a disk. -/
import Derived.Test.YtpghhobbppkggaaDkWrite
namespace Go.Proofs.Ytpghhobbppkggaa
open Go.RowKit

theorem index_rfiles (a b c e : ByteArray) (w : World) : (Instr.index 29 (.agg #[.string a, .string b, .string c, .string e]) (.int .i64 0)).run Try.prog w = .ok (.agg #[.string a, .string b]) w ∧
    (Instr.index 29 (.agg #[.string a, .string b, .string c, .string e]) (.int .i64 1)).run Try.prog w = .ok (.agg #[.string c, .string e]) w := ⟨by kernel_rfl, by kernel_rfl⟩

set_option maxHeartbeats 1000000 in
theorem refD_any (d : Dk) (w : World) :
    Calls Try.prog 9 #[d.val] w fun e w' => e = .returned d.val ∧ Below w.heap.size w w' := by
  unfold Dk.val
  go_enter Try.func9, Try.ntmps9
  go_wp2_with fail
  refine wp_loop_rounds 3 ?_
  rw [rounds_succ]
  go_upto_region 5 with fail
  go_region
  go_wp2_with fail
  rw [rounds_succ]
  go_upto_region 5 with fail
  go_region
  go_wp2_with fail
  rw [rounds_succ]
  go_wp2_with fail
  go_returns
  exact ⟨rfl, by go_grown⟩

theorem rnew_any (n : Int) (w : World) :
    Calls Try.prog 27 #[.int .i64 n] w fun e w' => e = .returned (Dk.new n).val ∧ Below w.heap.size w w' := by
  go_enter Try.func27, Try.ntmps27
  go_wp2
  go_returns
  exact ⟨rfl, by go_grown⟩

theorem rstart_any (d : Dk) (w : World) :
    Calls Try.prog 21 #[d.val] w fun e w' => e = .returned d.start.val ∧ Below w.heap.size w w' := by
  unfold Dk.val
  go_enter Try.func21, Try.ntmps21
  go_wp2
  go_returns
  exact ⟨rfl, by go_grown⟩

theorem rarm_any (d : Dk) (f k : Int) (w : World) :
    Calls Try.prog 19 #[d.val, .int .i64 f, .int .i64 k] w fun e w' => e = .returned (d.arm f k).val ∧ Below w.heap.size w w' := by
  unfold Dk.val
  go_enter Try.func19, Try.ntmps19
  by_cases hf : f < -1
  · have ha : (d.arm f k).fuse = -1 := if_pos hf
    have HA := Lib.hid ha; clear ha
    go_wp2
    go_returns
    exact ⟨by rw [HA.out]; rfl, by go_grown⟩
  · have ha : (d.arm f k).fuse = f := if_neg hf
    have HA := Lib.hid ha; clear ha
    go_wp2
    go_returns
    exact ⟨by rw [HA.out]; rfl, by go_grown⟩

theorem rused_any (d : Dk) (w : World) (hz : d.used ≤ 9007199254740992) :
    Calls Try.prog 23 #[d.val] w fun e w' => e = .returned (.int .i64 (d.used : Nat)) ∧ Below w.heap.size w w' := by
  unfold Dk.val
  unfold Dk.used at *
  go_enter Try.func23, Try.ntmps23
  go_wp2_with fail
  go_ret
  exact ⟨ret_int (by omega), (Below.refl _ _).alloc (Nat.le_refl _) _⟩

theorem rread_any (d : Dk) (f : Int) (w : World) (hz : d.used ≤ 9007199254740992) :
    Calls Try.prog 25 #[d.val, .int .i64 f] w fun e w' => e = .returned (.string (d.read f)) ∧ Below w.heap.size w w' := by
  unfold Dk.val
  unfold Dk.used at *
  go_enter Try.func25, Try.ntmps25
  by_cases h0 : f = 0
  · subst h0
    go_upto_region 3 with fail
    go_region
    go_wp2_with fail
    go_ret
    exact ⟨rfl, by go_grown⟩
  by_cases h1 : f = 1
  · subst h1
    go_upto_region 3 with fail
    go_region
    go_wp2_with fail
    go_ret
    exact ⟨rfl, by go_grown⟩
  · have n0 : (f != 0) = true := by simpa using h0
    have n1 : (f != 1) = true := by simpa using h1
    go_wp2_with fail
    go_ret
    exact ⟨ret_str (by unfold Dk.read; rw [if_neg h0, if_neg h1]), by go_grown⟩

/-- why nothing is done, as a number -/
def Dk.refused (d : Dk) (f : Int) : Int := if ¬ (f = 0 ∨ f = 1) then 1 else if d.down then 12 else 0

theorem refused_any (d : Dk) (f : Int) (w : World) :
    Calls Try.prog 32 #[d.val, .int .i64 f] w fun e w' => e = .returned (.int .i64 (d.refused f)) ∧ Below w.heap.size w w' := by
  obtain ⟨r, hr⟩ : ∃ r, d.refused f = r := ⟨_, rfl⟩
  rw [hr]
  unfold Dk.refused at hr
  unfold Dk.val
  by_cases h0 : f = 0
  · subst h0
    cases hd : d.down with
    | true =>
      have HR := Lib.hid (show 12 = r by rw [← hr, hd]; rfl); clear hr
      go_enter Try.func32, Try.ntmps32
      go_wp2_with fail
      go_ret
      exact ⟨ret_int HR.out, by go_grown⟩
    | false =>
      have HR := Lib.hid (show 0 = r by rw [← hr, hd]; rfl); clear hr
      go_enter Try.func32, Try.ntmps32
      go_wp2_with fail
      go_ret
      exact ⟨ret_int HR.out, by go_grown⟩
  by_cases h1 : f = 1
  · subst h1
    cases hd : d.down with
    | true =>
      have HR := Lib.hid (show 12 = r by rw [← hr, hd]; rfl); clear hr
      go_enter Try.func32, Try.ntmps32
      go_wp2_with fail
      go_ret
      exact ⟨ret_int HR.out, by go_grown⟩
    | false =>
      have HR := Lib.hid (show 0 = r by rw [← hr, hd]; rfl); clear hr
      go_enter Try.func32, Try.ntmps32
      go_wp2_with fail
      go_ret
      exact ⟨ret_int HR.out, by go_grown⟩
  · have HR := Lib.hid (show 1 = r by rw [← hr, if_pos (by simp [h0, h1])]); clear hr
    have n0 : (f != 0) = true := by simpa using h0
    have n1 : (f != 1) = true := by simpa using h1
    go_enter Try.func32, Try.ntmps32
    go_wp2_with fail
    go_ret
    exact ⟨ret_int HR.out, by go_grown⟩

end Go.Proofs.Ytpghhobbppkggaa
