/- The walk of disk.Crash. -/
import Derived.Test.YtpghhobbppkggaaDkFile
namespace Go.Proofs.Ytpghhobbppkggaa
open Go.RowKit

theorem kept_lt {m : Nat} {s : ByteArray} (h : (m : Int) ≤ (s.size : Int)) : Dk.kept m s = m := by unfold Dk.kept; omega
theorem kept_ge {m : Nat} {s : ByteArray} (h : (s.size : Int) < (m : Int)) : Dk.kept m s = s.size := by unfold Dk.kept; omega

set_option maxHeartbeats 2000000 in
theorem crash_any (d : Dk) (k : Int) (w : World) (hz : d.used ≤ 9007199254740992) :
    Calls Try.prog 16 #[d.val, .int .i64 k] w fun e w' => e = .returned (d.crash k).val ∧ Below w.heap.size w w' := by
  unfold Dk.val
  unfold Dk.used at *
  have i0 := fun w => (index_files d.h0 d.s0 d.h1 d.s1 w).1
  have i1 := fun w => (index_files d.h0 d.s0 d.h1 d.s1 w).2
  have hp0 : ¬ ((d.s0.size : Int) < 0) := by omega
  have hp1 : ¬ ((d.s1.size : Int) < 0) := by omega
  go_enter Try.func16, Try.ntmps16
  by_cases hk : k < 0
  · have HA := Lib.hid (show (d.crash k).h0 = d.h0 by simp [Dk.crash, Dk.kept, Int.toNat_of_nonpos (Int.le_of_lt hk)])
    have HB := Lib.hid (show (d.crash k).h1 = d.h1 by simp [Dk.crash, Dk.kept, Int.toNat_of_nonpos (Int.le_of_lt hk)])
    go_wp2_with fail
    refine wp_loop_rounds 3 ?_
    rw [rounds_succ]
    go_upto_region 4 with fail
    go_region
    go_wp2_with fail
    rw [rounds_succ]
    go_upto_region 4 with fail
    go_region
    go_wp2_with fail
    rw [rounds_succ]
    go_wp2_with fail
    go_returns
    exact ⟨by rw [HA.out, HB.out]; rfl, by go_grown⟩
  · obtain ⟨m, rfl⟩ := Int.eq_ofNat_of_zero_le (show 0 ≤ k by omega)
    have hm0 : (0 : Int) ≤ (m : Int) := by omega
    rcases Int.lt_or_le (d.s0.size : Int) (m : Int) with c0 | c0 <;> rcases Int.lt_or_le (d.s1.size : Int) (m : Int) with c1 | c1
    case' inl.inl => (have HA := Lib.hid (kept_ge c0); have HB := Lib.hid (kept_ge c1))
    case' inl.inr => (have HA := Lib.hid (kept_ge c0); have HB := Lib.hid (kept_lt c1))
    case' inr.inl => (have HA := Lib.hid (kept_lt c0); have HB := Lib.hid (kept_ge c1))
    case' inr.inr => (have HA := Lib.hid (kept_lt c0); have HB := Lib.hid (kept_lt c1))
    all_goals
      go_wp2_with fail
      refine wp_loop_rounds 3 ?_
      rw [rounds_succ]
      go_upto_region 4 with fail
      go_region
      go_wp2_with fail
      rw [rounds_succ]
      go_upto_region 4 with fail
      go_region
      go_wp2_with fail
      rw [rounds_succ]
      go_wp2_with fail
      go_returns
      refine ⟨?_, by go_grown⟩
      unfold Dk.crash
      rw [HA.out, HB.out] <;> first | rfl | simp

end Go.Proofs.Ytpghhobbppkggaa
