/- The walks of wire.Add, Sub, Mul. -/
import Derived.Test.YtckdjaohnmopcaaKit
import Derived.Shelf.Bits.Mul64
import Derived.Shelf.Spec.BitsCarry
namespace Go.Proofs.Ytckdjaohnmopcaa
open Go.RowKit

namespace Wi
def add (a b : Nat) : Nat × Bool := if a + b < 18446744073709551616 then (a + b, true) else (0, false)
def sub (a b : Nat) : Nat × Bool := if b ≤ a then (a - b, true) else (0, false)
def mul (a b : Nat) : Nat × Bool := if a * b < 18446744073709551616 then (a * b, true) else (0, false)
def two (r : Nat × Bool) : Value := .tuple #[.int .u64 (r.1 : Int), .bool r.2]
end Wi

theorem add64_run (x y : Nat) (w : World) : (callFunc 25 #[.int .u64 (x : Int), .int .u64 (y : Int), .int .u64 0]).run Try.prog w =
    .ok (.value (.tuple #[.int .u64 (((x : Int) + (y : Int) + 0) % 18446744073709551616), .int .u64 (((x : Int) + (y : Int) + 0) / 18446744073709551616)])) w := by
  rw [run_callFunc_extern Try.func25 (by kernel_rfl) (by kernel_rfl) (by kernel_rfl) (e := add64Entry) (by kernel_rfl), run_add64 x y 0 (by omega) (by omega) (by omega) (by omega)]
  rfl

theorem sub64_run (x y : Nat) (w : World) : (callFunc 26 #[.int .u64 (x : Int), .int .u64 (y : Int), .int .u64 0]).run Try.prog w =
    .ok (.value (.tuple #[.int .u64 (((x + 18446744073709551616 - y - 0) % 18446744073709551616 : Nat) : Int), .int .u64 ((if x < y + 0 then 1 else 0 : Nat) : Int)])) w := by
  rw [run_callFunc_extern Try.func26 (by kernel_rfl) (by kernel_rfl) (by kernel_rfl) (e := Proofs.sub64Entry) (by kernel_rfl)]
  have := Proofs.run_sub64 (P := Try.prog) x y 0 (by omega) w
  rw [show ((0 : Nat) : Int) = (0 : Int) from rfl] at this
  rw [this]
  rfl

theorem ret_pair {a a' : Int} {b b' : Bool} (h : a = a') (h2 : b = b') : Ending.returned (.tuple #[.int .u64 a, .bool b]) = .returned (.tuple #[.int .u64 a', .bool b']) := by rw [h, h2]

theorem Add_any (a b : Nat) (w : World) (ha : a < 18446744073709551616) (hb : b < 18446744073709551616) :
    Calls Try.prog 12 #[.int .u64 (a : Int), .int .u64 (b : Int)] w fun e w' => e = .returned (Wi.two (Wi.add a b)) ∧ w = w' := by
  have hrun := fun w => add64_run a b w
  by_cases h : a + b < 18446744073709551616
  · have hr := Lib.hid (show Wi.add a b = (a + b, true) from if_pos h)
    rw [show ((a : Int) + (b : Int) + 0) % 18446744073709551616 = ((a + b : Nat) : Int) from by omega, show ((a : Int) + (b : Int) + 0) / 18446744073709551616 = 0 from by omega] at hrun
    generalize a + b = c at hrun hr
    clear h ha hb
    go_enter Try.func12, Try.ntmps12
    go_wp2_with fail
    go_ret2
    exact ⟨by rw [hr.out]; rfl, rfl⟩
  · have hr := Lib.hid (show Wi.add a b = (0, false) from if_neg h)
    obtain ⟨c, hc⟩ : ∃ c : Nat, ((a : Int) + (b : Int) + 0) % 18446744073709551616 = (c : Int) := ⟨(a + b) % 18446744073709551616, by omega⟩
    rw [hc, show ((a : Int) + (b : Int) + 0) / 18446744073709551616 = 1 from by omega] at hrun
    clear h ha hb hc
    go_enter Try.func12, Try.ntmps12
    go_wp2_with fail
    go_ret2
    exact ⟨by rw [hr.out]; rfl, rfl⟩

theorem Sub_any (a b : Nat) (w : World) (ha : a < 18446744073709551616) (hb : b < 18446744073709551616) :
    Calls Try.prog 13 #[.int .u64 (a : Int), .int .u64 (b : Int)] w fun e w' => e = .returned (Wi.two (Wi.sub a b)) ∧ w = w' := by
  have hrun := fun w => sub64_run a b w
  by_cases h : b ≤ a
  · have hr := Lib.hid (show Wi.sub a b = (a - b, true) from if_pos h)
    rw [show (a + 18446744073709551616 - b - 0) % 18446744073709551616 = a - b from by omega, if_neg (by omega)] at hrun
    rw [show ((0 : Nat) : Int) = (0 : Int) from rfl] at hrun
    generalize a - b = c at hrun hr
    clear h ha hb
    go_enter Try.func13, Try.ntmps13
    go_wp2_with fail
    go_ret2
    exact ⟨by rw [hr.out]; rfl, rfl⟩
  · have hr := Lib.hid (show Wi.sub a b = (0, false) from if_neg h)
    rw [if_pos (by omega)] at hrun
    generalize (a + 18446744073709551616 - b - 0) % 18446744073709551616 = c at hrun
    rw [show ((1 : Nat) : Int) = (1 : Int) from rfl] at hrun
    clear h ha hb
    go_enter Try.func13, Try.ntmps13
    go_wp2_with fail
    go_ret2
    exact ⟨by rw [hr.out]; rfl, rfl⟩

set_option maxHeartbeats 1000000 in
theorem Mul64_any (x y : Nat) (hx : x < 18446744073709551616) (hy : y < 18446744073709551616) (w : World) :
    Calls Try.prog 27 #[.int .u64 (x : Int), .int .u64 (y : Int)] w fun e w' => e = .returned (.tuple #[.int .u64 ((x * y / 18446744073709551616 : Nat) : Int), .int .u64 ((x * y % 18446744073709551616 : Nat) : Int)]) ∧ w = w' := by
  obtain ⟨bd, bt, bw, hhi⟩ := Lib.mul64_hi x y hx hy
  have ba := Lib.half_mul_le (a := x / 4294967296) (b := y / 4294967296) (by omega) (by omega)
  have bb := Lib.half_mul_le (a := x / 4294967296) (b := y % 4294967296) (by omega) (by omega)
  have bc := Lib.half_mul_le (a := x % 4294967296) (b := y / 4294967296) (by omega) (by omega)
  have ba' : x / 4294967296 * (y / 4294967296) < 18446744073709551616 := by omega
  have bb' : x / 4294967296 * (y % 4294967296) < 18446744073709551616 := by omega
  have bc' : x % 4294967296 * (y / 4294967296) < 18446744073709551616 := by omega
  have bh1 : x / 4294967296 * (y / 4294967296) + (x / 4294967296 * (y % 4294967296) + x % 4294967296 * (y % 4294967296) / 4294967296) / 4294967296 < 18446744073709551616 := by omega
  have bh : x / 4294967296 * (y / 4294967296) + (x / 4294967296 * (y % 4294967296) + x % 4294967296 * (y % 4294967296) / 4294967296) / 4294967296 + ((x / 4294967296 * (y % 4294967296) + x % 4294967296 * (y % 4294967296) / 4294967296) % 4294967296 + x % 4294967296 * (y / 4294967296)) / 4294967296 < 18446744073709551616 := by omega
  go_enter Try.func27, Try.ntmps27
  go_wp2
  simp only [Mul64.maskN x hx, Mul64.maskN y hy, Mul64.divN, Mul64.mulN, Mul64.addN, Mul64.wrapN _ bd, Mul64.wrapN _ bb', Mul64.wrapN _ bt, Mul64.maskN _ bt, Mul64.wrapN _ bc', Mul64.wrapN _ bw, Mul64.wrapN _ ba', Mul64.wrapN _ bh1, Mul64.wrapN _ bh, Mul64.wrapM (x * y)]
  rw [hhi]
  go_ret2
  exact ⟨rfl, rfl⟩

theorem Mul_any (a b : Nat) (w : World) (ha : a < 18446744073709551616) (hb : b < 18446744073709551616) :
    Calls Try.prog 14 #[.int .u64 (a : Int), .int .u64 (b : Int)] w fun e w' => e = .returned (Wi.two (Wi.mul a b)) ∧ w = w' := by
  have hrun := fun w => Mul64_any a b ha hb w
  by_cases h : a * b < 18446744073709551616
  · have hr := Lib.hid (show Wi.mul a b = (a * b, true) from if_pos h)
    rw [Nat.div_eq_of_lt h, Nat.mod_eq_of_lt h] at hrun
    rw [show ((0 : Nat) : Int) = (0 : Int) from rfl] at hrun
    generalize a * b = c at hrun hr
    have HRUN := Lib.hid hrun
    clear h ha hb hrun
    go_enter Try.func14, Try.ntmps14
    go_wp2_with fail
    refine (HRUN.out _).mono ?_
    rintro e w1 ⟨rfl, rfl⟩
    go_wp2_with fail
    go_ret2
    exact ⟨by rw [hr.out]; rfl, rfl⟩
  · have hr := Lib.hid (show Wi.mul a b = (0, false) from if_neg h)
    have hq : 1 ≤ a * b / 18446744073709551616 := by
      rw [Nat.le_div_iff_mul_le (by decide)]; omega
    generalize a * b / 18446744073709551616 = q at hrun hq
    generalize a * b % 18446744073709551616 = c at hrun
    have hq0 : ¬ ((q : Int) = 0) := by omega
    have HRUN := Lib.hid hrun
    clear h ha hb hrun hq
    go_enter Try.func14, Try.ntmps14
    go_wp2_with fail
    refine (HRUN.out _).mono ?_
    rintro e w1 ⟨rfl, rfl⟩
    have hq1 : ((q : Int) != 0) = true := by simpa using hq0
    go_wp2_with fail
    go_ret2
    exact ⟨by rw [hr.out]; rfl, rfl⟩

end Go.Proofs.Ytckdjaohnmopcaa
