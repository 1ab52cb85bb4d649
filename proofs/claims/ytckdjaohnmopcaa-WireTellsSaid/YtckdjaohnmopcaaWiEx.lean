/- The walk of the chapter's examples. -/
import Derived.Test.YtckdjaohnmopcaaWiGetText
import Derived.Test.YtckdjaohnmopcaaWiMath
namespace Go.Proofs.Ytckdjaohnmopcaa
open Go.RowKit

theorem ex_put (w : World) : Calls Try.prog 11 #[.int .u64 300] w fun e w' => e = .returned (.string ⟨#[172, 2]⟩) ∧ Below w.heap.size w w' := by
  have := Put_any 300 w (by omega)
  rw [show (⟨(Wi.put 300).toArray⟩ : ByteArray) = ⟨#[172, 2]⟩ from by kernel_rfl] at this
  exact this
theorem ex_get1 (w : World) : Calls Try.prog 10 #[.string (⟨#[120]⟩ ++ ⟨#[172, 2]⟩), .int .i64 1] w fun e w' => e = .returned (.tuple #[.int .u64 300, .int .i64 3, .bool true]) ∧ Below w.heap.size w w' := by
  have := Get_any (⟨#[120]⟩ ++ ⟨#[172, 2]⟩) 1 w (by decide)
  rw [show Wi.get (⟨#[120]⟩ ++ ⟨#[172, 2]⟩) 1 = (300, 3, true) from by kernel_rfl] at this
  exact this
theorem ex_get2 (w : World) : Calls Try.prog 10 #[.string ⟨#[172, 128, 0]⟩, .int .i64 0] w fun e w' => e = .returned (.tuple #[.int .u64 0, .int .i64 0, .bool false]) ∧ Below w.heap.size w w' := by
  have := Get_any ⟨#[172, 128, 0]⟩ 0 w (by decide)
  rw [show Wi.get ⟨#[172, 128, 0]⟩ 0 = (0, 0, false) from by kernel_rfl] at this
  exact this
theorem ex_text1 (w : World) : Calls Try.prog 16 #[.string ⟨#[2, 97, 98]⟩, .int .i64 0, .int .i64 2] w fun e w' => e = .returned (.tuple #[.string ⟨#[97, 98]⟩, .int .i64 3, .bool true]) ∧ Below w.heap.size w w' := by
  have := GetText_any ⟨#[2, 97, 98]⟩ 0 2 w (by decide)
  rw [show Wi.getText ⟨#[2, 97, 98]⟩ 0 2 = (⟨#[97, 98]⟩, 3, true) from by kernel_rfl] at this
  exact this
theorem ex_text2 (w : World) : Calls Try.prog 16 #[.string ⟨#[2, 97, 98]⟩, .int .i64 0, .int .i64 1] w fun e w' => e = .returned (.tuple #[.string ⟨#[]⟩, .int .i64 0, .bool false]) ∧ Below w.heap.size w w' := by
  have := GetText_any ⟨#[2, 97, 98]⟩ 0 1 w (by decide)
  rw [show Wi.getText ⟨#[2, 97, 98]⟩ 0 1 = (⟨#[]⟩, 0, false) from by kernel_rfl] at this
  exact this
theorem ex_add1 (w : World) : Calls Try.prog 12 #[.int .u64 9223372036854775808, .int .u64 9223372036854775807] w fun e w' => e = .returned (.tuple #[.int .u64 18446744073709551615, .bool true]) ∧ w = w' :=
  Add_any 9223372036854775808 9223372036854775807 w (by omega) (by omega)
theorem ex_add2 (w : World) : Calls Try.prog 12 #[.int .u64 9223372036854775808, .int .u64 9223372036854775808] w fun e w' => e = .returned (.tuple #[.int .u64 0, .bool false]) ∧ w = w' :=
  Add_any 9223372036854775808 9223372036854775808 w (by omega) (by omega)
theorem ex_sub1 (w : World) : Calls Try.prog 13 #[.int .u64 7, .int .u64 7] w fun e w' => e = .returned (.tuple #[.int .u64 0, .bool true]) ∧ w = w' :=
  Sub_any 7 7 w (by omega) (by omega)
theorem ex_sub2 (w : World) : Calls Try.prog 13 #[.int .u64 7, .int .u64 8] w fun e w' => e = .returned (.tuple #[.int .u64 0, .bool false]) ∧ w = w' :=
  Sub_any 7 8 w (by omega) (by omega)
theorem ex_mul1 (w : World) : Calls Try.prog 14 #[.int .u64 4294967296, .int .u64 2147483648] w fun e w' => e = .returned (.tuple #[.int .u64 9223372036854775808, .bool true]) ∧ w = w' :=
  Mul_any 4294967296 2147483648 w (by omega) (by omega)
theorem ex_mul2 (w : World) : Calls Try.prog 14 #[.int .u64 4294967296, .int .u64 4294967296] w fun e w' => e = .returned (.tuple #[.int .u64 0, .bool false]) ∧ w = w' :=
  Mul_any 4294967296 4294967296 w (by omega) (by omega)

set_option maxRecDepth 100000 in
set_option maxHeartbeats 4000000 in
theorem examples_any (w : World) :
    Calls Try.prog 9 #[] w fun e w' => e = .returned (.bool true) ∧ Below w.heap.size w w' := by
  go_enter Try.func9, Try.ntmps9
  go_wp2_with fail
  refine (ex_put _).mono ?_
  rintro e w1 ⟨rfl, hb1⟩
  go_wp2_with fail
  refine (ex_get1 _).mono ?_
  rintro e w2 ⟨rfl, hb2⟩
  go_wp2_with fail
  refine (ex_get2 _).mono ?_
  rintro e w3 ⟨rfl, hb3⟩
  go_wp2_with fail
  refine (ex_text1 _).mono ?_
  rintro e w4 ⟨rfl, hb4⟩
  go_wp2_with fail
  refine (ex_text2 _).mono ?_
  rintro e w5 ⟨rfl, hb5⟩
  go_wp2_with fail
  refine (ex_add1 _).mono ?_
  rintro e w6 ⟨rfl, rfl⟩
  go_wp2_with fail
  refine (ex_add2 _).mono ?_
  rintro e w6 ⟨rfl, rfl⟩
  go_wp2_with fail
  refine (ex_sub1 _).mono ?_
  rintro e w6 ⟨rfl, rfl⟩
  go_wp2_with fail
  refine (ex_sub2 _).mono ?_
  rintro e w6 ⟨rfl, rfl⟩
  go_wp2_with fail
  refine (ex_mul1 _).mono ?_
  rintro e w6 ⟨rfl, rfl⟩
  go_wp2_with fail
  refine (ex_mul2 _).mono ?_
  rintro e w6 ⟨rfl, rfl⟩
  go_wp2_with fail
  refine (ex_put _).mono ?_
  rintro e w6 ⟨rfl, hb6⟩
  go_wp2_with fail
  go_ret
  exact ⟨rfl, below4 hb1 (below4 hb2 (below4 hb3 (below4 hb4 (below4 hb5 hb6))))⟩

end Go.Proofs.Ytckdjaohnmopcaa
