/- The walk of demesnelaw09.examples. -/
import Derived.Test.YtpghhobbppkggaaDkWrite2
namespace Go.Proofs.Ytpghhobbppkggaa
open Go.RowKit

theorem ex_new (w : World) : Calls Try.prog 26 #[.int .i64 9] w fun e w' => e = .returned (.agg #[.int .i64 9, .string ⟨#[]⟩, .string ⟨#[]⟩, .string ⟨#[]⟩, .string ⟨#[]⟩, .bool false, .int .i64 (-1), .int .i64 0]) ∧ Below w.heap.size w w' := new_any 9 w
theorem ex_w1 (w : World) : Calls Try.prog 10 #[.agg #[.int .i64 9, .string ⟨#[]⟩, .string ⟨#[]⟩, .string ⟨#[]⟩, .string ⟨#[]⟩, .bool false, .int .i64 (-1), .int .i64 0], .int .i64 0, .string ⟨#[97, 98, 99]⟩] w fun e w' => e = .returned (.tuple #[.agg #[.int .i64 9, .string ⟨#[]⟩, .string ⟨#[97, 98, 99]⟩, .string ⟨#[]⟩, .string ⟨#[]⟩, .bool false, .int .i64 (-1), .int .i64 0], .int .i64 0]) ∧ Below w.heap.size w w' := by
  have h : Dk.write (Dk.mk 9 ⟨#[]⟩ ⟨#[]⟩ ⟨#[]⟩ ⟨#[]⟩ false (-1) 0) 0 ⟨#[97, 98, 99]⟩ = ((Dk.mk 9 ⟨#[]⟩ ⟨#[97, 98, 99]⟩ ⟨#[]⟩ ⟨#[]⟩ false (-1) 0), 0) := by first | rfl | decide +kernel
  have := write_any (Dk.mk 9 ⟨#[]⟩ ⟨#[]⟩ ⟨#[]⟩ ⟨#[]⟩ false (-1) 0) 0 ⟨#[97, 98, 99]⟩ w (by decide) (by decide) (by decide)
  rw [h] at this
  exact this
theorem ex_c (w : World) : Calls Try.prog 16 #[.agg #[.int .i64 9, .string ⟨#[]⟩, .string ⟨#[97, 98, 99]⟩, .string ⟨#[]⟩, .string ⟨#[]⟩, .bool false, .int .i64 (-1), .int .i64 0], .int .i64 2] w fun e w' => e = .returned (.agg #[.int .i64 9, .string ⟨#[97, 98]⟩, .string ⟨#[]⟩, .string ⟨#[]⟩, .string ⟨#[]⟩, .bool true, .int .i64 (-1), .int .i64 0]) ∧ Below w.heap.size w w' := by
  have h : Dk.crash (Dk.mk 9 ⟨#[]⟩ ⟨#[97, 98, 99]⟩ ⟨#[]⟩ ⟨#[]⟩ false (-1) 0) 2 = (Dk.mk 9 ⟨#[97, 98]⟩ ⟨#[]⟩ ⟨#[]⟩ ⟨#[]⟩ true (-1) 0) := by first | rfl | decide +kernel
  have := crash_any (Dk.mk 9 ⟨#[]⟩ ⟨#[97, 98, 99]⟩ ⟨#[]⟩ ⟨#[]⟩ false (-1) 0) 2 w (by decide)
  rw [h] at this
  exact this
theorem ex_s (w : World) : Calls Try.prog 12 #[.agg #[.int .i64 9, .string ⟨#[]⟩, .string ⟨#[97, 98, 99]⟩, .string ⟨#[]⟩, .string ⟨#[]⟩, .bool false, .int .i64 (-1), .int .i64 0], .int .i64 0] w fun e w' => e = .returned (.tuple #[.agg #[.int .i64 9, .string ⟨#[97, 98, 99]⟩, .string ⟨#[]⟩, .string ⟨#[]⟩, .string ⟨#[]⟩, .bool false, .int .i64 (-1), .int .i64 0], .int .i64 0]) ∧ Below w.heap.size w w' := by
  have h : Dk.sync (Dk.mk 9 ⟨#[]⟩ ⟨#[97, 98, 99]⟩ ⟨#[]⟩ ⟨#[]⟩ false (-1) 0) 0 = ((Dk.mk 9 ⟨#[97, 98, 99]⟩ ⟨#[]⟩ ⟨#[]⟩ ⟨#[]⟩ false (-1) 0), 0) := by first | rfl | decide +kernel
  have := sync_any (Dk.mk 9 ⟨#[]⟩ ⟨#[97, 98, 99]⟩ ⟨#[]⟩ ⟨#[]⟩ false (-1) 0) 0 w (by decide) (by decide)
  rw [h] at this
  exact this
theorem ex_w2 (w : World) : Calls Try.prog 10 #[.agg #[.int .i64 9, .string ⟨#[]⟩, .string ⟨#[97, 98, 99]⟩, .string ⟨#[]⟩, .string ⟨#[]⟩, .bool false, .int .i64 (-1), .int .i64 0], .int .i64 1, .string ⟨#[49, 50, 51, 52, 53, 54, 55]⟩] w fun e w' => e = .returned (.tuple #[.agg #[.int .i64 9, .string ⟨#[]⟩, .string ⟨#[97, 98, 99]⟩, .string ⟨#[]⟩, .string ⟨#[]⟩, .bool false, .int .i64 (-1), .int .i64 0], .int .i64 9]) ∧ Below w.heap.size w w' := by
  have h : Dk.write (Dk.mk 9 ⟨#[]⟩ ⟨#[97, 98, 99]⟩ ⟨#[]⟩ ⟨#[]⟩ false (-1) 0) 1 ⟨#[49, 50, 51, 52, 53, 54, 55]⟩ = ((Dk.mk 9 ⟨#[]⟩ ⟨#[97, 98, 99]⟩ ⟨#[]⟩ ⟨#[]⟩ false (-1) 0), 9) := by first | rfl | decide +kernel
  have := write_any (Dk.mk 9 ⟨#[]⟩ ⟨#[97, 98, 99]⟩ ⟨#[]⟩ ⟨#[]⟩ false (-1) 0) 1 ⟨#[49, 50, 51, 52, 53, 54, 55]⟩ w (by decide) (by decide) (by decide)
  rw [h] at this
  exact this
theorem ex_w3 (w : World) : Calls Try.prog 10 #[.agg #[.int .i64 9, .string ⟨#[97, 98]⟩, .string ⟨#[]⟩, .string ⟨#[]⟩, .string ⟨#[]⟩, .bool true, .int .i64 (-1), .int .i64 0], .int .i64 0, .string ⟨#[120]⟩] w fun e w' => e = .returned (.tuple #[.agg #[.int .i64 9, .string ⟨#[97, 98]⟩, .string ⟨#[]⟩, .string ⟨#[]⟩, .string ⟨#[]⟩, .bool true, .int .i64 (-1), .int .i64 0], .int .i64 12]) ∧ Below w.heap.size w w' := by
  have h : Dk.write (Dk.mk 9 ⟨#[97, 98]⟩ ⟨#[]⟩ ⟨#[]⟩ ⟨#[]⟩ true (-1) 0) 0 ⟨#[120]⟩ = ((Dk.mk 9 ⟨#[97, 98]⟩ ⟨#[]⟩ ⟨#[]⟩ ⟨#[]⟩ true (-1) 0), 12) := by first | rfl | decide +kernel
  have := write_any (Dk.mk 9 ⟨#[97, 98]⟩ ⟨#[]⟩ ⟨#[]⟩ ⟨#[]⟩ true (-1) 0) 0 ⟨#[120]⟩ w (by decide) (by decide) (by decide)
  rw [h] at this
  exact this
theorem ex_a (w : World) : Calls Try.prog 18 #[.agg #[.int .i64 9, .string ⟨#[97, 98, 99]⟩, .string ⟨#[]⟩, .string ⟨#[]⟩, .string ⟨#[]⟩, .bool false, .int .i64 (-1), .int .i64 0], .int .i64 0, .int .i64 1] w fun e w' => e = .returned (.agg #[.int .i64 9, .string ⟨#[97, 98, 99]⟩, .string ⟨#[]⟩, .string ⟨#[]⟩, .string ⟨#[]⟩, .bool false, .int .i64 0, .int .i64 1]) ∧ Below w.heap.size w w' := by
  have h : Dk.arm (Dk.mk 9 ⟨#[97, 98, 99]⟩ ⟨#[]⟩ ⟨#[]⟩ ⟨#[]⟩ false (-1) 0) 0 1 = (Dk.mk 9 ⟨#[97, 98, 99]⟩ ⟨#[]⟩ ⟨#[]⟩ ⟨#[]⟩ false 0 1) := by first | rfl | decide +kernel
  have := arm_any (Dk.mk 9 ⟨#[97, 98, 99]⟩ ⟨#[]⟩ ⟨#[]⟩ ⟨#[]⟩ false (-1) 0) 0 1 w
  rw [h] at this
  exact this
theorem ex_w4 (w : World) : Calls Try.prog 10 #[.agg #[.int .i64 9, .string ⟨#[97, 98, 99]⟩, .string ⟨#[]⟩, .string ⟨#[]⟩, .string ⟨#[]⟩, .bool false, .int .i64 0, .int .i64 1], .int .i64 0, .string ⟨#[100, 101]⟩] w fun e w' => e = .returned (.tuple #[.agg #[.int .i64 9, .string ⟨#[97, 98, 99, 100]⟩, .string ⟨#[]⟩, .string ⟨#[]⟩, .string ⟨#[]⟩, .bool true, .int .i64 (-1), .int .i64 1], .int .i64 12]) ∧ Below w.heap.size w w' := by
  have h : Dk.write (Dk.mk 9 ⟨#[97, 98, 99]⟩ ⟨#[]⟩ ⟨#[]⟩ ⟨#[]⟩ false 0 1) 0 ⟨#[100, 101]⟩ = ((Dk.mk 9 ⟨#[97, 98, 99, 100]⟩ ⟨#[]⟩ ⟨#[]⟩ ⟨#[]⟩ true (-1) 1), 12) := by first | rfl | decide +kernel
  have := write_any (Dk.mk 9 ⟨#[97, 98, 99]⟩ ⟨#[]⟩ ⟨#[]⟩ ⟨#[]⟩ false 0 1) 0 ⟨#[100, 101]⟩ w (by decide) (by decide) (by decide)
  rw [h] at this
  exact this
theorem ex_k (w : World) : Calls Try.prog 14 #[.agg #[.int .i64 9, .string ⟨#[97, 98, 99]⟩, .string ⟨#[]⟩, .string ⟨#[]⟩, .string ⟨#[]⟩, .bool false, .int .i64 (-1), .int .i64 0], .int .i64 0, .int .i64 1] w fun e w' => e = .returned (.tuple #[.agg #[.int .i64 9, .string ⟨#[97]⟩, .string ⟨#[]⟩, .string ⟨#[]⟩, .string ⟨#[]⟩, .bool false, .int .i64 (-1), .int .i64 0], .int .i64 0]) ∧ Below w.heap.size w w' := by
  have h : Dk.cut (Dk.mk 9 ⟨#[97, 98, 99]⟩ ⟨#[]⟩ ⟨#[]⟩ ⟨#[]⟩ false (-1) 0) 0 1 = ((Dk.mk 9 ⟨#[97]⟩ ⟨#[]⟩ ⟨#[]⟩ ⟨#[]⟩ false (-1) 0), 0) := by first | rfl | decide +kernel
  have := cut_any (Dk.mk 9 ⟨#[97, 98, 99]⟩ ⟨#[]⟩ ⟨#[]⟩ ⟨#[]⟩ false (-1) 0) 0 1 w (by decide) (by decide) (by decide)
  rw [h] at this
  exact this
theorem ex_s2 (w : World) : Calls Try.prog 12 #[.agg #[.int .i64 9, .string ⟨#[]⟩, .string ⟨#[97, 98, 99]⟩, .string ⟨#[]⟩, .string ⟨#[]⟩, .bool false, .int .i64 (-1), .int .i64 0], .int .i64 2] w fun e w' => e = .returned (.tuple #[.agg #[.int .i64 9, .string ⟨#[]⟩, .string ⟨#[97, 98, 99]⟩, .string ⟨#[]⟩, .string ⟨#[]⟩, .bool false, .int .i64 (-1), .int .i64 0], .int .i64 1]) ∧ Below w.heap.size w w' := by
  have h : Dk.sync (Dk.mk 9 ⟨#[]⟩ ⟨#[97, 98, 99]⟩ ⟨#[]⟩ ⟨#[]⟩ false (-1) 0) 2 = ((Dk.mk 9 ⟨#[]⟩ ⟨#[97, 98, 99]⟩ ⟨#[]⟩ ⟨#[]⟩ false (-1) 0), 1) := by first | rfl | decide +kernel
  have := sync_any (Dk.mk 9 ⟨#[]⟩ ⟨#[97, 98, 99]⟩ ⟨#[]⟩ ⟨#[]⟩ false (-1) 0) 2 w (by decide) (by decide)
  rw [h] at this
  exact this
theorem ex_r1 (w : World) : Calls Try.prog 24 #[.agg #[.int .i64 9, .string ⟨#[97, 98]⟩, .string ⟨#[]⟩, .string ⟨#[]⟩, .string ⟨#[]⟩, .bool true, .int .i64 (-1), .int .i64 0], .int .i64 0] w fun e w' => e = .returned (.string ⟨#[97, 98]⟩) ∧ Below w.heap.size w w' := by
  have h : Dk.read (Dk.mk 9 ⟨#[97, 98]⟩ ⟨#[]⟩ ⟨#[]⟩ ⟨#[]⟩ true (-1) 0) 0 = ⟨#[97, 98]⟩ := by first | rfl | decide +kernel
  have := read_any (Dk.mk 9 ⟨#[97, 98]⟩ ⟨#[]⟩ ⟨#[]⟩ ⟨#[]⟩ true (-1) 0) 0 w (by decide)
  rw [h] at this
  exact this
theorem ex_r2 (w : World) : Calls Try.prog 24 #[.agg #[.int .i64 9, .string ⟨#[97, 98, 99, 100]⟩, .string ⟨#[]⟩, .string ⟨#[]⟩, .string ⟨#[]⟩, .bool true, .int .i64 (-1), .int .i64 1], .int .i64 0] w fun e w' => e = .returned (.string ⟨#[97, 98, 99, 100]⟩) ∧ Below w.heap.size w w' := by
  have h : Dk.read (Dk.mk 9 ⟨#[97, 98, 99, 100]⟩ ⟨#[]⟩ ⟨#[]⟩ ⟨#[]⟩ true (-1) 1) 0 = ⟨#[97, 98, 99, 100]⟩ := by first | rfl | decide +kernel
  have := read_any (Dk.mk 9 ⟨#[97, 98, 99, 100]⟩ ⟨#[]⟩ ⟨#[]⟩ ⟨#[]⟩ true (-1) 1) 0 w (by decide)
  rw [h] at this
  exact this
theorem ex_r3 (w : World) : Calls Try.prog 24 #[.agg #[.int .i64 9, .string ⟨#[97]⟩, .string ⟨#[]⟩, .string ⟨#[]⟩, .string ⟨#[]⟩, .bool false, .int .i64 (-1), .int .i64 0], .int .i64 0] w fun e w' => e = .returned (.string ⟨#[97]⟩) ∧ Below w.heap.size w w' := by
  have h : Dk.read (Dk.mk 9 ⟨#[97]⟩ ⟨#[]⟩ ⟨#[]⟩ ⟨#[]⟩ false (-1) 0) 0 = ⟨#[97]⟩ := by first | rfl | decide +kernel
  have := read_any (Dk.mk 9 ⟨#[97]⟩ ⟨#[]⟩ ⟨#[]⟩ ⟨#[]⟩ false (-1) 0) 0 w (by decide)
  rw [h] at this
  exact this
theorem ex_u (w : World) : Calls Try.prog 22 #[.agg #[.int .i64 9, .string ⟨#[]⟩, .string ⟨#[97, 98, 99]⟩, .string ⟨#[]⟩, .string ⟨#[]⟩, .bool false, .int .i64 (-1), .int .i64 0]] w fun e w' => e = .returned (.int .i64 3) ∧ Below w.heap.size w w' := by
  have := used_any (Dk.mk 9 ⟨#[]⟩ ⟨#[97, 98, 99]⟩ ⟨#[]⟩ ⟨#[]⟩ false (-1) 0) w (by decide)
  exact this
theorem ex_st (w : World) : Calls Try.prog 20 #[.agg #[.int .i64 9, .string ⟨#[97, 98]⟩, .string ⟨#[]⟩, .string ⟨#[]⟩, .string ⟨#[]⟩, .bool true, .int .i64 (-1), .int .i64 0]] w fun e w' => e = .returned (.agg #[.int .i64 9, .string ⟨#[97, 98]⟩, .string ⟨#[]⟩, .string ⟨#[]⟩, .string ⟨#[]⟩, .bool false, .int .i64 (-1), .int .i64 0]) ∧ Below w.heap.size w w' := start_any (Dk.mk 9 ⟨#[97, 98]⟩ ⟨#[]⟩ ⟨#[]⟩ ⟨#[]⟩ true (-1) 0) w

set_option maxRecDepth 100000 in
set_option maxHeartbeats 4000000 in
theorem examples_any (w : World) : Calls Try.prog 8 #[] w fun e w' => e = .returned (.bool true) ∧ Below w.heap.size w w' := by
  go_enter Try.func8, Try.ntmps8
  go_wp2_with fail
  refine (ex_new _).mono ?_
  rintro e w0 ⟨rfl, hb0⟩
  go_wp2_with fail
  have HB0 := Lib.hid hb0; clear hb0
  refine (ex_w1 _).mono ?_
  rintro e w1 ⟨rfl, hb1⟩
  have hs1 := hb1.size
  have hB1 := HB0.out.trans (hb1.mono HB0.out.size)
  clear hb1 HB0
  have HB1 := Lib.hid hB1; clear hB1
  obtain ⟨ga, hgga⟩ : ∃ g, w1.heap.size = g := ⟨_, rfl⟩
  go_wp2_with fail
  refine (ex_c _).mono ?_
  rintro e w2 ⟨rfl, hb2⟩
  have Rga := Row.below (Row.at hgga rfl : Row _ ga [.int .i64 9, .string ⟨#[]⟩, .string ⟨#[97, 98, 99]⟩, .string ⟨#[]⟩, .string ⟨#[]⟩, .bool false, .int .i64 (-1), .int .i64 0]) hb2 (by simp; omega)
  have hs2 := hb2.size
  simp at hs2
  have hB2 : Below w.heap.size w w2 := Below.trans (Below.alloc HB1.out HB1.out.size _) (hb2.mono (by have := HB1.out.size; simp; omega))
  clear hb2 HB1
  have HB2 := Lib.hid hB2; clear hB2
  have HRga := Lib.hid Rga; clear Rga
  obtain ⟨gb, hggb⟩ : ∃ g, w2.heap.size = g := ⟨_, rfl⟩
  have lga_gb : ga < gb := by omega
  obtain ⟨cga0, cga1, cga2, cga3, cga4, cga5, cga6, cga7, _, _, _, _, _, _, _, _⟩ := Row.eight HRga.out
  go_wp2_with fail
  clear cga0 cga1 cga2 cga3 cga4 cga5 cga6 cga7
  refine (ex_s _).mono ?_
  rintro e w3 ⟨rfl, hb3⟩
  have Rga := Row.below (Row.alloc HRga.out (by omega) _) hb3 (by simp; omega)
  have Rgb := Row.below (Row.at hggb rfl : Row _ gb [.int .i64 9, .string ⟨#[97, 98]⟩, .string ⟨#[]⟩, .string ⟨#[]⟩, .string ⟨#[]⟩, .bool true, .int .i64 (-1), .int .i64 0]) hb3 (by simp; omega)
  have hs3 := hb3.size
  simp at hs3
  have hB3 : Below w.heap.size w w3 := Below.trans (Below.alloc HB2.out HB2.out.size _) (hb3.mono (by have := HB2.out.size; simp; omega))
  clear hb3 HB2 HRga
  have HB3 := Lib.hid hB3; clear hB3
  have HRga := Lib.hid Rga; clear Rga
  have HRgb := Lib.hid Rgb; clear Rgb
  obtain ⟨gc, hggc⟩ : ∃ g, w3.heap.size = g := ⟨_, rfl⟩
  have lga_gc : ga < gc := by omega
  have lgb_gc : gb < gc := by omega
  obtain ⟨cga0, cga1, cga2, cga3, cga4, cga5, cga6, cga7, _, _, _, _, _, _, _, _⟩ := Row.eight HRga.out
  go_wp2_with fail
  clear cga0 cga1 cga2 cga3 cga4 cga5 cga6 cga7
  refine (ex_w2 _).mono ?_
  rintro e w4 ⟨rfl, hb4⟩
  have Rga := Row.below (Row.alloc HRga.out (by omega) _) hb4 (by simp; omega)
  have Rgb := Row.below (Row.alloc HRgb.out (by omega) _) hb4 (by simp; omega)
  have Rgc := Row.below (Row.at hggc rfl : Row _ gc [.int .i64 9, .string ⟨#[97, 98, 99]⟩, .string ⟨#[]⟩, .string ⟨#[]⟩, .string ⟨#[]⟩, .bool false, .int .i64 (-1), .int .i64 0]) hb4 (by simp; omega)
  have hs4 := hb4.size
  simp at hs4
  have hB4 : Below w.heap.size w w4 := Below.trans (Below.alloc HB3.out HB3.out.size _) (hb4.mono (by have := HB3.out.size; simp; omega))
  clear hb4 HB3 HRga HRgb
  have HB4 := Lib.hid hB4; clear hB4
  have HRga := Lib.hid Rga; clear Rga
  have HRgb := Lib.hid Rgb; clear Rgb
  have HRgc := Lib.hid Rgc; clear Rgc
  obtain ⟨gd, hggd⟩ : ∃ g, w4.heap.size = g := ⟨_, rfl⟩
  have lga_gd : ga < gd := by omega
  have lgb_gd : gb < gd := by omega
  have lgc_gd : gc < gd := by omega
  obtain ⟨cgb0, cgb1, cgb2, cgb3, cgb4, cgb5, cgb6, cgb7, _, _, _, _, _, _, _, _⟩ := Row.eight HRgb.out
  go_wp2_with fail
  clear cgb0 cgb1 cgb2 cgb3 cgb4 cgb5 cgb6 cgb7
  refine (ex_w3 _).mono ?_
  rintro e w5 ⟨rfl, hb5⟩
  have Rga := Row.below (Row.alloc HRga.out (by omega) _) hb5 (by simp; omega)
  have Rgb := Row.below (Row.alloc HRgb.out (by omega) _) hb5 (by simp; omega)
  have Rgc := Row.below (Row.alloc HRgc.out (by omega) _) hb5 (by simp; omega)
  have Rgd := Row.below (Row.at hggd rfl : Row _ gd [.int .i64 9, .string ⟨#[]⟩, .string ⟨#[97, 98, 99]⟩, .string ⟨#[]⟩, .string ⟨#[]⟩, .bool false, .int .i64 (-1), .int .i64 0]) hb5 (by simp; omega)
  have hs5 := hb5.size
  simp at hs5
  have hB5 : Below w.heap.size w w5 := Below.trans (Below.alloc HB4.out HB4.out.size _) (hb5.mono (by have := HB4.out.size; simp; omega))
  clear hb5 HB4 HRga HRgb HRgc
  have HB5 := Lib.hid hB5; clear hB5
  have HRga := Lib.hid Rga; clear Rga
  have HRgb := Lib.hid Rgb; clear Rgb
  have HRgc := Lib.hid Rgc; clear Rgc
  have HRgd := Lib.hid Rgd; clear Rgd
  obtain ⟨ge, hgge⟩ : ∃ g, w5.heap.size = g := ⟨_, rfl⟩
  have lga_ge : ga < ge := by omega
  have lgb_ge : gb < ge := by omega
  have lgc_ge : gc < ge := by omega
  have lgd_ge : gd < ge := by omega
  obtain ⟨cgc0, cgc1, cgc2, cgc3, cgc4, cgc5, cgc6, cgc7, _, _, _, _, _, _, _, _⟩ := Row.eight HRgc.out
  go_wp2_with fail
  clear cgc0 cgc1 cgc2 cgc3 cgc4 cgc5 cgc6 cgc7
  refine (ex_a _).mono ?_
  rintro e w6 ⟨rfl, hb6⟩
  have Rga := Row.below (Row.alloc HRga.out (by omega) _) hb6 (by simp; omega)
  have Rgb := Row.below (Row.alloc HRgb.out (by omega) _) hb6 (by simp; omega)
  have Rgc := Row.below (Row.alloc HRgc.out (by omega) _) hb6 (by simp; omega)
  have Rgd := Row.below (Row.alloc HRgd.out (by omega) _) hb6 (by simp; omega)
  have Rge := Row.below (Row.at hgge rfl : Row _ ge [.int .i64 9, .string ⟨#[97, 98]⟩, .string ⟨#[]⟩, .string ⟨#[]⟩, .string ⟨#[]⟩, .bool true, .int .i64 (-1), .int .i64 0]) hb6 (by simp; omega)
  have hs6 := hb6.size
  simp at hs6
  have hB6 : Below w.heap.size w w6 := Below.trans (Below.alloc HB5.out HB5.out.size _) (hb6.mono (by have := HB5.out.size; simp; omega))
  clear hb6 HB5 HRga HRgb HRgc HRgd
  have HB6 := Lib.hid hB6; clear hB6
  have HRga := Lib.hid Rga; clear Rga
  have HRgb := Lib.hid Rgb; clear Rgb
  have HRgc := Lib.hid Rgc; clear Rgc
  have HRgd := Lib.hid Rgd; clear Rgd
  have HRge := Lib.hid Rge; clear Rge
  go_wp2_with fail
  refine (ex_w4 _).mono ?_
  rintro e w7 ⟨rfl, hb7⟩
  have Rga := Row.below HRga.out hb7 (by omega)
  have Rgb := Row.below HRgb.out hb7 (by omega)
  have Rgc := Row.below HRgc.out hb7 (by omega)
  have Rgd := Row.below HRgd.out hb7 (by omega)
  have Rge := Row.below HRge.out hb7 (by omega)
  have hs7 := hb7.size
  have hB7 := HB6.out.trans (hb7.mono HB6.out.size)
  clear hb7 HB6 HRga HRgb HRgc HRgd HRge
  have HB7 := Lib.hid hB7; clear hB7
  have HRga := Lib.hid Rga; clear Rga
  have HRgb := Lib.hid Rgb; clear Rgb
  have HRgc := Lib.hid Rgc; clear Rgc
  have HRgd := Lib.hid Rgd; clear Rgd
  have HRge := Lib.hid Rge; clear Rge
  obtain ⟨gf, hggf⟩ : ∃ g, w7.heap.size = g := ⟨_, rfl⟩
  have lga_gf : ga < gf := by omega
  have lgb_gf : gb < gf := by omega
  have lgc_gf : gc < gf := by omega
  have lgd_gf : gd < gf := by omega
  have lge_gf : ge < gf := by omega
  obtain ⟨cgc0, cgc1, cgc2, cgc3, cgc4, cgc5, cgc6, cgc7, _, _, _, _, _, _, _, _⟩ := Row.eight HRgc.out
  go_wp2_with fail
  clear cgc0 cgc1 cgc2 cgc3 cgc4 cgc5 cgc6 cgc7
  refine (ex_k _).mono ?_
  rintro e w8 ⟨rfl, hb8⟩
  have Rga := Row.below (Row.alloc HRga.out (by omega) _) hb8 (by simp; omega)
  have Rgb := Row.below (Row.alloc HRgb.out (by omega) _) hb8 (by simp; omega)
  have Rgc := Row.below (Row.alloc HRgc.out (by omega) _) hb8 (by simp; omega)
  have Rgd := Row.below (Row.alloc HRgd.out (by omega) _) hb8 (by simp; omega)
  have Rge := Row.below (Row.alloc HRge.out (by omega) _) hb8 (by simp; omega)
  have Rgf := Row.below (Row.at hggf rfl : Row _ gf [.int .i64 9, .string ⟨#[97, 98, 99, 100]⟩, .string ⟨#[]⟩, .string ⟨#[]⟩, .string ⟨#[]⟩, .bool true, .int .i64 (-1), .int .i64 1]) hb8 (by simp; omega)
  have hs8 := hb8.size
  simp at hs8
  have hB8 : Below w.heap.size w w8 := Below.trans (Below.alloc HB7.out HB7.out.size _) (hb8.mono (by have := HB7.out.size; simp; omega))
  clear hb8 HB7 HRga HRgb HRgc HRgd HRge
  have HB8 := Lib.hid hB8; clear hB8
  have HRga := Lib.hid Rga; clear Rga
  have HRgb := Lib.hid Rgb; clear Rgb
  have HRgc := Lib.hid Rgc; clear Rgc
  have HRgd := Lib.hid Rgd; clear Rgd
  have HRge := Lib.hid Rge; clear Rge
  have HRgf := Lib.hid Rgf; clear Rgf
  obtain ⟨gh, hggh⟩ : ∃ g, w8.heap.size = g := ⟨_, rfl⟩
  have lga_gh : ga < gh := by omega
  have lgb_gh : gb < gh := by omega
  have lgc_gh : gc < gh := by omega
  have lgd_gh : gd < gh := by omega
  have lge_gh : ge < gh := by omega
  have lgf_gh : gf < gh := by omega
  obtain ⟨cga0, cga1, cga2, cga3, cga4, cga5, cga6, cga7, _, _, _, _, _, _, _, _⟩ := Row.eight HRga.out
  go_wp2_with fail
  clear cga0 cga1 cga2 cga3 cga4 cga5 cga6 cga7
  refine (ex_s2 _).mono ?_
  rintro e w9 ⟨rfl, hb9⟩
  have Rga := Row.below (Row.alloc HRga.out (by omega) _) hb9 (by simp; omega)
  have Rgb := Row.below (Row.alloc HRgb.out (by omega) _) hb9 (by simp; omega)
  have Rgc := Row.below (Row.alloc HRgc.out (by omega) _) hb9 (by simp; omega)
  have Rgd := Row.below (Row.alloc HRgd.out (by omega) _) hb9 (by simp; omega)
  have Rge := Row.below (Row.alloc HRge.out (by omega) _) hb9 (by simp; omega)
  have Rgf := Row.below (Row.alloc HRgf.out (by omega) _) hb9 (by simp; omega)
  have Rgh := Row.below (Row.at hggh rfl : Row _ gh [.int .i64 9, .string ⟨#[97]⟩, .string ⟨#[]⟩, .string ⟨#[]⟩, .string ⟨#[]⟩, .bool false, .int .i64 (-1), .int .i64 0]) hb9 (by simp; omega)
  have hs9 := hb9.size
  simp at hs9
  have hB9 : Below w.heap.size w w9 := Below.trans (Below.alloc HB8.out HB8.out.size _) (hb9.mono (by have := HB8.out.size; simp; omega))
  clear hb9 HB8 HRga HRgb HRgc HRgd HRge HRgf
  have HB9 := Lib.hid hB9; clear hB9
  have HRga := Lib.hid Rga; clear Rga
  have HRgb := Lib.hid Rgb; clear Rgb
  have HRgc := Lib.hid Rgc; clear Rgc
  have HRgd := Lib.hid Rgd; clear Rgd
  have HRge := Lib.hid Rge; clear Rge
  have HRgf := Lib.hid Rgf; clear Rgf
  have HRgh := Lib.hid Rgh; clear Rgh
  obtain ⟨gi, hggi⟩ : ∃ g, w9.heap.size = g := ⟨_, rfl⟩
  have lga_gi : ga < gi := by omega
  have lgb_gi : gb < gi := by omega
  have lgc_gi : gc < gi := by omega
  have lgd_gi : gd < gi := by omega
  have lge_gi : ge < gi := by omega
  have lgf_gi : gf < gi := by omega
  have lgh_gi : gh < gi := by omega
  obtain ⟨cgb0, cgb1, cgb2, cgb3, cgb4, cgb5, cgb6, cgb7, _, _, _, _, _, _, _, _⟩ := Row.eight HRgb.out
  go_wp2_with fail
  clear cgb0 cgb1 cgb2 cgb3 cgb4 cgb5 cgb6 cgb7
  refine (ex_r1 _).mono ?_
  rintro e w10 ⟨rfl, hb10⟩
  have Rga := Row.below (Row.alloc HRga.out (by omega) _) hb10 (by simp; omega)
  have Rgb := Row.below (Row.alloc HRgb.out (by omega) _) hb10 (by simp; omega)
  have Rgc := Row.below (Row.alloc HRgc.out (by omega) _) hb10 (by simp; omega)
  have Rgd := Row.below (Row.alloc HRgd.out (by omega) _) hb10 (by simp; omega)
  have Rge := Row.below (Row.alloc HRge.out (by omega) _) hb10 (by simp; omega)
  have Rgf := Row.below (Row.alloc HRgf.out (by omega) _) hb10 (by simp; omega)
  have Rgh := Row.below (Row.alloc HRgh.out (by omega) _) hb10 (by simp; omega)
  have Rgi := Row.below (Row.at hggi rfl : Row _ gi [.int .i64 9, .string ⟨#[]⟩, .string ⟨#[97, 98, 99]⟩, .string ⟨#[]⟩, .string ⟨#[]⟩, .bool false, .int .i64 (-1), .int .i64 0]) hb10 (by simp; omega)
  have hs10 := hb10.size
  simp at hs10
  have hB10 : Below w.heap.size w w10 := Below.trans (Below.alloc HB9.out HB9.out.size _) (hb10.mono (by have := HB9.out.size; simp; omega))
  clear hb10 HB9 HRga HRgb HRgc HRgd HRge HRgf HRgh
  have HB10 := Lib.hid hB10; clear hB10
  have HRga := Lib.hid Rga; clear Rga
  have HRgb := Lib.hid Rgb; clear Rgb
  have HRgc := Lib.hid Rgc; clear Rgc
  have HRgd := Lib.hid Rgd; clear Rgd
  have HRge := Lib.hid Rge; clear Rge
  have HRgf := Lib.hid Rgf; clear Rgf
  have HRgh := Lib.hid Rgh; clear Rgh
  have HRgi := Lib.hid Rgi; clear Rgi
  obtain ⟨cgb0, cgb1, cgb2, cgb3, cgb4, cgb5, cgb6, cgb7, _, _, _, _, _, _, _, _⟩ := Row.eight HRgb.out
  obtain ⟨cgc0, cgc1, cgc2, cgc3, cgc4, cgc5, cgc6, cgc7, _, _, _, _, _, _, _, _⟩ := Row.eight HRgc.out
  obtain ⟨cgf0, cgf1, cgf2, cgf3, cgf4, cgf5, cgf6, cgf7, _, _, _, _, _, _, _, _⟩ := Row.eight HRgf.out
  go_wp2_with fail
  clear cgb0 cgb1 cgb2 cgb3 cgb4 cgb5 cgb6 cgb7 cgc0 cgc1 cgc2 cgc3 cgc4 cgc5 cgc6 cgc7 cgf0 cgf1 cgf2 cgf3 cgf4 cgf5 cgf6 cgf7
  refine (ex_r2 _).mono ?_
  rintro e w11 ⟨rfl, hb11⟩
  have Rga := Row.below HRga.out hb11 (by omega)
  have Rgb := Row.below HRgb.out hb11 (by omega)
  have Rgc := Row.below HRgc.out hb11 (by omega)
  have Rgd := Row.below HRgd.out hb11 (by omega)
  have Rge := Row.below HRge.out hb11 (by omega)
  have Rgf := Row.below HRgf.out hb11 (by omega)
  have Rgh := Row.below HRgh.out hb11 (by omega)
  have Rgi := Row.below HRgi.out hb11 (by omega)
  have hs11 := hb11.size
  have hB11 := HB10.out.trans (hb11.mono HB10.out.size)
  clear hb11 HB10 HRga HRgb HRgc HRgd HRge HRgf HRgh HRgi
  have HB11 := Lib.hid hB11; clear hB11
  have HRga := Lib.hid Rga; clear Rga
  have HRgb := Lib.hid Rgb; clear Rgb
  have HRgc := Lib.hid Rgc; clear Rgc
  have HRgd := Lib.hid Rgd; clear Rgd
  have HRge := Lib.hid Rge; clear Rge
  have HRgf := Lib.hid Rgf; clear Rgf
  have HRgh := Lib.hid Rgh; clear Rgh
  have HRgi := Lib.hid Rgi; clear Rgi
  obtain ⟨cgf0, cgf1, cgf2, cgf3, cgf4, cgf5, cgf6, cgf7, _, _, _, _, _, _, _, _⟩ := Row.eight HRgf.out
  obtain ⟨cgh0, cgh1, cgh2, cgh3, cgh4, cgh5, cgh6, cgh7, _, _, _, _, _, _, _, _⟩ := Row.eight HRgh.out
  go_wp2_with fail
  clear cgf0 cgf1 cgf2 cgf3 cgf4 cgf5 cgf6 cgf7 cgh0 cgh1 cgh2 cgh3 cgh4 cgh5 cgh6 cgh7
  refine (ex_r3 _).mono ?_
  rintro e w12 ⟨rfl, hb12⟩
  have Rga := Row.below HRga.out hb12 (by omega)
  have Rgb := Row.below HRgb.out hb12 (by omega)
  have Rgc := Row.below HRgc.out hb12 (by omega)
  have Rgd := Row.below HRgd.out hb12 (by omega)
  have Rge := Row.below HRge.out hb12 (by omega)
  have Rgf := Row.below HRgf.out hb12 (by omega)
  have Rgh := Row.below HRgh.out hb12 (by omega)
  have Rgi := Row.below HRgi.out hb12 (by omega)
  have hs12 := hb12.size
  have hB12 := HB11.out.trans (hb12.mono HB11.out.size)
  clear hb12 HB11 HRga HRgb HRgc HRgd HRge HRgf HRgh HRgi
  have HB12 := Lib.hid hB12; clear hB12
  have HRga := Lib.hid Rga; clear Rga
  have HRgb := Lib.hid Rgb; clear Rgb
  have HRgc := Lib.hid Rgc; clear Rgc
  have HRgd := Lib.hid Rgd; clear Rgd
  have HRge := Lib.hid Rge; clear Rge
  have HRgf := Lib.hid Rgf; clear Rgf
  have HRgh := Lib.hid Rgh; clear Rgh
  have HRgi := Lib.hid Rgi; clear Rgi
  obtain ⟨cga0, cga1, cga2, cga3, cga4, cga5, cga6, cga7, _, _, _, _, _, _, _, _⟩ := Row.eight HRga.out
  go_wp2_with fail
  clear cga0 cga1 cga2 cga3 cga4 cga5 cga6 cga7
  refine (ex_u _).mono ?_
  rintro e w13 ⟨rfl, hb13⟩
  have Rga := Row.below HRga.out hb13 (by omega)
  have Rgb := Row.below HRgb.out hb13 (by omega)
  have Rgc := Row.below HRgc.out hb13 (by omega)
  have Rgd := Row.below HRgd.out hb13 (by omega)
  have Rge := Row.below HRge.out hb13 (by omega)
  have Rgf := Row.below HRgf.out hb13 (by omega)
  have Rgh := Row.below HRgh.out hb13 (by omega)
  have Rgi := Row.below HRgi.out hb13 (by omega)
  have hs13 := hb13.size
  have hB13 := HB12.out.trans (hb13.mono HB12.out.size)
  clear hb13 HB12 HRga HRgb HRgc HRgd HRge HRgf HRgh HRgi
  have HB13 := Lib.hid hB13; clear hB13
  have HRga := Lib.hid Rga; clear Rga
  have HRgb := Lib.hid Rgb; clear Rgb
  have HRgc := Lib.hid Rgc; clear Rgc
  have HRgd := Lib.hid Rgd; clear Rgd
  have HRge := Lib.hid Rge; clear Rge
  have HRgf := Lib.hid Rgf; clear Rgf
  have HRgh := Lib.hid Rgh; clear Rgh
  have HRgi := Lib.hid Rgi; clear Rgi
  obtain ⟨cgb0, cgb1, cgb2, cgb3, cgb4, cgb5, cgb6, cgb7, _, _, _, _, _, _, _, _⟩ := Row.eight HRgb.out
  go_wp2_with fail
  clear cgb0 cgb1 cgb2 cgb3 cgb4 cgb5 cgb6 cgb7
  refine (ex_st _).mono ?_
  rintro e w14 ⟨rfl, hb14⟩
  have Rga := Row.below HRga.out hb14 (by omega)
  have Rgb := Row.below HRgb.out hb14 (by omega)
  have Rgc := Row.below HRgc.out hb14 (by omega)
  have Rgd := Row.below HRgd.out hb14 (by omega)
  have Rge := Row.below HRge.out hb14 (by omega)
  have Rgf := Row.below HRgf.out hb14 (by omega)
  have Rgh := Row.below HRgh.out hb14 (by omega)
  have Rgi := Row.below HRgi.out hb14 (by omega)
  have hs14 := hb14.size
  have hB14 := HB13.out.trans (hb14.mono HB13.out.size)
  clear hb14 HB13 HRga HRgb HRgc HRgd HRge HRgf HRgh HRgi
  have HB14 := Lib.hid hB14; clear hB14
  have HRga := Lib.hid Rga; clear Rga
  have HRgb := Lib.hid Rgb; clear Rgb
  have HRgc := Lib.hid Rgc; clear Rgc
  have HRgd := Lib.hid Rgd; clear Rgd
  have HRge := Lib.hid Rge; clear Rge
  have HRgf := Lib.hid Rgf; clear Rgf
  have HRgh := Lib.hid Rgh; clear Rgh
  have HRgi := Lib.hid Rgi; clear Rgi
  have hfd : ∀ w, (Instr.field 26 (.agg #[.int .i64 9, .string ⟨#[97, 98]⟩, .string ⟨#[]⟩, .string ⟨#[]⟩, .string ⟨#[]⟩, .bool false, .int .i64 (-1), .int .i64 0]) 2).run Try.prog w = .ok (.bool false) w := fun _ => by kernel_rfl
  go_wp2_with fail
  go_ret
  exact ⟨rfl, HB14.out⟩

end Go.Proofs.Ytpghhobbppkggaa
