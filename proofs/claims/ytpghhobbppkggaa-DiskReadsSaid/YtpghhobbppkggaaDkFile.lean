/- The walks of the disk's small functions. -/
import Derived.Test.YtpghhobbppkggaaKit
import Derived.Deep.RegionHeld3
import Derived.Deep.Cut
import Derived.Handy
import Derived.Laws.ResultCell
namespace Go.Proofs.Ytpghhobbppkggaa
open Go.RowKit

/-- a disk -/
structure Dk where
  size : Int
  h0 : ByteArray
  s0 : ByteArray
  h1 : ByteArray
  s1 : ByteArray
  down : Bool
  fuse : Int
  keep : Int

namespace Dk
def val (d : Dk) : Value := .agg #[.int .i64 d.size, .string d.h0, .string d.s0, .string d.h1, .string d.s1, .bool d.down, .int .i64 d.fuse, .int .i64 d.keep]
def used (d : Dk) : Nat := d.h0.size + d.s0.size + d.h1.size + d.s1.size
def new (n : Int) : Dk := ⟨n, ⟨#[]⟩, ⟨#[]⟩, ⟨#[]⟩, ⟨#[]⟩, false, -1, 0⟩
def start (d : Dk) : Dk := { d with down := false }
def arm (d : Dk) (fuse keep : Int) : Dk := { d with fuse := if fuse < -1 then -1 else fuse, keep := keep }
/-- what is kept of a text -/
def kept (k : Int) (s : ByteArray) : Nat := min k.toNat s.size
def crash (d : Dk) (k : Int) : Dk := { d with h0 := d.h0 ++ d.s0.extract 0 (kept k d.s0), s0 := ⟨#[]⟩, h1 := d.h1 ++ d.s1.extract 0 (kept k d.s1), s1 := ⟨#[]⟩, down := true, fuse := -1 }
def read (d : Dk) (f : Int) : ByteArray := if f = 0 then d.h0 ++ d.s0 else if f = 1 then d.h1 ++ d.s1 else ⟨#[]⟩
end Dk

theorem index_files (a b c e : ByteArray) (w : World) : (Instr.index 24 (.agg #[.string a, .string b, .string c, .string e]) (.int .i64 0)).run Try.prog w = .ok (.agg #[.string a, .string b]) w ∧
    (Instr.index 24 (.agg #[.string a, .string b, .string c, .string e]) (.int .i64 1)).run Try.prog w = .ok (.agg #[.string c, .string e]) w := ⟨by kernel_rfl, by kernel_rfl⟩

theorem fileAll_any (h s : ByteArray) (w : World) (hz : h.size + s.size ≤ maxLen) :
    Calls Try.prog 35 #[.agg #[.string h, .string s]] w fun e w' => e = .returned (.string (h ++ s)) ∧ Below w.heap.size w w' := by
  unfold maxLen at hz
  go_enter Try.func35, Try.ntmps35
  go_wp2_with fail
  go_ret
  exact ⟨rfl, (Below.refl _ _).alloc (Nat.le_refl _) _⟩

theorem there_any (f : Int) (w : World) :
    Calls Try.prog 29 #[.int .i64 f] w fun e w' => e = .returned (.bool (f == 0 || f == 1)) ∧ w = w' := by
  go_enter Try.func29, Try.ntmps29
  by_cases h0 : f = 0
  · subst h0
    go_wp2
    go_ret
    exact ⟨rfl, rfl⟩
  · go_wp2
    go_ret
    exact ⟨by simp, rfl⟩

theorem new_any (n : Int) (w : World) :
    Calls Try.prog 26 #[.int .i64 n] w fun e w' => e = .returned (Dk.new n).val ∧ Below w.heap.size w w' := by
  go_enter Try.func26, Try.ntmps26
  go_wp2
  go_returns
  exact ⟨rfl, by go_grown⟩

theorem start_any (d : Dk) (w : World) :
    Calls Try.prog 20 #[d.val] w fun e w' => e = .returned d.start.val ∧ Below w.heap.size w w' := by
  unfold Dk.val
  go_enter Try.func20, Try.ntmps20
  go_wp2
  go_returns
  exact ⟨rfl, by go_grown⟩

theorem arm_any (d : Dk) (f k : Int) (w : World) :
    Calls Try.prog 18 #[d.val, .int .i64 f, .int .i64 k] w fun e w' => e = .returned (d.arm f k).val ∧ Below w.heap.size w w' := by
  unfold Dk.val
  go_enter Try.func18, Try.ntmps18
  by_cases hf : f < -1
  · have ha : (d.arm f k).fuse = -1 := if_pos hf
    have HA := Lib.hid ha; clear ha
    go_wp2
    go_returns
    exact ⟨by rw [HA.out]; rfl, by go_grown⟩
  · have ha : (d.arm f k).fuse = f := if_neg hf
    have HA := Lib.hid ha; clear ha
    go_wp2
    go_returns
    exact ⟨by rw [HA.out]; rfl, by go_grown⟩

theorem used_any (d : Dk) (w : World) (hz : d.used ≤ 9007199254740992) :
    Calls Try.prog 22 #[d.val] w fun e w' => e = .returned (.int .i64 (d.used : Nat)) ∧ Below w.heap.size w w' := by
  unfold Dk.val
  unfold Dk.used at *
  have i0 := fun w => (index_files d.h0 d.s0 d.h1 d.s1 w).1
  have i1 := fun w => (index_files d.h0 d.s0 d.h1 d.s1 w).2
  have HF0 := Lib.hid (fun w => fileAll_any d.h0 d.s0 w (by unfold maxLen; omega))
  have HF1 := Lib.hid (fun w => fileAll_any d.h1 d.s1 w (by unfold maxLen; omega))
  go_enter Try.func22, Try.ntmps22
  go_wp2_with fail
  refine wp_loop_rounds 3 ?_
  rw [rounds_succ]
  go_wp2_with fail
  refine (HF0.out _).mono ?_
  rintro e w1 ⟨rfl, hb1⟩
  go_wp2_with fail
  rw [rounds_succ]
  go_wp2_with fail
  refine (HF1.out _).mono ?_
  rintro e w2 ⟨rfl, hb2⟩
  go_wp2_with fail
  rw [rounds_succ]
  go_wp2_with fail
  go_returns
  exact ⟨ret_int (by omega), (((Below.refl _ _).alloc (Nat.le_refl _) _).alloc (by simp) _).trans (hb1.mono (by simp; omega)) |>.alloc (by have := hb1.size; simp at this; omega) _ |>.trans (hb2.mono (by have := hb1.size; simp at this ⊢; omega))⟩

theorem read_any (d : Dk) (f : Int) (w : World) (hz : d.used ≤ 9007199254740992) :
    Calls Try.prog 24 #[d.val, .int .i64 f] w fun e w' => e = .returned (.string (d.read f)) ∧ Below w.heap.size w w' := by
  unfold Dk.val
  unfold Dk.used at *
  go_enter Try.func24, Try.ntmps24
  go_wp2_with fail
  refine (there_any _ _).mono ?_
  rintro e w1 ⟨rfl, rfl⟩
  by_cases h0 : f = 0
  · subst h0
    go_wp2_with fail
    refine (fileAll_any _ _ _ (by unfold maxLen; omega)).mono ?_
    rintro e w1 ⟨rfl, hb1⟩
    go_wp2_with fail
    go_returns
    exact ⟨rfl, ((Below.refl _ _).alloc (Nat.le_refl _) _).trans (hb1.mono (by simp))⟩
  by_cases h1 : f = 1
  · subst h1
    go_wp2_with fail
    refine (fileAll_any _ _ _ (by unfold maxLen; omega)).mono ?_
    rintro e w1 ⟨rfl, hb1⟩
    go_wp2_with fail
    go_returns
    exact ⟨rfl, ((Below.refl _ _).alloc (Nat.le_refl _) _).trans (hb1.mono (by simp))⟩
  · have hf : (f == 0 || f == 1) = false := by simp [h0, h1]
    rw [hf]
    go_wp2_with fail
    go_returns
    exact ⟨by unfold Dk.read; rw [if_neg h0, if_neg h1]; rfl, by go_grown⟩

end Go.Proofs.Ytpghhobbppkggaa
