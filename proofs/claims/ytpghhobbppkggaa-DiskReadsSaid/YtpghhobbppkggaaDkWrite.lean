/- The walks of disk.Write, Sync and Cut. -/
import Derived.Test.YtpghhobbppkggaaDkDeed2
import Derived.Shelf.Abstract
namespace Go.Proofs.Ytpghhobbppkggaa
open Go.RowKit

namespace Dk
def full (d : Dk) (s : ByteArray) : Bool := decide (d.size < (s.size : Int)) || decide (d.size - (s.size : Int) < (d.used : Int))
def write (d : Dk) (f : Int) (s : ByteArray) : Dk × Int :=
  if (f == 0 || f == 1) && (!d.down && d.full s) then (d, 9) else d.deed f true fun x => (x.1, x.2 ++ s)
def sync (d : Dk) (f : Int) : Dk × Int := d.deed f false fun x => (x.1 ++ x.2, ⟨#[]⟩)
def cut (d : Dk) (f n : Int) : Dk × Int := d.deed f false fun x => (x.1.extract 0 n.toNat, x.2.extract 0 (n.toNat - x.1.size))
end Dk

theorem eg31 : ∀ args w, (callFunc 31 args).run Try.prog w = .ok (.enter 31 args) w := enters_of Try.func31 (by kernel_rfl) rfl
theorem eg34 : ∀ args w, (callFunc 34 args).run Try.prog w = .ok (.enter 34 args) w := enters_of Try.func34 (by kernel_rfl) rfl
theorem eg36 : ∀ args w, (callFunc 36 args).run Try.prog w = .ok (.enter 36 args) w := enters_of Try.func36 (by kernel_rfl) rfl

theorem file_size (d : Dk) (f : Int) : (d.file f).1.size + (d.file f).2.size ≤ d.used := by
  unfold Dk.file Dk.used
  split <;> simp <;> omega

theorem sync_any (d : Dk) (f : Int) (w : World) (hz : d.used ≤ 4503599627370496) (wf : d.fuse < 9223372036854775808) :
    Calls Try.prog 12 #[d.val, .int .i64 f] w fun e w' => e = .returned (.tuple #[(d.sync f).1.val, .int .i64 (d.sync f).2]) ∧ Below w.heap.size w w' := by
  have hfz := file_size d f
  have HD := Lib.hid (fun w => deed_any d f false 34 #[] (fun x => (x.1 ++ x.2, ⟨#[]⟩)) w hz eg34 (by rw [ByteArray.size_append]; show (d.file f).1.size + (d.file f).2.size + 0 ≤ _; omega) wf (fun w' _ => doSync_any _ _ w' (by omega)))
  obtain ⟨r, hr⟩ : ∃ r, d.sync f = r := ⟨_, rfl⟩
  unfold Dk.sync at hr
  rw [hr] at HD
  rw [show d.sync f = r from hr]
  unfold Dk.val at HD ⊢
  go_enter Try.func12, Try.ntmps12
  go_wp2_with fail
  refine (HD.out _).mono ?_
  rintro e w1 ⟨rfl, hb1⟩
  have R1 : Row w1 (w.heap.size + 1) Dk.zero.cells := by
    refine Row.below ?_ hb1 (by simp)
    exact Row.at (by simp) rfl
  have hB : Below w.heap.size w w1 := by
    refine Below.trans ?_ (hb1.mono (by simp; omega))
    go_grown
  have hs := hb1.size
  simp at hs
  clear hb1 hr HD hfz
  obtain ⟨d0, d1, d2, d3, d4, d5, d6, d7, g0, g1, g2, g3, g4, g5, g6, g7⟩ := Row.eight R1
  have HR1 := Lib.hid R1; clear R1
  have HB := Lib.hid hB; clear hB
  go_wp2_with fail
  obtain ⟨e0, e1, e2, e3, e4, e5, e6, e7, _, _, _, _, _, _, _, _⟩ := Row.eight (HR1.out.lay r.1)
  have hBe := Below.set8 HB.out (b := w.heap.size + 1) (by omega) (.int .i64 r.1.size) (.string r.1.h0) (.string r.1.s0) (.string r.1.h1) (.string r.1.s1) (.bool r.1.down) (.int .i64 r.1.fuse) (.int .i64 r.1.keep)
  unfold set8 at hBe
  unfold lay set8 at e0 e1 e2 e3 e4 e5 e6 e7
  generalize World.setCell _ _ _ = wz at e0 e1 e2 e3 e4 e5 e6 e7 hBe ⊢
  refine bodyPost_ret (by simp [results, Try.results12, go_sem, e0, e1, e2, e3, e4, e5, e6, e7]; try rfl) rfl ?_
  exact ⟨rfl, hBe⟩

theorem cut_any (d : Dk) (f n : Int) (w : World) (hz : d.used ≤ 4503599627370496) (wf : d.fuse < 9223372036854775808) (wn : n < 9223372036854775808) :
    Calls Try.prog 14 #[d.val, .int .i64 f, .int .i64 n] w fun e w' => e = .returned (.tuple #[(d.cut f n).1.val, .int .i64 (d.cut f n).2]) ∧ Below w.heap.size w w' := by
  have hfz := file_size d f
  have HD := Lib.hid (fun (b : Nat) (w : World) (hc : w.cell? ⟨b, 0, none⟩ = some (.int .i64 n)) => deed_any d f false 36 #[.pointer (some ⟨b, 0, none⟩)] (fun x => (x.1.extract 0 n.toNat, x.2.extract 0 (n.toNat - x.1.size))) w hz eg36 (by simp; omega) wf (fun w' hb => doCut_any _ _ n b w' ((hb.cell (p := ⟨b, 0, none⟩) (World.block_lt_of_cell? w _ hc)).trans hc) wn))
  obtain ⟨r, hr⟩ : ∃ r, d.cut f n = r := ⟨_, rfl⟩
  unfold Dk.cut at hr
  rw [hr] at HD
  rw [show d.cut f n = r from hr]
  unfold Dk.val at HD ⊢
  go_enter Try.func14, Try.ntmps14
  go_wp2_with fail
  refine (HD.out (w.heap.size + 1) _ ?hcell).mono ?hrest
  case hcell => simp [go_sem]
  rintro e w1 ⟨rfl, hb1⟩
  have R1 : Row w1 (w.heap.size + 1 + 1) Dk.zero.cells := by
    refine Row.below ?_ hb1 (by simp)
    exact Row.at (by simp) rfl
  have hB : Below w.heap.size w w1 := by
    refine Below.trans ?_ (hb1.mono (by simp; omega))
    go_grown
  have hs := hb1.size
  simp at hs
  clear hb1 hr HD hfz
  obtain ⟨d0, d1, d2, d3, d4, d5, d6, d7, g0, g1, g2, g3, g4, g5, g6, g7⟩ := Row.eight R1
  have HR1 := Lib.hid R1; clear R1
  have HB := Lib.hid hB; clear hB
  go_wp2_with fail
  obtain ⟨e0, e1, e2, e3, e4, e5, e6, e7, _, _, _, _, _, _, _, _⟩ := Row.eight (HR1.out.lay r.1)
  have hBe := Below.set8 HB.out (b := w.heap.size + 1 + 1) (by omega) (.int .i64 r.1.size) (.string r.1.h0) (.string r.1.s0) (.string r.1.h1) (.string r.1.s1) (.bool r.1.down) (.int .i64 r.1.fuse) (.int .i64 r.1.keep)
  unfold set8 at hBe
  unfold lay set8 at e0 e1 e2 e3 e4 e5 e6 e7
  generalize World.setCell _ _ _ = wz at e0 e1 e2 e3 e4 e5 e6 e7 hBe ⊢
  refine bodyPost_ret (by simp [results, Try.results14, go_sem, e0, e1, e2, e3, e4, e5, e6, e7]; try rfl) rfl ?_
  exact ⟨rfl, hBe⟩

end Go.Proofs.Ytpghhobbppkggaa
