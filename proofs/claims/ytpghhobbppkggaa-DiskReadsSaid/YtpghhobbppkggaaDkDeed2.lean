/- The walk of disk.deed. -/
import Derived.Test.YtpghhobbppkggaaDkDeed
namespace Go.Proofs.Ytpghhobbppkggaa
open Go.RowKit

namespace Dk
def file (d : Dk) (f : Int) : ByteArray × ByteArray := if f = 0 then (d.h0, d.s0) else (d.h1, d.s1)
def set (d : Dk) (f : Int) (x : ByteArray × ByteArray) : Dk := if f = 0 then { d with h0 := x.1, s0 := x.2 } else { d with h1 := x.1, s1 := x.2 }
/-- what becomes of a disk by a deed: the disk, the error -/
def deed (d : Dk) (f : Int) (torn : Bool) (g : ByteArray × ByteArray → ByteArray × ByteArray) : Dk × Int :=
  if ¬ (f = 0 ∨ f = 1) then (d, 1) else if d.down then (d, 12) else
  if d.fuse = 0 then ((if torn then d.set f (g (d.file f)) else d).crash d.keep, 12)
  else ({ d.set f (g (d.file f)) with fuse := if 0 < d.fuse then d.fuse - 1 else d.fuse }, 0)
end Dk

def Dk.cells (d : Dk) : List Value := [.int .i64 d.size, .string d.h0, .string d.s0, .string d.h1, .string d.s1, .bool d.down, .int .i64 d.fuse, .int .i64 d.keep]
def Dk.zero : Dk := ⟨0, ⟨#[]⟩, ⟨#[]⟩, ⟨#[]⟩, ⟨#[]⟩, false, 0, 0⟩
/-- a disk is laid into a block -/
def lay (w : World) (b : Nat) (c : Dk) : World := set8 w b (.int .i64 c.size) (.string c.h0) (.string c.s0) (.string c.h1) (.string c.s1) (.bool c.down) (.int .i64 c.fuse) (.int .i64 c.keep)
theorem Row.lay {w : World} {b : Nat} {d : Dk} (h : Row w b d.cells) (c : Dk) : Row (lay w b c) b c.cells := Row.set8 h _ _ _ _ _ _ _ _

set_option maxRecDepth 100000 in
set_option maxHeartbeats 2000000 in
theorem deed_any (d : Dk) (f : Int) (torn : Bool) (n : FuncId) (caps : Array Value) (g : ByteArray × ByteArray → ByteArray × ByteArray) (w : World) (hz : d.used ≤ 4503599627370496)
    (eg : ∀ args w, (callFunc n args).run Try.prog w = .ok (.enter n args) w) (hz2 : (g (d.file f)).1.size + (g (d.file f)).2.size ≤ 4503599627370496) (wf : d.fuse < 9223372036854775808)
    (hg : ∀ w', Below w.heap.size w w' → Calls Try.prog n (#[.agg #[.string (d.file f).1, .string (d.file f).2]] ++ caps) w' fun e w'' => e = .returned (.agg #[.string (g (d.file f)).1, .string (g (d.file f)).2]) ∧ Below w'.heap.size w' w'') :
    Calls Try.prog 30 #[d.val, .int .i64 f, .bool torn, .func (.func n) #[] caps] w fun e w' => e = .returned (.tuple #[(d.deed f torn g).1.val, .int .i64 (d.deed f torn g).2]) ∧ Below w.heap.size w w' := by
  obtain ⟨r, hr⟩ : ∃ r, d.deed f torn g = r := ⟨_, rfl⟩
  obtain ⟨x, hx⟩ : ∃ x, g (d.file f) = x := ⟨_, rfl⟩
  obtain ⟨a, b⟩ := x
  unfold Dk.deed at hr
  rw [hx] at hz2 hr hg
  unfold Dk.used at hz
  have hth := Lib.hid (fun w => there_any f w)
  rw [show d.deed f torn g = r from by unfold Dk.deed; rw [hx]; exact hr]
  clear hx
  by_cases hf : f = 0
  · subst hf
    have HR := Lib.hid hr; clear hr
    have HG := Lib.hid hg; clear hg
    obtain ⟨size, h0, s0, h1, s1, down, fuse, keep⟩ := d
    unfold Dk.val
    simp only at hz wf HG
    go_enter Try.func30, Try.ntmps30
    go_wp2_with fail
    refine (hth.out _).mono ?_
    rintro e w1 ⟨rfl, rfl⟩
    cases down
    · go_wp2_with fail
      refine (HG.out _ (by go_grown)).mono ?_
      rintro e w1 ⟨rfl, hb1⟩
      have R0 : Row w1 w.heap.size (Dk.mk size h0 s0 h1 s1 false fuse keep).cells := by
        refine Row.below ?_ hb1 (by simp; omega)
        refine Row.alloc ?_ (by simp; omega) _
        refine Row.alloc ?_ (by simp) _
        exact Row.at rfl rfl
      have R1 : Row w1 (w.heap.size + 1) Dk.zero.cells := by
        refine Row.below ?_ hb1 (by simp)
        refine Row.alloc ?_ (by simp) _
        exact Row.at (by simp) rfl
      have R2 : Row w1 (w.heap.size + 1 + 1) (Dk.mk size h0 s0 h1 s1 false fuse keep).cells := by
        refine Row.below ?_ hb1 (by simp)
        exact Row.at (by simp) rfl
      have hB : Below w.heap.size w w1 := by
        refine Below.trans ?_ (hb1.mono (by simp; omega))
        go_grown
      have hs := hb1.size
      simp at hs
      clear hb1
      obtain ⟨c0, c1, c2, c3, c4, c5, c6, c7, f0, f1, f2, f3, f4, f5, f6, f7⟩ := Row.eight R0
      have HR0 := Lib.hid R0; clear R0
      have HR1 := Lib.hid R1; clear R1
      have HR2 := Lib.hid R2; clear R2
      have HB := Lib.hid hB; clear hB
      go_upto_region 7 with fail
      have R0 : Row ((w1.setCell ⟨w.heap.size, 1, none⟩ (.string a)).setCell ⟨w.heap.size, 2, none⟩ (.string b)) w.heap.size (Dk.mk size a b h1 s1 false fuse keep).cells := (HR0.out.set 1 (.string a) (by simp [Dk.cells])).set 2 (.string b) (by simp [Dk.cells])
      have R1 := (HR1.out.other (c := w.heap.size) (k := 1) (.string a) (by omega)).other (c := w.heap.size) (k := 2) (.string b) (by omega)
      have R2 := (HR2.out.other (c := w.heap.size) (k := 1) (.string a) (by omega)).other (c := w.heap.size) (k := 2) (.string b) (by omega)
      have hB := (HB.out.setCell (p := ⟨w.heap.size, 1, none⟩) (Nat.le_refl _) (.string a)).setCell (p := ⟨w.heap.size, 2, none⟩) (Nat.le_refl _) (.string b)
      have hs2 : w1.heap.size ≤ ((w1.setCell ⟨w.heap.size, 1, none⟩ (.string a)).setCell ⟨w.heap.size, 2, none⟩ (.string b)).heap.size := by simp
      generalize World.setCell _ _ _ = w2 at R0 R1 R2 hB hs2 ⊢
      clear c0 c1 c2 c3 c4 c5 c6 c7 f0 f1 f2 f3 f4 f5 f6 f7 HR0 HR1 HR2 HB
      obtain ⟨c0, c1, c2, c3, c4, c5, c6, c7, f0, f1, f2, f3, f4, f5, f6, f7⟩ := Row.eight R0
      have HR0 := Lib.hid R0; clear R0
      have HR1 := Lib.hid R1; clear R1
      have HR2 := Lib.hid R2; clear R2
      have HB := Lib.hid hB; clear hB
      by_cases hfu : fuse = 0
      · subst hfu
        cases torn
        · obtain ⟨d0, d1, d2, d3, d4, d5, d6, d7, g0, g1, g2, g3, g4, g5, g6, g7⟩ := Row.eight HR2.out
          go_upto_region 9 with fail
          have R0 := HR0.out.lay (Dk.mk size h0 s0 h1 s1 false 0 keep)
          have R1 := HR1.out.other8 (c := w.heap.size) (.int .i64 size) (.string h0) (.string s0) (.string h1) (.string s1) (.bool false) (.int .i64 0) (.int .i64 keep) (by omega)
          have hB := Below.set8 HB.out (b := w.heap.size) (Nat.le_refl _) (.int .i64 size) (.string h0) (.string s0) (.string h1) (.string s1) (.bool false) (.int .i64 0) (.int .i64 keep)
          have hs3 : w2.heap.size ≤ (set8 w2 w.heap.size (.int .i64 size) (.string h0) (.string s0) (.string h1) (.string s1) (.bool false) (.int .i64 0) (.int .i64 keep)).heap.size := by simp [set8]
          unfold lay set8 at R0
          unfold set8 at R1 hB hs3
          simp only at R0
          generalize World.setCell _ _ _ = w3 at R0 R1 hB hs3 ⊢
          clear c0 c1 c2 c3 c4 c5 c6 c7 f0 f1 f2 f3 f4 f5 f6 f7 d0 d1 d2 d3 d4 d5 d6 d7 g0 g1 g2 g3 g4 g5 g6 g7 HR0 HR1 HR2 HB
          obtain ⟨c0, c1, c2, c3, c4, c5, c6, c7, f0, f1, f2, f3, f4, f5, f6, f7⟩ := Row.eight R0
          clear R0
          have HR1 := Lib.hid R1; clear R1
          have HB := Lib.hid hB; clear hB
          go_wp2_with fail
          refine (crash_any (Dk.mk size h0 s0 h1 s1 false 0 keep) keep _ (by unfold Dk.used; simp only; omega)).mono ?_
          generalize hC : Dk.crash (Dk.mk size h0 s0 h1 s1 false 0 keep) keep = C
          rintro e w4 ⟨rfl, hb4⟩
          have hR1 := Row.below HR1.out hb4 (by omega)
          have hBB := HB.out.trans (hb4.mono HB.out.size)
          have hs4 := hb4.size
          clear HR1 HB hb4
          have HR1 := Lib.hid hR1; clear hR1
          have HB := Lib.hid hBB; clear hBB
          have HC := Lib.hid hC; clear hC
          have q := Row.eight HR1.out
          obtain ⟨d0, d1, d2, d3, d4, d5, d6, d7, g0, g1, g2, g3, g4, g5, g6, g7⟩ := q
          unfold Dk.val
          go_wp2_with fail
          obtain ⟨e0, e1, e2, e3, e4, e5, e6, e7, _, _, _, _, _, _, _, _⟩ := Row.eight (HR1.out.lay C)
          have hBe := Below.set8 HB.out (b := w.heap.size + 1) (by omega) (.int .i64 C.size) (.string C.h0) (.string C.s0) (.string C.h1) (.string C.s1) (.bool C.down) (.int .i64 C.fuse) (.int .i64 C.keep)
          unfold set8 at hBe
          unfold lay set8 at e0 e1 e2 e3 e4 e5 e6 e7
          try simp only at e0 e1 e2 e3 e4 e5 e6 e7 hBe
          generalize World.setCell _ _ _ = wz at e0 e1 e2 e3 e4 e5 e6 e7 hBe ⊢
          refine bodyPost_ret (by simp [results, Try.results30, go_sem, e0, e1, e2, e3, e4, e5, e6, e7]; try rfl) rfl ?_
          exact ⟨by rw [← HR.out, ← HC.out]; rfl, hBe⟩
        · clear HR0 HR2
          go_wp2_with fail
          refine (crash_any (Dk.mk size a b h1 s1 false 0 keep) keep _ (by unfold Dk.used; simp only; omega)).mono ?_
          generalize hC : Dk.crash (Dk.mk size a b h1 s1 false 0 keep) keep = C
          rintro e w4 ⟨rfl, hb4⟩
          have hR1 := Row.below HR1.out hb4 (by omega)
          have hBB := HB.out.trans (hb4.mono HB.out.size)
          have hs4 := hb4.size
          clear HR1 HB hb4
          have HR1 := Lib.hid hR1; clear hR1
          have HB := Lib.hid hBB; clear hBB
          have HC := Lib.hid hC; clear hC
          have q := Row.eight HR1.out
          obtain ⟨d0, d1, d2, d3, d4, d5, d6, d7, g0, g1, g2, g3, g4, g5, g6, g7⟩ := q
          unfold Dk.val
          go_wp2_with fail
          obtain ⟨e0, e1, e2, e3, e4, e5, e6, e7, _, _, _, _, _, _, _, _⟩ := Row.eight (HR1.out.lay C)
          have hBe := Below.set8 HB.out (b := w.heap.size + 1) (by omega) (.int .i64 C.size) (.string C.h0) (.string C.s0) (.string C.h1) (.string C.s1) (.bool C.down) (.int .i64 C.fuse) (.int .i64 C.keep)
          unfold set8 at hBe
          unfold lay set8 at e0 e1 e2 e3 e4 e5 e6 e7
          try simp only at e0 e1 e2 e3 e4 e5 e6 e7 hBe
          generalize World.setCell _ _ _ = wz at e0 e1 e2 e3 e4 e5 e6 e7 hBe ⊢
          refine bodyPost_ret (by simp [results, Try.results30, go_sem, e0, e1, e2, e3, e4, e5, e6, e7]; try rfl) rfl ?_
          exact ⟨by rw [← HR.out, ← HC.out]; rfl, hBe⟩
      · have hfu' : (fuse == 0) = false := by simpa using hfu
        by_cases hfp : 0 < fuse
        · go_upto_region 13 with fail
          have R0 : Row (w2.setCell ⟨w.heap.size, 6, none⟩ (.int .i64 (fuse - 1))) w.heap.size (Dk.mk size a b h1 s1 false (fuse - 1) keep).cells := HR0.out.set 6 (.int .i64 (fuse - 1)) (by simp [Dk.cells])
          have R1 := HR1.out.other (c := w.heap.size) (k := 6) (.int .i64 (fuse - 1)) (by omega)
          have hB := HB.out.setCell (p := ⟨w.heap.size, 6, none⟩) (Nat.le_refl _) (.int .i64 (fuse - 1))
          have hs3 : w2.heap.size ≤ (w2.setCell ⟨w.heap.size, 6, none⟩ (.int .i64 (fuse - 1))).heap.size := by simp
          generalize World.setCell _ _ _ = w3 at R0 R1 hB hs3 ⊢
          clear c0 c1 c2 c3 c4 c5 c6 c7 f0 f1 f2 f3 f4 f5 f6 f7 HR0 HR1 HR2 HB
          obtain ⟨c0, c1, c2, c3, c4, c5, c6, c7, f0, f1, f2, f3, f4, f5, f6, f7⟩ := Row.eight R0
          clear R0
          have HR1 := Lib.hid R1; clear R1
          have HB := Lib.hid hB; clear hB
          obtain ⟨d0, d1, d2, d3, d4, d5, d6, d7, g0, g1, g2, g3, g4, g5, g6, g7⟩ := Row.eight HR1.out
          go_wp2_with fail
          obtain ⟨e0, e1, e2, e3, e4, e5, e6, e7, _, _, _, _, _, _, _, _⟩ := Row.eight (HR1.out.lay (Dk.mk size a b h1 s1 false (fuse - 1) keep))
          have hBe := Below.set8 HB.out (b := w.heap.size + 1) (by omega) (.int .i64 (Dk.mk size a b h1 s1 false (fuse - 1) keep).size) (.string (Dk.mk size a b h1 s1 false (fuse - 1) keep).h0) (.string (Dk.mk size a b h1 s1 false (fuse - 1) keep).s0) (.string (Dk.mk size a b h1 s1 false (fuse - 1) keep).h1) (.string (Dk.mk size a b h1 s1 false (fuse - 1) keep).s1) (.bool (Dk.mk size a b h1 s1 false (fuse - 1) keep).down) (.int .i64 (Dk.mk size a b h1 s1 false (fuse - 1) keep).fuse) (.int .i64 (Dk.mk size a b h1 s1 false (fuse - 1) keep).keep)
          unfold set8 at hBe
          unfold lay set8 at e0 e1 e2 e3 e4 e5 e6 e7
          try simp only at e0 e1 e2 e3 e4 e5 e6 e7 hBe
          generalize World.setCell _ _ _ = wz at e0 e1 e2 e3 e4 e5 e6 e7 hBe ⊢
          refine bodyPost_ret (by simp [results, Try.results30, go_sem, e0, e1, e2, e3, e4, e5, e6, e7]; try rfl) rfl ?_
          exact ⟨by rw [← HR.out]; simp [Dk.set, hfu, hfp], hBe⟩
        · obtain ⟨d0, d1, d2, d3, d4, d5, d6, d7, g0, g1, g2, g3, g4, g5, g6, g7⟩ := Row.eight HR1.out
          go_wp2_with fail
          obtain ⟨e0, e1, e2, e3, e4, e5, e6, e7, _, _, _, _, _, _, _, _⟩ := Row.eight (HR1.out.lay (Dk.mk size a b h1 s1 false fuse keep))
          have hBe := Below.set8 HB.out (b := w.heap.size + 1) (by omega) (.int .i64 (Dk.mk size a b h1 s1 false fuse keep).size) (.string (Dk.mk size a b h1 s1 false fuse keep).h0) (.string (Dk.mk size a b h1 s1 false fuse keep).s0) (.string (Dk.mk size a b h1 s1 false fuse keep).h1) (.string (Dk.mk size a b h1 s1 false fuse keep).s1) (.bool (Dk.mk size a b h1 s1 false fuse keep).down) (.int .i64 (Dk.mk size a b h1 s1 false fuse keep).fuse) (.int .i64 (Dk.mk size a b h1 s1 false fuse keep).keep)
          unfold set8 at hBe
          unfold lay set8 at e0 e1 e2 e3 e4 e5 e6 e7
          try simp only at e0 e1 e2 e3 e4 e5 e6 e7 hBe
          generalize World.setCell _ _ _ = wz at e0 e1 e2 e3 e4 e5 e6 e7 hBe ⊢
          refine bodyPost_ret (by simp [results, Try.results30, go_sem, e0, e1, e2, e3, e4, e5, e6, e7]; try rfl) rfl ?_
          exact ⟨by rw [← HR.out]; simp [Dk.set, hfu]; intro h; omega, hBe⟩
    · go_wp2_with fail
      go_returns
      exact ⟨by rw [← HR.out]; rfl, by go_grown⟩
  by_cases hf1 : f = 1
  · subst hf1
    have HR := Lib.hid hr; clear hr
    have HG := Lib.hid hg; clear hg
    obtain ⟨size, h0, s0, h1, s1, down, fuse, keep⟩ := d
    unfold Dk.val
    simp only at hz wf HG
    go_enter Try.func30, Try.ntmps30
    go_wp2_with fail
    refine (hth.out _).mono ?_
    rintro e w1 ⟨rfl, rfl⟩
    cases down
    · go_wp2_with fail
      refine (HG.out _ (by go_grown)).mono ?_
      rintro e w1 ⟨rfl, hb1⟩
      have R0 : Row w1 w.heap.size (Dk.mk size h0 s0 h1 s1 false fuse keep).cells := by
        refine Row.below ?_ hb1 (by simp; omega)
        refine Row.alloc ?_ (by simp; omega) _
        refine Row.alloc ?_ (by simp) _
        exact Row.at rfl rfl
      have R1 : Row w1 (w.heap.size + 1) Dk.zero.cells := by
        refine Row.below ?_ hb1 (by simp)
        refine Row.alloc ?_ (by simp) _
        exact Row.at (by simp) rfl
      have R2 : Row w1 (w.heap.size + 1 + 1) (Dk.mk size h0 s0 h1 s1 false fuse keep).cells := by
        refine Row.below ?_ hb1 (by simp)
        exact Row.at (by simp) rfl
      have hB : Below w.heap.size w w1 := by
        refine Below.trans ?_ (hb1.mono (by simp; omega))
        go_grown
      have hs := hb1.size
      simp at hs
      clear hb1
      obtain ⟨c0, c1, c2, c3, c4, c5, c6, c7, f0, f1, f2, f3, f4, f5, f6, f7⟩ := Row.eight R0
      have HR0 := Lib.hid R0; clear R0
      have HR1 := Lib.hid R1; clear R1
      have HR2 := Lib.hid R2; clear R2
      have HB := Lib.hid hB; clear hB
      go_upto_region 7 with fail
      have R0 : Row ((w1.setCell ⟨w.heap.size, 3, none⟩ (.string a)).setCell ⟨w.heap.size, 4, none⟩ (.string b)) w.heap.size (Dk.mk size h0 s0 a b false fuse keep).cells := (HR0.out.set 3 (.string a) (by simp [Dk.cells])).set 4 (.string b) (by simp [Dk.cells])
      have R1 := (HR1.out.other (c := w.heap.size) (k := 3) (.string a) (by omega)).other (c := w.heap.size) (k := 4) (.string b) (by omega)
      have R2 := (HR2.out.other (c := w.heap.size) (k := 3) (.string a) (by omega)).other (c := w.heap.size) (k := 4) (.string b) (by omega)
      have hB := (HB.out.setCell (p := ⟨w.heap.size, 3, none⟩) (Nat.le_refl _) (.string a)).setCell (p := ⟨w.heap.size, 4, none⟩) (Nat.le_refl _) (.string b)
      have hs2 : w1.heap.size ≤ ((w1.setCell ⟨w.heap.size, 3, none⟩ (.string a)).setCell ⟨w.heap.size, 4, none⟩ (.string b)).heap.size := by simp
      generalize World.setCell _ _ _ = w2 at R0 R1 R2 hB hs2 ⊢
      clear c0 c1 c2 c3 c4 c5 c6 c7 f0 f1 f2 f3 f4 f5 f6 f7 HR0 HR1 HR2 HB
      obtain ⟨c0, c1, c2, c3, c4, c5, c6, c7, f0, f1, f2, f3, f4, f5, f6, f7⟩ := Row.eight R0
      have HR0 := Lib.hid R0; clear R0
      have HR1 := Lib.hid R1; clear R1
      have HR2 := Lib.hid R2; clear R2
      have HB := Lib.hid hB; clear hB
      by_cases hfu : fuse = 0
      · subst hfu
        cases torn
        · obtain ⟨d0, d1, d2, d3, d4, d5, d6, d7, g0, g1, g2, g3, g4, g5, g6, g7⟩ := Row.eight HR2.out
          go_upto_region 9 with fail
          have R0 := HR0.out.lay (Dk.mk size h0 s0 h1 s1 false 0 keep)
          have R1 := HR1.out.other8 (c := w.heap.size) (.int .i64 size) (.string h0) (.string s0) (.string h1) (.string s1) (.bool false) (.int .i64 0) (.int .i64 keep) (by omega)
          have hB := Below.set8 HB.out (b := w.heap.size) (Nat.le_refl _) (.int .i64 size) (.string h0) (.string s0) (.string h1) (.string s1) (.bool false) (.int .i64 0) (.int .i64 keep)
          have hs3 : w2.heap.size ≤ (set8 w2 w.heap.size (.int .i64 size) (.string h0) (.string s0) (.string h1) (.string s1) (.bool false) (.int .i64 0) (.int .i64 keep)).heap.size := by simp [set8]
          unfold lay set8 at R0
          unfold set8 at R1 hB hs3
          simp only at R0
          generalize World.setCell _ _ _ = w3 at R0 R1 hB hs3 ⊢
          clear c0 c1 c2 c3 c4 c5 c6 c7 f0 f1 f2 f3 f4 f5 f6 f7 d0 d1 d2 d3 d4 d5 d6 d7 g0 g1 g2 g3 g4 g5 g6 g7 HR0 HR1 HR2 HB
          obtain ⟨c0, c1, c2, c3, c4, c5, c6, c7, f0, f1, f2, f3, f4, f5, f6, f7⟩ := Row.eight R0
          clear R0
          have HR1 := Lib.hid R1; clear R1
          have HB := Lib.hid hB; clear hB
          go_wp2_with fail
          refine (crash_any (Dk.mk size h0 s0 h1 s1 false 0 keep) keep _ (by unfold Dk.used; simp only; omega)).mono ?_
          generalize hC : Dk.crash (Dk.mk size h0 s0 h1 s1 false 0 keep) keep = C
          rintro e w4 ⟨rfl, hb4⟩
          have hR1 := Row.below HR1.out hb4 (by omega)
          have hBB := HB.out.trans (hb4.mono HB.out.size)
          have hs4 := hb4.size
          clear HR1 HB hb4
          have HR1 := Lib.hid hR1; clear hR1
          have HB := Lib.hid hBB; clear hBB
          have HC := Lib.hid hC; clear hC
          have q := Row.eight HR1.out
          obtain ⟨d0, d1, d2, d3, d4, d5, d6, d7, g0, g1, g2, g3, g4, g5, g6, g7⟩ := q
          unfold Dk.val
          go_wp2_with fail
          obtain ⟨e0, e1, e2, e3, e4, e5, e6, e7, _, _, _, _, _, _, _, _⟩ := Row.eight (HR1.out.lay C)
          have hBe := Below.set8 HB.out (b := w.heap.size + 1) (by omega) (.int .i64 C.size) (.string C.h0) (.string C.s0) (.string C.h1) (.string C.s1) (.bool C.down) (.int .i64 C.fuse) (.int .i64 C.keep)
          unfold set8 at hBe
          unfold lay set8 at e0 e1 e2 e3 e4 e5 e6 e7
          try simp only at e0 e1 e2 e3 e4 e5 e6 e7 hBe
          generalize World.setCell _ _ _ = wz at e0 e1 e2 e3 e4 e5 e6 e7 hBe ⊢
          refine bodyPost_ret (by simp [results, Try.results30, go_sem, e0, e1, e2, e3, e4, e5, e6, e7]; try rfl) rfl ?_
          exact ⟨by rw [← HR.out, ← HC.out]; rfl, hBe⟩
        · clear HR0 HR2
          go_wp2_with fail
          refine (crash_any (Dk.mk size h0 s0 a b false 0 keep) keep _ (by unfold Dk.used; simp only; omega)).mono ?_
          generalize hC : Dk.crash (Dk.mk size h0 s0 a b false 0 keep) keep = C
          rintro e w4 ⟨rfl, hb4⟩
          have hR1 := Row.below HR1.out hb4 (by omega)
          have hBB := HB.out.trans (hb4.mono HB.out.size)
          have hs4 := hb4.size
          clear HR1 HB hb4
          have HR1 := Lib.hid hR1; clear hR1
          have HB := Lib.hid hBB; clear hBB
          have HC := Lib.hid hC; clear hC
          have q := Row.eight HR1.out
          obtain ⟨d0, d1, d2, d3, d4, d5, d6, d7, g0, g1, g2, g3, g4, g5, g6, g7⟩ := q
          unfold Dk.val
          go_wp2_with fail
          obtain ⟨e0, e1, e2, e3, e4, e5, e6, e7, _, _, _, _, _, _, _, _⟩ := Row.eight (HR1.out.lay C)
          have hBe := Below.set8 HB.out (b := w.heap.size + 1) (by omega) (.int .i64 C.size) (.string C.h0) (.string C.s0) (.string C.h1) (.string C.s1) (.bool C.down) (.int .i64 C.fuse) (.int .i64 C.keep)
          unfold set8 at hBe
          unfold lay set8 at e0 e1 e2 e3 e4 e5 e6 e7
          try simp only at e0 e1 e2 e3 e4 e5 e6 e7 hBe
          generalize World.setCell _ _ _ = wz at e0 e1 e2 e3 e4 e5 e6 e7 hBe ⊢
          refine bodyPost_ret (by simp [results, Try.results30, go_sem, e0, e1, e2, e3, e4, e5, e6, e7]; try rfl) rfl ?_
          exact ⟨by rw [← HR.out, ← HC.out]; rfl, hBe⟩
      · have hfu' : (fuse == 0) = false := by simpa using hfu
        by_cases hfp : 0 < fuse
        · go_upto_region 13 with fail
          have R0 : Row (w2.setCell ⟨w.heap.size, 6, none⟩ (.int .i64 (fuse - 1))) w.heap.size (Dk.mk size h0 s0 a b false (fuse - 1) keep).cells := HR0.out.set 6 (.int .i64 (fuse - 1)) (by simp [Dk.cells])
          have R1 := HR1.out.other (c := w.heap.size) (k := 6) (.int .i64 (fuse - 1)) (by omega)
          have hB := HB.out.setCell (p := ⟨w.heap.size, 6, none⟩) (Nat.le_refl _) (.int .i64 (fuse - 1))
          have hs3 : w2.heap.size ≤ (w2.setCell ⟨w.heap.size, 6, none⟩ (.int .i64 (fuse - 1))).heap.size := by simp
          generalize World.setCell _ _ _ = w3 at R0 R1 hB hs3 ⊢
          clear c0 c1 c2 c3 c4 c5 c6 c7 f0 f1 f2 f3 f4 f5 f6 f7 HR0 HR1 HR2 HB
          obtain ⟨c0, c1, c2, c3, c4, c5, c6, c7, f0, f1, f2, f3, f4, f5, f6, f7⟩ := Row.eight R0
          clear R0
          have HR1 := Lib.hid R1; clear R1
          have HB := Lib.hid hB; clear hB
          obtain ⟨d0, d1, d2, d3, d4, d5, d6, d7, g0, g1, g2, g3, g4, g5, g6, g7⟩ := Row.eight HR1.out
          go_wp2_with fail
          obtain ⟨e0, e1, e2, e3, e4, e5, e6, e7, _, _, _, _, _, _, _, _⟩ := Row.eight (HR1.out.lay (Dk.mk size h0 s0 a b false (fuse - 1) keep))
          have hBe := Below.set8 HB.out (b := w.heap.size + 1) (by omega) (.int .i64 (Dk.mk size h0 s0 a b false (fuse - 1) keep).size) (.string (Dk.mk size h0 s0 a b false (fuse - 1) keep).h0) (.string (Dk.mk size h0 s0 a b false (fuse - 1) keep).s0) (.string (Dk.mk size h0 s0 a b false (fuse - 1) keep).h1) (.string (Dk.mk size h0 s0 a b false (fuse - 1) keep).s1) (.bool (Dk.mk size h0 s0 a b false (fuse - 1) keep).down) (.int .i64 (Dk.mk size h0 s0 a b false (fuse - 1) keep).fuse) (.int .i64 (Dk.mk size h0 s0 a b false (fuse - 1) keep).keep)
          unfold set8 at hBe
          unfold lay set8 at e0 e1 e2 e3 e4 e5 e6 e7
          try simp only at e0 e1 e2 e3 e4 e5 e6 e7 hBe
          generalize World.setCell _ _ _ = wz at e0 e1 e2 e3 e4 e5 e6 e7 hBe ⊢
          refine bodyPost_ret (by simp [results, Try.results30, go_sem, e0, e1, e2, e3, e4, e5, e6, e7]; try rfl) rfl ?_
          exact ⟨by rw [← HR.out]; simp [Dk.set, hfu, hfp], hBe⟩
        · obtain ⟨d0, d1, d2, d3, d4, d5, d6, d7, g0, g1, g2, g3, g4, g5, g6, g7⟩ := Row.eight HR1.out
          go_wp2_with fail
          obtain ⟨e0, e1, e2, e3, e4, e5, e6, e7, _, _, _, _, _, _, _, _⟩ := Row.eight (HR1.out.lay (Dk.mk size h0 s0 a b false fuse keep))
          have hBe := Below.set8 HB.out (b := w.heap.size + 1) (by omega) (.int .i64 (Dk.mk size h0 s0 a b false fuse keep).size) (.string (Dk.mk size h0 s0 a b false fuse keep).h0) (.string (Dk.mk size h0 s0 a b false fuse keep).s0) (.string (Dk.mk size h0 s0 a b false fuse keep).h1) (.string (Dk.mk size h0 s0 a b false fuse keep).s1) (.bool (Dk.mk size h0 s0 a b false fuse keep).down) (.int .i64 (Dk.mk size h0 s0 a b false fuse keep).fuse) (.int .i64 (Dk.mk size h0 s0 a b false fuse keep).keep)
          unfold set8 at hBe
          unfold lay set8 at e0 e1 e2 e3 e4 e5 e6 e7
          try simp only at e0 e1 e2 e3 e4 e5 e6 e7 hBe
          generalize World.setCell _ _ _ = wz at e0 e1 e2 e3 e4 e5 e6 e7 hBe ⊢
          refine bodyPost_ret (by simp [results, Try.results30, go_sem, e0, e1, e2, e3, e4, e5, e6, e7]; try rfl) rfl ?_
          exact ⟨by rw [← HR.out]; simp [Dk.set, hfu]; intro h; omega, hBe⟩
    · go_wp2_with fail
      go_returns
      exact ⟨by rw [← HR.out]; rfl, by go_grown⟩
  · have hft : (f == 0 || f == 1) = false := by simp [hf, hf1]
    rw [hft] at hth
    have HR := Lib.hid hr; clear hr
    clear hg eg
    obtain ⟨size, h0, s0, h1, s1, down, fuse, keep⟩ := d
    unfold Dk.val
    simp only at hz wf
    go_enter Try.func30, Try.ntmps30
    go_wp2_with fail
    refine (hth.out _).mono ?_
    rintro e w1 ⟨rfl, rfl⟩
    go_wp2_with fail
    go_returns
    exact ⟨by rw [← HR.out, if_pos (by simp [hf, hf1])], by go_grown⟩

end Go.Proofs.Ytpghhobbppkggaa
