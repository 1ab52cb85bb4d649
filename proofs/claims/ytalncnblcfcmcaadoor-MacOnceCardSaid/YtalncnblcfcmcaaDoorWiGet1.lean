/- The walk of what wire.Get does at its end. -/
import Derived.Test.YtalncnblcfcmcaaDoorWiPut
import Derived.Test.YtalncnblcfcmcaaDoorRow
import Derived.Defers
import Derived.Deep.RegionHeld3
import Derived.Deep.DeepCutAuto
namespace Go.Proofs.YtalncnblcfcmcaaDoor
open Go.RowKit

/-- the variables of Get -/
structure Gv (w x : World) (s : ByteArray) (a : Int) (u : Nat) (n : Int) (o : Bool) : Prop where
  cs : Row x w.heap.size [.string s]
  ca : Row x (w.heap.size + 1) [.int .i64 a]
  cu : Row x (w.heap.size + 1 + 1) [.int .u64 (u : Int)]
  cn : Row x (w.heap.size + 1 + 1 + 1) [.int .i64 n]
  co : Row x (w.heap.size + 1 + 1 + 1 + 1) [.bool o]
  b : Below w.heap.size w x
  lt : w.heap.size + 1 + 1 + 1 + 1 < x.heap.size

theorem Row.one {w : World} {b : Nat} {a0 : Value} (h : Row w b [a0]) : w.cell? ⟨b, 0, none⟩ = some a0 ∧ w.frozen? ⟨b, 0, none⟩ = false := h 0 _ rfl

namespace Gv
variable {w x y : World} {s : ByteArray} {a n : Int} {u : Nat} {o : Bool}
theorem below (h : Gv w x s a u n o) (hb : Below x.heap.size x y) : Gv w y s a u n o :=
  have := h.lt
  ⟨h.cs.below hb (by omega), h.ca.below hb (by omega), h.cu.below hb (by omega), h.cn.below hb (by omega), h.co.below hb (by omega), h.b.trans (hb.mono h.b.size), Nat.lt_of_lt_of_le h.lt hb.size⟩
theorem drew (h : Gv w x s a u n o) : Gv w x.drew s a u n o := ⟨h.cs, h.ca, h.cu, h.cn, h.co, h.b.drew, h.lt⟩
theorem setU (h : Gv w x s a u n o) (v : Nat) : Gv w (x.setCell ⟨w.heap.size + 1 + 1, 0, none⟩ (.int .u64 (v : Int))) s a v n o :=
  ⟨h.cs.other _ (by omega), h.ca.other _ (by omega), h.cu.set 0 _ (by simp), h.cn.other _ (by omega), h.co.other _ (by omega), h.b.setCell (p := ⟨w.heap.size + 1 + 1, 0, none⟩) (by show w.heap.size ≤ w.heap.size + 1 + 1; omega) _, by simpa using h.lt⟩
theorem setN (h : Gv w x s a u n o) (v : Int) : Gv w (x.setCell ⟨w.heap.size + 1 + 1 + 1, 0, none⟩ (.int .i64 v)) s a u v o :=
  ⟨h.cs.other _ (by omega), h.ca.other _ (by omega), h.cu.other _ (by omega), h.cn.set 0 _ (by simp), h.co.other _ (by omega), h.b.setCell (p := ⟨w.heap.size + 1 + 1 + 1, 0, none⟩) (by show w.heap.size ≤ w.heap.size + 1 + 1 + 1; omega) _, by simpa using h.lt⟩
theorem setO (h : Gv w x s a u n o) (v : Bool) : Gv w (x.setCell ⟨w.heap.size + 1 + 1 + 1 + 1, 0, none⟩ (.bool v)) s a u n v :=
  ⟨h.cs.other _ (by omega), h.ca.other _ (by omega), h.cu.other _ (by omega), h.cn.other _ (by omega), h.co.set 0 _ (by simp), h.b.setCell (p := ⟨w.heap.size + 1 + 1 + 1 + 1, 0, none⟩) (by show w.heap.size ≤ w.heap.size + 1 + 1 + 1 + 1; omega) _, by simpa using h.lt⟩
theorem cells (h : Gv w x s a u n o) : x.cell? ⟨w.heap.size, 0, none⟩ = some (.string s) ∧ x.cell? ⟨w.heap.size + 1, 0, none⟩ = some (.int .i64 a) ∧ x.cell? ⟨w.heap.size + 1 + 1, 0, none⟩ = some (.int .u64 (u : Int)) ∧ x.cell? ⟨w.heap.size + 1 + 1 + 1, 0, none⟩ = some (.int .i64 n) ∧ x.cell? ⟨w.heap.size + 1 + 1 + 1 + 1, 0, none⟩ = some (.bool o) ∧
    x.frozen? ⟨w.heap.size + 1 + 1, 0, none⟩ = false ∧ x.frozen? ⟨w.heap.size + 1 + 1 + 1, 0, none⟩ = false ∧ x.frozen? ⟨w.heap.size + 1 + 1 + 1 + 1, 0, none⟩ = false :=
  ⟨h.cs.one.1, h.ca.one.1, h.cu.one.1, h.cn.one.1, h.co.one.1, h.cu.one.2, h.cn.one.2, h.co.one.2⟩
end Gv

set_option maxHeartbeats 1000000 in
theorem close_zero (w x : World) (s : ByteArray) (a : Int) (u : Nat) (o : Bool) (h : Gv w x s a u 0 o) :
    CallsD Tryd.prog 52 #[.pointer (some ⟨w.heap.size + 1 + 1 + 1, 0, none⟩), .pointer (some ⟨w.heap.size + 1 + 1, 0, none⟩), .pointer (some ⟨w.heap.size, 0, none⟩), .pointer (some ⟨w.heap.size + 1, 0, none⟩), .pointer (some ⟨w.heap.size + 1 + 1 + 1 + 1, 0, none⟩)] .returning x
      fun e u' x' => u' = .returning ∧ (e = .returned (.tuple #[]) ∧ Gv w x' s a 0 0 false) := by
  obtain ⟨c0, c1, c2, c3, c4, f2, f3, f4⟩ := h.cells
  have HG := Lib.hid h; clear h
  go_enter_d Tryd.func52, Tryd.ntmps52
  go_upto_region 0 with fail
  go_cut [5] (fun _ wx => Gv w wx s a u 0 false)
  case first =>
    go_region
    all_goals (go_wp2_with fail; go_meet; exact (HG.out.drew).setO false)
  case rest =>
    clear HG c0 c1 c2 c3 c4 f2 f3 f4
    obtain ⟨c0, c1, c2, c3, c4, f2, f3, f4⟩ := hcut.cells
    have HG := Lib.hid hcut; clear hcut
    go_wp2_with fail
    have hG := (HG.out.setU 0).setN 0
    exact ⟨rfl, _, results_none rfl _ _ _, rfl, hG⟩

theorem four_below {w w' : World} {b0 b1 b2 b3 : Nat} {a0 a1 a2 a3 : Value} (hb : Below w.heap.size w w') (h : w.cell? ⟨b0, 0, none⟩ = some a0 ∧ w.cell? ⟨b1, 0, none⟩ = some a1 ∧ w.cell? ⟨b2, 0, none⟩ = some a2 ∧ w.cell? ⟨b3, 0, none⟩ = some a3) :
    w'.cell? ⟨b0, 0, none⟩ = some a0 ∧ w'.cell? ⟨b1, 0, none⟩ = some a1 ∧ w'.cell? ⟨b2, 0, none⟩ = some a2 ∧ w'.cell? ⟨b3, 0, none⟩ = some a3 :=
  ⟨(hb.cell (p := ⟨b0, 0, none⟩) (World.block_lt_of_cell? w _ h.1)).trans h.1, (hb.cell (p := ⟨b1, 0, none⟩) (World.block_lt_of_cell? w _ h.2.1)).trans h.2.1, (hb.cell (p := ⟨b2, 0, none⟩) (World.block_lt_of_cell? w _ h.2.2.1)).trans h.2.2.1, (hb.cell (p := ⟨b3, 0, none⟩) (World.block_lt_of_cell? w _ h.2.2.2)).trans h.2.2.2⟩

theorem four_set {w : World} {b0 b1 b2 b3 b : Nat} {a0 a1 a2 a3 v : Value} (h0 : b ≠ b0) (h1 : b ≠ b1) (h2 : b ≠ b2) (h3 : b ≠ b3) (h : w.cell? ⟨b0, 0, none⟩ = some a0 ∧ w.cell? ⟨b1, 0, none⟩ = some a1 ∧ w.cell? ⟨b2, 0, none⟩ = some a2 ∧ w.cell? ⟨b3, 0, none⟩ = some a3) :
    (w.setCell ⟨b, 0, none⟩ v).cell? ⟨b0, 0, none⟩ = some a0 ∧ (w.setCell ⟨b, 0, none⟩ v).cell? ⟨b1, 0, none⟩ = some a1 ∧ (w.setCell ⟨b, 0, none⟩ v).cell? ⟨b2, 0, none⟩ = some a2 ∧ (w.setCell ⟨b, 0, none⟩ v).cell? ⟨b3, 0, none⟩ = some a3 :=
  ⟨(World.cell?_setCell_other _ _ _ _ (by intro e; cases e; exact h0 rfl)).trans h.1, (World.cell?_setCell_other _ _ _ _ (by intro e; cases e; exact h1 rfl)).trans h.2.1, (World.cell?_setCell_other _ _ _ _ (by intro e; cases e; exact h2 rfl)).trans h.2.2.1, (World.cell?_setCell_other _ _ _ _ (by intro e; cases e; exact h3 rfl)).trans h.2.2.2⟩

set_option maxHeartbeats 4000000 in
theorem close_pos (w x : World) (s : ByteArray) (a n u : Nat) (o r : Bool) (h : Gv w x s a u n o) (hu : u < 18446744073709551616) (hn : 0 < n) (han : a ≤ n) (hns : n ≤ s.size) (hr : ((⟨(Wi.put u).toArray⟩ : ByteArray).toList == (s.extract a n).toList) = r) :
    CallsD Tryd.prog 52 #[.pointer (some ⟨w.heap.size + 1 + 1 + 1, 0, none⟩), .pointer (some ⟨w.heap.size + 1 + 1, 0, none⟩), .pointer (some ⟨w.heap.size, 0, none⟩), .pointer (some ⟨w.heap.size + 1, 0, none⟩), .pointer (some ⟨w.heap.size + 1 + 1 + 1 + 1, 0, none⟩)] .returning x
      fun e u' x' => u' = .returning ∧ (e = .returned (.tuple #[]) ∧ Gv w x' s a (if r then u else 0) (if r then n else 0) r) := by
  obtain ⟨c0, c1, c2, c3, c4, f2, f3, f4⟩ := h.cells
  have HG := Lib.hid h; clear h
  have HP := Lib.hid (fun w => Put_any u w hu); clear hu
  obtain ⟨q, hq⟩ : ∃ q, (⟨(Wi.put u).toArray⟩ : ByteArray) = q := ⟨_, rfl⟩
  rw [hq] at HP hr
  clear hq
  have hn' : (0 : Int) < (n : Int) := by omega
  have hn0 : (0 : Int) ≤ (n : Int) := by omega
  have ha' : (0 : Int) ≤ (a : Int) := by omega
  have han' : (a : Int) ≤ (n : Int) := by omega
  have hns' : (n : Int) ≤ (s.size : Int) := by omega
  have hnd : decide (0 < n) = true := by simpa using hn
  go_enter_d Tryd.func52, Tryd.ntmps52
  go_upto_region 0 with fail
  go_cut [5] (fun _ wx => Gv w wx s a u n r)
  case first =>
    go_region_held3 (fun w' => w'.cell? ⟨w.heap.size, 0, none⟩ = some (.string s) ∧ w'.cell? ⟨w.heap.size + 1, 0, none⟩ = some (.int .i64 (a : Int)) ∧ w'.cell? ⟨w.heap.size + 1 + 1, 0, none⟩ = some (.int .u64 (u : Int)) ∧ w'.cell? ⟨w.heap.size + 1 + 1 + 1, 0, none⟩ = some (.int .i64 (n : Int))) (first | (exact four_set (by omega) (by omega) (by omega) (by omega) ⟨d0, d1, d2, d3⟩) | go_keep | (exact four_below hq (by first | assumption | (simp [go_sem, *]; done))))
      ((first | (go_at_call 46; ((with_reducible refine (HP.out _).mono ?_); rintro e y ⟨rfl, hq⟩); have hG := (HG.out.drew).below hq; obtain ⟨d0, d1, d2, d3, d4, g2, g3, g4⟩ := hG.cells)))
    all_goals (go_wp2_with fail; go_meet; exact hG.setO r)
  case rest =>
    clear HG c0 c1 c2 c3 c4 f2 f3 f4
    obtain ⟨c0, c1, c2, c3, c4, f2, f3, f4⟩ := hcut.cells
    have HG := Lib.hid hcut; clear hcut
    cases r
    · go_wp2_with fail
      have hG := (HG.out.setU 0).setN 0
      exact ⟨rfl, _, results_none rfl _ _ _, rfl, hG⟩
    · go_wp2_with fail
      exact ⟨rfl, _, results_none rfl _ _ _, rfl, HG.out⟩

end Go.Proofs.YtalncnblcfcmcaaDoor