/- The walk of DiskKeeps. -/
import Derived.Test.YtpghhobbppkggaaDkKeeps
import Derived.BigQuiet
namespace Go.Proofs.Ytpghhobbppkggaa
open Go.RowKit

theorem sixteen_below {w w' : World} {g g2 : Nat} {c d : Dk} (hb : Below w.heap.size w w') (h : w.cell? ⟨g, 0, none⟩ = some (.int .i64 d.size) ∧ w.cell? ⟨g, 1, none⟩ = some (.string d.h0) ∧ w.cell? ⟨g, 2, none⟩ = some (.string d.s0) ∧ w.cell? ⟨g, 3, none⟩ = some (.string d.h1) ∧ w.cell? ⟨g, 4, none⟩ = some (.string d.s1) ∧ w.cell? ⟨g, 5, none⟩ = some (.bool d.down) ∧ w.cell? ⟨g, 6, none⟩ = some (.int .i64 d.fuse) ∧ w.cell? ⟨g, 7, none⟩ = some (.int .i64 d.keep) ∧ w.cell? ⟨g2, 0, none⟩ = some (.int .i64 c.size) ∧ w.cell? ⟨g2, 1, none⟩ = some (.string c.h0) ∧ w.cell? ⟨g2, 2, none⟩ = some (.string ⟨#[]⟩) ∧ w.cell? ⟨g2, 3, none⟩ = some (.string c.h1) ∧ w.cell? ⟨g2, 4, none⟩ = some (.string ⟨#[]⟩) ∧ w.cell? ⟨g2, 5, none⟩ = some (.bool true) ∧ w.cell? ⟨g2, 6, none⟩ = some (.int .i64 c.fuse) ∧ w.cell? ⟨g2, 7, none⟩ = some (.int .i64 c.keep)) : w'.cell? ⟨g, 0, none⟩ = some (.int .i64 d.size) ∧ w'.cell? ⟨g, 1, none⟩ = some (.string d.h0) ∧ w'.cell? ⟨g, 2, none⟩ = some (.string d.s0) ∧ w'.cell? ⟨g, 3, none⟩ = some (.string d.h1) ∧ w'.cell? ⟨g, 4, none⟩ = some (.string d.s1) ∧ w'.cell? ⟨g, 5, none⟩ = some (.bool d.down) ∧ w'.cell? ⟨g, 6, none⟩ = some (.int .i64 d.fuse) ∧ w'.cell? ⟨g, 7, none⟩ = some (.int .i64 d.keep) ∧ w'.cell? ⟨g2, 0, none⟩ = some (.int .i64 c.size) ∧ w'.cell? ⟨g2, 1, none⟩ = some (.string c.h0) ∧ w'.cell? ⟨g2, 2, none⟩ = some (.string ⟨#[]⟩) ∧ w'.cell? ⟨g2, 3, none⟩ = some (.string c.h1) ∧ w'.cell? ⟨g2, 4, none⟩ = some (.string ⟨#[]⟩) ∧ w'.cell? ⟨g2, 5, none⟩ = some (.bool true) ∧ w'.cell? ⟨g2, 6, none⟩ = some (.int .i64 c.fuse) ∧ w'.cell? ⟨g2, 7, none⟩ = some (.int .i64 c.keep) := by
  obtain ⟨h0, h1, h2, h3, h4, h5, h6, h7, k0, k1, k2, k3, k4, k5, k6, k7⟩ := h
  have hl := World.block_lt_of_cell? w _ h0
  have hl' := World.block_lt_of_cell? w _ k0
  exact ⟨(hb.cell (p := ⟨g, 0, none⟩) hl).trans h0, (hb.cell (p := ⟨g, 1, none⟩) hl).trans h1, (hb.cell (p := ⟨g, 2, none⟩) hl).trans h2, (hb.cell (p := ⟨g, 3, none⟩) hl).trans h3, (hb.cell (p := ⟨g, 4, none⟩) hl).trans h4, (hb.cell (p := ⟨g, 5, none⟩) hl).trans h5, (hb.cell (p := ⟨g, 6, none⟩) hl).trans h6, (hb.cell (p := ⟨g, 7, none⟩) hl).trans h7, (hb.cell (p := ⟨g2, 0, none⟩) hl').trans k0, (hb.cell (p := ⟨g2, 1, none⟩) hl').trans k1, (hb.cell (p := ⟨g2, 2, none⟩) hl').trans k2, (hb.cell (p := ⟨g2, 3, none⟩) hl').trans k3, (hb.cell (p := ⟨g2, 4, none⟩) hl').trans k4, (hb.cell (p := ⟨g2, 5, none⟩) hl').trans k5, (hb.cell (p := ⟨g2, 6, none⟩) hl').trans k6, (hb.cell (p := ⟨g2, 7, none⟩) hl').trans k7⟩

set_option maxRecDepth 100000 in
set_option maxHeartbeats 4000000 in
theorem DiskKeeps_walk (v : Value) (l : List Ac) (k : Int) (w : World) (hv : ActsAt w v l) (hok : ∀ a ∈ l, a.ok) (hlen : l.length ≤ 140737488355328) (_wk : (Lit.int .i64 k).wf = true) :
    Calls Try.prog 4 #[v, .int .i64 k] w fun e w' => e = .returned (.bool true) ∧ Below w.heap.size w w' := by
  have HRUN := Lib.hid (fun w' (h : ActsAt w' v l) => run_any 1000 (by omega) v l w' h hok hlen)
  have HN := Lib.hid (fun w => new_any 1000 w)
  have HV := Lib.hid hv; clear hv hok hlen
  go_enter Try.func4, Try.ntmps4
  go_wp2_with fail
  refine (examples_any _).mono ?_
  rintro e w1 ⟨rfl, hb1⟩
  go_wp2_with fail
  refine (HN.out _).mono ?_
  rintro e w2 ⟨rfl, hb2⟩
  go_wp2_with fail
  refine (HRUN.out _ (HV.out.below (below4 hb1 hb2))).mono ?_
  rintro e w3 ⟨d, s0, s1, rfl, hI, hb3⟩
  have hb := below4 hb1 (below4 hb2 hb3)
  clear hb1 hb2 hb3 HRUN HV HN
  have hu : d.used ≤ 1000 := hI.used
  have HC := Lib.hid (fun w => crash_any d k w (by omega))
  have hK := keeps_law hI k
  have hcu := crash_used d k
  have hcd : (d.crash k).down = true := rfl
  have hc0 : (d.crash k).s0 = ⟨#[]⟩ := rfl
  have hc1 : (d.crash k).s1 = ⟨#[]⟩ := rfl
  generalize d.crash k = c at *
  obtain ⟨a0, a1⟩ := extract_prefix hK.1.1
  obtain ⟨a2, a3⟩ := extract_prefix hK.1.2
  obtain ⟨b0, b1⟩ := extract_prefix hK.2.1
  obtain ⟨b2, b3⟩ := extract_prefix hK.2.2
  have HRD := Lib.hid (fun f w => read_any d f w (by omega))
  have HRC := Lib.hid (fun f w => read_any c f w (by omega))
  have HUD := Lib.hid (fun w => used_any d w (by omega))
  have HUC := Lib.hid (fun w => used_any c w (by omega))
  clear hK hI
  have HB := Lib.hid hb; clear hb
  unfold Dk.val at HC HRD HRC HUD HUC ⊢
  rw [hcd, hc0, hc1] at HC HRC HUC
  obtain ⟨g, hg⟩ : ∃ g, w3.heap.size = g := ⟨_, rfl⟩
  have HA := Lib.hid (⟨a0, a1, a2, a3, b0, b1, b2, b3⟩ : _ ∧ _ ∧ _ ∧ _ ∧ _ ∧ _ ∧ _ ∧ _)
  clear a0 a1 a2 a3 b0 b1 b2 b3
  go_wp2_with fail
  refine (HC.out _).mono ?_
  rintro e w4 ⟨rfl, hb4⟩
  have R := Row.below (Row.alloc (Row.at hg rfl : Row _ g d.cells) (by simp; omega) _) hb4 (by simp; omega)
  have R7 := Row.below (Row.at (by simp; omega) rfl : Row _ (g + 1) [.string s0, .string s1]) hb4 (by simp; omega)
  have hB : Below w.heap.size w w4 := by
    refine Below.trans ?_ (hb4.mono (by have := HB.out.size; simp; omega))
    exact (HB.out.alloc HB.out.size _).alloc (by have := HB.out.size; simp; omega) _
  have hs4 := hb4.size
  simp at hs4
  clear HB hb4
  have HR := Lib.hid R; clear R
  have HR7 := Lib.hid R7; clear R7
  have HB := Lib.hid hB; clear hB
  obtain ⟨g2, hg2⟩ : ∃ g, w4.heap.size = g := ⟨_, rfl⟩
  have hgl : g + 1 < g2 := by omega
  go_wp2_with fail
  have R := Row.alloc HR.out (by omega) (.cells ([.int .i64 c.size, .string c.h0, .string ⟨#[]⟩, .string c.h1, .string ⟨#[]⟩, .bool true, .int .i64 c.fuse, .int .i64 c.keep] : List Value).toArray 26)
  have R7 := Row.alloc HR7.out (by omega) (.cells ([.int .i64 c.size, .string c.h0, .string ⟨#[]⟩, .string c.h1, .string ⟨#[]⟩, .bool true, .int .i64 c.fuse, .int .i64 c.keep] : List Value).toArray 26)
  have RC : Row _ g2 [.int .i64 c.size, .string c.h0, .string ⟨#[]⟩, .string c.h1, .string ⟨#[]⟩, .bool true, .int .i64 c.fuse, .int .i64 c.keep] := Row.at (w := w4) (t := 26) (arr := ([.int .i64 c.size, .string c.h0, .string ⟨#[]⟩, .string c.h1, .string ⟨#[]⟩, .bool true, .int .i64 c.fuse, .int .i64 c.keep] : List Value).toArray) hg2 rfl
  have hB := HB.out.alloc HB.out.size (.cells ([.int .i64 c.size, .string c.h0, .string ⟨#[]⟩, .string c.h1, .string ⟨#[]⟩, .bool true, .int .i64 c.fuse, .int .i64 c.keep] : List Value).toArray 26)
  have hgc : g2 < (w4.alloc (.cells ([.int .i64 c.size, .string c.h0, .string ⟨#[]⟩, .string c.h1, .string ⟨#[]⟩, .bool true, .int .i64 c.fuse, .int .i64 c.keep] : List Value).toArray 26)).heap.size := by simp; omega
  generalize w4.alloc _ = w5 at R R7 RC hB hgc ⊢
  have hgg : g < w5.heap.size := by omega
  have hg7 : g + 1 < w5.heap.size := by omega
  clear HR HR7 HB hg hg2 hs4
  have HR := Lib.hid R; clear R
  have HR7 := Lib.hid R7; clear R7
  have HRC2 := Lib.hid RC; clear RC
  have HB := Lib.hid hB; clear hB
  refine wp_loop_rounds 3 ?_
  rw [rounds_succ]
  obtain ⟨c0, c1, c2, c3, c4, c5, c6, c7, _, _, _, _, _, _, _, _⟩ := Row.eight HR.out
  obtain ⟨d0, d1, d2, d3, d4, d5, d6, d7, _, _, _, _, _, _, _, _⟩ := Row.eight HRC2.out
  go_wp2_with fail
  refine (HRD.out 0 _).mono ?_
  rintro e x0 ⟨rfl, hb5⟩
  have R := Row.below HR.out hb5 hgg
  have R7 := Row.below HR7.out hb5 hg7
  have RC := Row.below HRC2.out hb5 hgc
  have hB := HB.out.trans (hb5.mono HB.out.size)
  have hgg := Nat.lt_of_lt_of_le hgg hb5.size
  have hg7 := Nat.lt_of_lt_of_le hg7 hb5.size
  have hgc := Nat.lt_of_lt_of_le hgc hb5.size
  clear HR HR7 HRC2 HB hb5 c0 c1 c2 c3 c4 c5 c6 c7 d0 d1 d2 d3 d4 d5 d6 d7
  have HR := Lib.hid R; clear R
  have HR7 := Lib.hid R7; clear R7
  have HRC2 := Lib.hid RC; clear RC
  have HB := Lib.hid hB; clear hB
  obtain ⟨d0, d1, d2, d3, d4, d5, d6, d7, _, _, _, _, _, _, _, _⟩ := Row.eight HRC2.out
  go_wp2_with fail
  refine (HRC.out 0 _).mono ?_
  rintro e y0 ⟨rfl, hb5⟩
  have R := Row.below HR.out hb5 hgg
  have R7 := Row.below HR7.out hb5 hg7
  have RC := Row.below HRC2.out hb5 hgc
  have hB := HB.out.trans (hb5.mono HB.out.size)
  have hgg := Nat.lt_of_lt_of_le hgg hb5.size
  have hg7 := Nat.lt_of_lt_of_le hg7 hb5.size
  have hgc := Nat.lt_of_lt_of_le hgc hb5.size
  clear HR HR7 HRC2 HB hb5 d0 d1 d2 d3 d4 d5 d6 d7
  have HR := Lib.hid R; clear R
  have HR7 := Lib.hid R7; clear R7
  have HRC2 := Lib.hid RC; clear RC
  have HB := Lib.hid hB; clear hB
  obtain ⟨m0, m1, _, _⟩ := HR7.out.two
  obtain ⟨a0, a1, a2, a3, b0, b1, b2, b3⟩ := HA.out
  have p0 : ¬ (((c.read 0).size : Int) < (s0.size : Int)) := by omega
  have p1 : (0 : Int) ≤ (s0.size : Int) := by omega
  have p2 : (s0.size : Int) ≤ ((c.read 0).size : Int) := by omega
  have p3 : ¬ (((d.read 0).size : Int) < ((c.read 0).size : Int)) := by omega
  have p4 : (0 : Int) ≤ ((c.read 0).size : Int) := by omega
  have p5 : ((c.read 0).size : Int) ≤ ((d.read 0).size : Int) := by omega
  have q0 : decide (((c.read 0).size : Int) < (s0.size : Int)) = false := by simpa using p0
  have q1 : decide (((d.read 0).size : Int) < ((c.read 0).size : Int)) = false := by simpa using p3
  have q2 : decide ((c.read 0).size < s0.size) = false := by simp; omega
  have q3 : decide ((d.read 0).size < (c.read 0).size) = false := by simp; omega
  clear b0 b1 b2 b3
  go_upto_region 11 with fail
  go_quiet (fail)
  have R : Row (World.drewN y0 nq) g d.cells := HR.out
  have R7 : Row (World.drewN y0 nq) (g + 1) [.string s0, .string s1] := HR7.out
  have RC : Row (World.drewN y0 nq) g2 [.int .i64 c.size, .string c.h0, .string ⟨#[]⟩, .string c.h1, .string ⟨#[]⟩, .bool true, .int .i64 c.fuse, .int .i64 c.keep] := HRC2.out
  have hB : Below w.heap.size w (World.drewN y0 nq) := HB.out.trans ⟨rfl, rfl, rfl, Nat.le_refl _, fun _ _ => rfl⟩
  have hgg : g < (World.drewN y0 nq).heap.size := hgg
  have hg7 : g + 1 < (World.drewN y0 nq).heap.size := hg7
  have hgc : g2 < (World.drewN y0 nq).heap.size := hgc
  generalize World.drewN y0 nq = z0 at R R7 RC hB hgg hg7 hgc ⊢
  clear m0 m1 a0 a1 a2 a3 p0 p1 p2 p3 p4 p5 q0 q1 q2 q3 HR HR7 HRC2 HB
  have HR := Lib.hid R; clear R
  have HR7 := Lib.hid R7; clear R7
  have HRC2 := Lib.hid RC; clear RC
  have HB := Lib.hid hB; clear hB
  go_wp2_with fail
  rw [rounds_succ]
  obtain ⟨c0, c1, c2, c3, c4, c5, c6, c7, _, _, _, _, _, _, _, _⟩ := Row.eight HR.out
  obtain ⟨d0, d1, d2, d3, d4, d5, d6, d7, _, _, _, _, _, _, _, _⟩ := Row.eight HRC2.out
  go_wp2_with fail
  refine (HRD.out 1 _).mono ?_
  rintro e x1 ⟨rfl, hb5⟩
  have R := Row.below HR.out hb5 hgg
  have R7 := Row.below HR7.out hb5 hg7
  have RC := Row.below HRC2.out hb5 hgc
  have hB := HB.out.trans (hb5.mono HB.out.size)
  have hgg := Nat.lt_of_lt_of_le hgg hb5.size
  have hg7 := Nat.lt_of_lt_of_le hg7 hb5.size
  have hgc := Nat.lt_of_lt_of_le hgc hb5.size
  clear HR HR7 HRC2 HB hb5 c0 c1 c2 c3 c4 c5 c6 c7 d0 d1 d2 d3 d4 d5 d6 d7
  have HR := Lib.hid R; clear R
  have HR7 := Lib.hid R7; clear R7
  have HRC2 := Lib.hid RC; clear RC
  have HB := Lib.hid hB; clear hB
  obtain ⟨d0, d1, d2, d3, d4, d5, d6, d7, _, _, _, _, _, _, _, _⟩ := Row.eight HRC2.out
  go_wp2_with fail
  refine (HRC.out 1 _).mono ?_
  rintro e y1 ⟨rfl, hb5⟩
  have R := Row.below HR.out hb5 hgg
  have R7 := Row.below HR7.out hb5 hg7
  have RC := Row.below HRC2.out hb5 hgc
  have hB := HB.out.trans (hb5.mono HB.out.size)
  have hgg := Nat.lt_of_lt_of_le hgg hb5.size
  have hg7 := Nat.lt_of_lt_of_le hg7 hb5.size
  have hgc := Nat.lt_of_lt_of_le hgc hb5.size
  clear HR HR7 HRC2 HB hb5 d0 d1 d2 d3 d4 d5 d6 d7
  have HR := Lib.hid R; clear R
  have HR7 := Lib.hid R7; clear R7
  have HRC2 := Lib.hid RC; clear RC
  have HB := Lib.hid hB; clear hB
  obtain ⟨m0, m1, _, _⟩ := HR7.out.two
  obtain ⟨a0, a1, a2, a3, b0, b1, b2, b3⟩ := HA.out
  have p0 : ¬ (((c.read 1).size : Int) < (s1.size : Int)) := by omega
  have p1 : (0 : Int) ≤ (s1.size : Int) := by omega
  have p2 : (s1.size : Int) ≤ ((c.read 1).size : Int) := by omega
  have p3 : ¬ (((d.read 1).size : Int) < ((c.read 1).size : Int)) := by omega
  have p4 : (0 : Int) ≤ ((c.read 1).size : Int) := by omega
  have p5 : ((c.read 1).size : Int) ≤ ((d.read 1).size : Int) := by omega
  have q0 : decide (((c.read 1).size : Int) < (s1.size : Int)) = false := by simpa using p0
  have q1 : decide (((d.read 1).size : Int) < ((c.read 1).size : Int)) = false := by simpa using p3
  have q2 : decide ((c.read 1).size < s1.size) = false := by simp; omega
  have q3 : decide ((d.read 1).size < (c.read 1).size) = false := by simp; omega
  clear a0 a1 a2 a3
  go_upto_region 11 with fail
  go_quiet (fail)
  have R : Row (World.drewN y1 nq) g d.cells := HR.out
  have R7 : Row (World.drewN y1 nq) (g + 1) [.string s0, .string s1] := HR7.out
  have RC : Row (World.drewN y1 nq) g2 [.int .i64 c.size, .string c.h0, .string ⟨#[]⟩, .string c.h1, .string ⟨#[]⟩, .bool true, .int .i64 c.fuse, .int .i64 c.keep] := HRC2.out
  have hB : Below w.heap.size w (World.drewN y1 nq) := HB.out.trans ⟨rfl, rfl, rfl, Nat.le_refl _, fun _ _ => rfl⟩
  have hgg : g < (World.drewN y1 nq).heap.size := hgg
  have hg7 : g + 1 < (World.drewN y1 nq).heap.size := hg7
  have hgc : g2 < (World.drewN y1 nq).heap.size := hgc
  generalize World.drewN y1 nq = z1 at R R7 RC hB hgg hg7 hgc ⊢
  clear m0 m1 b0 b1 b2 b3 p0 p1 p2 p3 p4 p5 q0 q1 q2 q3 HR HR7 HRC2 HB
  have HR := Lib.hid R; clear R
  have HR7 := Lib.hid R7; clear R7
  have HRC2 := Lib.hid RC; clear RC
  have HB := Lib.hid hB; clear hB
  go_wp2_with fail
  rw [rounds_succ]
  obtain ⟨c0, c1, c2, c3, c4, c5, c6, c7, _, _, _, _, _, _, _, _⟩ := Row.eight HR.out
  obtain ⟨d0, d1, d2, d3, d4, d5, d6, d7, _, _, _, _, _, _, _, _⟩ := Row.eight HRC2.out
  have pu : ((c.used : Nat) : Int) ≤ ((d.used : Nat) : Int) := by omega
  have pu2 : decide (((c.used : Nat) : Int) ≤ ((d.used : Nat) : Int)) = true := by simpa using hcu
  have pu3 : decide (c.used ≤ d.used) = true := by simpa using hcu
  go_upto_region 13 with fail
  go_region_held3 (fun w' => w'.cell? ⟨g, 0, none⟩ = some (.int .i64 d.size) ∧ w'.cell? ⟨g, 1, none⟩ = some (.string d.h0) ∧ w'.cell? ⟨g, 2, none⟩ = some (.string d.s0) ∧ w'.cell? ⟨g, 3, none⟩ = some (.string d.h1) ∧ w'.cell? ⟨g, 4, none⟩ = some (.string d.s1) ∧ w'.cell? ⟨g, 5, none⟩ = some (.bool d.down) ∧ w'.cell? ⟨g, 6, none⟩ = some (.int .i64 d.fuse) ∧ w'.cell? ⟨g, 7, none⟩ = some (.int .i64 d.keep) ∧ w'.cell? ⟨g2, 0, none⟩ = some (.int .i64 c.size) ∧ w'.cell? ⟨g2, 1, none⟩ = some (.string c.h0) ∧ w'.cell? ⟨g2, 2, none⟩ = some (.string ⟨#[]⟩) ∧ w'.cell? ⟨g2, 3, none⟩ = some (.string c.h1) ∧ w'.cell? ⟨g2, 4, none⟩ = some (.string ⟨#[]⟩) ∧ w'.cell? ⟨g2, 5, none⟩ = some (.bool true) ∧ w'.cell? ⟨g2, 6, none⟩ = some (.int .i64 c.fuse) ∧ w'.cell? ⟨g2, 7, none⟩ = some (.int .i64 c.keep)) (first | go_keep | (exact sixteen_below hq2 (by assumption)) | (exact sixteen_below hq1 (by first | assumption | (simp [go_sem, *]; done)))) ((first | (go_at_call 22; ((with_reducible refine (HUC.out _).mono ?_); rintro e u1 ⟨rfl, hq1⟩)) | (go_at_call 22; ((with_reducible refine (HUD.out _).mono ?_); rintro e u2 ⟨rfl, hq2⟩))))
  go_wp2_with fail
  go_ret
  exact ⟨rfl, below4 HB.out (below4 (below_of_drew hq1) hq2)⟩

end Go.Proofs.Ytpghhobbppkggaa
