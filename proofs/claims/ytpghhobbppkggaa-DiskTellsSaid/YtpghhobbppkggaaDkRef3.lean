/- The walks of the document's own Sync and Cut: each gives what the code gives. -/
import Derived.Test.YtpghhobbppkggaaDkRef2
namespace Go.Proofs.Ytpghhobbppkggaa
open Go.RowKit

theorem Tw.other {w x : World} {d : Dk} (h : Tw w x d) (b k : Nat) (v : Value) (hb : w.heap.size + 1 < b) : Tw w (x.setCell ⟨b, k, none⟩ v) d :=
  ⟨h.r0.other v (by omega), h.r1.other v (by omega), h.b.setCell (p := ⟨b, k, none⟩) (by show w.heap.size ≤ b; omega) v, by simpa using h.lt⟩

set_option maxRecDepth 100000 in
set_option maxHeartbeats 4000000 in
theorem rsync_any (d : Dk) (f : Int) (w : World) (hz : d.used ≤ 4503599627370496) (wf : d.fuse < 9223372036854775808) :
    Calls Try.prog 13 #[d.val, .int .i64 f] w fun e w' => e = .returned (.tuple #[(d.sync f).1.val, .int .i64 (d.sync f).2]) ∧ Below w.heap.size w w' := by
  have HREF := fun w => refused_any d f w
  by_cases hf : f = 0 ∨ f = 1
  case neg =>
    rw [refused_arg hf] at HREF
    rw [show d.sync f = (d, 1) from deed_arg f _ _ hf]
    obtain ⟨size, h0, s0, h1, s1, down, fuse, keep⟩ := d
    unfold Dk.val at HREF ⊢
    have HREF := Lib.hid HREF
    clear hz wf
    go_enter Try.func13, Try.ntmps13
    go_wp2_with fail
    have hT0 := Tw.start w (Dk.mk size h0 s0 h1 s1 down fuse keep)
    refine (HREF.out _).mono ?_
    rintro e x ⟨rfl, hbx⟩
    have HT := Lib.hid (hT0.below hbx); clear hT0 hbx
    obtain ⟨c0, c1, c2, c3, c4, c5, c6, c7, f0, f1, f2, f3, f4, f5, f6, f7⟩ := Row.eight HT.out.r0
    obtain ⟨d0, d1, d2, d3, d4, d5, d6, d7, g0, g1, g2, g3, g4, g5, g6, g7⟩ := Row.eight HT.out.r1
    have hlt := HT.out.lt
    go_wp2_with fail
    obtain ⟨e0, e1, e2, e3, e4, e5, e6, e7, _, _, _, _, _, _, _, _⟩ := Row.eight (HT.out.r1.lay (Dk.mk size h0 s0 h1 s1 down fuse keep))
    have hBe := Below.set8 HT.out.b (b := w.heap.size + 1) (by omega) (.int .i64 (Dk.mk size h0 s0 h1 s1 down fuse keep).size) (.string (Dk.mk size h0 s0 h1 s1 down fuse keep).h0) (.string (Dk.mk size h0 s0 h1 s1 down fuse keep).s0) (.string (Dk.mk size h0 s0 h1 s1 down fuse keep).h1) (.string (Dk.mk size h0 s0 h1 s1 down fuse keep).s1) (.bool (Dk.mk size h0 s0 h1 s1 down fuse keep).down) (.int .i64 (Dk.mk size h0 s0 h1 s1 down fuse keep).fuse) (.int .i64 (Dk.mk size h0 s0 h1 s1 down fuse keep).keep)
    unfold set8 at hBe
    unfold lay set8 at e0 e1 e2 e3 e4 e5 e6 e7
    try simp only at e0 e1 e2 e3 e4 e5 e6 e7 hBe
    generalize World.setCell _ _ _ = wz at e0 e1 e2 e3 e4 e5 e6 e7 hBe ⊢
    refine bodyPost_ret (by simp [results, Try.results13, go_sem, e0, e1, e2, e3, e4, e5, e6, e7]; try rfl) rfl ?_
    exact ⟨rfl, hBe⟩
  cases hd : d.down
  case true =>
    rw [refused_down hf hd] at HREF
    rw [show d.sync f = (d, 12) from deed_down' hd f _ _ hf]
    clear hd hf
    obtain ⟨size, h0, s0, h1, s1, down, fuse, keep⟩ := d
    unfold Dk.val at HREF ⊢
    have HREF := Lib.hid HREF
    clear hz wf
    go_enter Try.func13, Try.ntmps13
    go_wp2_with fail
    have hT0 := Tw.start w (Dk.mk size h0 s0 h1 s1 down fuse keep)
    refine (HREF.out _).mono ?_
    rintro e x ⟨rfl, hbx⟩
    have HT := Lib.hid (hT0.below hbx); clear hT0 hbx
    obtain ⟨c0, c1, c2, c3, c4, c5, c6, c7, f0, f1, f2, f3, f4, f5, f6, f7⟩ := Row.eight HT.out.r0
    obtain ⟨d0, d1, d2, d3, d4, d5, d6, d7, g0, g1, g2, g3, g4, g5, g6, g7⟩ := Row.eight HT.out.r1
    have hlt := HT.out.lt
    go_wp2_with fail
    obtain ⟨e0, e1, e2, e3, e4, e5, e6, e7, _, _, _, _, _, _, _, _⟩ := Row.eight (HT.out.r1.lay (Dk.mk size h0 s0 h1 s1 down fuse keep))
    have hBe := Below.set8 HT.out.b (b := w.heap.size + 1) (by omega) (.int .i64 (Dk.mk size h0 s0 h1 s1 down fuse keep).size) (.string (Dk.mk size h0 s0 h1 s1 down fuse keep).h0) (.string (Dk.mk size h0 s0 h1 s1 down fuse keep).s0) (.string (Dk.mk size h0 s0 h1 s1 down fuse keep).h1) (.string (Dk.mk size h0 s0 h1 s1 down fuse keep).s1) (.bool (Dk.mk size h0 s0 h1 s1 down fuse keep).down) (.int .i64 (Dk.mk size h0 s0 h1 s1 down fuse keep).fuse) (.int .i64 (Dk.mk size h0 s0 h1 s1 down fuse keep).keep)
    unfold set8 at hBe
    unfold lay set8 at e0 e1 e2 e3 e4 e5 e6 e7
    try simp only at e0 e1 e2 e3 e4 e5 e6 e7 hBe
    generalize World.setCell _ _ _ = wz at e0 e1 e2 e3 e4 e5 e6 e7 hBe ⊢
    refine bodyPost_ret (by simp [results, Try.results13, go_sem, e0, e1, e2, e3, e4, e5, e6, e7]; try rfl) rfl ?_
    exact ⟨rfl, hBe⟩
  case false =>
    rw [refused_up hf hd] at HREF
    obtain ⟨R, hR⟩ : ∃ R, d.sync f = R := ⟨_, rfl⟩
    have hRR := (deed_burnt hd f false (fun x => (x.1 ++ x.2, ⟨#[]⟩)) hf).symm.trans hR
    simp only [Bool.false_eq_true, if_false] at hRR
    have hbu := fun w => burnt_any d (d.set f ((d.file f).1 ++ (d.file f).2, ⟨#[]⟩)) d w (by omega) (set_fuse _ _ _) wf
    rw [hRR] at hbu
    rw [hR]
    clear hR hRR
    obtain ⟨size, h0, s0, h1, s1, down, fuse, keep⟩ := d
    simp only at hd wf
    subst hd
    rcases hf with rfl | rfl
    · have HBU := Lib.hid (fun w => show Calls Try.prog 33 #[(Dk.mk size h0 s0 h1 s1 false fuse keep).val, (Dk.mk size (h0 ++ s0) ⟨#[]⟩ h1 s1 false fuse keep).val, (Dk.mk size h0 s0 h1 s1 false fuse keep).val] w fun e w' => e = .returned (.tuple #[R.1.val, .int .i64 R.2]) ∧ Below w.heap.size w w' from hbu w)
      clear hbu
      have HRD := Lib.hid (fun w => show Calls Try.prog 25 #[(Dk.mk size h0 s0 h1 s1 false fuse keep).val, .int .i64 0] w fun e w' => e = .returned (.string (h0 ++ s0)) ∧ Below w.heap.size w w' from rread_any (Dk.mk size h0 s0 h1 s1 false fuse keep) 0 w (by omega))
      unfold Dk.val at HREF HBU HRD ⊢
      have HREF := Lib.hid HREF
      clear hz wf
      go_enter Try.func13, Try.ntmps13
      go_wp2_with fail
      have hT0 := Tw.start w (Dk.mk size h0 s0 h1 s1 false fuse keep)
      refine (HREF.out _).mono ?_
      rintro e x ⟨rfl, hbx⟩
      have HT := Lib.hid (hT0.below hbx); clear hT0 hbx
      obtain ⟨c0, c1, c2, c3, c4, c5, c6, c7, f0, f1, f2, f3, f4, f5, f6, f7⟩ := Row.eight HT.out.r0
      obtain ⟨d0, d1, d2, d3, d4, d5, d6, d7, g0, g1, g2, g3, g4, g5, g6, g7⟩ := Row.eight HT.out.r1
      have hlt := HT.out.lt
      obtain ⟨h, hh⟩ : ∃ z, x.heap.size = z := ⟨_, rfl⟩
      have hlt0 : w.heap.size < x.heap.size := by omega
      have hlt1 : w.heap.size < h := by omega
      go_wp2_with fail
      refine (HRD.out _).mono ?_
      rintro e y ⟨rfl, hby⟩
      have RH : Row y h (Dk.mk size h0 s0 h1 s1 false fuse keep).cells := Row.below (Row.at hh rfl) hby (by simp; omega)
      have HT2 := Lib.hid (HT.out.below (Below.trans ((Below.refl _ _).alloc (Nat.le_refl _) _) (hby.mono (by simp))))
      have hly : h < y.heap.size := by have := hby.size; simp at this; omega
      clear hby HT c0 c1 c2 c3 c4 c5 c6 c7 f0 f1 f2 f3 f4 f5 f6 f7 d0 d1 d2 d3 d4 d5 d6 d7 g0 g1 g2 g3 g4 g5 g6 g7
      obtain ⟨c0, c1, c2, c3, c4, c5, c6, c7, f0, f1, f2, f3, f4, f5, f6, f7⟩ := Row.eight RH
      go_upto_region 6 with fail
      have RH2 := (RH.set 1 (.string (h0 ++ s0)) (by simp [Dk.cells])).set 2 (.string ⟨#[]⟩) (by simp [Dk.cells])
      have hT3 := (HT2.out.other h 1 (.string (h0 ++ s0)) (by omega)).other h 2 (.string ⟨#[]⟩) (by omega)
      generalize World.setCell _ _ _ = z at RH2 hT3 ⊢
      have HT := Lib.hid hT3; clear hT3
      clear HT2 RH c0 c1 c2 c3 c4 c5 c6 c7 f0 f1 f2 f3 f4 f5 f6 f7
      simp only [Dk.cells, List.set_cons_zero, List.set_cons_succ] at RH2
      obtain ⟨c0, c1, c2, c3, c4, c5, c6, c7, f0, f1, f2, f3, f4, f5, f6, f7⟩ := Row.eight RH2
      obtain ⟨d0, d1, d2, d3, d4, d5, d6, d7, g0, g1, g2, g3, g4, g5, g6, g7⟩ := Row.eight HT.out.r0
      clear RH2
      go_wp2_with fail
      refine (HBU.out _).mono ?_
      rintro e y2 ⟨rfl, hby⟩
      have HT2 := Lib.hid (HT.out.below hby); clear hby
      clear HT c0 c1 c2 c3 c4 c5 c6 c7 f0 f1 f2 f3 f4 f5 f6 f7 d0 d1 d2 d3 d4 d5 d6 d7 g0 g1 g2 g3 g4 g5 g6 g7
      obtain ⟨d0, d1, d2, d3, d4, d5, d6, d7, g0, g1, g2, g3, g4, g5, g6, g7⟩ := Row.eight HT2.out.r1
      go_wp2_with fail
      obtain ⟨e0, e1, e2, e3, e4, e5, e6, e7, _, _, _, _, _, _, _, _⟩ := Row.eight (HT2.out.r1.lay R.1)
      have hBe := Below.set8 HT2.out.b (b := w.heap.size + 1) (by omega) (.int .i64 R.1.size) (.string R.1.h0) (.string R.1.s0) (.string R.1.h1) (.string R.1.s1) (.bool R.1.down) (.int .i64 R.1.fuse) (.int .i64 R.1.keep)
      unfold set8 at hBe
      unfold lay set8 at e0 e1 e2 e3 e4 e5 e6 e7
      try simp only at e0 e1 e2 e3 e4 e5 e6 e7 hBe
      generalize World.setCell _ _ _ = wz at e0 e1 e2 e3 e4 e5 e6 e7 hBe ⊢
      refine bodyPost_ret (by simp [results, Try.results13, go_sem, e0, e1, e2, e3, e4, e5, e6, e7]; try rfl) rfl ?_
      exact ⟨rfl, hBe⟩
    · have HBU := Lib.hid (fun w => show Calls Try.prog 33 #[(Dk.mk size h0 s0 h1 s1 false fuse keep).val, (Dk.mk size h0 s0 (h1 ++ s1) ⟨#[]⟩ false fuse keep).val, (Dk.mk size h0 s0 h1 s1 false fuse keep).val] w fun e w' => e = .returned (.tuple #[R.1.val, .int .i64 R.2]) ∧ Below w.heap.size w w' from hbu w)
      clear hbu
      have HRD := Lib.hid (fun w => show Calls Try.prog 25 #[(Dk.mk size h0 s0 h1 s1 false fuse keep).val, .int .i64 1] w fun e w' => e = .returned (.string (h1 ++ s1)) ∧ Below w.heap.size w w' from rread_any (Dk.mk size h0 s0 h1 s1 false fuse keep) 1 w (by omega))
      unfold Dk.val at HREF HBU HRD ⊢
      have HREF := Lib.hid HREF
      clear hz wf
      go_enter Try.func13, Try.ntmps13
      go_wp2_with fail
      have hT0 := Tw.start w (Dk.mk size h0 s0 h1 s1 false fuse keep)
      refine (HREF.out _).mono ?_
      rintro e x ⟨rfl, hbx⟩
      have HT := Lib.hid (hT0.below hbx); clear hT0 hbx
      obtain ⟨c0, c1, c2, c3, c4, c5, c6, c7, f0, f1, f2, f3, f4, f5, f6, f7⟩ := Row.eight HT.out.r0
      obtain ⟨d0, d1, d2, d3, d4, d5, d6, d7, g0, g1, g2, g3, g4, g5, g6, g7⟩ := Row.eight HT.out.r1
      have hlt := HT.out.lt
      obtain ⟨h, hh⟩ : ∃ z, x.heap.size = z := ⟨_, rfl⟩
      have hlt0 : w.heap.size < x.heap.size := by omega
      have hlt1 : w.heap.size < h := by omega
      go_wp2_with fail
      refine (HRD.out _).mono ?_
      rintro e y ⟨rfl, hby⟩
      have RH : Row y h (Dk.mk size h0 s0 h1 s1 false fuse keep).cells := Row.below (Row.at hh rfl) hby (by simp; omega)
      have HT2 := Lib.hid (HT.out.below (Below.trans ((Below.refl _ _).alloc (Nat.le_refl _) _) (hby.mono (by simp))))
      have hly : h < y.heap.size := by have := hby.size; simp at this; omega
      clear hby HT c0 c1 c2 c3 c4 c5 c6 c7 f0 f1 f2 f3 f4 f5 f6 f7 d0 d1 d2 d3 d4 d5 d6 d7 g0 g1 g2 g3 g4 g5 g6 g7
      obtain ⟨c0, c1, c2, c3, c4, c5, c6, c7, f0, f1, f2, f3, f4, f5, f6, f7⟩ := Row.eight RH
      go_upto_region 6 with fail
      have RH2 := (RH.set 3 (.string (h1 ++ s1)) (by simp [Dk.cells])).set 4 (.string ⟨#[]⟩) (by simp [Dk.cells])
      have hT3 := (HT2.out.other h 3 (.string (h1 ++ s1)) (by omega)).other h 4 (.string ⟨#[]⟩) (by omega)
      generalize World.setCell _ _ _ = z at RH2 hT3 ⊢
      have HT := Lib.hid hT3; clear hT3
      clear HT2 RH c0 c1 c2 c3 c4 c5 c6 c7 f0 f1 f2 f3 f4 f5 f6 f7
      simp only [Dk.cells, List.set_cons_zero, List.set_cons_succ] at RH2
      obtain ⟨c0, c1, c2, c3, c4, c5, c6, c7, f0, f1, f2, f3, f4, f5, f6, f7⟩ := Row.eight RH2
      obtain ⟨d0, d1, d2, d3, d4, d5, d6, d7, g0, g1, g2, g3, g4, g5, g6, g7⟩ := Row.eight HT.out.r0
      clear RH2
      go_wp2_with fail
      refine (HBU.out _).mono ?_
      rintro e y2 ⟨rfl, hby⟩
      have HT2 := Lib.hid (HT.out.below hby); clear hby
      clear HT c0 c1 c2 c3 c4 c5 c6 c7 f0 f1 f2 f3 f4 f5 f6 f7 d0 d1 d2 d3 d4 d5 d6 d7 g0 g1 g2 g3 g4 g5 g6 g7
      obtain ⟨d0, d1, d2, d3, d4, d5, d6, d7, g0, g1, g2, g3, g4, g5, g6, g7⟩ := Row.eight HT2.out.r1
      go_wp2_with fail
      obtain ⟨e0, e1, e2, e3, e4, e5, e6, e7, _, _, _, _, _, _, _, _⟩ := Row.eight (HT2.out.r1.lay R.1)
      have hBe := Below.set8 HT2.out.b (b := w.heap.size + 1) (by omega) (.int .i64 R.1.size) (.string R.1.h0) (.string R.1.s0) (.string R.1.h1) (.string R.1.s1) (.bool R.1.down) (.int .i64 R.1.fuse) (.int .i64 R.1.keep)
      unfold set8 at hBe
      unfold lay set8 at e0 e1 e2 e3 e4 e5 e6 e7
      try simp only at e0 e1 e2 e3 e4 e5 e6 e7 hBe
      generalize World.setCell _ _ _ = wz at e0 e1 e2 e3 e4 e5 e6 e7 hBe ⊢
      refine bodyPost_ret (by simp [results, Try.results13, go_sem, e0, e1, e2, e3, e4, e5, e6, e7]; try rfl) rfl ?_
      exact ⟨rfl, hBe⟩

set_option maxRecDepth 100000 in
set_option maxHeartbeats 4000000 in
theorem rcut_any (d : Dk) (f : Int) (n : Int) (w : World) (hz : d.used ≤ 4503599627370496) (wf : d.fuse < 9223372036854775808) (_wn : n < 9223372036854775808) :
    Calls Try.prog 15 #[d.val, .int .i64 f, .int .i64 n] w fun e w' => e = .returned (.tuple #[(d.cut f n).1.val, .int .i64 (d.cut f n).2]) ∧ Below w.heap.size w w' := by
  have HREF := fun w => refused_any d f w
  by_cases hf : f = 0 ∨ f = 1
  case neg =>
    rw [refused_arg hf] at HREF
    rw [show d.cut f n = (d, 1) from deed_arg f _ _ hf]
    obtain ⟨size, h0, s0, h1, s1, down, fuse, keep⟩ := d
    unfold Dk.val at HREF ⊢
    have HREF := Lib.hid HREF
    clear hz wf
    go_enter Try.func15, Try.ntmps15
    go_wp2_with fail
    have hT0 := Tw.start w (Dk.mk size h0 s0 h1 s1 down fuse keep)
    refine (HREF.out _).mono ?_
    rintro e x ⟨rfl, hbx⟩
    have HT := Lib.hid (hT0.below hbx); clear hT0 hbx
    obtain ⟨c0, c1, c2, c3, c4, c5, c6, c7, f0, f1, f2, f3, f4, f5, f6, f7⟩ := Row.eight HT.out.r0
    obtain ⟨d0, d1, d2, d3, d4, d5, d6, d7, g0, g1, g2, g3, g4, g5, g6, g7⟩ := Row.eight HT.out.r1
    have hlt := HT.out.lt
    go_wp2_with fail
    obtain ⟨e0, e1, e2, e3, e4, e5, e6, e7, _, _, _, _, _, _, _, _⟩ := Row.eight (HT.out.r1.lay (Dk.mk size h0 s0 h1 s1 down fuse keep))
    have hBe := Below.set8 HT.out.b (b := w.heap.size + 1) (by omega) (.int .i64 (Dk.mk size h0 s0 h1 s1 down fuse keep).size) (.string (Dk.mk size h0 s0 h1 s1 down fuse keep).h0) (.string (Dk.mk size h0 s0 h1 s1 down fuse keep).s0) (.string (Dk.mk size h0 s0 h1 s1 down fuse keep).h1) (.string (Dk.mk size h0 s0 h1 s1 down fuse keep).s1) (.bool (Dk.mk size h0 s0 h1 s1 down fuse keep).down) (.int .i64 (Dk.mk size h0 s0 h1 s1 down fuse keep).fuse) (.int .i64 (Dk.mk size h0 s0 h1 s1 down fuse keep).keep)
    unfold set8 at hBe
    unfold lay set8 at e0 e1 e2 e3 e4 e5 e6 e7
    try simp only at e0 e1 e2 e3 e4 e5 e6 e7 hBe
    generalize World.setCell _ _ _ = wz at e0 e1 e2 e3 e4 e5 e6 e7 hBe ⊢
    refine bodyPost_ret (by simp [results, Try.results15, go_sem, e0, e1, e2, e3, e4, e5, e6, e7]; try rfl) rfl ?_
    exact ⟨rfl, hBe⟩
  cases hd : d.down
  case true =>
    rw [refused_down hf hd] at HREF
    rw [show d.cut f n = (d, 12) from deed_down' hd f _ _ hf]
    clear hd hf
    obtain ⟨size, h0, s0, h1, s1, down, fuse, keep⟩ := d
    unfold Dk.val at HREF ⊢
    have HREF := Lib.hid HREF
    clear hz wf
    go_enter Try.func15, Try.ntmps15
    go_wp2_with fail
    have hT0 := Tw.start w (Dk.mk size h0 s0 h1 s1 down fuse keep)
    refine (HREF.out _).mono ?_
    rintro e x ⟨rfl, hbx⟩
    have HT := Lib.hid (hT0.below hbx); clear hT0 hbx
    obtain ⟨c0, c1, c2, c3, c4, c5, c6, c7, f0, f1, f2, f3, f4, f5, f6, f7⟩ := Row.eight HT.out.r0
    obtain ⟨d0, d1, d2, d3, d4, d5, d6, d7, g0, g1, g2, g3, g4, g5, g6, g7⟩ := Row.eight HT.out.r1
    have hlt := HT.out.lt
    go_wp2_with fail
    obtain ⟨e0, e1, e2, e3, e4, e5, e6, e7, _, _, _, _, _, _, _, _⟩ := Row.eight (HT.out.r1.lay (Dk.mk size h0 s0 h1 s1 down fuse keep))
    have hBe := Below.set8 HT.out.b (b := w.heap.size + 1) (by omega) (.int .i64 (Dk.mk size h0 s0 h1 s1 down fuse keep).size) (.string (Dk.mk size h0 s0 h1 s1 down fuse keep).h0) (.string (Dk.mk size h0 s0 h1 s1 down fuse keep).s0) (.string (Dk.mk size h0 s0 h1 s1 down fuse keep).h1) (.string (Dk.mk size h0 s0 h1 s1 down fuse keep).s1) (.bool (Dk.mk size h0 s0 h1 s1 down fuse keep).down) (.int .i64 (Dk.mk size h0 s0 h1 s1 down fuse keep).fuse) (.int .i64 (Dk.mk size h0 s0 h1 s1 down fuse keep).keep)
    unfold set8 at hBe
    unfold lay set8 at e0 e1 e2 e3 e4 e5 e6 e7
    try simp only at e0 e1 e2 e3 e4 e5 e6 e7 hBe
    generalize World.setCell _ _ _ = wz at e0 e1 e2 e3 e4 e5 e6 e7 hBe ⊢
    refine bodyPost_ret (by simp [results, Try.results15, go_sem, e0, e1, e2, e3, e4, e5, e6, e7]; try rfl) rfl ?_
    exact ⟨rfl, hBe⟩
  case false =>
    rw [refused_up hf hd] at HREF
    obtain ⟨R, hR⟩ : ∃ R, d.cut f n = R := ⟨_, rfl⟩
    have hRR := (deed_burnt hd f false (fun x => (x.1.extract 0 n.toNat, x.2.extract 0 (n.toNat - x.1.size))) hf).symm.trans hR
    simp only [Bool.false_eq_true, if_false] at hRR
    have hbu := fun w => burnt_any d (d.set f ((d.file f).1.extract 0 n.toNat, (d.file f).2.extract 0 (n.toNat - (d.file f).1.size))) d w (by omega) (set_fuse _ _ _) wf
    rw [hRR] at hbu
    rw [hR]
    clear hR hRR
    obtain ⟨size, h0, s0, h1, s1, down, fuse, keep⟩ := d
    simp only at hd wf
    subst hd
    obtain ⟨m, hMx⟩ : ∃ m : Nat, max n 0 = (m : Int) := ⟨n.toNat, by omega⟩
    rcases hf with rfl | rfl
    · rw [show n.toNat = m by omega] at hbu
      have hbu := fun w => show Calls Try.prog 33 #[(Dk.mk size h0 s0 h1 s1 false fuse keep).val, (Dk.mk size (h0.extract 0 m) (s0.extract 0 (m - h0.size)) h1 s1 false fuse keep).val, (Dk.mk size h0 s0 h1 s1 false fuse keep).val] w fun e w' => e = .returned (.tuple #[R.1.val, .int .i64 R.2]) ∧ Below w.heap.size w w' from hbu w
      by_cases hm : m < h0.size
      · rw [show s0.extract 0 (m - h0.size) = ⟨#[]⟩ by rw [Nat.sub_eq_zero_of_le (by omega)]; exact extract_none _] at hbu
        have hm1 : (m : Int) < (h0.size : Int) := by omega
        have hm2 : (m : Int) ≤ (h0.size : Int) := by omega
        have hm0 : (0 : Int) ≤ (m : Int) := by omega
        have HBU := Lib.hid (fun w => show Calls Try.prog 33 #[(Dk.mk size h0 s0 h1 s1 false fuse keep).val, (Dk.mk size (h0.extract 0 m) ⟨#[]⟩ h1 s1 false fuse keep).val, (Dk.mk size h0 s0 h1 s1 false fuse keep).val] w fun e w' => e = .returned (.tuple #[R.1.val, .int .i64 R.2]) ∧ Below w.heap.size w w' from hbu w)
        clear hbu
        unfold Dk.val at HREF HBU ⊢
        have HREF := Lib.hid HREF
        clear hz wf
        go_enter Try.func15, Try.ntmps15
        go_wp2_with fail
        have hT0 := Tw.start w (Dk.mk size h0 s0 h1 s1 false fuse keep)
        refine (HREF.out _).mono ?_
        rintro e x ⟨rfl, hbx⟩
        have HT := Lib.hid (hT0.below hbx); clear hT0 hbx
        obtain ⟨c0, c1, c2, c3, c4, c5, c6, c7, f0, f1, f2, f3, f4, f5, f6, f7⟩ := Row.eight HT.out.r0
        obtain ⟨d0, d1, d2, d3, d4, d5, d6, d7, g0, g1, g2, g3, g4, g5, g6, g7⟩ := Row.eight HT.out.r1
        have hlt := HT.out.lt
        have hlt0 : w.heap.size < x.heap.size := by omega
        go_wp2_with fail
        refine (HBU.out _).mono ?_
        rintro e y ⟨rfl, hby⟩
        have HT2 := Lib.hid (HT.out.below (Below.trans ((Below.refl _ _).alloc (Nat.le_refl _) _) (hby.mono (by simp)))); clear hby
        clear HT c0 c1 c2 c3 c4 c5 c6 c7 f0 f1 f2 f3 f4 f5 f6 f7 d0 d1 d2 d3 d4 d5 d6 d7 g0 g1 g2 g3 g4 g5 g6 g7
        obtain ⟨d0, d1, d2, d3, d4, d5, d6, d7, g0, g1, g2, g3, g4, g5, g6, g7⟩ := Row.eight HT2.out.r1
        go_wp2_with fail
        obtain ⟨e0, e1, e2, e3, e4, e5, e6, e7, _, _, _, _, _, _, _, _⟩ := Row.eight (HT2.out.r1.lay R.1)
        have hBe := Below.set8 HT2.out.b (b := w.heap.size + 1) (by omega) (.int .i64 R.1.size) (.string R.1.h0) (.string R.1.s0) (.string R.1.h1) (.string R.1.s1) (.bool R.1.down) (.int .i64 R.1.fuse) (.int .i64 R.1.keep)
        unfold set8 at hBe
        unfold lay set8 at e0 e1 e2 e3 e4 e5 e6 e7
        try simp only at e0 e1 e2 e3 e4 e5 e6 e7 hBe
        generalize World.setCell _ _ _ = wz at e0 e1 e2 e3 e4 e5 e6 e7 hBe ⊢
        refine bodyPost_ret (by simp [results, Try.results15, go_sem, e0, e1, e2, e3, e4, e5, e6, e7]; try rfl) rfl ?_
        exact ⟨rfl, hBe⟩
      · obtain ⟨q, hq⟩ : ∃ q, m = h0.size + q := ⟨m - h0.size, by omega⟩
        subst hq
        rw [show h0.extract 0 (h0.size + q) = h0 from extract_all _ _ (by omega), show h0.size + q - h0.size = q by omega] at hbu
        have hq1 : ¬ ((h0.size : Int) + (q : Int) < (h0.size : Int)) := by omega
        have hq2 : (h0.size : Int) + (q : Int) - (h0.size : Int) = (q : Int) := by omega
        have hq0 : (0 : Int) ≤ (q : Int) := by omega
        have hwr : IntKind.i64.wrap (q : Int) = (q : Int) := by rw [IntKind.wrap_i64]; omega
        by_cases hx : q < s0.size
        · have hx1 : (q : Int) < (s0.size : Int) := by omega
          have hx2 : (q : Int) ≤ (s0.size : Int) := by omega
          have HBU := Lib.hid (fun w => show Calls Try.prog 33 #[(Dk.mk size h0 s0 h1 s1 false fuse keep).val, (Dk.mk size h0 (s0.extract 0 q) h1 s1 false fuse keep).val, (Dk.mk size h0 s0 h1 s1 false fuse keep).val] w fun e w' => e = .returned (.tuple #[R.1.val, .int .i64 R.2]) ∧ Below w.heap.size w w' from hbu w)
          clear hbu
          unfold Dk.val at HREF HBU ⊢
          have HREF := Lib.hid HREF
          clear hz wf
          go_enter Try.func15, Try.ntmps15
          go_wp2_with fail
          have hT0 := Tw.start w (Dk.mk size h0 s0 h1 s1 false fuse keep)
          refine (HREF.out _).mono ?_
          rintro e x ⟨rfl, hbx⟩
          have HT := Lib.hid (hT0.below hbx); clear hT0 hbx
          obtain ⟨c0, c1, c2, c3, c4, c5, c6, c7, f0, f1, f2, f3, f4, f5, f6, f7⟩ := Row.eight HT.out.r0
          obtain ⟨d0, d1, d2, d3, d4, d5, d6, d7, g0, g1, g2, g3, g4, g5, g6, g7⟩ := Row.eight HT.out.r1
          have hlt := HT.out.lt
          have hlt0 : w.heap.size < x.heap.size := by omega
          go_wp2_with fail
          refine (HBU.out _).mono ?_
          rintro e y ⟨rfl, hby⟩
          have HT2 := Lib.hid (HT.out.below (Below.trans ((Below.refl _ _).alloc (Nat.le_refl _) _) (hby.mono (by simp)))); clear hby
          clear HT c0 c1 c2 c3 c4 c5 c6 c7 f0 f1 f2 f3 f4 f5 f6 f7 d0 d1 d2 d3 d4 d5 d6 d7 g0 g1 g2 g3 g4 g5 g6 g7
          obtain ⟨d0, d1, d2, d3, d4, d5, d6, d7, g0, g1, g2, g3, g4, g5, g6, g7⟩ := Row.eight HT2.out.r1
          go_wp2_with fail
          obtain ⟨e0, e1, e2, e3, e4, e5, e6, e7, _, _, _, _, _, _, _, _⟩ := Row.eight (HT2.out.r1.lay R.1)
          have hBe := Below.set8 HT2.out.b (b := w.heap.size + 1) (by omega) (.int .i64 R.1.size) (.string R.1.h0) (.string R.1.s0) (.string R.1.h1) (.string R.1.s1) (.bool R.1.down) (.int .i64 R.1.fuse) (.int .i64 R.1.keep)
          unfold set8 at hBe
          unfold lay set8 at e0 e1 e2 e3 e4 e5 e6 e7
          try simp only at e0 e1 e2 e3 e4 e5 e6 e7 hBe
          generalize World.setCell _ _ _ = wz at e0 e1 e2 e3 e4 e5 e6 e7 hBe ⊢
          refine bodyPost_ret (by simp [results, Try.results15, go_sem, e0, e1, e2, e3, e4, e5, e6, e7]; try rfl) rfl ?_
          exact ⟨rfl, hBe⟩
        · rw [extract_all s0 q (by omega)] at hbu
          have hx1 : ¬ ((q : Int) < (s0.size : Int)) := by omega
          have HBU := Lib.hid (fun w => show Calls Try.prog 33 #[(Dk.mk size h0 s0 h1 s1 false fuse keep).val, (Dk.mk size h0 s0 h1 s1 false fuse keep).val, (Dk.mk size h0 s0 h1 s1 false fuse keep).val] w fun e w' => e = .returned (.tuple #[R.1.val, .int .i64 R.2]) ∧ Below w.heap.size w w' from hbu w)
          clear hbu
          unfold Dk.val at HREF HBU ⊢
          have HREF := Lib.hid HREF
          clear hz wf
          go_enter Try.func15, Try.ntmps15
          go_wp2_with fail
          have hT0 := Tw.start w (Dk.mk size h0 s0 h1 s1 false fuse keep)
          refine (HREF.out _).mono ?_
          rintro e x ⟨rfl, hbx⟩
          have HT := Lib.hid (hT0.below hbx); clear hT0 hbx
          obtain ⟨c0, c1, c2, c3, c4, c5, c6, c7, f0, f1, f2, f3, f4, f5, f6, f7⟩ := Row.eight HT.out.r0
          obtain ⟨d0, d1, d2, d3, d4, d5, d6, d7, g0, g1, g2, g3, g4, g5, g6, g7⟩ := Row.eight HT.out.r1
          have hlt := HT.out.lt
          have hlt0 : w.heap.size < x.heap.size := by omega
          go_wp2_with fail
          refine (HBU.out _).mono ?_
          rintro e y ⟨rfl, hby⟩
          have HT2 := Lib.hid (HT.out.below (Below.trans ((Below.refl _ _).alloc (Nat.le_refl _) _) (hby.mono (by simp)))); clear hby
          clear HT c0 c1 c2 c3 c4 c5 c6 c7 f0 f1 f2 f3 f4 f5 f6 f7 d0 d1 d2 d3 d4 d5 d6 d7 g0 g1 g2 g3 g4 g5 g6 g7
          obtain ⟨d0, d1, d2, d3, d4, d5, d6, d7, g0, g1, g2, g3, g4, g5, g6, g7⟩ := Row.eight HT2.out.r1
          go_wp2_with fail
          obtain ⟨e0, e1, e2, e3, e4, e5, e6, e7, _, _, _, _, _, _, _, _⟩ := Row.eight (HT2.out.r1.lay R.1)
          have hBe := Below.set8 HT2.out.b (b := w.heap.size + 1) (by omega) (.int .i64 R.1.size) (.string R.1.h0) (.string R.1.s0) (.string R.1.h1) (.string R.1.s1) (.bool R.1.down) (.int .i64 R.1.fuse) (.int .i64 R.1.keep)
          unfold set8 at hBe
          unfold lay set8 at e0 e1 e2 e3 e4 e5 e6 e7
          try simp only at e0 e1 e2 e3 e4 e5 e6 e7 hBe
          generalize World.setCell _ _ _ = wz at e0 e1 e2 e3 e4 e5 e6 e7 hBe ⊢
          refine bodyPost_ret (by simp [results, Try.results15, go_sem, e0, e1, e2, e3, e4, e5, e6, e7]; try rfl) rfl ?_
          exact ⟨rfl, hBe⟩
    · rw [show n.toNat = m by omega] at hbu
      have hbu := fun w => show Calls Try.prog 33 #[(Dk.mk size h0 s0 h1 s1 false fuse keep).val, (Dk.mk size h0 s0 (h1.extract 0 m) (s1.extract 0 (m - h1.size)) false fuse keep).val, (Dk.mk size h0 s0 h1 s1 false fuse keep).val] w fun e w' => e = .returned (.tuple #[R.1.val, .int .i64 R.2]) ∧ Below w.heap.size w w' from hbu w
      by_cases hm : m < h1.size
      · rw [show s1.extract 0 (m - h1.size) = ⟨#[]⟩ by rw [Nat.sub_eq_zero_of_le (by omega)]; exact extract_none _] at hbu
        have hm1 : (m : Int) < (h1.size : Int) := by omega
        have hm2 : (m : Int) ≤ (h1.size : Int) := by omega
        have hm0 : (0 : Int) ≤ (m : Int) := by omega
        have HBU := Lib.hid (fun w => show Calls Try.prog 33 #[(Dk.mk size h0 s0 h1 s1 false fuse keep).val, (Dk.mk size h0 s0 (h1.extract 0 m) ⟨#[]⟩ false fuse keep).val, (Dk.mk size h0 s0 h1 s1 false fuse keep).val] w fun e w' => e = .returned (.tuple #[R.1.val, .int .i64 R.2]) ∧ Below w.heap.size w w' from hbu w)
        clear hbu
        unfold Dk.val at HREF HBU ⊢
        have HREF := Lib.hid HREF
        clear hz wf
        go_enter Try.func15, Try.ntmps15
        go_wp2_with fail
        have hT0 := Tw.start w (Dk.mk size h0 s0 h1 s1 false fuse keep)
        refine (HREF.out _).mono ?_
        rintro e x ⟨rfl, hbx⟩
        have HT := Lib.hid (hT0.below hbx); clear hT0 hbx
        obtain ⟨c0, c1, c2, c3, c4, c5, c6, c7, f0, f1, f2, f3, f4, f5, f6, f7⟩ := Row.eight HT.out.r0
        obtain ⟨d0, d1, d2, d3, d4, d5, d6, d7, g0, g1, g2, g3, g4, g5, g6, g7⟩ := Row.eight HT.out.r1
        have hlt := HT.out.lt
        have hlt0 : w.heap.size < x.heap.size := by omega
        go_wp2_with fail
        refine (HBU.out _).mono ?_
        rintro e y ⟨rfl, hby⟩
        have HT2 := Lib.hid (HT.out.below (Below.trans ((Below.refl _ _).alloc (Nat.le_refl _) _) (hby.mono (by simp)))); clear hby
        clear HT c0 c1 c2 c3 c4 c5 c6 c7 f0 f1 f2 f3 f4 f5 f6 f7 d0 d1 d2 d3 d4 d5 d6 d7 g0 g1 g2 g3 g4 g5 g6 g7
        obtain ⟨d0, d1, d2, d3, d4, d5, d6, d7, g0, g1, g2, g3, g4, g5, g6, g7⟩ := Row.eight HT2.out.r1
        go_wp2_with fail
        obtain ⟨e0, e1, e2, e3, e4, e5, e6, e7, _, _, _, _, _, _, _, _⟩ := Row.eight (HT2.out.r1.lay R.1)
        have hBe := Below.set8 HT2.out.b (b := w.heap.size + 1) (by omega) (.int .i64 R.1.size) (.string R.1.h0) (.string R.1.s0) (.string R.1.h1) (.string R.1.s1) (.bool R.1.down) (.int .i64 R.1.fuse) (.int .i64 R.1.keep)
        unfold set8 at hBe
        unfold lay set8 at e0 e1 e2 e3 e4 e5 e6 e7
        try simp only at e0 e1 e2 e3 e4 e5 e6 e7 hBe
        generalize World.setCell _ _ _ = wz at e0 e1 e2 e3 e4 e5 e6 e7 hBe ⊢
        refine bodyPost_ret (by simp [results, Try.results15, go_sem, e0, e1, e2, e3, e4, e5, e6, e7]; try rfl) rfl ?_
        exact ⟨rfl, hBe⟩
      · obtain ⟨q, hq⟩ : ∃ q, m = h1.size + q := ⟨m - h1.size, by omega⟩
        subst hq
        rw [show h1.extract 0 (h1.size + q) = h1 from extract_all _ _ (by omega), show h1.size + q - h1.size = q by omega] at hbu
        have hq1 : ¬ ((h1.size : Int) + (q : Int) < (h1.size : Int)) := by omega
        have hq2 : (h1.size : Int) + (q : Int) - (h1.size : Int) = (q : Int) := by omega
        have hq0 : (0 : Int) ≤ (q : Int) := by omega
        have hwr : IntKind.i64.wrap (q : Int) = (q : Int) := by rw [IntKind.wrap_i64]; omega
        by_cases hx : q < s1.size
        · have hx1 : (q : Int) < (s1.size : Int) := by omega
          have hx2 : (q : Int) ≤ (s1.size : Int) := by omega
          have HBU := Lib.hid (fun w => show Calls Try.prog 33 #[(Dk.mk size h0 s0 h1 s1 false fuse keep).val, (Dk.mk size h0 s0 h1 (s1.extract 0 q) false fuse keep).val, (Dk.mk size h0 s0 h1 s1 false fuse keep).val] w fun e w' => e = .returned (.tuple #[R.1.val, .int .i64 R.2]) ∧ Below w.heap.size w w' from hbu w)
          clear hbu
          unfold Dk.val at HREF HBU ⊢
          have HREF := Lib.hid HREF
          clear hz wf
          go_enter Try.func15, Try.ntmps15
          go_wp2_with fail
          have hT0 := Tw.start w (Dk.mk size h0 s0 h1 s1 false fuse keep)
          refine (HREF.out _).mono ?_
          rintro e x ⟨rfl, hbx⟩
          have HT := Lib.hid (hT0.below hbx); clear hT0 hbx
          obtain ⟨c0, c1, c2, c3, c4, c5, c6, c7, f0, f1, f2, f3, f4, f5, f6, f7⟩ := Row.eight HT.out.r0
          obtain ⟨d0, d1, d2, d3, d4, d5, d6, d7, g0, g1, g2, g3, g4, g5, g6, g7⟩ := Row.eight HT.out.r1
          have hlt := HT.out.lt
          have hlt0 : w.heap.size < x.heap.size := by omega
          go_wp2_with fail
          refine (HBU.out _).mono ?_
          rintro e y ⟨rfl, hby⟩
          have HT2 := Lib.hid (HT.out.below (Below.trans ((Below.refl _ _).alloc (Nat.le_refl _) _) (hby.mono (by simp)))); clear hby
          clear HT c0 c1 c2 c3 c4 c5 c6 c7 f0 f1 f2 f3 f4 f5 f6 f7 d0 d1 d2 d3 d4 d5 d6 d7 g0 g1 g2 g3 g4 g5 g6 g7
          obtain ⟨d0, d1, d2, d3, d4, d5, d6, d7, g0, g1, g2, g3, g4, g5, g6, g7⟩ := Row.eight HT2.out.r1
          go_wp2_with fail
          obtain ⟨e0, e1, e2, e3, e4, e5, e6, e7, _, _, _, _, _, _, _, _⟩ := Row.eight (HT2.out.r1.lay R.1)
          have hBe := Below.set8 HT2.out.b (b := w.heap.size + 1) (by omega) (.int .i64 R.1.size) (.string R.1.h0) (.string R.1.s0) (.string R.1.h1) (.string R.1.s1) (.bool R.1.down) (.int .i64 R.1.fuse) (.int .i64 R.1.keep)
          unfold set8 at hBe
          unfold lay set8 at e0 e1 e2 e3 e4 e5 e6 e7
          try simp only at e0 e1 e2 e3 e4 e5 e6 e7 hBe
          generalize World.setCell _ _ _ = wz at e0 e1 e2 e3 e4 e5 e6 e7 hBe ⊢
          refine bodyPost_ret (by simp [results, Try.results15, go_sem, e0, e1, e2, e3, e4, e5, e6, e7]; try rfl) rfl ?_
          exact ⟨rfl, hBe⟩
        · rw [extract_all s1 q (by omega)] at hbu
          have hx1 : ¬ ((q : Int) < (s1.size : Int)) := by omega
          have HBU := Lib.hid (fun w => show Calls Try.prog 33 #[(Dk.mk size h0 s0 h1 s1 false fuse keep).val, (Dk.mk size h0 s0 h1 s1 false fuse keep).val, (Dk.mk size h0 s0 h1 s1 false fuse keep).val] w fun e w' => e = .returned (.tuple #[R.1.val, .int .i64 R.2]) ∧ Below w.heap.size w w' from hbu w)
          clear hbu
          unfold Dk.val at HREF HBU ⊢
          have HREF := Lib.hid HREF
          clear hz wf
          go_enter Try.func15, Try.ntmps15
          go_wp2_with fail
          have hT0 := Tw.start w (Dk.mk size h0 s0 h1 s1 false fuse keep)
          refine (HREF.out _).mono ?_
          rintro e x ⟨rfl, hbx⟩
          have HT := Lib.hid (hT0.below hbx); clear hT0 hbx
          obtain ⟨c0, c1, c2, c3, c4, c5, c6, c7, f0, f1, f2, f3, f4, f5, f6, f7⟩ := Row.eight HT.out.r0
          obtain ⟨d0, d1, d2, d3, d4, d5, d6, d7, g0, g1, g2, g3, g4, g5, g6, g7⟩ := Row.eight HT.out.r1
          have hlt := HT.out.lt
          have hlt0 : w.heap.size < x.heap.size := by omega
          go_wp2_with fail
          refine (HBU.out _).mono ?_
          rintro e y ⟨rfl, hby⟩
          have HT2 := Lib.hid (HT.out.below (Below.trans ((Below.refl _ _).alloc (Nat.le_refl _) _) (hby.mono (by simp)))); clear hby
          clear HT c0 c1 c2 c3 c4 c5 c6 c7 f0 f1 f2 f3 f4 f5 f6 f7 d0 d1 d2 d3 d4 d5 d6 d7 g0 g1 g2 g3 g4 g5 g6 g7
          obtain ⟨d0, d1, d2, d3, d4, d5, d6, d7, g0, g1, g2, g3, g4, g5, g6, g7⟩ := Row.eight HT2.out.r1
          go_wp2_with fail
          obtain ⟨e0, e1, e2, e3, e4, e5, e6, e7, _, _, _, _, _, _, _, _⟩ := Row.eight (HT2.out.r1.lay R.1)
          have hBe := Below.set8 HT2.out.b (b := w.heap.size + 1) (by omega) (.int .i64 R.1.size) (.string R.1.h0) (.string R.1.s0) (.string R.1.h1) (.string R.1.s1) (.bool R.1.down) (.int .i64 R.1.fuse) (.int .i64 R.1.keep)
          unfold set8 at hBe
          unfold lay set8 at e0 e1 e2 e3 e4 e5 e6 e7
          try simp only at e0 e1 e2 e3 e4 e5 e6 e7 hBe
          generalize World.setCell _ _ _ = wz at e0 e1 e2 e3 e4 e5 e6 e7 hBe ⊢
          refine bodyPost_ret (by simp [results, Try.results15, go_sem, e0, e1, e2, e3, e4, e5, e6, e7]; try rfl) rfl ?_
          exact ⟨rfl, hBe⟩

end Go.Proofs.Ytpghhobbppkggaa
