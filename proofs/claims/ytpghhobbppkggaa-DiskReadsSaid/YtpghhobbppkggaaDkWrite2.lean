/- The walk of disk.Write. -/
import Derived.Test.YtpghhobbppkggaaDkWrite
namespace Go.Proofs.Ytpghhobbppkggaa
open Go.RowKit

theorem nine_below {w w' : World} {b : Nat} {a0 a1 a2 a3 a4 a5 a6 a7 s : Value} (hb : Below w.heap.size w w')
    (h : w.cell? ⟨b, 0, none⟩ = some a0 ∧ w.cell? ⟨b, 1, none⟩ = some a1 ∧ w.cell? ⟨b, 2, none⟩ = some a2 ∧ w.cell? ⟨b, 3, none⟩ = some a3 ∧ w.cell? ⟨b, 4, none⟩ = some a4 ∧ w.cell? ⟨b, 5, none⟩ = some a5 ∧ w.cell? ⟨b, 6, none⟩ = some a6 ∧ w.cell? ⟨b, 7, none⟩ = some a7 ∧ w.cell? ⟨b + 1, 0, none⟩ = some s) :
    w'.cell? ⟨b, 0, none⟩ = some a0 ∧ w'.cell? ⟨b, 1, none⟩ = some a1 ∧ w'.cell? ⟨b, 2, none⟩ = some a2 ∧ w'.cell? ⟨b, 3, none⟩ = some a3 ∧ w'.cell? ⟨b, 4, none⟩ = some a4 ∧ w'.cell? ⟨b, 5, none⟩ = some a5 ∧ w'.cell? ⟨b, 6, none⟩ = some a6 ∧ w'.cell? ⟨b, 7, none⟩ = some a7 ∧ w'.cell? ⟨b + 1, 0, none⟩ = some s := by
  obtain ⟨h0, h1, h2, h3, h4, h5, h6, h7, h8⟩ := h
  have hl := World.block_lt_of_cell? w _ h0
  have hl' := World.block_lt_of_cell? w _ h8
  exact ⟨(hb.cell (p := ⟨b, 0, none⟩) hl).trans h0, (hb.cell (p := ⟨b, 1, none⟩) hl).trans h1, (hb.cell (p := ⟨b, 2, none⟩) hl).trans h2, (hb.cell (p := ⟨b, 3, none⟩) hl).trans h3, (hb.cell (p := ⟨b, 4, none⟩) hl).trans h4, (hb.cell (p := ⟨b, 5, none⟩) hl).trans h5, (hb.cell (p := ⟨b, 6, none⟩) hl).trans h6, (hb.cell (p := ⟨b, 7, none⟩) hl).trans h7, (hb.cell (p := ⟨b + 1, 0, none⟩) hl').trans h8⟩

set_option maxRecDepth 100000 in
set_option maxHeartbeats 2000000 in
theorem write_any (d : Dk) (f : Int) (s : ByteArray) (w : World) (hz : d.used + s.size ≤ 4503599627370496) (wf : d.fuse < 9223372036854775808) (ws : d.size < 9223372036854775808) :
    Calls Try.prog 10 #[d.val, .int .i64 f, .string s] w fun e w' => e = .returned (.tuple #[(d.write f s).1.val, .int .i64 (d.write f s).2]) ∧ Below w.heap.size w w' := by
  have hfz := file_size d f
  have HD := fun (b : Nat) (w : World) (hc : w.cell? ⟨b, 0, none⟩ = some (.string s)) => deed_any d f true 31 #[.pointer (some ⟨b, 0, none⟩)] (fun x => (x.1, x.2 ++ s)) w (by omega) eg31 (by simp; omega) wf (fun w' hb => doWrite_any _ _ s b w' ((hb.cell (p := ⟨b, 0, none⟩) (World.block_lt_of_cell? w _ hc)).trans hc) (by omega))
  have HT := fun w => there_any f w
  have HU := fun w => used_any d w (by omega)
  obtain ⟨r, hr⟩ : ∃ r, d.write f s = r := ⟨_, rfl⟩
  rw [hr]
  unfold Dk.write at hr
  obtain ⟨r2, hr2⟩ : ∃ r2, (d.deed f true fun x => (x.1, x.2 ++ s)) = r2 := ⟨_, rfl⟩
  rw [hr2] at hr HD
  obtain ⟨fl, hfl⟩ : ∃ fl, d.full s = fl := ⟨_, rfl⟩
  rw [hfl] at hr
  unfold Dk.full at hfl
  obtain ⟨th, hth⟩ : ∃ th, (f == 0 || f == 1) = th := ⟨_, rfl⟩
  rw [hth] at hr HT
  generalize d.used = us at *
  obtain ⟨size, h0, s0, h1, s1, down, fuse, keep⟩ := d
  simp only at hfl hr ws
  unfold Dk.val at HD HU ⊢
  simp only at HD HU
  have HD' := Lib.hid HD
  have HT' := Lib.hid HT
  have HU' := Lib.hid HU
  have HR := Lib.hid hr
  clear hr2 hr hth hfz HD HT HU
  have HD := HD'
  have HT := HT'
  have HU := HU'
  clear HD' HT' HU'
  go_enter Try.func10, Try.ntmps10
  obtain ⟨W1, hW1, R0, RS, R1, hB, hs⟩ : ∃ W1, W1 = (((w.alloc (.cells #[.int .i64 size, .string h0, .string s0, .string h1, .string s1, .bool down, .int .i64 fuse, .int .i64 keep] 26)).alloc (.cells #[.string s] 9)).alloc (.cells #[.int .i64 0, .string ⟨#[]⟩, .string ⟨#[]⟩, .string ⟨#[]⟩, .string ⟨#[]⟩, .bool false, .int .i64 0, .int .i64 0] 26)).drew ∧ Row W1 w.heap.size (Dk.mk size h0 s0 h1 s1 down fuse keep).cells ∧ Row W1 (w.heap.size + 1) [.string s] ∧ Row W1 (w.heap.size + 1 + 1) Dk.zero.cells ∧ Below w.heap.size w W1 ∧ w.heap.size + 1 + 1 < W1.heap.size := by
    refine ⟨_, rfl, ?_, ?_, ?_, ?_, ?_⟩
    · exact (Row.alloc (Row.alloc (Row.at rfl rfl) (by simp) _) (by simp; omega) _).drew
    · exact (Row.alloc (Row.at (by simp) rfl) (by simp) _).drew
    · exact (Row.at (by simp) rfl : Row _ (w.heap.size + 1 + 1) Dk.zero.cells).drew
    · go_grown
    · simp
  have HR0 := Lib.hid R0; clear R0
  have HRS := Lib.hid RS; clear RS
  have HR1 := Lib.hid R1; clear R1
  have HB := Lib.hid hB; clear hB
  have HW1 := Lib.hid hW1; clear hW1
  by_cases hl : size < (s.size : Int)
  case pos =>
    have hft : fl = true := by rw [← hfl]; simp [hl]
    clear hfl
    subst hft
    go_upto_region 1 with fail
    go_region
    rw [← HW1.out]
    have hs1 := hs
    have hR0 := HR0.out
    have hRS := HRS.out
    have hR1 := HR1.out
    have hB := HB.out
    obtain ⟨w1, rfl⟩ : ∃ z, z = W1 := ⟨_, rfl⟩
    clear HR0 HRS HR1 HB HW1
    have hc := hR0.eight
    obtain ⟨c0, c1, c2, c3, c4, c5, c6, c7, f0, f1, f2, f3, f4, f5, f6, f7⟩ := hc
    obtain ⟨t0, _⟩ := hRS 0 _ rfl
    have hd := hR1.eight
    obtain ⟨d0, d1, d2, d3, d4, d5, d6, d7, g0, g1, g2, g3, g4, g5, g6, g7⟩ := hd
    have HR0 := Lib.hid hR0; clear hR0
    have HRS := Lib.hid hRS; clear hRS
    have HR1 := Lib.hid hR1; clear hR1
    have HB := Lib.hid hB; clear hB
    go_wp2_with fail
    refine (HT.out _).mono ?_
    rintro e w2 ⟨rfl, rfl⟩
    cases th
    · go_wp2_with fail
      refine (HD.out (w.heap.size + 1) _ (by assumption)).mono ?_
      rintro e w2 ⟨rfl, hb2⟩
      have hR1 := Row.below HR1.out hb2 (by omega)
      have hBB := HB.out.trans (hb2.mono HB.out.size)
      have hs2 := hb2.size
      clear HR0 HRS HR1 HB hb2 c0 c1 c2 c3 c4 c5 c6 c7 f0 f1 f2 f3 f4 f5 f6 f7 t0 d0 d1 d2 d3 d4 d5 d6 d7 g0 g1 g2 g3 g4 g5 g6 g7
      have HR1 := Lib.hid hR1; clear hR1
      have HB := Lib.hid hBB; clear hBB
      have hd := Row.eight HR1.out
      obtain ⟨d0, d1, d2, d3, d4, d5, d6, d7, g0, g1, g2, g3, g4, g5, g6, g7⟩ := hd
      go_wp2_with fail
      obtain ⟨e0, e1, e2, e3, e4, e5, e6, e7, _, _, _, _, _, _, _, _⟩ := Row.eight (HR1.out.lay r2.1)
      have hBe := Below.set8 HB.out (b := w.heap.size + 1 + 1) (by omega) (.int .i64 r2.1.size) (.string r2.1.h0) (.string r2.1.s0) (.string r2.1.h1) (.string r2.1.s1) (.bool r2.1.down) (.int .i64 r2.1.fuse) (.int .i64 r2.1.keep)
      unfold set8 at hBe
      unfold lay set8 at e0 e1 e2 e3 e4 e5 e6 e7
      try simp only at e0 e1 e2 e3 e4 e5 e6 e7 hBe
      generalize World.setCell _ _ _ = wz at e0 e1 e2 e3 e4 e5 e6 e7 hBe ⊢
      refine bodyPost_ret (by simp [results, Try.results10, go_sem, e0, e1, e2, e3, e4, e5, e6, e7]; try rfl) rfl ?_
      exact ⟨by rw [← HR.out]; rfl, hBe⟩
    · cases down
      · go_wp2_with fail
        obtain ⟨e0, e1, e2, e3, e4, e5, e6, e7, _, _, _, _, _, _, _, _⟩ := Row.eight (HR1.out.lay (Dk.mk size h0 s0 h1 s1 false fuse keep))
        have hBe := Below.set8 HB.out (b := w.heap.size + 1 + 1) (by omega) (.int .i64 (Dk.mk size h0 s0 h1 s1 false fuse keep).size) (.string (Dk.mk size h0 s0 h1 s1 false fuse keep).h0) (.string (Dk.mk size h0 s0 h1 s1 false fuse keep).s0) (.string (Dk.mk size h0 s0 h1 s1 false fuse keep).h1) (.string (Dk.mk size h0 s0 h1 s1 false fuse keep).s1) (.bool (Dk.mk size h0 s0 h1 s1 false fuse keep).down) (.int .i64 (Dk.mk size h0 s0 h1 s1 false fuse keep).fuse) (.int .i64 (Dk.mk size h0 s0 h1 s1 false fuse keep).keep)
        unfold set8 at hBe
        unfold lay set8 at e0 e1 e2 e3 e4 e5 e6 e7
        try simp only at e0 e1 e2 e3 e4 e5 e6 e7 hBe
        generalize World.setCell _ _ _ = wz at e0 e1 e2 e3 e4 e5 e6 e7 hBe ⊢
        refine bodyPost_ret (by simp [results, Try.results10, go_sem, e0, e1, e2, e3, e4, e5, e6, e7]; try rfl) rfl ?_
        exact ⟨by rw [← HR.out]; rfl, hBe⟩
      · go_wp2_with fail
        refine (HD.out (w.heap.size + 1) _ (by assumption)).mono ?_
        rintro e w2 ⟨rfl, hb2⟩
        have hR1 := Row.below HR1.out hb2 (by omega)
        have hBB := HB.out.trans (hb2.mono HB.out.size)
        have hs2 := hb2.size
        clear HR0 HRS HR1 HB hb2 c0 c1 c2 c3 c4 c5 c6 c7 f0 f1 f2 f3 f4 f5 f6 f7 t0 d0 d1 d2 d3 d4 d5 d6 d7 g0 g1 g2 g3 g4 g5 g6 g7
        have HR1 := Lib.hid hR1; clear hR1
        have HB := Lib.hid hBB; clear hBB
        have hd := Row.eight HR1.out
        obtain ⟨d0, d1, d2, d3, d4, d5, d6, d7, g0, g1, g2, g3, g4, g5, g6, g7⟩ := hd
        go_wp2_with fail
        obtain ⟨e0, e1, e2, e3, e4, e5, e6, e7, _, _, _, _, _, _, _, _⟩ := Row.eight (HR1.out.lay r2.1)
        have hBe := Below.set8 HB.out (b := w.heap.size + 1 + 1) (by omega) (.int .i64 r2.1.size) (.string r2.1.h0) (.string r2.1.s0) (.string r2.1.h1) (.string r2.1.s1) (.bool r2.1.down) (.int .i64 r2.1.fuse) (.int .i64 r2.1.keep)
        unfold set8 at hBe
        unfold lay set8 at e0 e1 e2 e3 e4 e5 e6 e7
        try simp only at e0 e1 e2 e3 e4 e5 e6 e7 hBe
        generalize World.setCell _ _ _ = wz at e0 e1 e2 e3 e4 e5 e6 e7 hBe ⊢
        refine bodyPost_ret (by simp [results, Try.results10, go_sem, e0, e1, e2, e3, e4, e5, e6, e7]; try rfl) rfl ?_
        exact ⟨by rw [← HR.out]; rfl, hBe⟩
  case neg =>
    have hft : fl = decide (size - (s.size : Int) < (us : Int)) := by rw [← hfl]; simp [hl]
    clear hfl
    have g0 : decide (size < (s.size : Int)) = false := by simpa using hl
    have hwr : IntKind.i64.wrap (size - (s.size : Int)) = size - (s.size : Int) := by rw [IntKind.wrap_i64]; omega
    go_upto_region 1 with fail
    go_region_held3 (fun w' => w'.cell? ⟨w.heap.size, 0, none⟩ = some (.int .i64 size) ∧ w'.cell? ⟨w.heap.size, 1, none⟩ = some (.string h0) ∧ w'.cell? ⟨w.heap.size, 2, none⟩ = some (.string s0) ∧ w'.cell? ⟨w.heap.size, 3, none⟩ = some (.string h1) ∧ w'.cell? ⟨w.heap.size, 4, none⟩ = some (.string s1) ∧ w'.cell? ⟨w.heap.size, 5, none⟩ = some (.bool down) ∧ w'.cell? ⟨w.heap.size, 6, none⟩ = some (.int .i64 fuse) ∧ w'.cell? ⟨w.heap.size, 7, none⟩ = some (.int .i64 keep) ∧ w'.cell? ⟨w.heap.size + 1, 0, none⟩ = some (.string s)) (first | go_keep | (exact nine_below hb1 (by first | assumption | (simp [go_sem]; done)))) ((first | (go_at_call 22; ((with_reducible refine (HU.out _).mono ?_); rintro e w1 ⟨rfl, hb1⟩))))
    rw [← hft]
    clear hft g0 hwr
    rw [← HW1.out] at hb1
    have hs1 := Nat.lt_of_lt_of_le hs hb1.size
    have hR0 := Row.below HR0.out hb1 (by omega)
    have hRS := Row.below HRS.out hb1 (by omega)
    have hR1 := Row.below HR1.out hb1 hs
    have hB := HB.out.trans (hb1.mono HB.out.size)
    clear hb1
    clear HR0 HRS HR1 HB HW1
    have hc := hR0.eight
    obtain ⟨c0, c1, c2, c3, c4, c5, c6, c7, f0, f1, f2, f3, f4, f5, f6, f7⟩ := hc
    obtain ⟨t0, _⟩ := hRS 0 _ rfl
    have hd := hR1.eight
    obtain ⟨d0, d1, d2, d3, d4, d5, d6, d7, g0, g1, g2, g3, g4, g5, g6, g7⟩ := hd
    have HR0 := Lib.hid hR0; clear hR0
    have HRS := Lib.hid hRS; clear hRS
    have HR1 := Lib.hid hR1; clear hR1
    have HB := Lib.hid hB; clear hB
    go_wp2_with fail
    refine (HT.out _).mono ?_
    rintro e w2 ⟨rfl, rfl⟩
    cases th
    · go_wp2_with fail
      refine (HD.out (w.heap.size + 1) _ (by assumption)).mono ?_
      rintro e w2 ⟨rfl, hb2⟩
      have hR1 := Row.below HR1.out hb2 (by omega)
      have hBB := HB.out.trans (hb2.mono HB.out.size)
      have hs2 := hb2.size
      clear HR0 HRS HR1 HB hb2 c0 c1 c2 c3 c4 c5 c6 c7 f0 f1 f2 f3 f4 f5 f6 f7 t0 d0 d1 d2 d3 d4 d5 d6 d7 g0 g1 g2 g3 g4 g5 g6 g7
      have HR1 := Lib.hid hR1; clear hR1
      have HB := Lib.hid hBB; clear hBB
      have hd := Row.eight HR1.out
      obtain ⟨d0, d1, d2, d3, d4, d5, d6, d7, g0, g1, g2, g3, g4, g5, g6, g7⟩ := hd
      go_wp2_with fail
      obtain ⟨e0, e1, e2, e3, e4, e5, e6, e7, _, _, _, _, _, _, _, _⟩ := Row.eight (HR1.out.lay r2.1)
      have hBe := Below.set8 HB.out (b := w.heap.size + 1 + 1) (by omega) (.int .i64 r2.1.size) (.string r2.1.h0) (.string r2.1.s0) (.string r2.1.h1) (.string r2.1.s1) (.bool r2.1.down) (.int .i64 r2.1.fuse) (.int .i64 r2.1.keep)
      unfold set8 at hBe
      unfold lay set8 at e0 e1 e2 e3 e4 e5 e6 e7
      try simp only at e0 e1 e2 e3 e4 e5 e6 e7 hBe
      generalize World.setCell _ _ _ = wz at e0 e1 e2 e3 e4 e5 e6 e7 hBe ⊢
      refine bodyPost_ret (by simp [results, Try.results10, go_sem, e0, e1, e2, e3, e4, e5, e6, e7]; try rfl) rfl ?_
      exact ⟨by rw [← HR.out]; rfl, hBe⟩
    · cases down
      · cases fl
        · go_wp2_with fail
          refine (HD.out (w.heap.size + 1) _ (by assumption)).mono ?_
          rintro e w2 ⟨rfl, hb2⟩
          have hR1 := Row.below HR1.out hb2 (by omega)
          have hBB := HB.out.trans (hb2.mono HB.out.size)
          have hs2 := hb2.size
          clear HR0 HRS HR1 HB hb2 c0 c1 c2 c3 c4 c5 c6 c7 f0 f1 f2 f3 f4 f5 f6 f7 t0 d0 d1 d2 d3 d4 d5 d6 d7 g0 g1 g2 g3 g4 g5 g6 g7
          have HR1 := Lib.hid hR1; clear hR1
          have HB := Lib.hid hBB; clear hBB
          have hd := Row.eight HR1.out
          obtain ⟨d0, d1, d2, d3, d4, d5, d6, d7, g0, g1, g2, g3, g4, g5, g6, g7⟩ := hd
          go_wp2_with fail
          obtain ⟨e0, e1, e2, e3, e4, e5, e6, e7, _, _, _, _, _, _, _, _⟩ := Row.eight (HR1.out.lay r2.1)
          have hBe := Below.set8 HB.out (b := w.heap.size + 1 + 1) (by omega) (.int .i64 r2.1.size) (.string r2.1.h0) (.string r2.1.s0) (.string r2.1.h1) (.string r2.1.s1) (.bool r2.1.down) (.int .i64 r2.1.fuse) (.int .i64 r2.1.keep)
          unfold set8 at hBe
          unfold lay set8 at e0 e1 e2 e3 e4 e5 e6 e7
          try simp only at e0 e1 e2 e3 e4 e5 e6 e7 hBe
          generalize World.setCell _ _ _ = wz at e0 e1 e2 e3 e4 e5 e6 e7 hBe ⊢
          refine bodyPost_ret (by simp [results, Try.results10, go_sem, e0, e1, e2, e3, e4, e5, e6, e7]; try rfl) rfl ?_
          exact ⟨by rw [← HR.out]; rfl, hBe⟩
        · go_wp2_with fail
          obtain ⟨e0, e1, e2, e3, e4, e5, e6, e7, _, _, _, _, _, _, _, _⟩ := Row.eight (HR1.out.lay (Dk.mk size h0 s0 h1 s1 false fuse keep))
          have hBe := Below.set8 HB.out (b := w.heap.size + 1 + 1) (by omega) (.int .i64 (Dk.mk size h0 s0 h1 s1 false fuse keep).size) (.string (Dk.mk size h0 s0 h1 s1 false fuse keep).h0) (.string (Dk.mk size h0 s0 h1 s1 false fuse keep).s0) (.string (Dk.mk size h0 s0 h1 s1 false fuse keep).h1) (.string (Dk.mk size h0 s0 h1 s1 false fuse keep).s1) (.bool (Dk.mk size h0 s0 h1 s1 false fuse keep).down) (.int .i64 (Dk.mk size h0 s0 h1 s1 false fuse keep).fuse) (.int .i64 (Dk.mk size h0 s0 h1 s1 false fuse keep).keep)
          unfold set8 at hBe
          unfold lay set8 at e0 e1 e2 e3 e4 e5 e6 e7
          try simp only at e0 e1 e2 e3 e4 e5 e6 e7 hBe
          generalize World.setCell _ _ _ = wz at e0 e1 e2 e3 e4 e5 e6 e7 hBe ⊢
          refine bodyPost_ret (by simp [results, Try.results10, go_sem, e0, e1, e2, e3, e4, e5, e6, e7]; try rfl) rfl ?_
          exact ⟨by rw [← HR.out]; rfl, hBe⟩
      · go_wp2_with fail
        refine (HD.out (w.heap.size + 1) _ (by assumption)).mono ?_
        rintro e w2 ⟨rfl, hb2⟩
        have hR1 := Row.below HR1.out hb2 (by omega)
        have hBB := HB.out.trans (hb2.mono HB.out.size)
        have hs2 := hb2.size
        clear HR0 HRS HR1 HB hb2 c0 c1 c2 c3 c4 c5 c6 c7 f0 f1 f2 f3 f4 f5 f6 f7 t0 d0 d1 d2 d3 d4 d5 d6 d7 g0 g1 g2 g3 g4 g5 g6 g7
        have HR1 := Lib.hid hR1; clear hR1
        have HB := Lib.hid hBB; clear hBB
        have hd := Row.eight HR1.out
        obtain ⟨d0, d1, d2, d3, d4, d5, d6, d7, g0, g1, g2, g3, g4, g5, g6, g7⟩ := hd
        go_wp2_with fail
        obtain ⟨e0, e1, e2, e3, e4, e5, e6, e7, _, _, _, _, _, _, _, _⟩ := Row.eight (HR1.out.lay r2.1)
        have hBe := Below.set8 HB.out (b := w.heap.size + 1 + 1) (by omega) (.int .i64 r2.1.size) (.string r2.1.h0) (.string r2.1.s0) (.string r2.1.h1) (.string r2.1.s1) (.bool r2.1.down) (.int .i64 r2.1.fuse) (.int .i64 r2.1.keep)
        unfold set8 at hBe
        unfold lay set8 at e0 e1 e2 e3 e4 e5 e6 e7
        try simp only at e0 e1 e2 e3 e4 e5 e6 e7 hBe
        generalize World.setCell _ _ _ = wz at e0 e1 e2 e3 e4 e5 e6 e7 hBe ⊢
        refine bodyPost_ret (by simp [results, Try.results10, go_sem, e0, e1, e2, e3, e4, e5, e6, e7]; try rfl) rfl ?_
        exact ⟨by rw [← HR.out]; rfl, hBe⟩

end Go.Proofs.Ytpghhobbppkggaa
