/- The walk of DiskReads. -/
import Derived.Test.YtpghhobbppkggaaDkReads
import Derived.Lib.MinMax
import Derived.Deep.DeepCutAuto
import Derived.OpenShut
namespace Go.Proofs.Ytpghhobbppkggaa
open Go.RowKit

/-- what stands in the disk's variable once it is up and has no fuse: the walk of DiskReads up to region 8 -/
theorem up_of (d : Dk) (h : d.size = 100000) : (d.start.arm (-1) 0) = Dk.up 100000 d.h0 d.s0 d.h1 d.s1 := by
  unfold Dk.start Dk.arm Dk.up; rw [h]; rfl
theorem up_of' (d : Dk) (h : d.size = 100000) (hd : d.down = false) : (d.arm (-1) 0) = Dk.up 100000 d.h0 d.s0 d.h1 d.s1 := by
  unfold Dk.arm Dk.up; rw [h, hd]; rfl

theorem c32_below {w w' : World} {g ga gb gc : Nat} {v00 v01 v02 v03 v04 v05 v06 v07 v10 v11 v12 v13 v14 v15 v16 v17 v20 v21 v22 v23 v24 v25 v26 v27 v30 v31 v32 v33 v34 v35 v36 v37 : Value} (hb : Below w.heap.size w w') (h : w.cell? ⟨g, 0, none⟩ = some v00 ∧ w.cell? ⟨g, 1, none⟩ = some v01 ∧ w.cell? ⟨g, 2, none⟩ = some v02 ∧ w.cell? ⟨g, 3, none⟩ = some v03 ∧ w.cell? ⟨g, 4, none⟩ = some v04 ∧ w.cell? ⟨g, 5, none⟩ = some v05 ∧ w.cell? ⟨g, 6, none⟩ = some v06 ∧ w.cell? ⟨g, 7, none⟩ = some v07 ∧ w.cell? ⟨ga, 0, none⟩ = some v10 ∧ w.cell? ⟨ga, 1, none⟩ = some v11 ∧ w.cell? ⟨ga, 2, none⟩ = some v12 ∧ w.cell? ⟨ga, 3, none⟩ = some v13 ∧ w.cell? ⟨ga, 4, none⟩ = some v14 ∧ w.cell? ⟨ga, 5, none⟩ = some v15 ∧ w.cell? ⟨ga, 6, none⟩ = some v16 ∧ w.cell? ⟨ga, 7, none⟩ = some v17 ∧ w.cell? ⟨gb, 0, none⟩ = some v20 ∧ w.cell? ⟨gb, 1, none⟩ = some v21 ∧ w.cell? ⟨gb, 2, none⟩ = some v22 ∧ w.cell? ⟨gb, 3, none⟩ = some v23 ∧ w.cell? ⟨gb, 4, none⟩ = some v24 ∧ w.cell? ⟨gb, 5, none⟩ = some v25 ∧ w.cell? ⟨gb, 6, none⟩ = some v26 ∧ w.cell? ⟨gb, 7, none⟩ = some v27 ∧ w.cell? ⟨gc, 0, none⟩ = some v30 ∧ w.cell? ⟨gc, 1, none⟩ = some v31 ∧ w.cell? ⟨gc, 2, none⟩ = some v32 ∧ w.cell? ⟨gc, 3, none⟩ = some v33 ∧ w.cell? ⟨gc, 4, none⟩ = some v34 ∧ w.cell? ⟨gc, 5, none⟩ = some v35 ∧ w.cell? ⟨gc, 6, none⟩ = some v36 ∧ w.cell? ⟨gc, 7, none⟩ = some v37) : w'.cell? ⟨g, 0, none⟩ = some v00 ∧ w'.cell? ⟨g, 1, none⟩ = some v01 ∧ w'.cell? ⟨g, 2, none⟩ = some v02 ∧ w'.cell? ⟨g, 3, none⟩ = some v03 ∧ w'.cell? ⟨g, 4, none⟩ = some v04 ∧ w'.cell? ⟨g, 5, none⟩ = some v05 ∧ w'.cell? ⟨g, 6, none⟩ = some v06 ∧ w'.cell? ⟨g, 7, none⟩ = some v07 ∧ w'.cell? ⟨ga, 0, none⟩ = some v10 ∧ w'.cell? ⟨ga, 1, none⟩ = some v11 ∧ w'.cell? ⟨ga, 2, none⟩ = some v12 ∧ w'.cell? ⟨ga, 3, none⟩ = some v13 ∧ w'.cell? ⟨ga, 4, none⟩ = some v14 ∧ w'.cell? ⟨ga, 5, none⟩ = some v15 ∧ w'.cell? ⟨ga, 6, none⟩ = some v16 ∧ w'.cell? ⟨ga, 7, none⟩ = some v17 ∧ w'.cell? ⟨gb, 0, none⟩ = some v20 ∧ w'.cell? ⟨gb, 1, none⟩ = some v21 ∧ w'.cell? ⟨gb, 2, none⟩ = some v22 ∧ w'.cell? ⟨gb, 3, none⟩ = some v23 ∧ w'.cell? ⟨gb, 4, none⟩ = some v24 ∧ w'.cell? ⟨gb, 5, none⟩ = some v25 ∧ w'.cell? ⟨gb, 6, none⟩ = some v26 ∧ w'.cell? ⟨gb, 7, none⟩ = some v27 ∧ w'.cell? ⟨gc, 0, none⟩ = some v30 ∧ w'.cell? ⟨gc, 1, none⟩ = some v31 ∧ w'.cell? ⟨gc, 2, none⟩ = some v32 ∧ w'.cell? ⟨gc, 3, none⟩ = some v33 ∧ w'.cell? ⟨gc, 4, none⟩ = some v34 ∧ w'.cell? ⟨gc, 5, none⟩ = some v35 ∧ w'.cell? ⟨gc, 6, none⟩ = some v36 ∧ w'.cell? ⟨gc, 7, none⟩ = some v37 := by
  obtain ⟨h00, h01, h02, h03, h04, h05, h06, h07, h10, h11, h12, h13, h14, h15, h16, h17, h20, h21, h22, h23, h24, h25, h26, h27, h30, h31, h32, h33, h34, h35, h36, h37⟩ := h
  have l0 := World.block_lt_of_cell? w _ h00
  have l1 := World.block_lt_of_cell? w _ h10
  have l2 := World.block_lt_of_cell? w _ h20
  have l3 := World.block_lt_of_cell? w _ h30
  exact ⟨(hb.cell (p := ⟨g, 0, none⟩) l0).trans h00, (hb.cell (p := ⟨g, 1, none⟩) l0).trans h01, (hb.cell (p := ⟨g, 2, none⟩) l0).trans h02, (hb.cell (p := ⟨g, 3, none⟩) l0).trans h03, (hb.cell (p := ⟨g, 4, none⟩) l0).trans h04, (hb.cell (p := ⟨g, 5, none⟩) l0).trans h05, (hb.cell (p := ⟨g, 6, none⟩) l0).trans h06, (hb.cell (p := ⟨g, 7, none⟩) l0).trans h07, (hb.cell (p := ⟨ga, 0, none⟩) l1).trans h10, (hb.cell (p := ⟨ga, 1, none⟩) l1).trans h11, (hb.cell (p := ⟨ga, 2, none⟩) l1).trans h12, (hb.cell (p := ⟨ga, 3, none⟩) l1).trans h13, (hb.cell (p := ⟨ga, 4, none⟩) l1).trans h14, (hb.cell (p := ⟨ga, 5, none⟩) l1).trans h15, (hb.cell (p := ⟨ga, 6, none⟩) l1).trans h16, (hb.cell (p := ⟨ga, 7, none⟩) l1).trans h17, (hb.cell (p := ⟨gb, 0, none⟩) l2).trans h20, (hb.cell (p := ⟨gb, 1, none⟩) l2).trans h21, (hb.cell (p := ⟨gb, 2, none⟩) l2).trans h22, (hb.cell (p := ⟨gb, 3, none⟩) l2).trans h23, (hb.cell (p := ⟨gb, 4, none⟩) l2).trans h24, (hb.cell (p := ⟨gb, 5, none⟩) l2).trans h25, (hb.cell (p := ⟨gb, 6, none⟩) l2).trans h26, (hb.cell (p := ⟨gb, 7, none⟩) l2).trans h27, (hb.cell (p := ⟨gc, 0, none⟩) l3).trans h30, (hb.cell (p := ⟨gc, 1, none⟩) l3).trans h31, (hb.cell (p := ⟨gc, 2, none⟩) l3).trans h32, (hb.cell (p := ⟨gc, 3, none⟩) l3).trans h33, (hb.cell (p := ⟨gc, 4, none⟩) l3).trans h34, (hb.cell (p := ⟨gc, 5, none⟩) l3).trans h35, (hb.cell (p := ⟨gc, 6, none⟩) l3).trans h36, (hb.cell (p := ⟨gc, 7, none⟩) l3).trans h37⟩

set_option maxRecDepth 100000 in
set_option maxHeartbeats 8000000 in
theorem DiskReads_core (v : Value) (l : List Ac) (fn : Nat) (s : ByteArray) (n : Int) (w : World) (hv : ActsAt w v l) (hok : ∀ a ∈ l, a.ok) (hlen : l.length ≤ 140737488355328) (_hf : fn < 256) (_hs : s.size ≤ 140737488351232) (_wn : n < 9223372036854775808) :
    Calls Try.prog 7 #[v, .int .u8 (fn : Int), .string s, .int .i64 n] w fun e w' => e = .returned (.bool true) ∧ Below w.heap.size w w' := by
  have HRUN := Lib.hid (fun w' (h : ActsAt w' v l) => run_any 100000 (by omega) v l w' h hok hlen)
  have HN := Lib.hid (fun w => new_any 100000 w)
  have HV := Lib.hid hv; clear hv hok hlen
  obtain ⟨F, hF⟩ : ∃ F, (fn : Int) % 2 = F := ⟨_, rfl⟩
  have hF2 : F = 0 ∨ F = 1 := by omega
  have HF := Lib.hid hF; clear hF
  go_enter Try.func7, Try.ntmps7
  go_wp2_with fail
  refine (examples_any _).mono ?_
  rintro e w1 ⟨rfl, hb1⟩
  go_wp2_with fail
  refine (HN.out _).mono ?_
  rintro e w2 ⟨rfl, hb2⟩
  go_wp2_with fail
  refine (HRUN.out _ (HV.out.below (below4 hb1 hb2))).mono ?_
  rintro e w3 ⟨d, q0, q1, rfl, hI, hb3⟩
  have hb := below4 hb1 (below4 hb2 hb3)
  clear hb1 hb2 hb3 HRUN HV HN
  have hu : d.used ≤ 100000 := hI.used
  have hup := up_of d hI.size
  have HST := Lib.hid (fun w => start_any d w)
  have HAR := Lib.hid (fun w => arm_any d.start (-1) 0 w)
  rw [hup] at HAR
  have hu2 : (Dk.up 100000 d.h0 d.s0 d.h1 d.s1).used ≤ 100000 := hu
  clear hI hup hu
  obtain ⟨size, h0, s0, h1, s1, down, fuse, keep⟩ := d
  have HB := Lib.hid hb; clear hb
  unfold Dk.val at HST HAR ⊢
  simp only at HST HAR hu2 ⊢
  unfold Dk.up at HAR
  unfold Dk.start at HST HAR
  simp only at HST HAR
  obtain ⟨g, hg⟩ : ∃ g, w3.heap.size = g := ⟨_, rfl⟩
  have hgw : w.heap.size ≤ g := by rw [← hg]; exact HB.out.size
  go_upto_if 31 with fail
  go_cut [31] (fun _ wx => Row wx g (Dk.mk size h0 s0 h1 s1 false fuse keep).cells ∧ Below w.heap.size w wx ∧ g < wx.heap.size)
  case first =>
    cases down
    case false =>
      go_wp2_with fail
      go_meet
      exact ⟨Row.alloc (Row.at hg rfl) (by simp; omega) _, (HB.out.alloc HB.out.size _).alloc (by have := HB.out.size; simp; omega) _, by simp; omega⟩
    case true =>
      go_wp2_with fail
      refine (HST.out _).mono ?_
      rintro e w4 ⟨rfl, hb4⟩
      have R := Row.below (Row.alloc (Row.at hg rfl : Row _ g (Dk.mk size h0 s0 h1 s1 true fuse keep).cells) (by simp; omega) _) hb4 (by simp; omega)
      have hB : Below w.heap.size w w4 := by
        refine Below.trans ?_ (hb4.mono (by have := HB.out.size; simp; omega))
        exact (HB.out.alloc HB.out.size _).alloc (by have := HB.out.size; simp; omega) _
      have hs4 := hb4.size
      simp at hs4
      clear HB hb4
      obtain ⟨c0, c1, c2, c3, c4, c5, c6, c7, f0, f1, f2, f3, f4, f5, f6, f7⟩ := Row.eight R
      go_wp2_with fail
      have RU := R.lay (Dk.mk size h0 s0 h1 s1 false fuse keep)
      have hB' := Below.set8 hB (b := g) hgw (.int .i64 size) (.string h0) (.string s0) (.string h1) (.string s1) (.bool false) (.int .i64 fuse) (.int .i64 keep)
      have hs5 : g < (lay w4 g (Dk.mk size h0 s0 h1 s1 false fuse keep)).heap.size := by rw [lay_size]; omega
      unfold lay at RU hs5
      simp only at RU hs5
      unfold set8 at RU hB' hs5
      go_meet
      exact ⟨RU, hB', hs5⟩
  case rest =>
    obtain ⟨R, hB, hs5⟩ := hcut
    clear HST HB hg
    have HRU := Lib.hid R; clear R
    have HB5 := Lib.hid hB; clear hB
    obtain ⟨c0, c1, c2, c3, c4, c5, c6, c7, _, _, _, _, _, _, _, _⟩ := Row.eight HRU.out
    go_wp2_with fail
    refine (HAR.out _).mono ?_
    rintro e w7 ⟨rfl, hb7⟩
    have R := Row.below HRU.out hb7 hs5
    have hB := HB5.out.trans (hb7.mono HB5.out.size)
    have hs7 := Nat.lt_of_lt_of_le hs5 hb7.size
    clear HRU HB5 hb7 hs5 c0 c1 c2 c3 c4 c5 c6 c7
    obtain ⟨c0, c1, c2, c3, c4, c5, c6, c7, f0, f1, f2, f3, f4, f5, f6, f7⟩ := Row.eight R
    go_upto_region 8 with fail
    have RU := R.lay (Dk.up 100000 h0 s0 h1 s1)
    have hB' := Below.set8 hB (b := g) hgw (.int .i64 100000) (.string h0) (.string s0) (.string h1) (.string s1) (.bool false) (.int .i64 (-1)) (.int .i64 0)
    have hs5 : g < (lay w7 g (Dk.up 100000 h0 s0 h1 s1)).heap.size := by rw [lay_size]; omega
    unfold lay Dk.up at RU hs5
    simp only at RU hs5
    unfold set8 at RU hB' hs5
    generalize World.setCell _ _ _ = w6 at RU hB' hs5 ⊢
    have HR := Lib.hid RU; clear RU
    have HB := Lib.hid hB'; clear hB'
    clear R hB HAR hgw
    try clear hs4
    try clear hs7
    try clear c0 c1 c2 c3 c4 c5 c6 c7 f0 f1 f2 f3 f4 f5 f6 f7
    go_upto_region 9 with fail
    rw [HF.out]
    have hfi := full_iff (d := Dk.up 100000 h0 s0 h1 s1) (N := 100000) rfl s
    have HRD := Lib.hid (fun f w => read_any (Dk.up 100000 h0 s0 h1 s1) f w (by omega))
    have HU := Lib.hid (fun w => used_any (Dk.up 100000 h0 s0 h1 s1) w (by omega))
    obtain ⟨c0, c1, c2, c3, c4, c5, c6, c7, _, _, _, _, _, _, _, _⟩ := Row.eight HR.out
    rcases hF2 with rfl | rfl
    · have HRg := HR
      clear HR
      have hlt : g < w6.heap.size := hs5
      clear hs5
      go_wp2_with fail
      refine (HRD.out 0 _).mono ?_
      rintro e x1 ⟨rfl, hbq⟩
      have Ng := Row.below HRg.out hbq (by omega)
      have hBq : Below w.heap.size w x1 := HB.out.trans (hbq.mono HB.out.size)
      have ltx1 := hbq.size
      clear HB hbq HRg
      have HB := Lib.hid hBq; clear hBq
      have HRg := Lib.hid Ng; clear Ng
      clear c0 c1 c2 c3 c4 c5 c6 c7
      obtain ⟨c0, c1, c2, c3, c4, c5, c6, c7, _, _, _, _, _, _, _, _⟩ := Row.eight HRg.out
      have hrs := read_size (Dk.up 100000 h0 s0 h1 s1) 0
      have hcat : ¬ (9223372036854775807 < ((Dk.up 100000 h0 s0 h1 s1).read 0).size + s.size) := by omega
      by_cases hroom : (100000 : Int) < ((((Dk.up 100000 h0 s0 h1 s1).used : Nat) : Int)) + (s.size : Int)
      · as_aux_lemma =>
          have hfl : (Dk.up 100000 h0 s0 h1 s1).full s = true := by rw [hfi]; simpa using hroom
          have HW := Lib.hid (fun w => show Calls Try.prog 10 #[(Dk.up 100000 h0 s0 h1 s1).val, .int .i64 0, .string s] w fun e w' => e = .returned (.tuple #[(Dk.up 100000 h0 s0 h1 s1).val, .int .i64 9]) ∧ Below w.heap.size w w' from by have := write_any (Dk.up 100000 h0 s0 h1 s1) 0 s w (by omega) (show (-1 : Int) < _ by decide) (show (100000 : Int) < _ by decide); rw [write_full rfl 0 s (by simp) hfl] at this; exact this)
          have HSY := Lib.hid (fun w => sync_any (Dk.up 100000 h0 s0 h1 s1) 0 w (by omega) (show (-1 : Int) < _ by decide))
          have HCU := Lib.hid (fun w => cut_any (Dk.up 100000 h0 s0 h1 s1) 0 n w (by omega) (show (-1 : Int) < _ by decide) _wn)
          generalize (Dk.up 100000 h0 s0 h1 s1).sync 0 = r2 at HSY
          generalize (Dk.up 100000 h0 s0 h1 s1).cut 0 n = r3 at HCU
          clear hfi hfl
          generalize (Dk.up 100000 h0 s0 h1 s1).used = us at hroom HU hu2 hrs
          unfold Dk.val at HW HSY HCU HU
          unfold Dk.up at HW HSY HCU HU
          simp only at HW HSY HCU HU
          go_wp2_with fail
          refine (HW.out _).mono ?_
          rintro e x2 ⟨rfl, hbq⟩
          have Ng := Row.below HRg.out hbq (by omega)
          have hBq : Below w.heap.size w x2 := HB.out.trans (hbq.mono HB.out.size)
          have ltx2 := hbq.size
          clear HB hbq HRg
          have HB := Lib.hid hBq; clear hBq
          have HRg := Lib.hid Ng; clear Ng
          obtain ⟨ga, hgga⟩ : ∃ z, x2.heap.size = z := ⟨_, rfl⟩
          have l1 : g < ga := by omega
          clear c0 c1 c2 c3 c4 c5 c6 c7
          go_wp2_with fail
          refine (HSY.out _).mono ?_
          rintro e x3 ⟨rfl, hbq⟩
          have Nga := Row.below (Row.at hgga rfl : Row _ ga [.int .i64 100000, .string h0, .string s0, .string h1, .string s1, .bool false, .int .i64 (-1), .int .i64 0]) hbq (by simp; omega)
          have Ng := Row.below (Row.alloc HRg.out (by omega) _) hbq (by simp; omega)
          have hBq : Below w.heap.size w x3 := (HB.out.alloc HB.out.size _).trans (hbq.mono (by have := HB.out.size; simp; omega))
          have ltx3 := hbq.size
          simp at ltx3
          clear HB hbq HRg
          have HB := Lib.hid hBq; clear hBq
          have HRg := Lib.hid Ng; clear Ng
          have HRga := Lib.hid Nga; clear Nga
          obtain ⟨gb, hggb⟩ : ∃ z, x3.heap.size = z := ⟨_, rfl⟩
          have l2 : ga < gb := by omega
          have l3 : g < gb := by omega
          obtain ⟨a0, a1, a2, a3, a4, a5, a6, a7, _, _, _, _, _, _, _, _⟩ := Row.eight HRga.out
          go_wp2_with fail
          refine (HCU.out _).mono ?_
          rintro e x4 ⟨rfl, hbq⟩
          have Ngb := Row.below (Row.at hggb rfl : Row _ gb r2.1.cells) hbq (by simp; omega)
          have Ng := Row.below (Row.alloc HRg.out (by omega) _) hbq (by simp; omega)
          have Nga := Row.below (Row.alloc HRga.out (by omega) _) hbq (by simp; omega)
          have hBq : Below w.heap.size w x4 := (HB.out.alloc HB.out.size _).trans (hbq.mono (by have := HB.out.size; simp; omega))
          have ltx4 := hbq.size
          simp at ltx4
          clear HB hbq HRg HRga
          have HB := Lib.hid hBq; clear hBq
          have HRg := Lib.hid Ng; clear Ng
          have HRga := Lib.hid Nga; clear Nga
          have HRgb := Lib.hid Ngb; clear Ngb
          obtain ⟨gc, hggc⟩ : ∃ z, x4.heap.size = z := ⟨_, rfl⟩
          have l4 : ga < gc := by omega
          have l5 : g < gc := by omega
          clear a0 a1 a2 a3 a4 a5 a6 a7
          obtain ⟨c0, c1, c2, c3, c4, c5, c6, c7, _, _, _, _, _, _, _, _⟩ := Row.eight HRg.out
          go_wp2_with fail
          refine (HU.out _).mono ?_
          rintro e x5 ⟨rfl, hbq⟩
          have Ngc := Row.below (Row.at hggc rfl : Row _ gc r3.1.cells) hbq (by simp; omega)
          have Ng := Row.below (Row.alloc HRg.out (by omega) _) hbq (by simp; omega)
          have Nga := Row.below (Row.alloc HRga.out (by omega) _) hbq (by simp; omega)
          have hBq : Below w.heap.size w x5 := (HB.out.alloc HB.out.size _).trans (hbq.mono (by have := HB.out.size; simp; omega))
          have ltx5 := hbq.size
          simp at ltx5
          clear HB hbq HRg HRga
          have HB := Lib.hid hBq; clear hBq
          have HRg := Lib.hid Ng; clear Ng
          have HRga := Lib.hid Nga; clear Nga
          have HRgc := Lib.hid Ngc; clear Ngc
          clear c0 c1 c2 c3 c4 c5 c6 c7
          obtain ⟨c0, c1, c2, c3, c4, c5, c6, c7, _, _, _, _, _, _, _, _⟩ := Row.eight HRg.out
          obtain ⟨a0, a1, a2, a3, a4, a5, a6, a7, _, _, _, _, _, _, _, _⟩ := Row.eight HRga.out
          have heq := fun w => eq_files h0 s0 h1 s1 w
          go_wp2_with fail
          go_ret
          exact ⟨rfl, HB.out⟩
      · as_aux_lemma =>
          have hfl : (Dk.up 100000 h0 s0 h1 s1).full s = false := by rw [hfi]; simpa using hroom
          have hus : (Dk.up 100000 h0 s0 h1 s1).used + s.size ≤ 100000 := by omega
          obtain ⟨W, Y, C, Z, O, hR⟩ := reads_room0 n hfl hus
          obtain ⟨A, hA⟩ : ∃ A, (Dk.up 100000 h0 s0 h1 s1).read 0 ++ s = A := ⟨_, rfl⟩
          have hAs : ((A.size : Nat) : Int) = (((Dk.up 100000 h0 s0 h1 s1).read 0).size : Int) + (s.size : Int) := by rw [← hA, ByteArray.size_append]; omega
          have HW := Lib.hid (fun w => show Calls Try.prog 10 #[(Dk.up 100000 h0 s0 h1 s1).val, .int .i64 0, .string s] w fun e w' => e = .returned (.tuple #[W.val, .int .i64 0]) ∧ Below w.heap.size w w' from by have := write_any (Dk.up 100000 h0 s0 h1 s1) 0 s w (by omega) (show (-1 : Int) < _ by decide) (show (100000 : Int) < _ by decide); rw [hR.w] at this; exact this)
          have HSY := Lib.hid (fun w => show Calls Try.prog 12 #[W.val, .int .i64 0] w fun e w' => e = .returned (.tuple #[Y.val, .int .i64 0]) ∧ Below w.heap.size w w' from by have := sync_any W 0 w (by have := hR.uw; omega) hR.fw; rw [hR.y] at this; exact this)
          have HCU := Lib.hid (fun w => show Calls Try.prog 14 #[W.val, .int .i64 0, .int .i64 n] w fun e w' => e = .returned (.tuple #[C.val, .int .i64 0]) ∧ Below w.heap.size w w' from by have := cut_any W 0 n w (by have := hR.uw; omega) hR.fw _wn; rw [hR.c] at this; exact this)
          have HCR := Lib.hid (fun w => show Calls Try.prog 16 #[Y.val, .int .i64 0] w fun e w' => e = .returned (Z.val) ∧ Below w.heap.size w w' from by have := crash_any Y 0 w (by have := hR.uy; omega); rw [hR.z] at this; exact this)
          have HRW := Lib.hid (fun w => show Calls Try.prog 24 #[W.val, .int .i64 0] w fun e w' => e = .returned (.string A) ∧ Below w.heap.size w w' from by have := read_any W 0 w (by have := hR.uw; omega); rw [hR.rw', hA] at this; exact this)
          have HRY := Lib.hid (fun w => show Calls Try.prog 24 #[Y.val, .int .i64 0] w fun e w' => e = .returned (.string A) ∧ Below w.heap.size w w' from by have := read_any Y 0 w (by have := hR.uy; omega); rw [hR.ry, hA] at this; exact this)
          have HRC := Lib.hid (fun w => show Calls Try.prog 24 #[C.val, .int .i64 0] w fun e w' => e = .returned (.string (A.extract 0 n.toNat)) ∧ Below w.heap.size w w' from by have := read_any C 0 w (by have := hR.uc; omega); rw [hR.rc, hA] at this; exact this)
          have HRZ := Lib.hid (fun w => show Calls Try.prog 24 #[Z.val, .int .i64 0] w fun e w' => e = .returned (.string A) ∧ Below w.heap.size w w' from by have := read_any Z 0 w (by have := hR.uz; omega); rw [hR.rz, hA] at this; exact this)
          have HOW := Lib.hid (fun w => show Calls Try.prog 24 #[W.val, .int .i64 1] w fun e w' => e = .returned (.string O) ∧ Below w.heap.size w w' from by have := read_any W 1 w (by have := hR.uw; omega); rw [hR.ow] at this; exact this)
          have HOD := Lib.hid (fun w => show Calls Try.prog 24 #[(Dk.up 100000 h0 s0 h1 s1).val, .int .i64 1] w fun e w' => e = .returned (.string O) ∧ Below w.heap.size w w' from by have := read_any (Dk.up 100000 h0 s0 h1 s1) 1 w (by have := hu2; omega); rw [hR.od] at this; exact this)
          have HOC := Lib.hid (fun w => show Calls Try.prog 24 #[C.val, .int .i64 1] w fun e w' => e = .returned (.string O) ∧ Below w.heap.size w w' from by have := read_any C 1 w (by have := hR.uc; omega); rw [hR.oc] at this; exact this)
          have HD2 := Lib.hid (fun w => show Calls Try.prog 24 #[(Dk.up 100000 h0 s0 h1 s1).val, .int .i64 2] w fun e w' => e = .returned (.string ⟨#[]⟩) ∧ Below w.heap.size w w' from by have := read_any (Dk.up 100000 h0 s0 h1 s1) 2 w (by have := hu2; omega); rw [hR.d2] at this; exact this)
          have HDM := Lib.hid (fun w => show Calls Try.prog 24 #[(Dk.up 100000 h0 s0 h1 s1).val, .int .i64 (-1)] w fun e w' => e = .returned (.string ⟨#[]⟩) ∧ Below w.heap.size w w' from by have := read_any (Dk.up 100000 h0 s0 h1 s1) (-1) w (by have := hu2; omega); rw [hR.dm] at this; exact this)
          have HA := Lib.hid hA; clear hA
          clear hfi hfl hR hus
          generalize (Dk.up 100000 h0 s0 h1 s1).used = us at hroom HU hu2 hrs
          unfold Dk.val at HW HSY HCU HU HCR HRW HRY HRC HRZ HOW HOD HOC HD2 HDM
          unfold Dk.up at HW HOD HD2 HDM HU
          simp only at HW HOD HD2 HDM HU
          go_wp2_with fail
          refine (HW.out _).mono ?_
          rintro e x2 ⟨rfl, hbq⟩
          have Ng := Row.below HRg.out hbq (by omega)
          have hBq : Below w.heap.size w x2 := HB.out.trans (hbq.mono HB.out.size)
          have ltx2 := hbq.size
          clear HB hbq HRg
          have HB := Lib.hid hBq; clear hBq
          have HRg := Lib.hid Ng; clear Ng
          obtain ⟨ga, hgga⟩ : ∃ z, x2.heap.size = z := ⟨_, rfl⟩
          have l1 : g < ga := by omega
          clear c0 c1 c2 c3 c4 c5 c6 c7
          go_wp2_with fail
          refine (HSY.out _).mono ?_
          rintro e x3 ⟨rfl, hbq⟩
          have Nga := Row.below (Row.at hgga rfl : Row _ ga W.cells) hbq (by simp; omega)
          have Ng := Row.below (Row.alloc HRg.out (by omega) _) hbq (by simp; omega)
          have hBq : Below w.heap.size w x3 := (HB.out.alloc HB.out.size _).trans (hbq.mono (by have := HB.out.size; simp; omega))
          have ltx3 := hbq.size
          simp at ltx3
          clear HB hbq HRg
          have HB := Lib.hid hBq; clear hBq
          have HRg := Lib.hid Ng; clear Ng
          have HRga := Lib.hid Nga; clear Nga
          obtain ⟨gb, hggb⟩ : ∃ z, x3.heap.size = z := ⟨_, rfl⟩
          have l2 : ga < gb := by omega
          have l3 : g < gb := by omega
          obtain ⟨a0, a1, a2, a3, a4, a5, a6, a7, _, _, _, _, _, _, _, _⟩ := Row.eight HRga.out
          go_wp2_with fail
          refine (HCU.out _).mono ?_
          rintro e x4 ⟨rfl, hbq⟩
          have Ngb := Row.below (Row.at hggb rfl : Row _ gb Y.cells) hbq (by simp; omega)
          have Ng := Row.below (Row.alloc HRg.out (by omega) _) hbq (by simp; omega)
          have Nga := Row.below (Row.alloc HRga.out (by omega) _) hbq (by simp; omega)
          have hBq : Below w.heap.size w x4 := (HB.out.alloc HB.out.size _).trans (hbq.mono (by have := HB.out.size; simp; omega))
          have ltx4 := hbq.size
          simp at ltx4
          clear HB hbq HRg HRga
          have HB := Lib.hid hBq; clear hBq
          have HRg := Lib.hid Ng; clear Ng
          have HRga := Lib.hid Nga; clear Nga
          have HRgb := Lib.hid Ngb; clear Ngb
          obtain ⟨gc, hggc⟩ : ∃ z, x4.heap.size = z := ⟨_, rfl⟩
          have l4 : ga < gc := by omega
          have l5 : g < gc := by omega
          have l6 : gb < gc := by omega
          clear a0 a1 a2 a3 a4 a5 a6 a7
          obtain ⟨c0, c1, c2, c3, c4, c5, c6, c7, _, _, _, _, _, _, _, _⟩ := Row.eight HRg.out
          go_upto_region 14 with fail
          rw [HA.out]
          go_wp2_with fail
          refine (HU.out _).mono ?_
          rintro e x5 ⟨rfl, hbq⟩
          have Ngc := Row.below (Row.at hggc rfl : Row _ gc C.cells) hbq (by simp; omega)
          have Ng := Row.below (Row.alloc HRg.out (by omega) _) hbq (by simp; omega)
          have Nga := Row.below (Row.alloc HRga.out (by omega) _) hbq (by simp; omega)
          have Ngb := Row.below (Row.alloc HRgb.out (by omega) _) hbq (by simp; omega)
          have hBq : Below w.heap.size w x5 := (HB.out.alloc HB.out.size _).trans (hbq.mono (by have := HB.out.size; simp; omega))
          have ltx5 := hbq.size
          simp at ltx5
          clear HB hbq HRg HRga HRgb
          have HB := Lib.hid hBq; clear hBq
          have HRg := Lib.hid Ng; clear Ng
          have HRga := Lib.hid Nga; clear Nga
          have HRgb := Lib.hid Ngb; clear Ngb
          have HRgc := Lib.hid Ngc; clear Ngc
          clear c0 c1 c2 c3 c4 c5 c6 c7
          clear HA HSY HCU HW HU HRD hcat hrs hu2
          obtain ⟨c0, c1, c2, c3, c4, c5, c6, c7, _, _, _, _, _, _, _, _⟩ := Row.eight HRg.out
          obtain ⟨a0, a1, a2, a3, a4, a5, a6, a7, _, _, _, _, _, _, _, _⟩ := Row.eight HRga.out
          obtain ⟨b0, b1, b2, b3, b4, b5, b6, b7, _, _, _, _, _, _, _, _⟩ := Row.eight HRgb.out
          obtain ⟨d0, d1, d2, d3, d4, d5, d6, d7, _, _, _, _, _, _, _, _⟩ := Row.eight HRgc.out
          have HB16 := Lib.hid (show Below w.heap.size w x5 from HB.out)
          go_upto_region 16 with fail
          go_cut [117] (fun s wx => s = .bool false ∧ (wx.cell? ⟨g, 0, none⟩ = some (.int .i64 100000) ∧ wx.cell? ⟨g, 1, none⟩ = some (.string h0) ∧ wx.cell? ⟨g, 2, none⟩ = some (.string s0) ∧ wx.cell? ⟨g, 3, none⟩ = some (.string h1) ∧ wx.cell? ⟨g, 4, none⟩ = some (.string s1) ∧ wx.cell? ⟨g, 5, none⟩ = some (.bool false) ∧ wx.cell? ⟨g, 6, none⟩ = some (.int .i64 (-1)) ∧ wx.cell? ⟨g, 7, none⟩ = some (.int .i64 0) ∧ wx.cell? ⟨ga, 0, none⟩ = some (.int .i64 W.size) ∧ wx.cell? ⟨ga, 1, none⟩ = some (.string W.h0) ∧ wx.cell? ⟨ga, 2, none⟩ = some (.string W.s0) ∧ wx.cell? ⟨ga, 3, none⟩ = some (.string W.h1) ∧ wx.cell? ⟨ga, 4, none⟩ = some (.string W.s1) ∧ wx.cell? ⟨ga, 5, none⟩ = some (.bool W.down) ∧ wx.cell? ⟨ga, 6, none⟩ = some (.int .i64 W.fuse) ∧ wx.cell? ⟨ga, 7, none⟩ = some (.int .i64 W.keep) ∧ wx.cell? ⟨gb, 0, none⟩ = some (.int .i64 Y.size) ∧ wx.cell? ⟨gb, 1, none⟩ = some (.string Y.h0) ∧ wx.cell? ⟨gb, 2, none⟩ = some (.string Y.s0) ∧ wx.cell? ⟨gb, 3, none⟩ = some (.string Y.h1) ∧ wx.cell? ⟨gb, 4, none⟩ = some (.string Y.s1) ∧ wx.cell? ⟨gb, 5, none⟩ = some (.bool Y.down) ∧ wx.cell? ⟨gb, 6, none⟩ = some (.int .i64 Y.fuse) ∧ wx.cell? ⟨gb, 7, none⟩ = some (.int .i64 Y.keep) ∧ wx.cell? ⟨gc, 0, none⟩ = some (.int .i64 C.size) ∧ wx.cell? ⟨gc, 1, none⟩ = some (.string C.h0) ∧ wx.cell? ⟨gc, 2, none⟩ = some (.string C.s0) ∧ wx.cell? ⟨gc, 3, none⟩ = some (.string C.h1) ∧ wx.cell? ⟨gc, 4, none⟩ = some (.string C.s1) ∧ wx.cell? ⟨gc, 5, none⟩ = some (.bool C.down) ∧ wx.cell? ⟨gc, 6, none⟩ = some (.int .i64 C.fuse) ∧ wx.cell? ⟨gc, 7, none⟩ = some (.int .i64 C.keep)) ∧ Below w.heap.size w wx)
          case first => as_aux_lemma =>
            have hcase : n < 0 ∨ (∃ m : Nat, n = m ∧ (A.size : Int) < (m : Int)) ∨ (∃ m : Nat, n = m ∧ (m : Int) ≤ (A.size : Int)) := by
              by_cases hn : n < 0
              · exact .inl hn
              · obtain ⟨m, rfl⟩ := Int.eq_ofNat_of_zero_le (show 0 ≤ n by omega)
                rcases Int.lt_or_le (A.size : Int) (m : Int) with h | h
                · exact .inr (.inl ⟨m, rfl, h⟩)
                · exact .inr (.inr ⟨m, rfl, h⟩)
            rcases hcase with hn | ⟨m, rfl, hm⟩ | ⟨m, rfl, hm⟩
            case' inl =>
              have hA0 : ¬ ((A.size : Int) < 0) := by omega
              have hMx : max n 0 = 0 := by omega
              have hMn : min (0 : Int) (A.size : Int) = 0 := by omega
              have hAp : (0 : Int) ≤ (A.size : Int) := by omega
              rw [show A.extract 0 n.toNat = ⟨#[]⟩ by rw [Int.toNat_of_nonpos (by omega)]; exact extract_none _] at HRC
            case' inr.inl =>
              have hm0 : (0 : Int) ≤ (m : Int) := by omega
              have hAp : (0 : Int) ≤ (A.size : Int) := by omega
              have hmN : A.size < m := by omega
              have hmD : decide (A.size < m) = true := by simpa using hmN
              have hAl : (A.size : Int) ≤ (A.size : Int) := by omega
              have hMx : max (m : Int) 0 = (m : Int) := by omega
              have hMn : min (m : Int) (A.size : Int) = (A.size : Int) := by omega
              rw [Int.toNat_natCast, extract_all A m (by omega)] at HRC
            case' inr.inr =>
              have hm0 : (0 : Int) ≤ (m : Int) := by omega
              have hmn : ¬ ((A.size : Int) < (m : Int)) := by omega
              have hMx : max (m : Int) 0 = (m : Int) := by omega
              have hMn : min (m : Int) (A.size : Int) = (m : Int) := by omega
              have hmN : ¬ (A.size < m) := by omega
              have hmL : m ≤ A.size := by omega
              have hmD : decide (A.size < m) = false := by simpa using hmL
              rw [Int.toNat_natCast] at HRC
            all_goals
              clear hAs _wn _hs
              go_region_held3 (fun w' => w'.cell? ⟨g, 0, none⟩ = some (.int .i64 100000) ∧ w'.cell? ⟨g, 1, none⟩ = some (.string h0) ∧ w'.cell? ⟨g, 2, none⟩ = some (.string s0) ∧ w'.cell? ⟨g, 3, none⟩ = some (.string h1) ∧ w'.cell? ⟨g, 4, none⟩ = some (.string s1) ∧ w'.cell? ⟨g, 5, none⟩ = some (.bool false) ∧ w'.cell? ⟨g, 6, none⟩ = some (.int .i64 (-1)) ∧ w'.cell? ⟨g, 7, none⟩ = some (.int .i64 0) ∧ w'.cell? ⟨ga, 0, none⟩ = some (.int .i64 W.size) ∧ w'.cell? ⟨ga, 1, none⟩ = some (.string W.h0) ∧ w'.cell? ⟨ga, 2, none⟩ = some (.string W.s0) ∧ w'.cell? ⟨ga, 3, none⟩ = some (.string W.h1) ∧ w'.cell? ⟨ga, 4, none⟩ = some (.string W.s1) ∧ w'.cell? ⟨ga, 5, none⟩ = some (.bool W.down) ∧ w'.cell? ⟨ga, 6, none⟩ = some (.int .i64 W.fuse) ∧ w'.cell? ⟨ga, 7, none⟩ = some (.int .i64 W.keep) ∧ w'.cell? ⟨gb, 0, none⟩ = some (.int .i64 Y.size) ∧ w'.cell? ⟨gb, 1, none⟩ = some (.string Y.h0) ∧ w'.cell? ⟨gb, 2, none⟩ = some (.string Y.s0) ∧ w'.cell? ⟨gb, 3, none⟩ = some (.string Y.h1) ∧ w'.cell? ⟨gb, 4, none⟩ = some (.string Y.s1) ∧ w'.cell? ⟨gb, 5, none⟩ = some (.bool Y.down) ∧ w'.cell? ⟨gb, 6, none⟩ = some (.int .i64 Y.fuse) ∧ w'.cell? ⟨gb, 7, none⟩ = some (.int .i64 Y.keep) ∧ w'.cell? ⟨gc, 0, none⟩ = some (.int .i64 C.size) ∧ w'.cell? ⟨gc, 1, none⟩ = some (.string C.h0) ∧ w'.cell? ⟨gc, 2, none⟩ = some (.string C.s0) ∧ w'.cell? ⟨gc, 3, none⟩ = some (.string C.h1) ∧ w'.cell? ⟨gc, 4, none⟩ = some (.string C.s1) ∧ w'.cell? ⟨gc, 5, none⟩ = some (.bool C.down) ∧ w'.cell? ⟨gc, 6, none⟩ = some (.int .i64 C.fuse) ∧ w'.cell? ⟨gc, 7, none⟩ = some (.int .i64 C.keep)) (first | go_keep | (exact c32_below hq (by first | assumption | (simp [go_sem, *]; done)))) ((first | (go_at_call 24; ((with_reducible refine (HRW.out _).mono ?_); rintro e u ⟨rfl, hq⟩; have HBn := Lib.hid (show Below w.heap.size w u from by first | exact below4 HB.out hq | exact below4 HB.out.drew hq | exact HB.out.trans (hq.mono HB.out.size)); clear HB; have HB := HBn; clear HBn)) | (go_at_call 24; ((with_reducible refine (HRY.out _).mono ?_); rintro e u ⟨rfl, hq⟩; have HBn := Lib.hid (show Below w.heap.size w u from by first | exact below4 HB.out hq | exact below4 HB.out.drew hq | exact HB.out.trans (hq.mono HB.out.size)); clear HB; have HB := HBn; clear HBn)) | (go_at_call 24; ((with_reducible refine (HRC.out _).mono ?_); rintro e u ⟨rfl, hq⟩; have HBn := Lib.hid (show Below w.heap.size w u from by first | exact below4 HB.out hq | exact below4 HB.out.drew hq | exact HB.out.trans (hq.mono HB.out.size)); clear HB; have HB := HBn; clear HBn))))
              all_goals (go_wp2_with fail; go_meet; exact ⟨rfl, by assumption, HB.out⟩)
          case rest => as_aux_lemma =>
            obtain ⟨rfl, hcells, hbc⟩ := hcut
            clear hAs _wn _hs HB16 HB HRg HRga HRgb HRgc a0 a1 a2 a3 a4 a5 a6 a7 b0 b1 b2 b3 b4 b5 b6 b7 c0 c1 c2 c3 c4 c5 c6 c7 d0 d1 d2 d3 d4 d5 d6 d7 HRW HRY HRC
            obtain ⟨c0, c1, c2, c3, c4, c5, c6, c7, a0, a1, a2, a3, a4, a5, a6, a7, b0, b1, b2, b3, b4, b5, b6, b7, d0, d1, d2, d3, d4, d5, d6, d7⟩ := hcells
            have HB := Lib.hid hbc; clear hbc
            have hw1 : IntKind.i64.wrap 1 = 1 := by decide
            go_upto_region 18 with fail
            go_region_held3 (fun w' => w'.cell? ⟨g, 0, none⟩ = some (.int .i64 100000) ∧ w'.cell? ⟨g, 1, none⟩ = some (.string h0) ∧ w'.cell? ⟨g, 2, none⟩ = some (.string s0) ∧ w'.cell? ⟨g, 3, none⟩ = some (.string h1) ∧ w'.cell? ⟨g, 4, none⟩ = some (.string s1) ∧ w'.cell? ⟨g, 5, none⟩ = some (.bool false) ∧ w'.cell? ⟨g, 6, none⟩ = some (.int .i64 (-1)) ∧ w'.cell? ⟨g, 7, none⟩ = some (.int .i64 0) ∧ w'.cell? ⟨ga, 0, none⟩ = some (.int .i64 W.size) ∧ w'.cell? ⟨ga, 1, none⟩ = some (.string W.h0) ∧ w'.cell? ⟨ga, 2, none⟩ = some (.string W.s0) ∧ w'.cell? ⟨ga, 3, none⟩ = some (.string W.h1) ∧ w'.cell? ⟨ga, 4, none⟩ = some (.string W.s1) ∧ w'.cell? ⟨ga, 5, none⟩ = some (.bool W.down) ∧ w'.cell? ⟨ga, 6, none⟩ = some (.int .i64 W.fuse) ∧ w'.cell? ⟨ga, 7, none⟩ = some (.int .i64 W.keep) ∧ w'.cell? ⟨gb, 0, none⟩ = some (.int .i64 Y.size) ∧ w'.cell? ⟨gb, 1, none⟩ = some (.string Y.h0) ∧ w'.cell? ⟨gb, 2, none⟩ = some (.string Y.s0) ∧ w'.cell? ⟨gb, 3, none⟩ = some (.string Y.h1) ∧ w'.cell? ⟨gb, 4, none⟩ = some (.string Y.s1) ∧ w'.cell? ⟨gb, 5, none⟩ = some (.bool Y.down) ∧ w'.cell? ⟨gb, 6, none⟩ = some (.int .i64 Y.fuse) ∧ w'.cell? ⟨gb, 7, none⟩ = some (.int .i64 Y.keep) ∧ w'.cell? ⟨gc, 0, none⟩ = some (.int .i64 C.size) ∧ w'.cell? ⟨gc, 1, none⟩ = some (.string C.h0) ∧ w'.cell? ⟨gc, 2, none⟩ = some (.string C.s0) ∧ w'.cell? ⟨gc, 3, none⟩ = some (.string C.h1) ∧ w'.cell? ⟨gc, 4, none⟩ = some (.string C.s1) ∧ w'.cell? ⟨gc, 5, none⟩ = some (.bool C.down) ∧ w'.cell? ⟨gc, 6, none⟩ = some (.int .i64 C.fuse) ∧ w'.cell? ⟨gc, 7, none⟩ = some (.int .i64 C.keep)) (first | go_keep | (exact c32_below hq (by first | assumption | (simp [go_sem, *]; done)))) ((first | (go_at_call 24; ((with_reducible refine (HOW.out _).mono ?_); rintro e u ⟨rfl, hq⟩; have HBn := Lib.hid (show Below w.heap.size w u from by first | exact below4 HB.out hq | exact below4 HB.out.drew hq | exact HB.out.trans (hq.mono HB.out.size)); clear HB; have HB := HBn; clear HBn)) | (go_at_call 24; ((with_reducible refine (HOD.out _).mono ?_); rintro e u ⟨rfl, hq⟩; have HBn := Lib.hid (show Below w.heap.size w u from by first | exact below4 HB.out hq | exact below4 HB.out.drew hq | exact HB.out.trans (hq.mono HB.out.size)); clear HB; have HB := HBn; clear HBn)) | (go_at_call 24; ((with_reducible refine (HOC.out _).mono ?_); rintro e u ⟨rfl, hq⟩; have HBn := Lib.hid (show Below w.heap.size w u from by first | exact below4 HB.out hq | exact below4 HB.out.drew hq | exact HB.out.trans (hq.mono HB.out.size)); clear HB; have HB := HBn; clear HBn)) | (go_at_call 16; ((with_reducible refine (HCR.out _).mono ?_); rintro e u ⟨rfl, hq⟩; have HBn := Lib.hid (show Below w.heap.size w u from by first | exact below4 HB.out hq | exact below4 HB.out.drew hq | exact HB.out.trans (hq.mono HB.out.size)); clear HB; have HB := HBn; clear HBn)) | (go_at_call 24; ((with_reducible refine (HRZ.out _).mono ?_); rintro e u ⟨rfl, hq⟩; have HBn := Lib.hid (show Below w.heap.size w u from by first | exact below4 HB.out hq | exact below4 HB.out.drew hq | exact HB.out.trans (hq.mono HB.out.size)); clear HB; have HB := HBn; clear HBn)) | (go_at_call 24; ((with_reducible refine (HD2.out _).mono ?_); rintro e u ⟨rfl, hq⟩; have HBn := Lib.hid (show Below w.heap.size w u from by first | exact below4 HB.out hq | exact below4 HB.out.drew hq | exact HB.out.trans (hq.mono HB.out.size)); clear HB; have HB := HBn; clear HBn)) | (go_at_call 24; ((with_reducible refine (HDM.out _).mono ?_); rintro e u ⟨rfl, hq⟩; have HBn := Lib.hid (show Below w.heap.size w u from by first | exact below4 HB.out hq | exact below4 HB.out.drew hq | exact HB.out.trans (hq.mono HB.out.size)); clear HB; have HB := HBn; clear HBn))))
            all_goals (go_wp2_with fail; go_ret; exact ⟨rfl, HB.out⟩)
    · have HRg := HR
      clear HR
      have hlt : g < w6.heap.size := hs5
      clear hs5
      go_wp2_with fail
      refine (HRD.out 1 _).mono ?_
      rintro e x1 ⟨rfl, hbq⟩
      have Ng := Row.below HRg.out hbq (by omega)
      have hBq : Below w.heap.size w x1 := HB.out.trans (hbq.mono HB.out.size)
      have ltx1 := hbq.size
      clear HB hbq HRg
      have HB := Lib.hid hBq; clear hBq
      have HRg := Lib.hid Ng; clear Ng
      clear c0 c1 c2 c3 c4 c5 c6 c7
      obtain ⟨c0, c1, c2, c3, c4, c5, c6, c7, _, _, _, _, _, _, _, _⟩ := Row.eight HRg.out
      have hrs := read_size (Dk.up 100000 h0 s0 h1 s1) 1
      have hcat : ¬ (9223372036854775807 < ((Dk.up 100000 h0 s0 h1 s1).read 1).size + s.size) := by omega
      by_cases hroom : (100000 : Int) < ((((Dk.up 100000 h0 s0 h1 s1).used : Nat) : Int)) + (s.size : Int)
      · as_aux_lemma =>
          have hfl : (Dk.up 100000 h0 s0 h1 s1).full s = true := by rw [hfi]; simpa using hroom
          have HW := Lib.hid (fun w => show Calls Try.prog 10 #[(Dk.up 100000 h0 s0 h1 s1).val, .int .i64 1, .string s] w fun e w' => e = .returned (.tuple #[(Dk.up 100000 h0 s0 h1 s1).val, .int .i64 9]) ∧ Below w.heap.size w w' from by have := write_any (Dk.up 100000 h0 s0 h1 s1) 1 s w (by omega) (show (-1 : Int) < _ by decide) (show (100000 : Int) < _ by decide); rw [write_full rfl 1 s (by simp) hfl] at this; exact this)
          have HSY := Lib.hid (fun w => sync_any (Dk.up 100000 h0 s0 h1 s1) 1 w (by omega) (show (-1 : Int) < _ by decide))
          have HCU := Lib.hid (fun w => cut_any (Dk.up 100000 h0 s0 h1 s1) 1 n w (by omega) (show (-1 : Int) < _ by decide) _wn)
          generalize (Dk.up 100000 h0 s0 h1 s1).sync 1 = r2 at HSY
          generalize (Dk.up 100000 h0 s0 h1 s1).cut 1 n = r3 at HCU
          clear hfi hfl
          generalize (Dk.up 100000 h0 s0 h1 s1).used = us at hroom HU hu2 hrs
          unfold Dk.val at HW HSY HCU HU
          unfold Dk.up at HW HSY HCU HU
          simp only at HW HSY HCU HU
          go_wp2_with fail
          refine (HW.out _).mono ?_
          rintro e x2 ⟨rfl, hbq⟩
          have Ng := Row.below HRg.out hbq (by omega)
          have hBq : Below w.heap.size w x2 := HB.out.trans (hbq.mono HB.out.size)
          have ltx2 := hbq.size
          clear HB hbq HRg
          have HB := Lib.hid hBq; clear hBq
          have HRg := Lib.hid Ng; clear Ng
          obtain ⟨ga, hgga⟩ : ∃ z, x2.heap.size = z := ⟨_, rfl⟩
          have l1 : g < ga := by omega
          clear c0 c1 c2 c3 c4 c5 c6 c7
          go_wp2_with fail
          refine (HSY.out _).mono ?_
          rintro e x3 ⟨rfl, hbq⟩
          have Nga := Row.below (Row.at hgga rfl : Row _ ga [.int .i64 100000, .string h0, .string s0, .string h1, .string s1, .bool false, .int .i64 (-1), .int .i64 0]) hbq (by simp; omega)
          have Ng := Row.below (Row.alloc HRg.out (by omega) _) hbq (by simp; omega)
          have hBq : Below w.heap.size w x3 := (HB.out.alloc HB.out.size _).trans (hbq.mono (by have := HB.out.size; simp; omega))
          have ltx3 := hbq.size
          simp at ltx3
          clear HB hbq HRg
          have HB := Lib.hid hBq; clear hBq
          have HRg := Lib.hid Ng; clear Ng
          have HRga := Lib.hid Nga; clear Nga
          obtain ⟨gb, hggb⟩ : ∃ z, x3.heap.size = z := ⟨_, rfl⟩
          have l2 : ga < gb := by omega
          have l3 : g < gb := by omega
          obtain ⟨a0, a1, a2, a3, a4, a5, a6, a7, _, _, _, _, _, _, _, _⟩ := Row.eight HRga.out
          go_wp2_with fail
          refine (HCU.out _).mono ?_
          rintro e x4 ⟨rfl, hbq⟩
          have Ngb := Row.below (Row.at hggb rfl : Row _ gb r2.1.cells) hbq (by simp; omega)
          have Ng := Row.below (Row.alloc HRg.out (by omega) _) hbq (by simp; omega)
          have Nga := Row.below (Row.alloc HRga.out (by omega) _) hbq (by simp; omega)
          have hBq : Below w.heap.size w x4 := (HB.out.alloc HB.out.size _).trans (hbq.mono (by have := HB.out.size; simp; omega))
          have ltx4 := hbq.size
          simp at ltx4
          clear HB hbq HRg HRga
          have HB := Lib.hid hBq; clear hBq
          have HRg := Lib.hid Ng; clear Ng
          have HRga := Lib.hid Nga; clear Nga
          have HRgb := Lib.hid Ngb; clear Ngb
          obtain ⟨gc, hggc⟩ : ∃ z, x4.heap.size = z := ⟨_, rfl⟩
          have l4 : ga < gc := by omega
          have l5 : g < gc := by omega
          clear a0 a1 a2 a3 a4 a5 a6 a7
          obtain ⟨c0, c1, c2, c3, c4, c5, c6, c7, _, _, _, _, _, _, _, _⟩ := Row.eight HRg.out
          go_wp2_with fail
          refine (HU.out _).mono ?_
          rintro e x5 ⟨rfl, hbq⟩
          have Ngc := Row.below (Row.at hggc rfl : Row _ gc r3.1.cells) hbq (by simp; omega)
          have Ng := Row.below (Row.alloc HRg.out (by omega) _) hbq (by simp; omega)
          have Nga := Row.below (Row.alloc HRga.out (by omega) _) hbq (by simp; omega)
          have hBq : Below w.heap.size w x5 := (HB.out.alloc HB.out.size _).trans (hbq.mono (by have := HB.out.size; simp; omega))
          have ltx5 := hbq.size
          simp at ltx5
          clear HB hbq HRg HRga
          have HB := Lib.hid hBq; clear hBq
          have HRg := Lib.hid Ng; clear Ng
          have HRga := Lib.hid Nga; clear Nga
          have HRgc := Lib.hid Ngc; clear Ngc
          clear c0 c1 c2 c3 c4 c5 c6 c7
          obtain ⟨c0, c1, c2, c3, c4, c5, c6, c7, _, _, _, _, _, _, _, _⟩ := Row.eight HRg.out
          obtain ⟨a0, a1, a2, a3, a4, a5, a6, a7, _, _, _, _, _, _, _, _⟩ := Row.eight HRga.out
          have heq := fun w => eq_files h0 s0 h1 s1 w
          go_wp2_with fail
          go_ret
          exact ⟨rfl, HB.out⟩
      · as_aux_lemma =>
          have hfl : (Dk.up 100000 h0 s0 h1 s1).full s = false := by rw [hfi]; simpa using hroom
          have hus : (Dk.up 100000 h0 s0 h1 s1).used + s.size ≤ 100000 := by omega
          obtain ⟨W, Y, C, Z, O, hR⟩ := reads_room1 n hfl hus
          obtain ⟨A, hA⟩ : ∃ A, (Dk.up 100000 h0 s0 h1 s1).read 1 ++ s = A := ⟨_, rfl⟩
          have hAs : ((A.size : Nat) : Int) = (((Dk.up 100000 h0 s0 h1 s1).read 1).size : Int) + (s.size : Int) := by rw [← hA, ByteArray.size_append]; omega
          have HW := Lib.hid (fun w => show Calls Try.prog 10 #[(Dk.up 100000 h0 s0 h1 s1).val, .int .i64 1, .string s] w fun e w' => e = .returned (.tuple #[W.val, .int .i64 0]) ∧ Below w.heap.size w w' from by have := write_any (Dk.up 100000 h0 s0 h1 s1) 1 s w (by omega) (show (-1 : Int) < _ by decide) (show (100000 : Int) < _ by decide); rw [hR.w] at this; exact this)
          have HSY := Lib.hid (fun w => show Calls Try.prog 12 #[W.val, .int .i64 1] w fun e w' => e = .returned (.tuple #[Y.val, .int .i64 0]) ∧ Below w.heap.size w w' from by have := sync_any W 1 w (by have := hR.uw; omega) hR.fw; rw [hR.y] at this; exact this)
          have HCU := Lib.hid (fun w => show Calls Try.prog 14 #[W.val, .int .i64 1, .int .i64 n] w fun e w' => e = .returned (.tuple #[C.val, .int .i64 0]) ∧ Below w.heap.size w w' from by have := cut_any W 1 n w (by have := hR.uw; omega) hR.fw _wn; rw [hR.c] at this; exact this)
          have HCR := Lib.hid (fun w => show Calls Try.prog 16 #[Y.val, .int .i64 0] w fun e w' => e = .returned (Z.val) ∧ Below w.heap.size w w' from by have := crash_any Y 0 w (by have := hR.uy; omega); rw [hR.z] at this; exact this)
          have HRW := Lib.hid (fun w => show Calls Try.prog 24 #[W.val, .int .i64 1] w fun e w' => e = .returned (.string A) ∧ Below w.heap.size w w' from by have := read_any W 1 w (by have := hR.uw; omega); rw [hR.rw', hA] at this; exact this)
          have HRY := Lib.hid (fun w => show Calls Try.prog 24 #[Y.val, .int .i64 1] w fun e w' => e = .returned (.string A) ∧ Below w.heap.size w w' from by have := read_any Y 1 w (by have := hR.uy; omega); rw [hR.ry, hA] at this; exact this)
          have HRC := Lib.hid (fun w => show Calls Try.prog 24 #[C.val, .int .i64 1] w fun e w' => e = .returned (.string (A.extract 0 n.toNat)) ∧ Below w.heap.size w w' from by have := read_any C 1 w (by have := hR.uc; omega); rw [hR.rc, hA] at this; exact this)
          have HRZ := Lib.hid (fun w => show Calls Try.prog 24 #[Z.val, .int .i64 1] w fun e w' => e = .returned (.string A) ∧ Below w.heap.size w w' from by have := read_any Z 1 w (by have := hR.uz; omega); rw [hR.rz, hA] at this; exact this)
          have HOW := Lib.hid (fun w => show Calls Try.prog 24 #[W.val, .int .i64 0] w fun e w' => e = .returned (.string O) ∧ Below w.heap.size w w' from by have := read_any W 0 w (by have := hR.uw; omega); rw [hR.ow] at this; exact this)
          have HOD := Lib.hid (fun w => show Calls Try.prog 24 #[(Dk.up 100000 h0 s0 h1 s1).val, .int .i64 0] w fun e w' => e = .returned (.string O) ∧ Below w.heap.size w w' from by have := read_any (Dk.up 100000 h0 s0 h1 s1) 0 w (by have := hu2; omega); rw [hR.od] at this; exact this)
          have HOC := Lib.hid (fun w => show Calls Try.prog 24 #[C.val, .int .i64 0] w fun e w' => e = .returned (.string O) ∧ Below w.heap.size w w' from by have := read_any C 0 w (by have := hR.uc; omega); rw [hR.oc] at this; exact this)
          have HD2 := Lib.hid (fun w => show Calls Try.prog 24 #[(Dk.up 100000 h0 s0 h1 s1).val, .int .i64 2] w fun e w' => e = .returned (.string ⟨#[]⟩) ∧ Below w.heap.size w w' from by have := read_any (Dk.up 100000 h0 s0 h1 s1) 2 w (by have := hu2; omega); rw [hR.d2] at this; exact this)
          have HDM := Lib.hid (fun w => show Calls Try.prog 24 #[(Dk.up 100000 h0 s0 h1 s1).val, .int .i64 (-1)] w fun e w' => e = .returned (.string ⟨#[]⟩) ∧ Below w.heap.size w w' from by have := read_any (Dk.up 100000 h0 s0 h1 s1) (-1) w (by have := hu2; omega); rw [hR.dm] at this; exact this)
          have HA := Lib.hid hA; clear hA
          clear hfi hfl hR hus
          generalize (Dk.up 100000 h0 s0 h1 s1).used = us at hroom HU hu2 hrs
          unfold Dk.val at HW HSY HCU HU HCR HRW HRY HRC HRZ HOW HOD HOC HD2 HDM
          unfold Dk.up at HW HOD HD2 HDM HU
          simp only at HW HOD HD2 HDM HU
          go_wp2_with fail
          refine (HW.out _).mono ?_
          rintro e x2 ⟨rfl, hbq⟩
          have Ng := Row.below HRg.out hbq (by omega)
          have hBq : Below w.heap.size w x2 := HB.out.trans (hbq.mono HB.out.size)
          have ltx2 := hbq.size
          clear HB hbq HRg
          have HB := Lib.hid hBq; clear hBq
          have HRg := Lib.hid Ng; clear Ng
          obtain ⟨ga, hgga⟩ : ∃ z, x2.heap.size = z := ⟨_, rfl⟩
          have l1 : g < ga := by omega
          clear c0 c1 c2 c3 c4 c5 c6 c7
          go_wp2_with fail
          refine (HSY.out _).mono ?_
          rintro e x3 ⟨rfl, hbq⟩
          have Nga := Row.below (Row.at hgga rfl : Row _ ga W.cells) hbq (by simp; omega)
          have Ng := Row.below (Row.alloc HRg.out (by omega) _) hbq (by simp; omega)
          have hBq : Below w.heap.size w x3 := (HB.out.alloc HB.out.size _).trans (hbq.mono (by have := HB.out.size; simp; omega))
          have ltx3 := hbq.size
          simp at ltx3
          clear HB hbq HRg
          have HB := Lib.hid hBq; clear hBq
          have HRg := Lib.hid Ng; clear Ng
          have HRga := Lib.hid Nga; clear Nga
          obtain ⟨gb, hggb⟩ : ∃ z, x3.heap.size = z := ⟨_, rfl⟩
          have l2 : ga < gb := by omega
          have l3 : g < gb := by omega
          obtain ⟨a0, a1, a2, a3, a4, a5, a6, a7, _, _, _, _, _, _, _, _⟩ := Row.eight HRga.out
          go_wp2_with fail
          refine (HCU.out _).mono ?_
          rintro e x4 ⟨rfl, hbq⟩
          have Ngb := Row.below (Row.at hggb rfl : Row _ gb Y.cells) hbq (by simp; omega)
          have Ng := Row.below (Row.alloc HRg.out (by omega) _) hbq (by simp; omega)
          have Nga := Row.below (Row.alloc HRga.out (by omega) _) hbq (by simp; omega)
          have hBq : Below w.heap.size w x4 := (HB.out.alloc HB.out.size _).trans (hbq.mono (by have := HB.out.size; simp; omega))
          have ltx4 := hbq.size
          simp at ltx4
          clear HB hbq HRg HRga
          have HB := Lib.hid hBq; clear hBq
          have HRg := Lib.hid Ng; clear Ng
          have HRga := Lib.hid Nga; clear Nga
          have HRgb := Lib.hid Ngb; clear Ngb
          obtain ⟨gc, hggc⟩ : ∃ z, x4.heap.size = z := ⟨_, rfl⟩
          have l4 : ga < gc := by omega
          have l5 : g < gc := by omega
          have l6 : gb < gc := by omega
          clear a0 a1 a2 a3 a4 a5 a6 a7
          obtain ⟨c0, c1, c2, c3, c4, c5, c6, c7, _, _, _, _, _, _, _, _⟩ := Row.eight HRg.out
          go_upto_region 14 with fail
          rw [HA.out]
          go_wp2_with fail
          refine (HU.out _).mono ?_
          rintro e x5 ⟨rfl, hbq⟩
          have Ngc := Row.below (Row.at hggc rfl : Row _ gc C.cells) hbq (by simp; omega)
          have Ng := Row.below (Row.alloc HRg.out (by omega) _) hbq (by simp; omega)
          have Nga := Row.below (Row.alloc HRga.out (by omega) _) hbq (by simp; omega)
          have Ngb := Row.below (Row.alloc HRgb.out (by omega) _) hbq (by simp; omega)
          have hBq : Below w.heap.size w x5 := (HB.out.alloc HB.out.size _).trans (hbq.mono (by have := HB.out.size; simp; omega))
          have ltx5 := hbq.size
          simp at ltx5
          clear HB hbq HRg HRga HRgb
          have HB := Lib.hid hBq; clear hBq
          have HRg := Lib.hid Ng; clear Ng
          have HRga := Lib.hid Nga; clear Nga
          have HRgb := Lib.hid Ngb; clear Ngb
          have HRgc := Lib.hid Ngc; clear Ngc
          clear c0 c1 c2 c3 c4 c5 c6 c7
          clear HA HSY HCU HW HU HRD hcat hrs hu2
          obtain ⟨c0, c1, c2, c3, c4, c5, c6, c7, _, _, _, _, _, _, _, _⟩ := Row.eight HRg.out
          obtain ⟨a0, a1, a2, a3, a4, a5, a6, a7, _, _, _, _, _, _, _, _⟩ := Row.eight HRga.out
          obtain ⟨b0, b1, b2, b3, b4, b5, b6, b7, _, _, _, _, _, _, _, _⟩ := Row.eight HRgb.out
          obtain ⟨d0, d1, d2, d3, d4, d5, d6, d7, _, _, _, _, _, _, _, _⟩ := Row.eight HRgc.out
          have HB16 := Lib.hid (show Below w.heap.size w x5 from HB.out)
          go_upto_region 16 with fail
          go_cut [117] (fun s wx => s = .bool false ∧ (wx.cell? ⟨g, 0, none⟩ = some (.int .i64 100000) ∧ wx.cell? ⟨g, 1, none⟩ = some (.string h0) ∧ wx.cell? ⟨g, 2, none⟩ = some (.string s0) ∧ wx.cell? ⟨g, 3, none⟩ = some (.string h1) ∧ wx.cell? ⟨g, 4, none⟩ = some (.string s1) ∧ wx.cell? ⟨g, 5, none⟩ = some (.bool false) ∧ wx.cell? ⟨g, 6, none⟩ = some (.int .i64 (-1)) ∧ wx.cell? ⟨g, 7, none⟩ = some (.int .i64 0) ∧ wx.cell? ⟨ga, 0, none⟩ = some (.int .i64 W.size) ∧ wx.cell? ⟨ga, 1, none⟩ = some (.string W.h0) ∧ wx.cell? ⟨ga, 2, none⟩ = some (.string W.s0) ∧ wx.cell? ⟨ga, 3, none⟩ = some (.string W.h1) ∧ wx.cell? ⟨ga, 4, none⟩ = some (.string W.s1) ∧ wx.cell? ⟨ga, 5, none⟩ = some (.bool W.down) ∧ wx.cell? ⟨ga, 6, none⟩ = some (.int .i64 W.fuse) ∧ wx.cell? ⟨ga, 7, none⟩ = some (.int .i64 W.keep) ∧ wx.cell? ⟨gb, 0, none⟩ = some (.int .i64 Y.size) ∧ wx.cell? ⟨gb, 1, none⟩ = some (.string Y.h0) ∧ wx.cell? ⟨gb, 2, none⟩ = some (.string Y.s0) ∧ wx.cell? ⟨gb, 3, none⟩ = some (.string Y.h1) ∧ wx.cell? ⟨gb, 4, none⟩ = some (.string Y.s1) ∧ wx.cell? ⟨gb, 5, none⟩ = some (.bool Y.down) ∧ wx.cell? ⟨gb, 6, none⟩ = some (.int .i64 Y.fuse) ∧ wx.cell? ⟨gb, 7, none⟩ = some (.int .i64 Y.keep) ∧ wx.cell? ⟨gc, 0, none⟩ = some (.int .i64 C.size) ∧ wx.cell? ⟨gc, 1, none⟩ = some (.string C.h0) ∧ wx.cell? ⟨gc, 2, none⟩ = some (.string C.s0) ∧ wx.cell? ⟨gc, 3, none⟩ = some (.string C.h1) ∧ wx.cell? ⟨gc, 4, none⟩ = some (.string C.s1) ∧ wx.cell? ⟨gc, 5, none⟩ = some (.bool C.down) ∧ wx.cell? ⟨gc, 6, none⟩ = some (.int .i64 C.fuse) ∧ wx.cell? ⟨gc, 7, none⟩ = some (.int .i64 C.keep)) ∧ Below w.heap.size w wx)
          case first => as_aux_lemma =>
            have hcase : n < 0 ∨ (∃ m : Nat, n = m ∧ (A.size : Int) < (m : Int)) ∨ (∃ m : Nat, n = m ∧ (m : Int) ≤ (A.size : Int)) := by
              by_cases hn : n < 0
              · exact .inl hn
              · obtain ⟨m, rfl⟩ := Int.eq_ofNat_of_zero_le (show 0 ≤ n by omega)
                rcases Int.lt_or_le (A.size : Int) (m : Int) with h | h
                · exact .inr (.inl ⟨m, rfl, h⟩)
                · exact .inr (.inr ⟨m, rfl, h⟩)
            rcases hcase with hn | ⟨m, rfl, hm⟩ | ⟨m, rfl, hm⟩
            case' inl =>
              have hA0 : ¬ ((A.size : Int) < 0) := by omega
              have hMx : max n 0 = 0 := by omega
              have hMn : min (0 : Int) (A.size : Int) = 0 := by omega
              have hAp : (0 : Int) ≤ (A.size : Int) := by omega
              rw [show A.extract 0 n.toNat = ⟨#[]⟩ by rw [Int.toNat_of_nonpos (by omega)]; exact extract_none _] at HRC
            case' inr.inl =>
              have hm0 : (0 : Int) ≤ (m : Int) := by omega
              have hAp : (0 : Int) ≤ (A.size : Int) := by omega
              have hmN : A.size < m := by omega
              have hmD : decide (A.size < m) = true := by simpa using hmN
              have hAl : (A.size : Int) ≤ (A.size : Int) := by omega
              have hMx : max (m : Int) 0 = (m : Int) := by omega
              have hMn : min (m : Int) (A.size : Int) = (A.size : Int) := by omega
              rw [Int.toNat_natCast, extract_all A m (by omega)] at HRC
            case' inr.inr =>
              have hm0 : (0 : Int) ≤ (m : Int) := by omega
              have hmn : ¬ ((A.size : Int) < (m : Int)) := by omega
              have hMx : max (m : Int) 0 = (m : Int) := by omega
              have hMn : min (m : Int) (A.size : Int) = (m : Int) := by omega
              have hmN : ¬ (A.size < m) := by omega
              have hmL : m ≤ A.size := by omega
              have hmD : decide (A.size < m) = false := by simpa using hmL
              rw [Int.toNat_natCast] at HRC
            all_goals
              clear hAs _wn _hs
              go_region_held3 (fun w' => w'.cell? ⟨g, 0, none⟩ = some (.int .i64 100000) ∧ w'.cell? ⟨g, 1, none⟩ = some (.string h0) ∧ w'.cell? ⟨g, 2, none⟩ = some (.string s0) ∧ w'.cell? ⟨g, 3, none⟩ = some (.string h1) ∧ w'.cell? ⟨g, 4, none⟩ = some (.string s1) ∧ w'.cell? ⟨g, 5, none⟩ = some (.bool false) ∧ w'.cell? ⟨g, 6, none⟩ = some (.int .i64 (-1)) ∧ w'.cell? ⟨g, 7, none⟩ = some (.int .i64 0) ∧ w'.cell? ⟨ga, 0, none⟩ = some (.int .i64 W.size) ∧ w'.cell? ⟨ga, 1, none⟩ = some (.string W.h0) ∧ w'.cell? ⟨ga, 2, none⟩ = some (.string W.s0) ∧ w'.cell? ⟨ga, 3, none⟩ = some (.string W.h1) ∧ w'.cell? ⟨ga, 4, none⟩ = some (.string W.s1) ∧ w'.cell? ⟨ga, 5, none⟩ = some (.bool W.down) ∧ w'.cell? ⟨ga, 6, none⟩ = some (.int .i64 W.fuse) ∧ w'.cell? ⟨ga, 7, none⟩ = some (.int .i64 W.keep) ∧ w'.cell? ⟨gb, 0, none⟩ = some (.int .i64 Y.size) ∧ w'.cell? ⟨gb, 1, none⟩ = some (.string Y.h0) ∧ w'.cell? ⟨gb, 2, none⟩ = some (.string Y.s0) ∧ w'.cell? ⟨gb, 3, none⟩ = some (.string Y.h1) ∧ w'.cell? ⟨gb, 4, none⟩ = some (.string Y.s1) ∧ w'.cell? ⟨gb, 5, none⟩ = some (.bool Y.down) ∧ w'.cell? ⟨gb, 6, none⟩ = some (.int .i64 Y.fuse) ∧ w'.cell? ⟨gb, 7, none⟩ = some (.int .i64 Y.keep) ∧ w'.cell? ⟨gc, 0, none⟩ = some (.int .i64 C.size) ∧ w'.cell? ⟨gc, 1, none⟩ = some (.string C.h0) ∧ w'.cell? ⟨gc, 2, none⟩ = some (.string C.s0) ∧ w'.cell? ⟨gc, 3, none⟩ = some (.string C.h1) ∧ w'.cell? ⟨gc, 4, none⟩ = some (.string C.s1) ∧ w'.cell? ⟨gc, 5, none⟩ = some (.bool C.down) ∧ w'.cell? ⟨gc, 6, none⟩ = some (.int .i64 C.fuse) ∧ w'.cell? ⟨gc, 7, none⟩ = some (.int .i64 C.keep)) (first | go_keep | (exact c32_below hq (by first | assumption | (simp [go_sem, *]; done)))) ((first | (go_at_call 24; ((with_reducible refine (HRW.out _).mono ?_); rintro e u ⟨rfl, hq⟩; have HBn := Lib.hid (show Below w.heap.size w u from by first | exact below4 HB.out hq | exact below4 HB.out.drew hq | exact HB.out.trans (hq.mono HB.out.size)); clear HB; have HB := HBn; clear HBn)) | (go_at_call 24; ((with_reducible refine (HRY.out _).mono ?_); rintro e u ⟨rfl, hq⟩; have HBn := Lib.hid (show Below w.heap.size w u from by first | exact below4 HB.out hq | exact below4 HB.out.drew hq | exact HB.out.trans (hq.mono HB.out.size)); clear HB; have HB := HBn; clear HBn)) | (go_at_call 24; ((with_reducible refine (HRC.out _).mono ?_); rintro e u ⟨rfl, hq⟩; have HBn := Lib.hid (show Below w.heap.size w u from by first | exact below4 HB.out hq | exact below4 HB.out.drew hq | exact HB.out.trans (hq.mono HB.out.size)); clear HB; have HB := HBn; clear HBn))))
              all_goals (go_wp2_with fail; go_meet; exact ⟨rfl, by assumption, HB.out⟩)
          case rest => as_aux_lemma =>
            obtain ⟨rfl, hcells, hbc⟩ := hcut
            clear hAs _wn _hs HB16 HB HRg HRga HRgb HRgc a0 a1 a2 a3 a4 a5 a6 a7 b0 b1 b2 b3 b4 b5 b6 b7 c0 c1 c2 c3 c4 c5 c6 c7 d0 d1 d2 d3 d4 d5 d6 d7 HRW HRY HRC
            obtain ⟨c0, c1, c2, c3, c4, c5, c6, c7, a0, a1, a2, a3, a4, a5, a6, a7, b0, b1, b2, b3, b4, b5, b6, b7, d0, d1, d2, d3, d4, d5, d6, d7⟩ := hcells
            have HB := Lib.hid hbc; clear hbc
            have hw0 : IntKind.i64.wrap 0 = 0 := by decide
            go_upto_region 18 with fail
            go_region_held3 (fun w' => w'.cell? ⟨g, 0, none⟩ = some (.int .i64 100000) ∧ w'.cell? ⟨g, 1, none⟩ = some (.string h0) ∧ w'.cell? ⟨g, 2, none⟩ = some (.string s0) ∧ w'.cell? ⟨g, 3, none⟩ = some (.string h1) ∧ w'.cell? ⟨g, 4, none⟩ = some (.string s1) ∧ w'.cell? ⟨g, 5, none⟩ = some (.bool false) ∧ w'.cell? ⟨g, 6, none⟩ = some (.int .i64 (-1)) ∧ w'.cell? ⟨g, 7, none⟩ = some (.int .i64 0) ∧ w'.cell? ⟨ga, 0, none⟩ = some (.int .i64 W.size) ∧ w'.cell? ⟨ga, 1, none⟩ = some (.string W.h0) ∧ w'.cell? ⟨ga, 2, none⟩ = some (.string W.s0) ∧ w'.cell? ⟨ga, 3, none⟩ = some (.string W.h1) ∧ w'.cell? ⟨ga, 4, none⟩ = some (.string W.s1) ∧ w'.cell? ⟨ga, 5, none⟩ = some (.bool W.down) ∧ w'.cell? ⟨ga, 6, none⟩ = some (.int .i64 W.fuse) ∧ w'.cell? ⟨ga, 7, none⟩ = some (.int .i64 W.keep) ∧ w'.cell? ⟨gb, 0, none⟩ = some (.int .i64 Y.size) ∧ w'.cell? ⟨gb, 1, none⟩ = some (.string Y.h0) ∧ w'.cell? ⟨gb, 2, none⟩ = some (.string Y.s0) ∧ w'.cell? ⟨gb, 3, none⟩ = some (.string Y.h1) ∧ w'.cell? ⟨gb, 4, none⟩ = some (.string Y.s1) ∧ w'.cell? ⟨gb, 5, none⟩ = some (.bool Y.down) ∧ w'.cell? ⟨gb, 6, none⟩ = some (.int .i64 Y.fuse) ∧ w'.cell? ⟨gb, 7, none⟩ = some (.int .i64 Y.keep) ∧ w'.cell? ⟨gc, 0, none⟩ = some (.int .i64 C.size) ∧ w'.cell? ⟨gc, 1, none⟩ = some (.string C.h0) ∧ w'.cell? ⟨gc, 2, none⟩ = some (.string C.s0) ∧ w'.cell? ⟨gc, 3, none⟩ = some (.string C.h1) ∧ w'.cell? ⟨gc, 4, none⟩ = some (.string C.s1) ∧ w'.cell? ⟨gc, 5, none⟩ = some (.bool C.down) ∧ w'.cell? ⟨gc, 6, none⟩ = some (.int .i64 C.fuse) ∧ w'.cell? ⟨gc, 7, none⟩ = some (.int .i64 C.keep)) (first | go_keep | (exact c32_below hq (by first | assumption | (simp [go_sem, *]; done)))) ((first | (go_at_call 24; ((with_reducible refine (HOW.out _).mono ?_); rintro e u ⟨rfl, hq⟩; have HBn := Lib.hid (show Below w.heap.size w u from by first | exact below4 HB.out hq | exact below4 HB.out.drew hq | exact HB.out.trans (hq.mono HB.out.size)); clear HB; have HB := HBn; clear HBn)) | (go_at_call 24; ((with_reducible refine (HOD.out _).mono ?_); rintro e u ⟨rfl, hq⟩; have HBn := Lib.hid (show Below w.heap.size w u from by first | exact below4 HB.out hq | exact below4 HB.out.drew hq | exact HB.out.trans (hq.mono HB.out.size)); clear HB; have HB := HBn; clear HBn)) | (go_at_call 24; ((with_reducible refine (HOC.out _).mono ?_); rintro e u ⟨rfl, hq⟩; have HBn := Lib.hid (show Below w.heap.size w u from by first | exact below4 HB.out hq | exact below4 HB.out.drew hq | exact HB.out.trans (hq.mono HB.out.size)); clear HB; have HB := HBn; clear HBn)) | (go_at_call 16; ((with_reducible refine (HCR.out _).mono ?_); rintro e u ⟨rfl, hq⟩; have HBn := Lib.hid (show Below w.heap.size w u from by first | exact below4 HB.out hq | exact below4 HB.out.drew hq | exact HB.out.trans (hq.mono HB.out.size)); clear HB; have HB := HBn; clear HBn)) | (go_at_call 24; ((with_reducible refine (HRZ.out _).mono ?_); rintro e u ⟨rfl, hq⟩; have HBn := Lib.hid (show Below w.heap.size w u from by first | exact below4 HB.out hq | exact below4 HB.out.drew hq | exact HB.out.trans (hq.mono HB.out.size)); clear HB; have HB := HBn; clear HBn)) | (go_at_call 24; ((with_reducible refine (HD2.out _).mono ?_); rintro e u ⟨rfl, hq⟩; have HBn := Lib.hid (show Below w.heap.size w u from by first | exact below4 HB.out hq | exact below4 HB.out.drew hq | exact HB.out.trans (hq.mono HB.out.size)); clear HB; have HB := HBn; clear HBn)) | (go_at_call 24; ((with_reducible refine (HDM.out _).mono ?_); rintro e u ⟨rfl, hq⟩; have HBn := Lib.hid (show Below w.heap.size w u from by first | exact below4 HB.out hq | exact below4 HB.out.drew hq | exact HB.out.trans (hq.mono HB.out.size)); clear HB; have HB := HBn; clear HBn))))
            all_goals (go_wp2_with fail; go_ret; exact ⟨rfl, HB.out⟩)

theorem DiskReads_walk (v : Value) (l : List Ac) (f : Int) (s : ByteArray) (n : Int) (w : World) (hv : ActsAt w v l) (hok : ∀ a ∈ l, a.ok) (hlen : l.length ≤ 140737488355328) (wf : (Lit.int .u8 f).wf = true) (hs : s.size ≤ 140737488351232) (wn : (Lit.int .i64 n).wf = true) :
    Calls Try.prog 7 #[v, .int .u8 f, .string s, .int .i64 n] w fun e w' => e = .returned (.bool true) ∧ Below w.heap.size w w' := by
  have h1 := bounds_u8 wf
  have h2 := bounds_i64 wn
  obtain ⟨m, rfl⟩ := Int.eq_ofNat_of_zero_le h1.1
  exact DiskReads_core v l m s n w hv hok hlen (by omega) hs (by omega)

end Go.Proofs.Ytpghhobbppkggaa
