/- The walk of sha.block. -/
import Derived.Test.YtalncnblcfcmcaaDoorShBlock
import Derived.Deep.RegionHeld3
namespace Go.Proofs.YtalncnblcfcmcaaDoor
open Go.RowKit
theorem Sh.rounds_succ (w : List Nat) (v : Sh.V) (k : Nat) : Sh.rounds w v (k + 1) = Sh.rnd (Sh.K.getD k 0) (w.getD k 0) (Sh.rounds w v k) := rfl
theorem Sh.block_eq (h : Sh.V) (b : List UInt8) : Sh.block h b = Sh.plus (Sh.rounds (Sh.words b) h 64) h := rfl
theorem Sh.words_len (b : List UInt8) : (Sh.words b).length = 64 := by unfold Sh.words; exact Sh.wordsN_len b 64
theorem Sh.mixA_succ (v h : List Nat) (j : Nat) : (Sh.mixA v h j).set j (Sh.add ((Sh.mixA v h j).getD j 0) (h.getD j 0)) = Sh.mixA v h (j + 1) := rfl

theorem set8_cells (x : World) (b : Nat) (v0 v1 v2 v3 v4 v5 v6 v7 : Value) : x.setCells b 0 [v0, v1, v2, v3, v4, v5, v6, v7] = set8 x b v0 v1 v2 v3 v4 v5 v6 v7 := rfl
theorem all8 (a0 a1 a2 a3 a4 a5 a6 a7 : Int) : (#[Value.int .u32 a0, .int .u32 a1, .int .u32 a2, .int .u32 a3, .int .u32 a4, .int .u32 a5, .int .u32 a6, .int .u32 a7] : Array Value).all (·.oneCell') = true := by simp [Value.oneCell']

set_option maxRecDepth 100000 in
set_option maxHeartbeats 8000000 in
theorem block_any (st : Sh.V) (b : List UInt8) (w : World) (hb : b.length = 64) (hh : st.ok) (hK : Table w) (hw : 3 < w.heap.size) :
    Calls Tryd.prog 54 #[vval st, .agg (bvals b).toArray] w fun e w' => e = .returned (vval (Sh.block st b)) ∧ Below w.heap.size w w' := by
  have hbl : (bvals b).length = 64 := by unfold bvals; simpa using hb
  have HSZ := Lib.hid (show (Tryd.prog.info? 79).map (·.size) = some (bvals b).length from by rw [hbl]; kernel_rfl)
  have HW := Lib.hid (fun w => words_any b w hb)
  have hwl : (Sh.words b).length = 64 := Sh.words_len b
  have HI := Lib.hid (fun i (hi : i < 64) w => index_words (Sh.words b) hwl i hi w)
  have hwlt : ∀ i, (Sh.words b).getD i 0 < 4294967296 := fun i => by have := Sh.padw_lt b 64 i; unfold Sh.padw at this; simpa [Sh.words] using this
  have HWLT := Lib.hid hwlt; clear hwlt
  have HBK := Lib.hid (Sh.block_eq st b)
  have HK := Lib.hid hK; clear hK hbl hwl hb
  generalize Sh.block st b = z at HBK ⊢
  generalize Sh.words b = WL at HW HI HWLT HBK
  generalize bvals b = BV at HW HSZ ⊢
  unfold vval
  go_enter Tryd.func54, Tryd.ntmps54
  go_upto_region 2 with fail
  have hT : Bs w ((((w.alloc (.cells (vcells st).toArray 78)).alloc (.cells (BV).toArray 79)).alloc (.cells #[.int .u32 0, .int .u32 0, .int .u32 0, .int .u32 0, .int .u32 0, .int .u32 0, .int .u32 0, .int .u32 0] 78)).alloc (.cells (vcells st).toArray 78)) st st :=
    ⟨Row.alloc (Row.alloc (Row.alloc (Row.at rfl (by simp)) (by simp) _) (by simp <;> omega) _) (by simp <;> omega) _, Row.alloc (Row.at (by simp) rfl) (by simp) _, Row.at (by simp) (by simp),
     by go_grown, by simp⟩
  have hRB : Row ((((w.alloc (.cells (vcells st).toArray 78)).alloc (.cells (BV).toArray 79)).alloc (.cells #[.int .u32 0, .int .u32 0, .int .u32 0, .int .u32 0, .int .u32 0, .int .u32 0, .int .u32 0, .int .u32 0] 78)).alloc (.cells (vcells st).toArray 78)) (w.heap.size + 1) (BV) :=
    Row.alloc (Row.alloc (Row.at (by simp) (by simp)) (by simp) _) (by simp <;> omega) _
  unfold vcells wvals at hT hRB
  simp only [List.map_cons, List.map_nil] at hT hRB
  generalize World.alloc _ (Obj.cells _ _) = x0 at hT hRB ⊢
  have HT := Lib.hid hT; clear hT
  have HRB := Lib.hid hRB; clear hRB
  go_wp2_with (refine wpList_load_mid rfl 79 _ rfl (w.heap.size + 1) 0 rfl (BV) _ HRB.out.range Tryd.underlying79 rfl HSZ.out ?_)
  refine (HW.out _).mono ?_
  rintro e x1 ⟨rfl, hb1⟩
  have HT1 := Lib.hid (HT.out.below hb1); clear HT HRB hb1 HW HSZ
  have HT := HT1; clear HT1
  go_wp2_with fail
  go_loopw [16] (fun s16 wr => ∃ i : Nat, i ≤ 64 ∧ s16 = .int .i64 (i : Int) ∧ Bs w wr st (Sh.rounds (WL) st i)) (fun s16 _ => 64 - (intOf s16).toNat)
  case atStart => exact ⟨0, by omega, rfl, HT.out⟩
  case round =>
    clear HT
    obtain ⟨i, hi, rfl, hT⟩ := hrel
    by_cases h64 : i < 64
    · have h64' : (i : Int) < 64 := by omega
      have hi0 : (0 : Int) ≤ (i : Int) := by omega
      have hidx := fun w => HI.out i h64 w
      have hwi := HWLT.out i
      have hki := (HK.out.below hT.b hw) i h64
      have hok := Sh.rounds_ok (WL) hh i
      have hnext : Sh.rounds (WL) st (i + 1) = Sh.rnd (Sh.K.getD i 0) ((WL).getD i 0) (Sh.rounds (WL) st i) := Sh.rounds_succ _ _ _
      generalize (WL).getD i 0 = wi at hidx hwi hnext
      generalize Sh.K.getD i 0 = ki at hki hnext
      have HT := Lib.hid hT
      obtain ⟨c0, c1, c2, c3, c4, c5, c6, c7, f0, f1, f2, f3, f4, f5, f6, f7⟩ := Row.eight hT.r3
      clear hT
      generalize Sh.rounds (WL) st i = v at *
      obtain ⟨va, vb, vc, vd, ve, vf, vg, vh⟩ := v
      simp only at c0 c1 c2 c3 c4 c5 c6 c7
      have hva := hok.a
      have hve := hok.e
      simp only at hva hve
      generalize hg3 : w.heap.size + 1 + 1 + 1 = g3 at c0 c1 c2 c3 c4 c5 c6 c7 f0 f1 f2 f3 f4 f5 f6 f7 ⊢
      have HG3 := Lib.hid hg3; clear hg3
      obtain ⟨r2, hr2⟩ : ∃ r, Sh.rotr va 2 = r := ⟨_, rfl⟩
      have T2 := Lib.hid (fun w => show Calls Tryd.prog 68 #[.int .u32 (va : Int), .int .i64 2] w fun e w' => e = .returned (.int .u32 (r2 : Int)) ∧ w = w' from by have := turn_any (va) 2 w hva (by omega) (by omega); rw [hr2] at this; exact this)
      obtain ⟨r13, hr13⟩ : ∃ r, Sh.rotr va 13 = r := ⟨_, rfl⟩
      have T13 := Lib.hid (fun w => show Calls Tryd.prog 68 #[.int .u32 (va : Int), .int .i64 13] w fun e w' => e = .returned (.int .u32 (r13 : Int)) ∧ w = w' from by have := turn_any (va) 13 w hva (by omega) (by omega); rw [hr13] at this; exact this)
      obtain ⟨r22, hr22⟩ : ∃ r, Sh.rotr va 22 = r := ⟨_, rfl⟩
      have T22 := Lib.hid (fun w => show Calls Tryd.prog 68 #[.int .u32 (va : Int), .int .i64 22] w fun e w' => e = .returned (.int .u32 (r22 : Int)) ∧ w = w' from by have := turn_any (va) 22 w hva (by omega) (by omega); rw [hr22] at this; exact this)
      obtain ⟨r6, hr6⟩ : ∃ r, Sh.rotr ve 6 = r := ⟨_, rfl⟩
      have T6 := Lib.hid (fun w => show Calls Tryd.prog 68 #[.int .u32 (ve : Int), .int .i64 6] w fun e w' => e = .returned (.int .u32 (r6 : Int)) ∧ w = w' from by have := turn_any (ve) 6 w hve (by omega) (by omega); rw [hr6] at this; exact this)
      obtain ⟨r11, hr11⟩ : ∃ r, Sh.rotr ve 11 = r := ⟨_, rfl⟩
      have T11 := Lib.hid (fun w => show Calls Tryd.prog 68 #[.int .u32 (ve : Int), .int .i64 11] w fun e w' => e = .returned (.int .u32 (r11 : Int)) ∧ w = w' from by have := turn_any (ve) 11 w hve (by omega) (by omega); rw [hr11] at this; exact this)
      obtain ⟨r25, hr25⟩ : ∃ r, Sh.rotr ve 25 = r := ⟨_, rfl⟩
      have T25 := Lib.hid (fun w => show Calls Tryd.prog 68 #[.int .u32 (ve : Int), .int .i64 25] w fun e w' => e = .returned (.int .u32 (r25 : Int)) ∧ w = w' from by have := turn_any (ve) 25 w hve (by omega) (by omega); rw [hr25] at this; exact this)
      have HRR := Lib.hid (⟨hr2, hr13, hr22, hr6, hr11, hr25⟩ : _ ∧ _ ∧ _ ∧ _ ∧ _ ∧ _)
      have HOK := Lib.hid hok
      have HN := Lib.hid hnext
      have HWI := Lib.hid hwi
      clear hr2 hr13 hr22 hr6 hr11 hr25 hok hnext hwi hva hve
      go_upto_region 5 with fail
      go_region_held3 (fun w' => w'.cell? ⟨g3, 0, none⟩ = some (.int .u32 (va : Int)) ∧ w'.cell? ⟨g3, 4, none⟩ = some (.int .u32 (ve : Int))) (exact ⟨c0, c4⟩) (fail)
      go_upto_region 6 with fail
      go_region_held3 (fun w' => w'.cell? ⟨g3, 5, none⟩ = some (.int .u32 (vf : Int)) ∧ w'.cell? ⟨g3, 6, none⟩ = some (.int .u32 (vg : Int)) ∧ w'.cell? ⟨g3, 7, none⟩ = some (.int .u32 (vh : Int)) ∧ w'.cell? ⟨3, i, none⟩ = some (.int .u32 (ki : Int))) (exact ⟨c5, c6, c7, hki⟩) ((first | (go_at_call 68; ((with_reducible refine (T6.out _).mono ?_); rintro e u ⟨rfl, rfl⟩)) | (go_at_call 68; ((with_reducible refine (T11.out _).mono ?_); rintro e u ⟨rfl, rfl⟩)) | (go_at_call 68; ((with_reducible refine (T25.out _).mono ?_); rintro e u ⟨rfl, rfl⟩))))
      go_upto_region 7 with fail
      have H1 := one_int (k := ki) (w := wi) HOK.out HRR.out.2.2.2.1 HRR.out.2.2.2.2.1 HRR.out.2.2.2.2.2
      simp only at H1
      simp only [H1]
      clear H1
      generalize ho : Sh.one ki wi _ = o
      generalize bits .xor .u32 (r6 : Int) (r11 : Int) = q1
      generalize bits .xor .u32 q1 (r25 : Int) = q2
      generalize IntKind.u32.wrap ((vh : Int) + q2) = q3
      generalize bits .and .u32 (ve : Int) (vf : Int) = q4
      generalize bits .xor .u32 IntKind.u32.max (ve : Int) = q5
      generalize bits .and .u32 q5 (vg : Int) = q6
      generalize bits .xor .u32 q4 q6 = q7
      generalize IntKind.u32.wrap (q3 + q7) = q8
      generalize IntKind.u32.wrap (q8 + (ki : Int)) = q9
      go_region_held3 (fun w' => w'.cell? ⟨g3, 1, none⟩ = some (.int .u32 (vb : Int)) ∧ w'.cell? ⟨g3, 2, none⟩ = some (.int .u32 (vc : Int))) (exact ⟨c1, c2⟩) ((first | (go_at_call 68; ((with_reducible refine (T2.out _).mono ?_); rintro e u ⟨rfl, rfl⟩)) | (go_at_call 68; ((with_reducible refine (T13.out _).mono ?_); rintro e u ⟨rfl, rfl⟩)) | (go_at_call 68; ((with_reducible refine (T22.out _).mono ?_); rintro e u ⟨rfl, rfl⟩))))
      go_upto_region 8 with fail
      have H2 := two_int HOK.out HRR.out.1 HRR.out.2.1 HRR.out.2.2.1
      simp only at H2
      simp only [H2]
      clear H2 HRR
      generalize ht : Sh.two _ = t
      generalize bits .xor .u32 (r2 : Int) (r13 : Int) = p1
      generalize bits .xor .u32 p1 (r22 : Int) = p2
      generalize bits .and .u32 (va : Int) (vb : Int) = p3
      generalize bits .and .u32 (va : Int) (vc : Int) = p4
      generalize bits .xor .u32 p3 p4 = p5
      generalize bits .and .u32 (vb : Int) (vc : Int) = p6
      generalize bits .xor .u32 p5 p6 = p7
      have HN2 := HN.out
      unfold Sh.rnd at HN2
      rw [ho, ht] at HN2
      have HN3 := Lib.hid HN2
      clear ho ht HN HN2
      have HTH := Lib.hid (show wr.drew.drew.drew.there g3 0 8 from by have h := HT.out.r3.there; rw [HG3.out] at h; exact h)
      have HS8 := Lib.hid (show (Tryd.prog.info? 78).map (·.size) = some 8 from by kernel_rfl)
      go_wp2_with (refine wpList_store_mid rfl 78 (Operand.tmp 5) (Operand.tmp 93) rfl g3 0 _ rfl rfl ?ht ?hi ?ha ?_; (case ht => exact HTH.out); (case hi => exact HS8.out); (case ha => exact all8 _ _ _ _ _ _ _ _))
      refine ⟨⟨i + 1, by omega, rfl, ?_⟩, by simp only [intOf]; omega⟩
      have hg3 := HG3.out
      subst hg3
      have HF := HT.out.drew.drew.drew.lay (Sh.rounds WL st (i + 1))
      rw [HN3.out] at HF
      rw [HN3.out]
      have e1 : ((Sh.add o t : Nat) : Int) = ((o : Int) + (t : Int)) % 4294967296 := by unfold Sh.add; omega
      have e2 : ((Sh.add vd o : Nat) : Int) = ((vd : Int) + (o : Int)) % 4294967296 := by unfold Sh.add; omega
      simp only [e1, e2] at HF
      exact HF
    · obtain rfl : i = 64 := by omega
      have HTE := Lib.hid hT.cs
      clear hT HI HWLT
      have hB0 := HBK.out
      clear HBK
      generalize Sh.rounds (WL) st 64 = v at HTE hB0
      have HB0 := Lib.hid hB0; clear hB0
      go_wp2_with fail
      go_loopw [95, 12] (fun s95 s12 wy => ∃ j : Nat, j ≤ 8 ∧ s95 = .int .i64 (j : Int) ∧ Cs w wy (Sh.L8 st) (Sh.mixA (Sh.L8 v) (Sh.L8 st) j)) (fun s95 _ _ => 8 - (intOf s95).toNat)
      case atStart => exact ⟨0, by omega, rfl, HTE.out⟩
      case round =>
        clear HTE
        obtain ⟨j, hj, rfl, hC⟩ := hrel
        have hl := Sh.mixA_len (Sh.L8 v) (Sh.L8 st) j
        have hl8 : (Sh.L8 v).length = 8 := rfl
        by_cases h8 : j < 8
        · have h8' : (j : Int) < 8 := by omega
          have hj0 : (0 : Int) ≤ (j : Int) := by omega
          obtain ⟨c0, f0⟩ := hC.r3 j _ (wvals_get (by omega))
          obtain ⟨c1, f1⟩ := hC.r0 j _ (wvals_get (show j < (Sh.L8 st).length from h8))
          have hnext := (hC.set j (Sh.add ((Sh.mixA (Sh.L8 v) (Sh.L8 st) j).getD j 0) ((Sh.L8 st).getD j 0)) (by omega)).drew
          have hm : (Sh.mixA (Sh.L8 v) (Sh.L8 st) j).set j (Sh.add ((Sh.mixA (Sh.L8 v) (Sh.L8 st) j).getD j 0) ((Sh.L8 st).getD j 0)) = Sh.mixA (Sh.L8 v) (Sh.L8 st) (j + 1) := Sh.mixA_succ _ _ _
          rw [hm] at hnext
          have HNX := Lib.hid hnext
          clear hnext hC hm hl hl8
          generalize (Sh.mixA (Sh.L8 v) (Sh.L8 st) j).getD j 0 = p at c0 f0 HNX
          generalize (Sh.L8 st).getD j 0 = q at c1 f1 HNX
          go_upto_region 13 with fail
          go_region
          go_wp2_with fail
          have e1 : ((Sh.add p q : Nat) : Int) = ((p : Int) + (q : Int)) % 4294967296 := by unfold Sh.add; omega
          have HN4 := HNX.out
          rw [e1] at HN4
          refine ⟨⟨j + 1, by omega, by go_num, HN4⟩, by simp only [intOf]; omega⟩
        · obtain rfl : j = 8 := by omega
          have h8' : ¬ ((8 : Nat) : Int) < 8 := by omega
          rw [Sh.mixA_eight, ← HB0.out] at hC
          have hlw : (wvals (Sh.L8 z)).length = 8 := by rw [wvals_len]; rfl
          have hone : ∀ v ∈ wvals (Sh.L8 z), v.oneCell' = true := by
            intro v hv
            obtain ⟨x, _, rfl⟩ := List.mem_map.1 hv
            rfl
          have hrange : wr.rangeAt (w.heap.size + 1 + 1 + 1) 0 (wvals (Sh.L8 z)) := hC.r3.range
          have hthere : wr.there (w.heap.size + 1 + 1) 0 (wvals (Sh.L8 z)).toArray.size := by
            have hs8 : (wvals (Sh.L8 z)).toArray.size = 8 := by rw [List.size_toArray]; exact hlw
            rw [hs8]; simpa using hC.r2.there
          have hB := hC.b
          have hval : vval z = .agg (wvals (Sh.L8 z)).toArray := rfl
          clear HB0 hl hl8
          obtain ⟨L, hLe⟩ : ∃ L, wvals (Sh.L8 z) = L := ⟨_, rfl⟩
          rw [hLe] at hlw hone hrange hthere hval
          have HVAL := Lib.hid hval; clear hLe hval
          have hall := all_oneCell_toArray hone
          have hsz : (Tryd.prog.info? 78).map (·.size) = some L.length := by rw [hlw]; kernel_rfl
          have hsz2 : (Tryd.prog.info? 78).map (·.size) = some L.toArray.size := by rw [List.size_toArray]; exact hsz
          have HX := Lib.hid (⟨hlw, hone, hrange, hthere⟩ : _ ∧ _ ∧ _ ∧ _)
          have HB := Lib.hid hB
          have HSZ := Lib.hid hsz
          have HSZ2 := Lib.hid hsz2
          have HALL := Lib.hid hall
          clear hlw hone hrange hthere hB hsz hsz2 hall hC
          go_upto_region 15 with fail
          go_wp2_with (first
            | (refine wpList_load_mid rfl 78 _ rfl (w.heap.size + 1 + 1 + 1) 0 rfl L _ HX.out.2.2.1 Tryd.underlying78 rfl HSZ.out ?_)
            | (refine wpList_store_mid rfl 78 _ _ rfl (w.heap.size + 1 + 1) 0 L.toArray rfl rfl HX.out.2.2.2 HSZ2.out HALL.out ?_))
          have hth : wr.there (w.heap.size + 1 + 1) 0 L.length := by have := HX.out.2.2.2; rwa [List.size_toArray] at this
          have hload := run_loadVar_mid (P := Tryd.prog) (wr.setCells (w.heap.size + 1 + 1) 0 L) (w.heap.size + 1 + 1) 0 78 L _ (World.rangeAt_setCells_same wr (w.heap.size + 1 + 1) 0 L hth) Tryd.underlying78 rfl HSZ.out
          have hbel := below_setCells L 0 (show w.heap.size ≤ w.heap.size + 1 + 1 by omega) HB.out
          generalize wr.setCells (w.heap.size + 1 + 1) 0 L = wz at hload hbel ⊢
          refine bodyPost_ret (results_cell Tryd.results54 _ _ _ _ _ rfl hload) rfl ?_
          exact ⟨by rw [← HVAL.out]; rfl, hbel⟩

end Go.Proofs.YtalncnblcfcmcaaDoor