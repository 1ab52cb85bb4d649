/- The walk of FrameSpoilt. -/
import Derived.Test.YthcikclkocbhpaaFrLinear
import Derived.Deep.RegionHeld3
namespace Go.Proofs.Ythcikclkocbhpaa
open Go.RowKit

theorem cut_size (s : ByteArray) : (s.extract 0 (if 2000 < (s.size : Int) then (2000 : Int) else (s.size : Int)).toNat).size ≤ 2000 := by
  split <;> simp <;> omega

theorem xor_byte (x : UInt8) (n : Nat) (z : Int) (hz : z = (n : Int)) : bits .xor .u8 (x.toNat : Int) (z % 256) = ((x ^^^ UInt8.ofNat n).toNat : Int) := by
  subst hz
  have h : ((n : Int) % 256) = ((n % 256 : Nat) : Int) := by omega
  rw [h, u8_xor_nat _ _ x.toNat_lt (by omega), UInt8.toNat_xor, UInt8.toNat_ofNat']

theorem xor_byte' (x : UInt8) (n : Nat) (z : Int) (hz : z = (n : Int)) (hn : n < 256) : bits .xor .u8 (x.toNat : Int) z = ((x ^^^ UInt8.ofNat n).toNat : Int) := by
  have h := xor_byte x n z hz
  rw [show z % 256 = z from by omega] at h
  exact h

set_option maxHeartbeats 2000000 in
theorem FrameSpoilt_core (s : ByteArray) (i b : Nat) (w : World) (hs : s.size ≤ maxLen) (_hi : i < 65536) (_hb : b < 4294967296)  :
    Calls Try.prog 5 #[.string s, .int .u16 (i : Int), .int .u32 (b : Int)] w fun e w' => e = .returned (.bool true) ∧ Below w.heap.size w w' := by
  unfold maxLen at hs
  have hcut := cut_size s
  go_enter Try.func5, Try.ntmps5
  go_wp2_with fail
  refine (examples_any _).mono ?_
  rintro e w1 ⟨rfl, hb1⟩
  go_upto_region 5 with fail
  generalize s.extract 0 (if 2000 < (s.size : Int) then (2000 : Int) else (s.size : Int)).toNat = t at *
  generalize (if 2000 < (s.size : Int) then (2000 : Int) else (s.size : Int)) = m
  by_cases h4 : t.size < 4
  · go_wp2_with fail
    go_ret
    exact ⟨rfl, hb1⟩
  by_cases h0 : b = 0
  · subst h0
    have h4' : 4 ≤ t.size := by omega
    clear h4
    go_wp2_with fail
    go_ret
    exact ⟨rfl, hb1⟩
  have h4' : 4 ≤ t.size := by omega
  have h0' : ((b : Int) == 0) = false := by simpa using h0
  have h0'' : (b == 0) = false := by simpa using h0
  have hcv := run_bytes t
  obtain ⟨K, hK⟩ : ∃ K, i % (t.size - 3) = K := ⟨_, rfl⟩
  have hK' : (i : Int) % ((t.size : Int) - 3) = (K : Int) := by rw [← hK, Int.natCast_emod, show ((t.size - 3 : Nat) : Int) = (t.size : Int) - 3 by omega]
  have hKlt : K + 4 ≤ t.size := by have := Nat.mod_lt i (show t.size - 3 > 0 by omega); omega
  clear h4 hK
  have HK := Lib.hid hK'; clear hK'
  go_upto_region 9 with fail
  rw [HK.out]
  have hB := bytes_at w1 t
  have hbel := bytes_below w1 t
  clear hcv
  generalize grownCap w1 t.size 0 5 = cap
  obtain ⟨g, hg⟩ : ∃ g, w1.heap.size = g := ⟨_, rfl⟩
  rw [hg] at hB hbel ⊢
  generalize Lib.bytesWorld w1 5 t = w2 at *
  have HG := Lib.hid hg; clear hg
  clear HK h4' h0'
  have hLl : t.data.toList.length = t.size := by simp
  generalize hL : t.data.toList = L at *
  have HL := Lib.hid hL; clear hL
  have d0 : L.length = t.size := hLl
  clear hLl
  have l0 : K < L.length := by omega
  have c0 := hB.cell (K) l0
  have f0 := hB.frozen (K) l0
  have x0 := xor_byte' L[K] (b / 16777216) ((b : Int) / 16777216) (by omega) (by omega)
  obtain ⟨v0, hv0⟩ : ∃ v, L[K] ^^^ UInt8.ofNat (b / 16777216) = v := ⟨_, rfl⟩
  rw [hv0] at x0
  have hB' := hB.set (K) v0 _ rfl l0
  have hbel' := hbel.setCell (p := ⟨g, K, none⟩) (Nat.le_refl _) (.int .u8 (v0.toNat : Int))
  have HB' := Lib.hid hB'; clear hB'
  have HBL := Lib.hid hbel'; clear hbel'
  have HV0 := Lib.hid hv0; clear hv0
  clear hB hbel
  go_upto_region 10 with fail
  have hB := HB'.out
  have hbel := HBL.out
  clear HB' HBL c0 f0 x0
  generalize World.setCell _ _ _ = w3 at hB hbel ⊢
  have e0 : (L.set (K) v0).length = t.size := by simpa using d0
  generalize hL0 : L.set (K) v0 = L1 at hB e0
  have H0 := Lib.hid hL0; clear hL0
  have d1 : L1.length = t.size := e0
  clear e0
  have l1 : K + 1 < L1.length := by omega
  have c1 := hB.cell (K + 1) l1
  have f1 := hB.frozen (K + 1) l1
  have x1 := xor_byte L1[K + 1] (b / 65536) ((b : Int) / 65536) (by omega)
  obtain ⟨v1, hv1⟩ : ∃ v, L1[K + 1] ^^^ UInt8.ofNat (b / 65536) = v := ⟨_, rfl⟩
  rw [hv1] at x1
  have hB' := hB.set (K + 1) v1 _ rfl l1
  have hbel' := hbel.setCell (p := ⟨g, K + 1, none⟩) (Nat.le_refl _) (.int .u8 (v1.toNat : Int))
  have HB' := Lib.hid hB'; clear hB'
  have HBL := Lib.hid hbel'; clear hbel'
  have HV1 := Lib.hid hv1; clear hv1
  clear hB hbel
  go_upto_region 11 with fail
  have hB := HB'.out
  have hbel := HBL.out
  clear HB' HBL c1 f1 x1
  generalize World.setCell _ _ _ = w4 at hB hbel ⊢
  have e1 : (L1.set (K + 1) v1).length = t.size := by simpa using d1
  generalize hL1 : L1.set (K + 1) v1 = L2 at hB e1
  have H1 := Lib.hid hL1; clear hL1
  have d2 : L2.length = t.size := e1
  clear e1
  have l2 : K + 2 < L2.length := by omega
  have c2 := hB.cell (K + 2) l2
  have f2 := hB.frozen (K + 2) l2
  have x2 := xor_byte L2[K + 2] (b / 256) ((b : Int) / 256) (by omega)
  obtain ⟨v2, hv2⟩ : ∃ v, L2[K + 2] ^^^ UInt8.ofNat (b / 256) = v := ⟨_, rfl⟩
  rw [hv2] at x2
  have hB' := hB.set (K + 2) v2 _ rfl l2
  have hbel' := hbel.setCell (p := ⟨g, K + 2, none⟩) (Nat.le_refl _) (.int .u8 (v2.toNat : Int))
  have HB' := Lib.hid hB'; clear hB'
  have HBL := Lib.hid hbel'; clear hbel'
  have HV2 := Lib.hid hv2; clear hv2
  clear hB hbel
  go_upto_region 12 with fail
  have hB := HB'.out
  have hbel := HBL.out
  clear HB' HBL c2 f2 x2
  generalize World.setCell _ _ _ = w5 at hB hbel ⊢
  have e2 : (L2.set (K + 2) v2).length = t.size := by simpa using d2
  generalize hL2 : L2.set (K + 2) v2 = L3 at hB e2
  have H2 := Lib.hid hL2; clear hL2
  have d3 : L3.length = t.size := e2
  clear e2
  have l3 : K + 3 < L3.length := by omega
  have c3 := hB.cell (K + 3) l3
  have f3 := hB.frozen (K + 3) l3
  have x3 := xor_byte L3[K + 3] (b) ((b : Int)) (by omega)
  obtain ⟨v3, hv3⟩ : ∃ v, L3[K + 3] ^^^ UInt8.ofNat (b) = v := ⟨_, rfl⟩
  rw [hv3] at x3
  have hB' := hB.set (K + 3) v3 _ rfl l3
  have hbel' := hbel.setCell (p := ⟨g, K + 3, none⟩) (Nat.le_refl _) (.int .u8 (v3.toNat : Int))
  have HB' := Lib.hid hB'; clear hB'
  have HBL := Lib.hid hbel'; clear hbel'
  have HV3 := Lib.hid hv3; clear hv3
  clear hB hbel
  go_upto_region 13 with fail
  have hB := HB'.out
  have hbel := HBL.out
  clear HB' HBL c3 f3 x3
  generalize World.setCell _ _ _ = w6 at hB hbel ⊢
  have e3 : (L3.set (K + 3) v3).length = t.size := by simpa using d3
  generalize hL3 : L3.set (K + 3) v3 = L4 at hB e3
  have H3 := Lib.hid hL3; clear hL3
  have d4 : L4.length = t.size := e3
  clear e3
  have hne : Fr.sum L4 ≠ Fr.sum L := Fr.sum_set L L1 L2 L3 L4 K b v0 v1 v2 v3 (by omega) h0 _hb l0 HV0.out H0.out l1 HV1.out H1.out l2 HV2.out H2.out l3 HV3.out H3.out
  have hlen : L4.length = L.length := by omega
  have hnx := Fr.next_spoilt L L4 (by omega) hlen hne
  have hpl := Fr.put_length L (by omega)
  have HP := Lib.hid (fun w => Put_lit t (Fr.put L) w (by rw [HL.out]))
  have hglt : g < w6.heap.size := hB.lt (by omega)
  have hsz4 : (⟨L4.toArray⟩ : ByteArray).size = t.size := by show L4.toArray.size = _; simpa using d4
  have hnx' : Fr.next ((⟨(Fr.put L).toArray⟩ : ByteArray).extract 0 8 ++ ⟨L4.toArray⟩).data.toList 0 = none := by
    rw [← hnx]
    congr 1
    simp
  have hsz5 : ((⟨(Fr.put L).toArray⟩ : ByteArray).extract 0 8 ++ ⟨L4.toArray⟩).size ≤ maxLen := by
    rw [ByteArray.size_append, hsz4]
    unfold maxLen; simp; omega
  have HN : Hid (∀ w : World, Calls Try.prog 11 #[.string ((⟨(Fr.put L).toArray⟩ : ByteArray).extract 0 8 ++ ⟨L4.toArray⟩), .int .i64 0] w fun e w' => e = .returned (.tuple #[.string ⟨#[]⟩, .int .i64 0, .bool false]) ∧ Below w.heap.size w w') := Lib.hid (fun w => Next_no _ 0 w hsz5 hnx')
  have HS4 := Lib.hid (fun w => Sum_lit ⟨L4.toArray⟩ (Fr.sum L4) w (by rw [hsz4]; unfold maxLen; omega) rfl)
  have HS := Lib.hid (fun w => Sum_lit t (Fr.sum L) w (by unfold maxLen; omega) (by rw [HL.out]))
  have HPL := Lib.hid hpl
  have HB := Lib.hid hB
  have HD4 := Lib.hid d4
  clear hnx hnx' hsz5 hsz4 hpl hB h0 hlen d0 d1 d2 d3 d4 HV0 HV1 HV2 HV3 H0 H1 H2 H3
  have hne' : ((Fr.sum L4 : Int) != (Fr.sum L : Int)) = true := by
    rw [bne_iff_ne]; intro h; exact hne (by omega)
  clear hne
  generalize Fr.sum L4 = A at *
  generalize Fr.sum L = B at *
  go_wp2_with fail
  refine (HP.out _).mono ?_
  rintro e w7 ⟨rfl, hb7⟩
  have hpl : (Fr.put L).length = t.size + 8 := by rw [HPL.out, ← HL.out]; simp
  have hpsz : 8 ≤ (⟨(Fr.put L).toArray⟩ : ByteArray).size := by show 8 ≤ (Fr.put L).toArray.size; simp; omega
  clear HPL
  have hB7 := Lib.hid (HB.out.below hb7 hglt)
  go_upto_region 16 with fail
  have hle8 : (8 : Int) ≤ (t.size : Int) + 8 := by omega
  obtain ⟨H8, hH8⟩ : ∃ h, (⟨(Fr.put L).toArray⟩ : ByteArray).extract 0 8 = h := ⟨_, rfl⟩
  have h8 : H8.size = 8 := by rw [← hH8]; simp; omega
  rw [hH8] at HN
  have hcat : ¬ (9223372036854775807 < 8 + L4.length) := by have := HD4.out; omega
  have hcv : (convert 26 9 (.slice (some ⟨g, 0, none⟩) t.size cap)).run Try.prog w7.drew = .ok (.string ⟨L4.toArray⟩) w7.drew := BytesAt.str (w := w7.drew) hB7.out t.size cap HD4.out
  generalize Fr.put L = PL at *
  go_region_held3 (fun w' => (convert 26 9 (.slice (some ⟨g, 0, none⟩) t.size cap)).run Try.prog w' = .ok (.string ⟨L4.toArray⟩) w') (first | exact hcv | exact hcv8) ((first | (go_at_call 11; ((with_reducible refine (HN.out _).mono ?_); rintro e w8 ⟨rfl, hb8⟩); have hcv8 := (hB7.out.below (below_of_drew hb8) (Nat.lt_of_lt_of_le hglt hb7.size)).str t.size cap HD4.out)))
  go_wp2_with (first | (go_at_call 16; ((with_reducible refine (HS4.out _).mono ?_); rintro e w9 ⟨rfl, rfl⟩)) | (go_at_call 16; ((with_reducible refine (HS.out _).mono ?_); rintro e w9 ⟨rfl, rfl⟩)))
  go_ret
  exact ⟨rfl, below4 hb1 (below_of_eq HG.out (hbel.trans ((below4 hb7 (below_of_drew hb8)).mono (Nat.le_of_lt hglt))))⟩

theorem FrameSpoilt_walk (s : ByteArray) (i b : Int) (w : World) (hs : s.size ≤ maxLen) (wi : (Lit.int .u16 i).wf = true) (wb : (Lit.int .u32 b).wf = true) :
    Calls Try.prog 5 #[.string s, .int .u16 i, .int .u32 b] w fun e w' => e = .returned (.bool true) ∧ Below w.heap.size w w' := by
  have h1 := bounds_u16 wi
  have h2 := bounds_u32 wb
  obtain ⟨m, rfl⟩ := Int.eq_ofNat_of_zero_le h1.1
  obtain ⟨n, rfl⟩ := Int.eq_ofNat_of_zero_le h2.1
  exact FrameSpoilt_core s m n w hs (by omega) (by omega)

end Go.Proofs.Ythcikclkocbhpaa
