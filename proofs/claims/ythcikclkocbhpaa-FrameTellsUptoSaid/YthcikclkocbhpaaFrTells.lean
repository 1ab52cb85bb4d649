/- The walk of FrameTells. -/
import Derived.Test.YthcikclkocbhpaaFrBack
import Derived.Test.YthcikclkocbhpaaFrSpoilt
import Derived.Test.YthcikclkocbhpaaFrRefAll
import Derived.Test.YthcikclkocbhpaaRows
namespace Go.Proofs.Ythcikclkocbhpaa
open Go.RowKit

theorem nextAt_form (l : List UInt8) (i : Int) : ∃ x m o, NextAt l i = .tuple #[.string x, .int .i64 m, .bool o] := by
  unfold NextAt
  split
  · exact ⟨_, _, _, rfl⟩
  · cases h : Fr.next l i.toNat with
    | none => exact ⟨_, _, _, rfl⟩
    | some b => exact ⟨_, _, _, rfl⟩

theorem put_size (s : ByteArray) : (⟨(Fr.put s.data.toList).toArray⟩ : ByteArray).size ≤ 65544 := by
  show (Fr.put s.data.toList).toArray.size ≤ _
  simpa using Fr.put_length_le s.data.toList

theorem small_frameTells {H : Type} {s t : ByteArray} {i k x : Lit} {d : DataW H} (h : Rows.uptoSmall H [.lit (.string s.data.toList), .lit (.string t.data.toList), .lit i, d, .lit k, .lit x] = true) : t.size ≤ 1048576 := by
  have := of_decide_eq_true h
  simp only [Rows.uptoBulkAll, Rows.uptoBulk] at this
  have e : t.data.toList.length = t.size := by simp
  omega

theorem refPut_lit (s : ByteArray) (l : List UInt8) (w : World) (h : Fr.put s.data.toList = l) :
    Calls Try.prog 18 #[.string s] w fun e w' => e = .returned (.string ⟨l.toArray⟩) ∧ Below w.heap.size w w' := by
  subst h; exact refPut_any s w

theorem both_all (b : ByteArray) (hs : b.size ≤ 4194304) : ∃ (n : Nat) (l : List ByteArray), l.length ≤ 4194304 ∧
    (∀ w, Calls Try.prog 13 #[.string b] w fun e W' => ∃ v, e = .returned (.tuple #[v, .int .i64 (n : Int)]) ∧ StrsAt W' v l ∧ Below w.heap.size w W') ∧
    (∀ w, Calls Try.prog 14 #[.string b] w fun e W' => ∃ v, e = .returned (.tuple #[v, .int .i64 (n : Int)]) ∧ StrsAt W' v l ∧ Below w.heap.size w W') := by
  have hl := Fr.all_length b.data.toList
  have e : b.data.toList.length = b.size := by simp
  have hm : ((Fr.all b.data.toList 0).map fun x => strOf x.1) = ((Fr.all b.data.toList 0).map fun x => (⟨x.1.toArray⟩ : ByteArray)).map Value.string := by
    rw [List.map_map]; rfl
  refine ⟨Fr.lastEnd 0 (Fr.all b.data.toList 0), (Fr.all b.data.toList 0).map fun x => ⟨x.1.toArray⟩, by rw [List.length_map]; omega, fun w => ?_, fun w => ?_⟩
  · refine (All_any b (by unfold maxLen; omega) (by omega) w).mono ?_
    rintro e W' ⟨v, rfl, hr, hb⟩
    rw [hm] at hr
    exact ⟨v, by rw [endOf_eq], StrsAt.row hr, hb⟩
  · refine (refAll_any b (by unfold maxLen; omega) (by omega) w).mono ?_
    rintro e W' ⟨v, rfl, hr, hb⟩
    rw [hm] at hr
    exact ⟨v, rfl, StrsAt.row hr, hb⟩

theorem three_cells (w : World) (a b c : ByteArray) : ∀ j (h : j < 3), (w.alloc (.cells #[.string a, .string b, .string c] 9)).cell? ⟨w.heap.size, j, none⟩ = some (.string [a, b, c][j]) := fun j h => by
  rw [World.cell?_alloc_mark]
  match j, h with
  | 0, _ => rfl
  | 1, _ => rfl
  | 2, _ => rfl

set_option maxRecDepth 100000 in
set_option maxHeartbeats 2000000 in
theorem FrameTells_core (s t : ByteArray) (i : Int) (v : Value) (l : List ByteArray) (k x : Nat) (w : World) (hs : s.size ≤ maxLen) (hv : StrsAt w v l) (hsz : ∀ s ∈ l, s.size ≤ maxLen) (_hk : k < 65536) (_hx : x < 256) (_ht : t.size ≤ 1048576) :
    Calls Try.prog 3 #[.string s, .string t, .int .i64 i, v, .int .u16 (k : Int), .int .u8 (x : Int)] w fun e w' => e = .returned (.bool true) ∧ Below w.heap.size w w' := by
  obtain ⟨a, cap, rfl, hc⟩ := hv.form
  have HC := Lib.hid hc; clear hc hv
  have HSZ := Lib.hid hsz; clear hsz
  have HS := Lib.hid hs; clear hs
  go_enter Try.func3, Try.ntmps3
  go_wp2_with fail
  refine (examples_any _).mono ?_
  rintro e w1 ⟨rfl, hb1⟩
  go_wp2_with fail
  go_loopw [14, 15] (fun u i wr => ∃ (n : Nat) (U : ByteArray), n ≤ 8 ∧ n ≤ l.length ∧ i = .int .i64 n ∧ u = .string U ∧ U.size ≤ 65544 * n ∧ Below w1.heap.size w1 wr) (fun _ i _ => 8 - (intOf i).toNat)
  case atStart => exact ⟨0, .empty, by omega, by omega, rfl, rfl, by simp, Below.refl _ _⟩
  case round =>
    obtain ⟨n, U, hn8, hn, rfl, rfl, hU, hbel⟩ := hrel
    by_cases hlt : n < l.length ∧ n < 8
    · obtain ⟨hlt, hlt8⟩ := hlt
      obtain ⟨g, off, rfl, hcw⟩ := HC.out n hlt
      have hgw := World.block_lt_of_cell? w _ hcw
      have hgw1 : g < w1.heap.size := Nat.lt_of_lt_of_le hgw hb1.size
      have hc1 := ((hbel.cell (p := ⟨g, off + n, none⟩) hgw1).trans (hb1.cell (p := ⟨g, off + n, none⟩) hgw)).trans hcw
      have hlt' : (n : Int) < (l.length : Int) := by omega
      have h0' : (0 : Int) ≤ (n : Int) := by omega
      have hlt8' : (n : Int) < 8 := by omega
      have hp := put_size l[n]
      have HCW := Lib.hid hcw; clear hcw
      go_wp2_with fail
      refine (Put_any _ _).mono ?_
      rintro e w3 ⟨rfl, hb3⟩
      generalize (⟨(Fr.put l[n].data.toList).toArray⟩ : ByteArray) = PK at *
      go_wp2_with fail
      go_roundw
      case rel => exact ⟨n + 1, U ++ PK, by omega, by omega, by go_num, rfl, by rw [ByteArray.size_append]; omega, hbel.trans (hb3.mono hbel.size)⟩
      case measure => simp [intOf]; omega
    · have hex : ¬ ((n : Int) < (l.length : Int)) ∨ (n : Int) < (l.length : Int) ∧ ¬ ((n : Int) < 8) := by omega
      have hU' : U.size ≤ 524352 := by omega
      clear hU hlt
      have hsum : (U ++ t).size ≤ 1572928 := by rw [ByteArray.size_append]; omega
      have hcv := run_bytes (U ++ t)
      rcases hex with hx1 | ⟨hx1, hx2⟩
      all_goals
        go_upto_region 10 with fail
        have hB := bytes_at wr (U ++ t)
        have hbel2 := bytes_below wr (U ++ t)
        have hgs := hbel.size
        generalize grownCap wr (U.size + t.size) 0 5 = cap2
        obtain ⟨g, hg⟩ : ∃ g, wr.heap.size = g := ⟨_, rfl⟩
        rw [hg] at hB hbel2 hgs ⊢
        obtain ⟨L, hL⟩ : ∃ L, (U ++ t).data.toList = L := ⟨_, rfl⟩
        have hLl : L.length = U.size + t.size := by rw [← hL]; simp
        rw [hL] at hB
        have hbel3 := hbel.trans (hbel2.mono hgs)
        generalize Lib.bytesWorld wr 5 (U ++ t) = w2 at *
        generalize U.size + t.size = N at *
        have hN : N ≤ 1572928 := by rw [← hLl, ← hL]; simpa using hsum
        clear hL hcv hbel2 hg
        by_cases h0 : N = 0
        case' pos =>
          subst h0
          have hVs : (⟨L.toArray⟩ : ByteArray).size ≤ 1572928 := by show L.toArray.size ≤ _; simp [hLl]
          have hst := hB.str 0 cap2 hLl
          have hbel4 := hbel3
          have hg4 := hbel4.size
          generalize (⟨L.toArray⟩ : ByteArray) = V at *
          have h0' : ¬ ((0 : Int) < ((0 : Nat) : Int)) := by omega
          obtain ⟨w5, hw5⟩ : ∃ z, z = w2 := ⟨_, rfl⟩
          subst hw5
          go_upto_region 12 with fail
        case' neg =>
          have h0' : (0 : Int) < (N : Int) := by omega
          have h0'' : ¬ ((N : Int) = 0) := by omega
          obtain ⟨K, hK⟩ : ∃ K, k % N = K := ⟨_, rfl⟩
          have hK' : (k : Int) % (N : Int) = (K : Int) := by rw [← hK, Int.natCast_emod]
          have hKlt : K < N := by rw [← hK]; exact Nat.mod_lt _ (by omega)
          clear hK
          have l0 : K < L.length := by omega
          have c0 := hB.cell K l0
          have f0 := hB.frozen K l0
          have x0 := xor_byte' L[K] x (x : Int) rfl (by omega)
          obtain ⟨v0, hv0⟩ : ∃ v, L[K] ^^^ UInt8.ofNat x = v := ⟨_, rfl⟩
          rw [hv0] at x0
          have hB' := hB.set K v0 _ rfl l0
          have hbel4 := (hbel3.setCell (p := ⟨g, K, none⟩) hgs (.int .u8 (v0.toNat : Int))).drew
          have hLl' : (L.set K v0).length = N := by simpa using hLl
          have hVs : (⟨(L.set K v0).toArray⟩ : ByteArray).size ≤ 1572928 := by show (L.set K v0).toArray.size ≤ _; rw [List.size_toArray, hLl']; exact hN
          have hst := hB'.drew.str N cap2 hLl'
          have HST := Lib.hid hst; clear hst
          have HBL := Lib.hid hbel4; clear hbel4
          clear hv0 hB' hLl'
          go_upto_region 11 with fail
          go_region
          have hst := HST.out
          have hbel4 := HBL.out
          have hg4 := hbel4.size
          clear HST HBL c0 f0 x0 hK' h0''
          generalize (⟨(L.set K v0).toArray⟩ : ByteArray) = V at *
          generalize World.drew _ = w5 at hst hbel4 hg4 ⊢
          go_upto_region 12 with fail
        all_goals
          go_wp2_with fail
          have hcs := three_cells w5 t U V
          have hbs : ∀ j (h : j < 3), [t, U, V][j].size ≤ 1572928 := fun j h => by
            match j, h with
            | 0, _ => exact Nat.le_trans _ht (by omega)
            | 1, _ => exact Nat.le_trans hU' (by omega)
            | 2, _ => exact hVs
          have hbel6 := hbel4.alloc hg4 (.cells #[.string t, .string U, .string V] 9)
          have hg6 : w5.heap.size < (w5.alloc (.cells #[.string t, .string U, .string V] 9)).heap.size := by simp
          generalize w5.alloc _ = w6 at *
          obtain ⟨g2, hg2⟩ : ∃ g2, w5.heap.size = g2 := ⟨_, rfl⟩
          rw [hg2] at hcs hg6 ⊢
          have HCS := Lib.hid hcs; clear hcs
          have HBS := Lib.hid hbs; clear hbs
          have HB6 := Lib.hid hbel6; clear hbel6
          clear hg2 hst hbel4 hg4 hB h0' hbel hbel3
          go_loopw [18, 19, 20, 21, 22, 23, 24, 25, 26, 27, 28, 79] (fun _ _ _ _ _ _ _ _ _ _ _ i wr => ∃ j : Nat, j ≤ 3 ∧ i = .int .i64 j ∧ Below w6.heap.size w6 wr) (fun _ _ _ _ _ _ _ _ _ _ _ i _ => 3 - (intOf i).toNat)
          case atStart => exact ⟨0, by omega, rfl, Below.refl _ _⟩
          case round =>
            obtain ⟨j, hj, rfl, hbr⟩ := hrel
            by_cases hlt : j < 3
            · have hc1 := (hbr.cell (p := ⟨g2, j, none⟩) hg6).trans (HCS.out j hlt)
              have hbsz := HBS.out j hlt
              generalize [t, U, V][j] = b at hc1 hbsz
              obtain ⟨nl, bl, hbl, hA1, hA2⟩ := both_all b (by omega)
              obtain ⟨xs, xm, xo, hx⟩ := nextAt_form b.data.toList i
              have HN1 := Lib.hid (fun w => Next_any b i w (by unfold maxLen; omega))
              have HN2 := Lib.hid (fun w => refNext_any b i w (by unfold maxLen; omega))
              rw [hx] at HN1 HN2
              have HA1 := Lib.hid hA1; clear hA1
              have HA2 := Lib.hid hA2; clear hA2
              have hlt' : (j : Int) < 3 := by omega
              have h0j : (0 : Int) ≤ (j : Int) := by omega
              clear hx hbsz
              go_wp2_with fail
              refine (HN1.out _).mono ?_
              rintro e wa ⟨rfl, hba⟩
              go_wp2_with fail
              refine (HN2.out _).mono ?_
              rintro e wb ⟨rfl, hbb⟩
              go_wp2_with fail
              refine (HA1.out _).mono ?_
              rintro e wc ⟨va, rfl, hva, hbc⟩
              go_wp2_with fail
              refine (HA2.out _).mono ?_
              rintro e wd ⟨vb, rfl, hvb, hbd⟩
              have hva' := hva.below hbd
              clear hva
              go_wp2_with fail
              refine (same_any _ _ bl _ hva' hvb (by omega)).mono ?_
              rintro e we ⟨rfl, hbe⟩
              have hb6 := below4 hbr (below4 hba (below4 hbb (below4 hbc (below4 hbd hbe))))
              go_wp2_with fail
              go_roundw
              case rel => exact ⟨j + 1, by omega, by go_num, hb6⟩
              case measure => simp [intOf]; omega
            · obtain rfl : j = 3 := by omega
              have hbl := HB6.out.trans (hbr.mono HB6.out.size)
              have HQ1 := Lib.hid (fun w => Sum_any s w HS.out)
              have HQ2 := Lib.hid (fun w => refSum_any s w HS.out)
              obtain ⟨P, hP⟩ : ∃ P, Fr.put s.data.toList = P := ⟨_, rfl⟩
              have HQ3 := Lib.hid (fun w => Put_lit s P w hP)
              have HQ4 := Lib.hid (fun w => refPut_lit s P w hP)
              generalize Fr.sum s.data.toList = Q at HQ1 HQ2
              clear hP
              go_wp2_with fail
              refine (HQ1.out _).mono ?_
              rintro e wa ⟨rfl, rfl⟩
              go_wp2_with fail
              refine (HQ2.out _).mono ?_
              rintro e wb ⟨rfl, rfl⟩
              go_wp2_with fail
              refine (HQ3.out _).mono ?_
              rintro e wc ⟨rfl, hbc⟩
              go_wp2_with fail
              refine (HQ4.out _).mono ?_
              rintro e wd ⟨rfl, hbd⟩
              go_wp2_with fail
              go_ret
              exact ⟨rfl, below4 hb1 (below4 hbl (below4 hbc hbd))⟩

theorem FrameTells_walk (s t : ByteArray) (i : Int) (v : Value) (l : List ByteArray) (k x : Int) (w : World) (hs : s.size ≤ maxLen) (_h : t.size ≤ maxLen) (_wi : (Lit.int .i64 i).wf = true)
    (hv : StrsAt w v l) (hsz : ∀ s ∈ l, s.size ≤ maxLen) (wk : (Lit.int .u16 k).wf = true) (wx : (Lit.int .u8 x).wf = true) (ht : t.size ≤ 1048576) :
    Calls Try.prog 3 #[.string s, .string t, .int .i64 i, v, .int .u16 k, .int .u8 x] w fun e w' => e = .returned (.bool true) ∧ Below w.heap.size w w' := by
  have h1 := bounds_u16 wk
  have h2 := bounds_u8 wx
  obtain ⟨k, rfl⟩ := Int.eq_ofNat_of_zero_le h1.1
  obtain ⟨x, rfl⟩ := Int.eq_ofNat_of_zero_le h2.1
  exact FrameTells_core s t i v l k x w hs hv hsz (by omega) (by omega) ht

end Go.Proofs.Ythcikclkocbhpaa
