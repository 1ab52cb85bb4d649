/- The walk of the statement MacOnce. -/
import Derived.Test.YtalncnblcfcmcaaDoorMcBack
import Derived.Test.YtalncnblcfcmcaaDoorMcOpen2
namespace Go.Proofs.YtalncnblcfcmcaaDoor
open Go.RowKit

namespace Mc
def kn (c : Cav) : Bool := decide (1 ≤ c.k) && decide (c.k ≤ 2)
theorem kn_known (c : Cav) : kn c = known c := by
  unfold kn known
  rw [Bool.eq_iff_iff]
  simp
  omega
theorem fits_kn (l : List Cav) : fits l = (decide (l.length ≤ 8) && l.all kn) := by
  unfold fits
  congr 1
  rw [List.not_any_eq_all_not, show kn = known from funext kn_known]
  simp
theorem put_none {t s : ByteArray} {l : List Cav} (h : fits l = false ∨ s.size ≠ 32) : put t l s = ⟨#[]⟩ := by
  unfold put may
  rw [if_neg]
  rcases h with h | h
  · rw [h]; simp
  · simp [h]
theorem got_small {s : ByteArray} {a : Int} {k : Tk} (h : get s a = some k) : k.t.size ≤ 32 ∧ k.l.length ≤ 8 ∧ ∀ c ∈ k.l, c.n < 18446744073709551616 := by
  obtain ⟨_, _, _, _, _, hm, h1, h2, _⟩ := stands h
  unfold may at hm
  simp only [Bool.and_eq_true] at hm
  exact ⟨h1, (fits_known hm.1.2).1, h2⟩
end Mc

/-- the token that came in, and one that was got -/
structure On (w y : World) (bt bu : Nat) (t : ByteArray) (av : Option Addr) (n cap : Nat) (sg : ByteArray) (l : List Cav) (ut : ByteArray) (a4 : Option Addr) (n4 p4 : Nat) (us : ByteArray) (ul : List Cav) : Prop where
  i : Box y bt t (.slice av n cap) sg l
  u : Box y bu ut (.slice a4 n4 p4) us ul
  b : Below w.heap.size w y
theorem On.below {w y z : World} {bt bu : Nat} {t : ByteArray} {av : Option Addr} {n cap : Nat} {sg : ByteArray} {l : List Cav} {ut : ByteArray} {a4 : Option Addr} {n4 p4 : Nat} {us : ByteArray} {ul : List Cav} (h : On w y bt bu t av n cap sg l ut a4 n4 p4 us ul) (hb : Below y.heap.size y z) : On w z bt bu t av n cap sg l ut a4 n4 p4 us ul :=
  ⟨h.i.below hb, h.u.below hb, h.b.trans (hb.mono h.b.size)⟩
theorem On.drew {w y : World} {bt bu : Nat} {t : ByteArray} {av : Option Addr} {n cap : Nat} {sg : ByteArray} {l : List Cav} {ut : ByteArray} {a4 : Option Addr} {n4 p4 : Nat} {us : ByteArray} {ul : List Cav} (h : On w y bt bu t av n cap sg l ut a4 n4 p4 us ul) : On w y.drew bt bu t av n cap sg l ut a4 n4 p4 us ul := ⟨h.i.drew, h.u.drew, h.b.drew⟩
theorem On.cells {w y : World} {bt bu : Nat} {t : ByteArray} {av : Option Addr} {n cap : Nat} {sg : ByteArray} {l : List Cav} {ut : ByteArray} {a4 : Option Addr} {n4 p4 : Nat} {us : ByteArray} {ul : List Cav} (h : On w y bt bu t av n cap sg l ut a4 n4 p4 us ul) :
    (y.cell? ⟨bt, 0, none⟩ = some (.string t) ∧ y.cell? ⟨bt, 1, none⟩ = some (.slice av n cap) ∧ y.cell? ⟨bt, 2, none⟩ = some (.string sg)) ∧ (y.cell? ⟨bu, 0, none⟩ = some (.string ut) ∧ y.cell? ⟨bu, 1, none⟩ = some (.slice a4 n4 p4) ∧ y.cell? ⟨bu, 2, none⟩ = some (.string us)) :=
  ⟨⟨(Row.three h.i.r).1, (Row.three h.i.r).2.1, (Row.three h.i.r).2.2.1⟩, ⟨(Row.three h.u.r).1, (Row.three h.u.r).2.1, (Row.three h.u.r).2.2.1⟩⟩

set_option maxRecDepth 100000 in
set_option maxHeartbeats 8000000 in
theorem MacOnce_walk (s : ByteArray) (at0 : Int) (t : ByteArray) (v : Value) (l : List Cav) (sg : ByteArray) (w : World) (hL : LaidM w) (hs : s.size ≤ 140737488351232) (ht : t.size ≤ 140737488351232) (_hsg : sg.size ≤ 140737488351232) (hv : CavsAt w v l) (hok : ∀ c ∈ l, c.n < 18446744073709551616) (hz : l.length ≤ maxLen) :
    Calls Tryd.prog 7 #[.string s, .int .i64 at0, tokv t v sg] w fun e w' => e = .returned (.bool true) ∧ Below w.heap.size w w' := by
  have HEX := Lib.hid (fun y (h : LaidM y) => macExamples_any y h)
  have HG := Lib.hid (fun y (h : LaidM y) => macGet_any s at0 y h (by omega))
  obtain ⟨av, cap, rfl⟩ := hv.form
  unfold maxLen at hz
  obtain ⟨n, hn⟩ : ∃ n, l.length = n := ⟨_, rfl⟩
  have HNL := Lib.hid hn
  have hbi : (n : Int) ≤ 9223372036854775807 := by omega
  have HP := Lib.hid (fun v y (hl : LaidM y) (h : CavsAt y v l) => macPut_any t v l sg y hl h (by omega) (by omega) hok)
  rw [hn] at hv ⊢
  have HL := Lib.hid hL
  have HV := Lib.hid hv
  clear hv hL hz hn
  unfold tokv at HG HP ⊢
  go_enter Tryd.func7, Tryd.ntmps7
  go_upto_region 1 with fail
  have hbt := Box.new w t av n cap sg HV.out
  have hb0 : Below w.heap.size w (w.alloc (.cells #[.string t, .slice av n cap, .string sg] 24)) := (Below.refl _ _).alloc (Nat.le_refl _) _
  generalize w.alloc (.cells #[.string t, .slice av n cap, .string sg] 24) = x0 at hbt hb0 ⊢
  obtain ⟨bt, hbE⟩ : ∃ b, w.heap.size = b := ⟨_, rfl⟩
  rw [hbE] at hbt ⊢
  have HBE := Lib.hid hbE
  clear hbE
  go_wp2_with fail
  refine (HEX.out _ (HL.out.below hb0 (by have := HBE.out; omega))).mono ?_
  rintro e x1 ⟨rfl, hb1⟩
  have hbt := hbt.below hb1
  have hb1 := hb0.trans (hb1.mono hb0.size)
  clear hb0
  cases hgr : Mc.get s at0 with
  | none =>
    have hR : Mc.getR s at0 = (⟨⟨#[]⟩, [], ⟨#[]⟩, 0⟩, false) := by unfold Mc.getR; rw [hgr]
    rw [hR] at HG
    simp only at HG
    clear hR hgr
    go_upto_region 5 with (go_at_call 14; (with_reducible refine (HG.out _ (HL.out.below hb1 (Nat.le_refl _))).mono ?_); rintro e x2 ⟨v', rfl, hcv, hb2⟩; obtain ⟨a4, p4, rfl⟩ := hcv.form; rw [List.length_nil] at hcv ⊢)
    obtain ⟨n4, hn4⟩ : ∃ n4, 0 = n4 := ⟨_, rfl⟩
    have hO : On w (x2.alloc (.cells #[.string ⟨#[]⟩, .slice a4 0 p4, .string ⟨#[]⟩] 24)) bt x2.heap.size t av n cap sg l ⟨#[]⟩ a4 0 p4 ⟨#[]⟩ [] :=
      ⟨(hbt.below hb2).alloc _, Box.new x2 _ a4 0 p4 _ hcv, (hb1.trans (hb2.mono hb1.size)).alloc (by have := hb1.size; have := hb2.size; omega) _⟩
    clear hbt hb1 hb2 hcv HG hn4 n4
    generalize x2.alloc (.cells #[.string ⟨#[]⟩, .slice a4 0 p4, .string ⟨#[]⟩] 24) = x3 at hO ⊢
    generalize x2.heap.size = bu at hO ⊢
    have HO := Lib.hid hO
    clear hO
    go_quiet (fail)
    have HOn := Lib.hid (HO.out.below (show Below x3.heap.size x3 (x3.drewN nq) from ⟨rfl, rfl, rfl, Nat.le_refl _, fun _ _ => rfl⟩))
    clear HO
    have HO := HOn
    clear HOn
    generalize x3.drewN nq = x4 at HO ⊢
    go_upto_region 7 with fail
    obtain ⟨⟨d0, d1, d2⟩, ⟨c0, c1, c2⟩⟩ := HO.out.cells
    go_upto_region 9 with fail
    clear d0 d1 d2 c0 c1 c2
    go_loopw [11, 12] (fun s11 s12 wr => ∃ i : Nat, i ≤ n ∧ s12 = .int .i64 (i : Int) ∧ s11 = .bool (decide ((n : Int) ≤ 8) && (l.take i).all Mc.kn) ∧ On w wr bt bu t av n cap sg l ⟨#[]⟩ a4 0 p4 ⟨#[]⟩ []) (fun _ s12 _ => n - (intOf s12).toNat)
    case atStart => exact ⟨0, by omega, rfl, by simp, HO.out⟩
    case round =>
      clear HO
      obtain ⟨i, hi, rfl, rfl, hO⟩ := hrel
      have hi0 : (0 : Int) ≤ (i : Int) := by omega
      obtain ⟨⟨d0, d1, d2⟩, ⟨c0, c1, c2⟩⟩ := hO.cells
      by_cases hlt : i < n
      · have hlt' : (i : Int) < (n : Int) := by omega
        obtain ⟨ga, oa, pa', hfu, ea0, ea1⟩ := (hO.i.cv.get).2 i (by rw [HNL.out]; omega)
        rw [HNL.out] at hfu
        cases hfu
        have hj : i < l.length := by rw [HNL.out]; omega
        have hsn : (l.take (i + 1)).all Mc.kn = ((l.take i).all Mc.kn && Mc.kn l[i]) := by rw [List.take_add_one, List.getElem?_eq_getElem hj, List.all_append]; simp
        generalize l[i] = c at ea0 ea1 hsn
        obtain ⟨ck, cn⟩ := c
        rw [show ∀ ck cn, Mc.kn ⟨ck, cn⟩ = (decide (1 ≤ ck) && decide (ck ≤ 2)) from fun _ _ => rfl] at hsn
        simp only at ea0 ea1 hsn
        have hsn2 : (decide ((n : Int) ≤ 8) && (l.take (i + 1)).all Mc.kn) = ((decide ((n : Int) ≤ 8) && (l.take i).all Mc.kn) && (decide (1 ≤ ck) && decide (ck ≤ 2))) := by rw [hsn, Bool.and_assoc]
        generalize (decide ((n : Int) ≤ 8) && (l.take i).all Mc.kn) = kb at hsn2 ⊢
        have HS := Lib.hid hsn2
        have HO := Lib.hid hO
        have hwi : IntKind.i64.wrap ((i : Int) + 1) = (i : Int) + 1 := by rw [IntKind.wrap_i64]; omega
        clear hsn hsn2 hO hj
        cases kb with
        | false =>
          go_wp2_with fail
          refine ⟨⟨i + 1, by omega, by go_num, by rw [HS.out]; simp, HO.out⟩, by simp only [intOf]; omega⟩
        | true =>
          by_cases h1 : 1 ≤ ck
          · by_cases h2 : ck ≤ 2
            · go_wp2_with fail
              refine ⟨⟨i + 1, by omega, by go_num, by rw [HS.out]; simp [h1, h2], HO.out⟩, by simp only [intOf]; omega⟩
            · go_wp2_with fail
              refine ⟨⟨i + 1, by omega, by go_num, by rw [HS.out]; simp [h1, h2], HO.out⟩, by simp only [intOf]; omega⟩
          · go_wp2_with fail
            refine ⟨⟨i + 1, by omega, by go_num, by rw [HS.out]; simp [h1], HO.out⟩, by simp only [intOf]; omega⟩
      · have hlt' : ¬ (i : Int) < (n : Int) := by omega
        have hf : (decide ((n : Int) ≤ 8) && (l.take i).all Mc.kn) = Mc.fits l := by
          rw [List.take_of_length_le (by rw [HNL.out]; omega), Mc.fits_kn, HNL.out]
          congr 1
          rw [decide_eq_decide]; omega
        rw [hf]
        have hpn := fun h => Mc.put_none (t := t) (s := sg) (l := l) h
        generalize Mc.fits l = kb at hpn ⊢
        have HO := Lib.hid hO
        clear hO hf
        by_cases h32 : kb = true ∧ sg.size = 32
        · obtain ⟨rfl, h32⟩ := h32
          have h32' : (sg.size : Int) = 32 := by omega
          clear hpn h32
          go_wp2_with fail
          go_ret
          exact ⟨rfl, HO.out.b⟩
        · have hpe := hpn (by cases kb with | false => exact .inl rfl | true => exact .inr (fun e => h32 ⟨rfl, e⟩))
          rw [hpe] at HP
          clear hpn hpe
          have hne : kb = false ∨ ¬ (sg.size : Int) = 32 := by cases kb with | false => exact .inl rfl | true => exact .inr (fun e => h32 ⟨rfl, by omega⟩)
          clear h32
          rcases hne with rfl | hne
          · go_wp2_with (go_at_call 25; (with_reducible refine (HP.out _ _ (HL.out.below HO.out.b (Nat.le_refl _)) HO.out.i.cv).mono ?_); rintro e y ⟨rfl, hby⟩; have HB := Lib.hid (HO.out.b.trans (hby.mono HO.out.b.size)); clear hby)
            go_ret
            exact ⟨rfl, HB.out⟩
          · cases kb <;> (
              go_wp2_with (go_at_call 25; (with_reducible refine (HP.out _ _ (HL.out.below HO.out.b (Nat.le_refl _)) HO.out.i.cv).mono ?_); rintro e y ⟨rfl, hby⟩; have HB := Lib.hid (HO.out.b.trans (hby.mono HO.out.b.size)); clear hby)
              go_ret
              exact ⟨rfl, HB.out⟩)
  | some k =>
    have hR : Mc.getR s at0 = (k, true) := by unfold Mc.getR; rw [hgr]
    rw [hR] at HG
    simp only at HG
    obtain ⟨g0, g1, g2, g3, g4⟩ := Mc.put_got hgr
    obtain ⟨hk32, hkl, hkc⟩ := Mc.got_small hgr
    obtain ⟨kt, kl, ks, nx⟩ := k
    simp only at HG g0 g1 g2 g3 g4 hk32 hkc hkl
    clear hR hgr
    have HPU := Lib.hid (fun v y (hl : LaidM y) (h : CavsAt y v kl) => put_is g4 v (by omega) (by omega) hkc y hl h)
    unfold tokv at HPU
    go_upto_region 5 with (go_at_call 14; (with_reducible refine (HG.out _ (HL.out.below hb1 (Nat.le_refl _))).mono ?_); rintro e x2 ⟨v', rfl, hcv, hb2⟩; obtain ⟨a4, p4, rfl⟩ := hcv.form; obtain ⟨n4, hn4⟩ : ∃ n4, kl.length = n4 := ⟨_, rfl⟩; rw [hn4] at hcv ⊢; clear hn4)
    have hO : On w (x2.alloc (.cells #[.string kt, .slice a4 n4 p4, .string ks] 24)) bt x2.heap.size t av n cap sg l kt a4 n4 p4 ks kl :=
      ⟨(hbt.below hb2).alloc _, Box.new x2 _ a4 n4 p4 _ hcv, (hb1.trans (hb2.mono hb1.size)).alloc (by have := hb1.size; have := hb2.size; omega) _⟩
    clear hbt hb1 hb2 hcv HG
    generalize x2.alloc (.cells #[.string kt, .slice a4 n4 p4, .string ks] 24) = x3 at hO ⊢
    generalize x2.heap.size = bu at hO ⊢
    have HO := Lib.hid hO.drew
    clear hO
    have e1 : decide (at0 < 0) = false := by rw [decide_eq_false_iff_not]; omega
    have e2 : decide ((s.size : Int) < nx) = false := by rw [decide_eq_false_iff_not]; omega
    clear g4 hk32 hkc hkl
    go_region_held3 (fun y => (y.cell? ⟨bt, 0, none⟩ = some (.string t) ∧ y.cell? ⟨bt, 1, none⟩ = some (.slice av n cap) ∧ y.cell? ⟨bt, 2, none⟩ = some (.string sg)) ∧ (y.cell? ⟨bu, 0, none⟩ = some (.string kt) ∧ y.cell? ⟨bu, 1, none⟩ = some (.slice a4 n4 p4) ∧ y.cell? ⟨bu, 2, none⟩ = some (.string ks))) (exact HO.out.cells)
      ((first | (go_at_call 25; (with_reducible refine (HPU.out _ _ (HL.out.below HO.out.b (Nat.le_refl _)) HO.out.u.cv).mono ?_); rintro e u ⟨rfl, hbu⟩; have HOn := Lib.hid (HO.out.below hbu); clear HO hbu; have HO := HOn; clear HOn)))
    all_goals (
      clear e1 e2 g0 g1 g2 g3 HPU
      go_upto_region 7 with fail
      obtain ⟨⟨d0, d1, d2⟩, ⟨c0, c1, c2⟩⟩ := HO.out.cells
      go_upto_region 9 with fail
      clear d0 d1 d2 c0 c1 c2
      go_loopw [11, 12] (fun s11 s12 wr => ∃ i : Nat, i ≤ n ∧ s12 = .int .i64 (i : Int) ∧ s11 = .bool (decide ((n : Int) ≤ 8) && (l.take i).all Mc.kn) ∧ On w wr bt bu t av n cap sg l kt a4 n4 p4 ks kl) (fun _ s12 _ => n - (intOf s12).toNat)
      case atStart => exact ⟨0, by omega, rfl, by simp, HO.out⟩
      case round =>
        clear HO
        obtain ⟨i, hi, rfl, rfl, hO⟩ := hrel
        have hi0 : (0 : Int) ≤ (i : Int) := by omega
        obtain ⟨⟨d0, d1, d2⟩, ⟨c0, c1, c2⟩⟩ := hO.cells
        by_cases hlt : i < n
        · have hlt' : (i : Int) < (n : Int) := by omega
          obtain ⟨ga, oa, pa', hfu, ea0, ea1⟩ := (hO.i.cv.get).2 i (by rw [HNL.out]; omega)
          rw [HNL.out] at hfu
          cases hfu
          have hj : i < l.length := by rw [HNL.out]; omega
          have hsn : (l.take (i + 1)).all Mc.kn = ((l.take i).all Mc.kn && Mc.kn l[i]) := by rw [List.take_add_one, List.getElem?_eq_getElem hj, List.all_append]; simp
          generalize l[i] = c at ea0 ea1 hsn
          obtain ⟨ck, cn⟩ := c
          rw [show ∀ ck cn, Mc.kn ⟨ck, cn⟩ = (decide (1 ≤ ck) && decide (ck ≤ 2)) from fun _ _ => rfl] at hsn
          simp only at ea0 ea1 hsn
          have hsn2 : (decide ((n : Int) ≤ 8) && (l.take (i + 1)).all Mc.kn) = ((decide ((n : Int) ≤ 8) && (l.take i).all Mc.kn) && (decide (1 ≤ ck) && decide (ck ≤ 2))) := by rw [hsn, Bool.and_assoc]
          generalize (decide ((n : Int) ≤ 8) && (l.take i).all Mc.kn) = kb at hsn2 ⊢
          have HS := Lib.hid hsn2
          have HO := Lib.hid hO
          have hwi : IntKind.i64.wrap ((i : Int) + 1) = (i : Int) + 1 := by rw [IntKind.wrap_i64]; omega
          clear hsn hsn2 hO hj
          cases kb with
          | false =>
            go_wp2_with fail
            refine ⟨⟨i + 1, by omega, by go_num, by rw [HS.out]; simp, HO.out⟩, by simp only [intOf]; omega⟩
          | true =>
            by_cases h1 : 1 ≤ ck
            · by_cases h2 : ck ≤ 2
              · go_wp2_with fail
                refine ⟨⟨i + 1, by omega, by go_num, by rw [HS.out]; simp [h1, h2], HO.out⟩, by simp only [intOf]; omega⟩
              · go_wp2_with fail
                refine ⟨⟨i + 1, by omega, by go_num, by rw [HS.out]; simp [h1, h2], HO.out⟩, by simp only [intOf]; omega⟩
            · go_wp2_with fail
              refine ⟨⟨i + 1, by omega, by go_num, by rw [HS.out]; simp [h1], HO.out⟩, by simp only [intOf]; omega⟩
        · have hlt' : ¬ (i : Int) < (n : Int) := by omega
          have hf : (decide ((n : Int) ≤ 8) && (l.take i).all Mc.kn) = Mc.fits l := by
            rw [List.take_of_length_le (by rw [HNL.out]; omega), Mc.fits_kn, HNL.out]
            congr 1
            rw [decide_eq_decide]; omega
          rw [hf]
          have hpn := fun h => Mc.put_none (t := t) (s := sg) (l := l) h
          generalize Mc.fits l = kb at hpn ⊢
          have HO := Lib.hid hO
          clear hO hf
          by_cases h32 : kb = true ∧ sg.size = 32
          · obtain ⟨rfl, h32⟩ := h32
            have h32' : (sg.size : Int) = 32 := by omega
            clear hpn h32
            go_wp2_with fail
            go_ret
            exact ⟨rfl, HO.out.b⟩
          · have hpe := hpn (by cases kb with | false => exact .inl rfl | true => exact .inr (fun e => h32 ⟨rfl, e⟩))
            rw [hpe] at HP
            clear hpn hpe
            have hne : kb = false ∨ ¬ (sg.size : Int) = 32 := by cases kb with | false => exact .inl rfl | true => exact .inr (fun e => h32 ⟨rfl, by omega⟩)
            clear h32
            rcases hne with rfl | hne
            · go_wp2_with (go_at_call 25; (with_reducible refine (HP.out _ _ (HL.out.below HO.out.b (Nat.le_refl _)) HO.out.i.cv).mono ?_); rintro e y ⟨rfl, hby⟩; have HB := Lib.hid (HO.out.b.trans (hby.mono HO.out.b.size)); clear hby)
              go_ret
              exact ⟨rfl, HB.out⟩
            · cases kb <;> (
                go_wp2_with (go_at_call 25; (with_reducible refine (HP.out _ _ (HL.out.below HO.out.b (Nat.le_refl _)) HO.out.i.cv).mono ?_); rintro e y ⟨rfl, hby⟩; have HB := Lib.hid (HO.out.b.trans (hby.mono HO.out.b.size)); clear hby)
                go_ret
                exact ⟨rfl, HB.out⟩)
      )

end Go.Proofs.YtalncnblcfcmcaaDoor
