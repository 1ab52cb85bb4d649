/- The walk of the document's own Check. -/
import Derived.Test.YtalncnblcfcmcaaDoorMcRefC
namespace Go.Proofs.YtalncnblcfcmcaaDoor
open Go.RowKit

/-- the variables of the document's Check: the token in its box, the one that is made -/
structure Lx (w x : World) (gt : Nat) (t : ByteArray) (v : Value) (sg : ByteArray) (k : List Cav) (vo : Value) (s : ByteArray) (l : List Cav) : Prop where
  b : Box x gt t v sg k
  o : Box x w.heap.size t vo s l
  bel : Below w.heap.size w x
  ge : w.heap.size < gt
theorem Lx.below {w x y : World} {gt : Nat} {t : ByteArray} {v : Value} {sg : ByteArray} {k : List Cav} {vo : Value} {s : ByteArray} {l : List Cav} (h : Lx w x gt t v sg k vo s l) (hb : Below x.heap.size x y) : Lx w y gt t v sg k vo s l :=
  ⟨h.b.below hb, h.o.below hb, h.bel.trans (hb.mono h.bel.size), h.ge⟩
theorem Lx.drew {w x : World} {gt : Nat} {t : ByteArray} {v : Value} {sg : ByteArray} {k : List Cav} {vo : Value} {s : ByteArray} {l : List Cav} (h : Lx w x gt t v sg k vo s l) : Lx w x.drew gt t v sg k vo s l :=
  ⟨h.b.drew, h.o.drew, h.bel.drew, h.ge⟩
theorem Lx.lay {w x : World} {gt : Nat} {t : ByteArray} {v : Value} {sg : ByteArray} {k : List Cav} {vo : Value} {s : ByteArray} {l : List Cav} (h : Lx w x gt t v sg k vo s l) (hv : ∀ k n, v ≠ .int k n) {v2 : Value} (sg2 : ByteArray) {k2 : List Cav} (h2 : CavsAt x v2 k2) :
    Lx w (set3 x gt (.string t) v2 (.string sg2)) gt t v2 sg2 k2 vo s l := by
  have hg := h.ge
  have s1 := h.b.r.set 0 (.string t) (by simp)
  have s2 := s1.set 1 v2 (by simp)
  have s3 := s2.set 2 (.string sg2) (by simp)
  have q1 := h2.setOther (Row.three h.b.r).1 (fun _ _ e => by cases e) (.string t)
  have q2 := q1.setOther (Row.three s1).2.1 hv v2
  have q3 := q2.setOther (Row.three s2).2.2.1 (fun _ _ e => by cases e) (.string sg2)
  have p1 := h.o.cv.setOther (Row.three h.b.r).1 (fun _ _ e => by cases e) (.string t)
  have p2 := p1.setOther (Row.three s1).2.1 hv v2
  have p3 := p2.setOther (Row.three s2).2.2.1 (fun _ _ e => by cases e) (.string sg2)
  exact ⟨⟨s3, q3, by have := h.b.lt; simpa [set3] using this⟩, ⟨((h.o.r.other _ (by omega)).other _ (by omega)).other _ (by omega), p3, by have := h.o.lt; simpa [set3] using this⟩,
    ((h.bel.setCell (p := ⟨gt, 0, none⟩) (by show w.heap.size ≤ gt; omega) _).setCell (p := ⟨gt, 1, none⟩) (by show w.heap.size ≤ gt; omega) _).setCell (p := ⟨gt, 2, none⟩) (by show w.heap.size ≤ gt; omega) _, hg⟩

set_option maxRecDepth 100000 in
set_option maxHeartbeats 8000000 in
theorem rCheck_any (hS : SumC) (key t : ByteArray) (v : Value) (l : List Cav) (s : ByteArray) (w : World) (hv : CavsAt w v l) (hk : key.size ≤ 281474976710656) (ht : t.size ≤ 281474976710000) (hbig : l.length ≤ 9223372036854775807) (hok : ∀ c ∈ l, c.n < 18446744073709551616) :
    Calls Tryd.prog 22 #[.string key, tokv t v s] w fun e w' => e = .returned (.bool (Mc.check key t l s)) ∧ Below w.heap.size w w' := by
  have HKN := Lib.hid (fun y (h : CavsAt y v l) => rknown_any v l y h hbig)
  have HNW := Lib.hid (fun y => rNew_any hS key t y hk ht)
  have HCK := Lib.hid (show Mc.check key t l s = (Mc.fits l && ((Mc.signs (Mc.signB key t) l).toList == s.toList)) from rfl)
  generalize Mc.check key t l s = q at HCK ⊢
  have hs0 := Mc.signB_size key t
  generalize Mc.signB key t = s0 at HNW hs0 HCK
  have hf8 : Mc.fits l = true → l.length ≤ 8 := fun h => by unfold Mc.fits at h; simp at h; exact h.1
  obtain ⟨a, cap, rfl⟩ := hv.form
  have HOK := Lib.hid hok
  have HB := Lib.hid (Box.newR w t a l.length cap s hv)
  have HW := Lib.hid (show Below w.heap.size w (w.alloc (.cells #[.string t, .slice a l.length cap, .string s] 31)) from (Below.refl _ _).alloc (Nat.le_refl _) _)
  unfold tokv at HNW ⊢
  clear hv hok
  cases hf : Mc.fits l with
  | false =>
    rw [hf] at HKN HCK
    clear hf hf8
    go_enter Tryd.func22, Tryd.ntmps22
    go_upto_region 1 with fail
    generalize w.alloc (.cells #[.string t, .slice a l.length cap, .string s] 31) = x at HB HW ⊢
    obtain ⟨c0, c1, c2, _, _, _⟩ := Row.three HB.out.r
    go_wp2_with (go_at_call 41; (with_reducible refine (HKN.out _ HB.out.cv).mono ?_); rintro e u ⟨rfl, rfl⟩)
    go_ret
    exact ⟨ret_bool (by rw [HCK.out]; simp), HW.out⟩
  | true =>
    have hl8 := hf8 hf
    rw [hf] at HKN HCK
    rw [Bool.true_and] at HCK
    clear hf hf8
    go_enter Tryd.func22, Tryd.ntmps22
    go_upto_region 1 with fail
    generalize w.alloc (.cells #[.string t, .slice a l.length cap, .string s] 31) = x at HB HW ⊢
    obtain ⟨c0, c1, c2, f0, f1, f2⟩ := Row.three HB.out.r
    go_upto_region 4 with (first
      | (go_at_call 41; (with_reducible refine (HKN.out _ HB.out.cv).mono ?_); rintro e u ⟨rfl, rfl⟩)
      | (go_at_call 20; (with_reducible refine (HNW.out _).mono ?_); rintro e y ⟨rfl, hby⟩))
    have hLx : Lx w (y.alloc (.cells #[.string t, .slice none 0 0, .string s0] 31)) y.heap.size t (.slice none 0 0) s0 [] (.slice a l.length cap) s l :=
      ⟨Box.newR y t none 0 0 s0 (CavsAt.nil y), (HB.out.below hby).alloc _, (HW.out.trans (hby.mono HW.out.size)).alloc (by have := HW.out.size; have := hby.size; omega) _, Nat.lt_of_lt_of_le HB.out.lt hby.size⟩
    generalize y.alloc (.cells #[.string t, .slice none 0 0, .string s0] 31) = x2 at hLx ⊢
    generalize y.heap.size = gt at hLx ⊢
    have HLX := Lib.hid hLx
    obtain ⟨gb, hgb⟩ : ∃ gb, w.heap.size = gb := ⟨_, rfl⟩
    clear hLx hby HB HW HNW HKN c0 c1 c2 f0 f1 f2
    have HGB := Lib.hid hgb
    rw [hgb]
    clear hgb
    go_wp2_with fail
    go_loopw [6] (fun s6 wr => ∃ (i : Nat) (a2 : Option Addr) (n2 p2 : Nat), i ≤ l.length ∧ s6 = .int .i64 (i : Int) ∧ Lx w wr gt t (.slice a2 n2 p2) (Mc.signs s0 (l.take i)) (l.take i) (.slice a l.length cap) s l) (fun s6 _ => l.length - (intOf s6).toNat)
    case atStart => exact ⟨0, none, 0, 0, by omega, rfl, HLX.out⟩
    case round =>
      clear HLX
      obtain ⟨i, a2, n2, p2, hi, rfl, hN⟩ := hrel
      have hi0 : (0 : Int) ≤ (i : Int) := by omega
      obtain ⟨d0, d1, d2, g0, g1, g2⟩ := Row.three hN.o.r
      obtain ⟨c0, c1, c2, f0, f1, f2⟩ := Row.three hN.b.r
      rw [HGB.out] at d0 d1 d2 g0 g1 g2
      by_cases hlt : i < l.length
      · have hlt' : (i : Int) < (l.length : Int) := by omega
        obtain ⟨b, off, cp, hfu, q0, q1⟩ := (hN.o.cv.get).2 i hlt
        cases hfu
        have hok2 := HOK.out l[i] (List.getElem_mem hlt)
        have hsn : l.take (i + 1) = l.take i ++ [l[i]] := by rw [List.take_add_one, List.getElem?_eq_getElem hlt]; rfl
        have hsg : Mc.signs s0 (l.take (i + 1)) = Mc.signB (Mc.signs s0 (l.take i)) (Mc.putc l[i]) := by rw [hsn, Mc.signs_snoc]
        have hss := Mc.signs_size s0 (l.take i) hs0
        have hkl : (l.take i).length ≤ 8 := by simp; omega
        generalize l[i] = c at q0 q1 hok2 hsn hsg
        have HNR := Lib.hid (fun y (h : CavsAt y (.slice a2 n2 p2) (l.take i)) => rNarrow_any hS t (.slice a2 n2 p2) (l.take i) (Mc.signs s0 (l.take i)) c y h (by omega) (by omega) hok2)
        rw [← hsg, ← hsn] at HNR
        obtain ⟨ck, cn⟩ := c
        simp only at q0 q1 hok2 hsn hsg
        have hcn : (cn : Int) < 18446744073709551616 := by omega
        unfold tokv Cav.val Cav.cells at HNR
        generalize hg2 : Mc.signs s0 (l.take (i + 1)) = sg2 at HNR hsg
        generalize hk2 : l.take (i + 1) = kk2 at HNR hsn
        generalize Mc.signs s0 (l.take i) = sg at hN HNR hss hsg c2
        generalize l.take i = kk at hN HNR hkl hsn
        have HG2 := Lib.hid hg2
        have HK2 := Lib.hid hk2
        have HN1 := Lib.hid hN
        clear hg2 hk2 hsg hsn hss hkl hN
        go_upto_region 7 with fail
        go_region_with (go_at_call 17; (with_reducible refine (HNR.out _ HN1.out.drew.b.cv).mono ?_); rintro e y ⟨v', rfl, hcv, hby⟩; obtain ⟨nn, hnn⟩ : ∃ nn, kk2.length = nn := ⟨_, rfl⟩; obtain ⟨a3, p3, rfl⟩ := hcv.form; rw [hnn] at hcv ⊢; have hNy := HN1.out.drew.below hby; obtain ⟨k0, k1, k2, j0, j1, j2⟩ := Row.three hNy.b.r; have HNY := Lib.hid (hNy.lay (fun _ _ e => by cases e) sg2 hcv); clear hnn hcv hby hNy c0 c1 c2 f0 f1 f2 d0 d1 d2 g0 g1 g2 q0 q1)
        all_goals (
          have hfin := HNY.out
          unfold set3 at hfin
          clear HNY k0 k1 k2 j0 j1 j2
          generalize World.setCell _ _ _ = wz at hfin ⊢
          have HFIN := Lib.hid hfin
          clear hfin
          have hwi : IntKind.i64.wrap ((i : Int) + 1) = (i : Int) + 1 := by rw [IntKind.wrap_i64]; omega
          go_wp2_with fail
          refine ⟨⟨i + 1, a3, nn, p3, by omega, by go_num, ?_⟩, by simp only [intOf]; omega⟩
          rw [HG2.out, HK2.out]
          exact HFIN.out)
      · obtain rfl : i = l.length := by omega
        have hlt' : ¬ (l.length : Int) < (l.length : Int) := by omega
        rw [List.take_length] at hN c2
        have HN1 := Lib.hid hN
        have HQ := Lib.hid HCK.out
        clear hN HCK
        generalize Mc.signs s0 l = sl at HN1 HQ c2
        go_wp2_with fail
        go_ret
        exact ⟨ret_bool (by rw [HQ.out]), HN1.out.bel⟩

end Go.Proofs.YtalncnblcfcmcaaDoor
