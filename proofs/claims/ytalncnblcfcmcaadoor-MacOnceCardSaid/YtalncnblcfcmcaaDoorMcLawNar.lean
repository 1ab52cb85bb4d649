/- The walk of the laws' own narrowed: a token of a key that was narrowed so. -/
import Derived.Test.YtalncnblcfcmcaaDoorMcNarrows
namespace Go.Proofs.YtalncnblcfcmcaaDoor
open Go.RowKit

namespace Mc
/-- the caveat as the laws lay it: its kind by its number -/
def kinded (c : Cav) : Cav := ⟨1 + ((c.n % 2 : Nat) : Int), c.n⟩
/-- the caveats of a law's token -/
def lawCavs (l : List Cav) : List Cav := (l.take 8).map kinded
theorem lawCavs_len (l : List Cav) : (lawCavs l).length = min l.length 8 := by unfold lawCavs; simp; omega
theorem kinded_known (c : Cav) : known (kinded c) = true := by
  unfold known kinded
  simp
  omega
theorem lawCavs_fits (l : List Cav) : fits (lawCavs l) = true := by
  unfold fits
  have h1 := lawCavs_len l
  have h2 : (lawCavs l).any (fun c => !known c) = false := by
    rw [List.any_eq_false]
    intro c hc
    obtain ⟨d, _, rfl⟩ := List.mem_map.1 hc
    rw [kinded_known]; simp
  rw [h2]
  simp
  omega
theorem lawCavs_ok (l : List Cav) (h : ∀ c ∈ l, c.n < 18446744073709551616) : ∀ c ∈ lawCavs l, c.n < 18446744073709551616 := by
  intro c hc
  obtain ⟨d, hd, rfl⟩ := List.mem_map.1 hc
  exact h d (List.mem_of_mem_take hd)
end Mc

/-- the variables of the law's narrowed -/
structure Ln (w x : World) (gt : Nat) (t : ByteArray) (v : Value) (sg : ByteArray) (k : List Cav) : Prop where
  b : Box x gt t v sg k
  r1 : Row x w.heap.size [.string ⟨#[]⟩, .slice none 0 0, .string ⟨#[]⟩]
  bel : Below w.heap.size w x
  ge : w.heap.size < gt
theorem Ln.below {w x y : World} {gt : Nat} {t : ByteArray} {v : Value} {sg : ByteArray} {k : List Cav} (h : Ln w x gt t v sg k) (hb : Below x.heap.size x y) : Ln w y gt t v sg k :=
  ⟨h.b.below hb, h.r1.below hb (by have := h.b.lt; have := h.ge; omega), h.bel.trans (hb.mono h.bel.size), h.ge⟩
theorem Ln.alloc {w x : World} {gt : Nat} {t : ByteArray} {v : Value} {sg : ByteArray} {k : List Cav} (h : Ln w x gt t v sg k) (o : Obj) : Ln w (x.alloc o) gt t v sg k := h.below ((Below.refl _ _).alloc (Nat.le_refl _) o)
/-- a box is laid anew -/
theorem Ln.lay {w x : World} {gt : Nat} {t : ByteArray} {v : Value} {sg : ByteArray} {k : List Cav} (h : Ln w x gt t v sg k) (hv : ∀ k n, v ≠ .int k n) {v2 : Value} (sg2 : ByteArray) {k2 : List Cav} (h2 : CavsAt x v2 k2) :
    Ln w (set3 x gt (.string t) v2 (.string sg2)) gt t v2 sg2 k2 := by
  have hg := h.ge
  have s1 := h.b.r.set 0 (.string t) (by simp)
  have s2 := s1.set 1 v2 (by simp)
  have s3 := s2.set 2 (.string sg2) (by simp)
  have q1 := h2.setOther (Row.three h.b.r).1 (fun _ _ e => by cases e) (.string t)
  have q2 := q1.setOther (Row.three s1).2.1 hv v2
  have q3 := q2.setOther (Row.three s2).2.2.1 (fun _ _ e => by cases e) (.string sg2)
  exact ⟨⟨s3, q3, by have := h.b.lt; simpa [set3] using this⟩, ((h.r1.other _ (by omega)).other _ (by omega)).other _ (by omega),
    ((h.bel.setCell (p := ⟨gt, 0, none⟩) (by show w.heap.size ≤ gt; omega) _).setCell (p := ⟨gt, 1, none⟩) (by show w.heap.size ≤ gt; omega) _).setCell (p := ⟨gt, 2, none⟩) (by show w.heap.size ≤ gt; omega) _, hg⟩
/-- the caveats that were laid behind the last one -/
theorem Ln.done {w x : World} {gt : Nat} {t : ByteArray} {v : Value} {sg : ByteArray} {k : List Cav} (h : Ln w x gt t v sg k) :
    Row (set3 x w.heap.size (.string t) v (.string sg)) w.heap.size [.string t, v, .string sg] ∧ CavsAt (set3 x w.heap.size (.string t) v (.string sg)) v k ∧ Below w.heap.size w (set3 x w.heap.size (.string t) v (.string sg)) := by
  have r1 := h.r1.set 0 (.string t) (by simp)
  have r2 := r1.set 1 v (by simp)
  have r3 := r2.set 2 (.string sg) (by simp)
  have k1 := h.b.cv.setOther (Row.three h.r1).1 (fun _ _ e => by cases e) (.string t)
  have k2 := k1.setOther (Row.three r1).2.1 (fun _ _ e => by cases e) v
  have k3 := k2.setOther (Row.three r2).2.2.1 (fun _ _ e => by cases e) (.string sg)
  exact ⟨r3, k3, ((h.bel.setCell (p := ⟨w.heap.size, 0, none⟩) (Nat.le_refl _) _).setCell (p := ⟨w.heap.size, 1, none⟩) (Nat.le_refl _) _).setCell (p := ⟨w.heap.size, 2, none⟩) (Nat.le_refl _) _⟩

set_option maxRecDepth 100000 in
set_option maxHeartbeats 8000000 in
theorem lawNarrowed_any (key t : ByteArray) (v : Value) (l : List Cav) (w : World) (hL : Laid w) (hv : CavsAt w v l) (hk : key.size ≤ 70368744177664) (ht : t.size ≤ 70368744177000) (hbig : l.length ≤ 9223372036854775807) (hok : ∀ c ∈ l, c.n < 18446744073709551616) :
    Calls Tryd.prog 27 #[.string key, .string t, v] w fun e w' => ∃ v', e = .returned (tokv t v' (Mc.signs (Mc.signB key t) (Mc.lawCavs l))) ∧ CavsAt w' v' (Mc.lawCavs l) ∧ Below w.heap.size w w' ∧ Fresh w.heap.size v' := by
  have HNW := Lib.hid (fun y (h : Laid y) => New_any key t y h hk ht)
  have hs0 := Mc.signB_size key t
  generalize Mc.signB key t = s0 at HNW hs0 ⊢
  obtain ⟨a, cap, rfl⟩ := hv.form
  have hbi : (l.length : Int) ≤ 9223372036854775807 := by omega
  have HV := Lib.hid hv
  have HL := Lib.hid hL
  have HOK := Lib.hid hok
  clear hv hL hok
  unfold tokv at HNW ⊢
  go_enter Tryd.func27, Tryd.ntmps27
  go_upto_region 1 with fail
  have r1 : Row (w.alloc (.cells #[.string ⟨#[]⟩, .slice none 0 0, .string ⟨#[]⟩] 24)) w.heap.size [.string ⟨#[]⟩, .slice none 0 0, .string ⟨#[]⟩] := Row.at rfl (by simp)
  have hb0 : Below w.heap.size w (w.alloc (.cells #[.string ⟨#[]⟩, .slice none 0 0, .string ⟨#[]⟩] 24)) := (Below.refl _ _).alloc (Nat.le_refl _) _
  have l0 : w.heap.size < (w.alloc (.cells #[.string ⟨#[]⟩, .slice none 0 0, .string ⟨#[]⟩] 24)).heap.size := by simp
  generalize w.alloc (.cells #[.string ⟨#[]⟩, .slice none 0 0, .string ⟨#[]⟩] 24) = x0 at r1 hb0 l0 ⊢
  go_wp2_with fail
  refine (HNW.out _ (HL.out.below hb0 (Nat.le_refl _))).mono ?_
  rintro e x1 ⟨rfl, hb1⟩
  go_upto_region 2 with fail
  have hbx := Box.new x1 t none 0 0 s0 (CavsAt.nil x1)
  have hLn : Ln w (x1.alloc (.cells #[.string t, .slice none 0 0, .string s0] 24)) x1.heap.size t (.slice none 0 0) s0 [] :=
    ⟨hbx, (r1.below hb1 l0).alloc (Nat.lt_of_lt_of_le l0 hb1.size) _, (hb0.trans (hb1.mono hb0.size)).alloc (by have := hb0.size; have := hb1.size; omega) _, Nat.lt_of_lt_of_le l0 hb1.size⟩
  generalize x1.alloc (.cells #[.string t, .slice none 0 0, .string s0] 24) = x2 at hLn ⊢
  generalize x1.heap.size = gt at hLn ⊢
  have HLN := Lib.hid hLn
  clear hLn hbx hb1 hb0 r1 l0 HNW
  go_wp2_with fail
  go_loopw [8] (fun s8 wr => ∃ (i : Nat) (a2 : Option Addr) (n2 p2 : Nat), i ≤ l.length ∧ i ≤ 8 ∧ s8 = .int .i64 (i : Int) ∧ Ln w wr gt t (.slice a2 n2 p2) (Mc.signs s0 ((l.take i).map Mc.kinded)) ((l.take i).map Mc.kinded) ∧ Fresh w.heap.size (.slice a2 n2 p2)) (fun s8 _ => 8 - (intOf s8).toNat)
  case atStart => exact ⟨0, none, 0, 0, by omega, by omega, rfl, HLN.out, Fresh.nil _ _ _⟩
  case round =>
    clear HLN
    obtain ⟨i, a2, n2, p2, hi, hi8, rfl, hN, hFr⟩ := hrel
    have HFR := Lib.hid hFr
    clear hFr
    have hi0 : (0 : Int) ≤ (i : Int) := by omega
    by_cases hlt : i < l.length
    · have hlt' : (i : Int) < (l.length : Int) := by omega
      by_cases h8 : i < 8
      · have h8' : (i : Int) < 8 := by omega
        obtain ⟨b, off, cp, hfu, q0, q1⟩ := ((HV.out.below hN.bel (Nat.le_refl _)).get).2 i hlt
        cases hfu
        have hok2 := HOK.out l[i] (List.getElem_mem hlt)
        have hsn : (l.take (i + 1)).map Mc.kinded = (l.take i).map Mc.kinded ++ [Mc.kinded l[i]] := by rw [List.take_add_one, List.getElem?_eq_getElem hlt, List.map_append]; rfl
        have hsg : Mc.signs s0 ((l.take (i + 1)).map Mc.kinded) = Mc.signB (Mc.signs s0 ((l.take i).map Mc.kinded)) (Mc.putc (Mc.kinded l[i])) := by rw [hsn, Mc.signs_snoc]
        have hss := Mc.signs_size s0 ((l.take i).map Mc.kinded) hs0
        have hkl : ((l.take i).map Mc.kinded).length ≤ 8 := by simp; omega
        generalize l[i] = c at q0 q1 hok2 hsn hsg
        obtain ⟨ck, cn⟩ := c
        simp only at q0 q1 hok2 hsn hsg
        obtain ⟨m, hm⟩ : ∃ m, cn % 2 = m := ⟨_, rfl⟩
        have hcn : (cn : Int) < 18446744073709551616 := by omega
        have hm2 : (cn : Int) % 2 = (m : Int) := by omega
        have hmw : IntKind.i64.wrap (m : Int) = (m : Int) := by rw [IntKind.wrap_i64]; omega
        have hmw2 : IntKind.i64.wrap (1 + (m : Int)) = 1 + (m : Int) := by rw [IntKind.wrap_i64]; omega
        have hkd : Mc.kinded ⟨ck, cn⟩ = ⟨1 + (m : Int), cn⟩ := by unfold Mc.kinded; simp only [hm]
        rw [hkd] at hsn hsg
        clear hkd
        have HNR := Lib.hid (fun y (hl : Laid y) (h : CavsAt y (.slice a2 n2 p2) ((l.take i).map Mc.kinded)) => Narrow_new t (.slice a2 n2 p2) ((l.take i).map Mc.kinded) (Mc.signs s0 ((l.take i).map Mc.kinded)) ⟨1 + (m : Int), cn⟩ y hl h (by omega) (by omega) hok2)
        rw [← hsg, ← hsn] at HNR
        unfold tokv Cav.val Cav.cells at HNR
        generalize hg2 : Mc.signs s0 ((l.take (i + 1)).map Mc.kinded) = sg2 at HNR hsg
        generalize hk2 : (l.take (i + 1)).map Mc.kinded = kk2 at HNR hsn
        generalize Mc.signs s0 ((l.take i).map Mc.kinded) = sg at hN HNR hss hsg
        generalize (l.take i).map Mc.kinded = kk at hN HNR hkl hsn hsg
        have HG2 := Lib.hid hg2
        have HK2 := Lib.hid hk2
        clear hg2 hk2 hsg hsn hss hkl
        go_upto_region 7 with fail
        have hN1 := hN.alloc (.cells #[.int .i64 (1 + (m : Int)), .int .u64 (cn : Int)] 27)
        have e0 : (wr.alloc (.cells #[.int .i64 (1 + (m : Int)), .int .u64 (cn : Int)] 27)).cell? ⟨wr.heap.size, 0, none⟩ = some (.int .i64 (1 + (m : Int))) := by rw [World.cell?_alloc_mark]; rfl
        have e1 : (wr.alloc (.cells #[.int .i64 (1 + (m : Int)), .int .u64 (cn : Int)] 27)).cell? ⟨wr.heap.size, 1, none⟩ = some (.int .u64 (cn : Int)) := by rw [World.cell?_alloc_mark]; rfl
        obtain ⟨c0, c1, c2, f0, f1, f2⟩ := Row.three hN1.b.r
        have HN1 := Lib.hid hN1
        clear hN hN1 q0 q1
        generalize wr.alloc (.cells #[.int .i64 (1 + (m : Int)), .int .u64 (cn : Int)] 27) = x3 at HN1 e0 e1 c0 c1 c2 f0 f1 f2 ⊢
        generalize wr.heap.size = gc at e0 e1 ⊢
        go_wp2_with (go_at_call 12; (with_reducible refine (HNR.out _ (HL.out.below HN1.out.bel (Nat.le_refl _)) HN1.out.b.cv).mono ?_); rintro e y ⟨v', rfl, hcv, hby, hfr⟩; obtain ⟨nn, hnn⟩ : ∃ nn, kk2.length = nn := ⟨_, rfl⟩; obtain ⟨a3, p3, rfl⟩ := hcv.form; rw [hnn] at hcv hfr ⊢; have HF2 := Lib.hid (hfr.le HN1.out.bel.size); clear hfr; have hNy := HN1.out.below hby; obtain ⟨d0, d1, d2, g0, g1, g2⟩ := Row.three hNy.b.r; have HNY := Lib.hid (hNy.lay (fun _ _ e => by cases e) sg2 hcv); clear hnn hcv hby hNy c0 c1 c2 f0 f1 f2 e0 e1)
        all_goals (
          have hfin := HNY.out
          unfold set3 at hfin
          clear HNY d0 d1 d2 g0 g1 g2
          generalize World.setCell _ _ _ = wz at hfin ⊢
          have HFIN := Lib.hid hfin
          clear hfin
          have hwi : IntKind.i64.wrap ((i : Int) + 1) = (i : Int) + 1 := by rw [IntKind.wrap_i64]; omega
          go_wp2_with fail
          refine ⟨⟨i + 1, a3, nn, p3, by omega, by omega, by go_num, ?_, HF2.out⟩, by simp only [intOf]; omega⟩
          rw [HG2.out, HK2.out]
          exact HFIN.out)
      · have h8' : ¬ (i : Int) < 8 := by omega
        have he : i = 8 := by omega
        have hkk : (l.take i).map Mc.kinded = Mc.lawCavs l := by rw [he]; rfl
        rw [hkk] at hN
        clear he hkk
        obtain ⟨c0, c1, c2, f0, f1, f2⟩ := Row.three hN.b.r
        obtain ⟨d0, d1, d2, g0, g1, g2⟩ := Row.three hN.r1
        have HN := Lib.hid hN
        clear hN
        go_wp2_with fail
        have hd := HN.out.done
        obtain ⟨o0, o1, o2, _⟩ := Row.three hd.1
        unfold set3 at hd o0 o1 o2
        clear c0 c1 c2 f0 f1 f2 d0 d1 d2 g0 g1 g2
        generalize World.setCell _ _ _ = wz at hd o0 o1 o2 ⊢
        refine bodyPost_ret (by simp [results, Tryd.results27, go_sem, o0, o1, o2]; try rfl) rfl ?_
        exact ⟨_, rfl, hd.2.1, hd.2.2, HFR.out⟩
    · have hlt' : ¬ (i : Int) < (l.length : Int) := by omega
      have hkk : (l.take i).map Mc.kinded = Mc.lawCavs l := by unfold Mc.lawCavs; rw [List.take_of_length_le (by omega), List.take_of_length_le (by omega)]
      rw [hkk] at hN
      clear hkk
      obtain ⟨c0, c1, c2, f0, f1, f2⟩ := Row.three hN.b.r
      obtain ⟨d0, d1, d2, g0, g1, g2⟩ := Row.three hN.r1
      have HN := Lib.hid hN
      clear hN
      go_wp2_with fail
      have hd := HN.out.done
      obtain ⟨o0, o1, o2, _⟩ := Row.three hd.1
      unfold set3 at hd o0 o1 o2
      clear c0 c1 c2 f0 f1 f2 d0 d1 d2 g0 g1 g2
      generalize World.setCell _ _ _ = wz at hd o0 o1 o2 ⊢
      refine bodyPost_ret (by simp [results, Tryd.results27, go_sem, o0, o1, o2]; try rfl) rfl ?_
      exact ⟨_, rfl, hd.2.1, hd.2.2, HFR.out⟩

end Go.Proofs.YtalncnblcfcmcaaDoor
