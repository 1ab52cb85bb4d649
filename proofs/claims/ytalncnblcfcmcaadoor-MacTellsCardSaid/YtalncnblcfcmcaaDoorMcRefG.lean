/- The walk of the laws' own sameT, at two tokens that are the same. -/
import Derived.Test.YtalncnblcfcmcaaDoorMcRefC
namespace Go.Proofs.YtalncnblcfcmcaaDoor
open Go.RowKit

/-- the variables of refT -/
structure Rt (w x : World) (t : ByteArray) (v : Value) (s : ByteArray) (v2 : Value) (k : List Cav) : Prop where
  bx : Row x w.heap.size [.string t, v, .string s]
  z : Row x (w.heap.size + 1) [.string ⟨#[]⟩, .slice none 0 0, .string ⟨#[]⟩]
  o : Row x (w.heap.size + 1 + 1) [.string t, v2, .string s]
  own : x.ownsRow (w.heap.size + 3) 41 2 v2 k.length (cavCells k)
  b : Below w.heap.size w x
  lt : w.heap.size + 2 < x.heap.size
theorem Rt.below {w x y : World} {t : ByteArray} {v : Value} {s : ByteArray} {v2 : Value} {k : List Cav} (h : Rt w x t v s v2 k) (hb : Below x.heap.size x y) : Rt w y t v s v2 k :=
  have := h.lt
  ⟨h.bx.below hb (by omega), h.z.below hb (by omega), h.o.below hb (by omega), own_below2 h.own hb, h.b.trans (hb.mono h.b.size), Nat.lt_of_lt_of_le h.lt hb.size⟩
theorem Rt.alloc {w x : World} {t : ByteArray} {v : Value} {s : ByteArray} {v2 : Value} {k : List Cav} (h : Rt w x t v s v2 k) (o : Obj) : Rt w (x.alloc o) t v s v2 k := h.below ((Below.refl _ _).alloc (Nat.le_refl _) o)
theorem Rt.drew {w x : World} {t : ByteArray} {v : Value} {s : ByteArray} {v2 : Value} {k : List Cav} (h : Rt w x t v s v2 k) : Rt w x.drew t v s v2 k := h.below (Below.refl _ _).drew
theorem Rt.grown {w x y : World} {t : ByteArray} {v : Value} {s : ByteArray} {v2 : Value} {k : List Cav} (h : Rt w x t v s v2 k) (hg : x.grownBy y v2.ownBlock) : Below (w.heap.size + 3) x y :=
  (Below.refl _ _).grown hg (by have := h.lt; omega) (fun j e => (h.own.lt j e).1)
theorem Rt.row {w x y : World} {t : ByteArray} {v : Value} {s : ByteArray} {v2 : Value} {k : List Cav} (h : Rt w x t v s v2 k) (hg : x.grownBy y v2.ownBlock) : Row y (w.heap.size + 1 + 1) [.string t, v2, .string s] :=
  h.o.below (h.grown hg) (by omega)
theorem Rt.more {w x y : World} {t : ByteArray} {v v2 v3 : Value} {s : ByteArray} {k k2 : List Cav} (h : Rt w x t v s v2 k) (ho : y.ownsRow (w.heap.size + 3) 41 2 v3 k2.length (cavCells k2)) (hg : x.grownBy y v2.ownBlock) :
    Rt w (y.setCell ⟨w.heap.size + 1 + 1, 1, none⟩ v3) t v s v3 k2 := by
  have hb := h.grown hg
  have hl := h.lt
  exact ⟨(h.bx.below hb (by omega)).other _ (by omega), (h.z.below hb (by omega)).other _ (by omega), (h.o.below hb (by omega)).set 1 v3 (by simp),
    ownsRow_setCell_below ho (by show w.heap.size + 1 + 1 < w.heap.size + 3; omega) _,
    (h.b.trans (hb.mono (by omega))).setCell (p := ⟨w.heap.size + 1 + 1, 1, none⟩) (by show w.heap.size ≤ w.heap.size + 1 + 1; omega) _, by have := hb.size; simp; omega⟩
theorem Rt.done {w x : World} {t : ByteArray} {v : Value} {s : ByteArray} {v2 : Value} {k : List Cav} (h : Rt w x t v s v2 k) :
    Row (set3 x (w.heap.size + 1) (.string t) v2 (.string s)) (w.heap.size + 1) [.string t, v2, .string s] ∧ CavsAt (set3 x (w.heap.size + 1) (.string t) v2 (.string s)) v2 k ∧ Below w.heap.size w (set3 x (w.heap.size + 1) (.string t) v2 (.string s)) := by
  have r1 := h.z.set 0 (.string t) (by simp)
  have r2 := r1.set 1 v2 (by simp)
  have r3 := r2.set 2 (.string s) (by simp)
  have k1 := (CavsAt.ownR h.own).setOther (Row.three h.z).1 (fun _ _ e => by cases e) (.string t)
  have k2 := k1.setOther (Row.three r1).2.1 (fun _ _ e => by cases e) v2
  have k3 := k2.setOther (Row.three r2).2.2.1 (fun _ _ e => by cases e) (.string s)
  exact ⟨r3, k3, ((h.b.setCell (p := ⟨w.heap.size + 1, 0, none⟩) (by show w.heap.size ≤ w.heap.size + 1; omega) _).setCell (p := ⟨w.heap.size + 1, 1, none⟩) (by show w.heap.size ≤ w.heap.size + 1; omega) _).setCell (p := ⟨w.heap.size + 1, 2, none⟩) (by show w.heap.size ≤ w.heap.size + 1; omega) _⟩

set_option maxRecDepth 100000 in
set_option maxHeartbeats 8000000 in
theorem refT_any (t : ByteArray) (v : Value) (l : List Cav) (s : ByteArray) (w : World) (hv : CavsAt w v l) (hl : l.length ≤ 1000) (hok : ∀ c ∈ l, c.n < 18446744073709551616) :
    Calls Tryd.prog 11 #[tokv t v s] w fun e w' => ∃ v', e = .returned (tokv t v' s) ∧ CavsAt w' v' l ∧ Below w.heap.size w w' := by
  obtain ⟨a, cap, rfl⟩ := hv.form
  have hli : (l.length : Int) ≤ 1000 := by omega
  have HV := Lib.hid hv
  have HOK := Lib.hid hok
  unfold tokv
  clear hv hok
  go_enter Tryd.func11, Tryd.ntmps11
  go_upto_region 2 with fail
  have hR : Rt w (((w.alloc (.cells #[.string t, .slice a l.length cap, .string s] 24)).alloc (.cells #[.string ⟨#[]⟩, .slice none 0 0, .string ⟨#[]⟩] 31)).alloc (.cells #[.string t, .slice none 0 0, .string s] 31)) t (.slice a l.length cap) s (.slice none 0 0) [] :=
    ⟨Row.alloc (Row.alloc (Row.at rfl (by simp)) (by simp) _) (by simp <;> omega) _, Row.alloc (Row.at (by simp) (by simp)) (by simp) _, Row.at (by simp) (by simp), World.ownsRow_nil _ _ _ _, by go_grown, by simp⟩
  generalize (((w.alloc (.cells #[.string t, .slice a l.length cap, .string s] 24)).alloc (.cells #[.string ⟨#[]⟩, .slice none 0 0, .string ⟨#[]⟩] 31)).alloc (.cells #[.string t, .slice none 0 0, .string s] 31)) = x at hR ⊢
  have HR := Lib.hid hR
  clear hR
  go_wp2_with fail
  go_loopw [4] (fun s4 wr => ∃ (i : Nat) (a2 : Option Addr) (n2 p2 : Nat), i ≤ l.length ∧ s4 = .int .i64 (i : Int) ∧ Rt w wr t (.slice a l.length cap) s (.slice a2 n2 p2) (l.take i)) (fun s4 _ => l.length - (intOf s4).toNat)
  case atStart => exact ⟨0, none, 0, 0, by omega, rfl, HR.out⟩
  case round =>
    clear HR
    obtain ⟨i, a2, n2, p2, hi, rfl, hN⟩ := hrel
    have hi0 : (0 : Int) ≤ (i : Int) := by omega
    by_cases hlt : i < l.length
    · have hlt' : (i : Int) < (l.length : Int) := by omega
      have hcv := HV.out.below hN.b (Nat.le_refl _)
      obtain ⟨b, off, cp, hfu, q0, q1⟩ := hcv.get.2 i hlt
      cases hfu
      have hsn : l.take (i + 1) = l.take i ++ [l[i]] := by rw [List.take_add_one, List.getElem?_eq_getElem hlt]; rfl
      have hkl : (l.take i).length = i := by simp; omega
      have hck := HOK.out l[i] (List.getElem_mem hlt)
      have qq := (hcv.alloc (.cells #[.int .i64 l[i].k, .int .u64 (l[i].n : Int)] 41)).get.2 i hlt
      generalize l[i] = c at q0 q1 hsn qq hck
      obtain ⟨ck, cn⟩ := c
      simp only at q0 q1 hsn qq hck
      obtain ⟨b', off', cp', hfu, y0, y1⟩ := qq
      cases hfu
      obtain ⟨k, hk⟩ : ∃ k, l.take i = k := ⟨_, rfl⟩
      rw [hk] at hN hsn hkl
      have HSN := Lib.hid hsn
      have HN := Lib.hid hN
      obtain ⟨c0, c1, c2, f0, f1, f2⟩ := Row.three hN.bx
      obtain ⟨d0, d1, d2, g0, g1, g2⟩ := Row.three hN.o
      obtain ⟨z0, z1, z2, _⟩ := Row.three (hN.alloc (.cells #[.int .i64 ck, .int .u64 (cn : Int)] 41)).bx
      obtain ⟨e0, e1, e2, _⟩ := Row.three (hN.alloc (.cells #[.int .i64 ck, .int .u64 (cn : Int)] 41)).o
      clear hN hsn hcv hk
      go_upto_region 5 with fail
      go_region_law ((refine step_append_rcavs (by rfl) _ _ (by rfl) (w.heap.size + 3) (.slice a2 n2 p2) k (by rfl) (by first | exact (HN.out.alloc _).own | exact (HN.out.alloc _).drew.own | exact (HN.out.drew.alloc _).own) _ [⟨ck, cn⟩] (by rfl) (by first | exact CavsAt.oneR _ ck cn | exact (CavsAt.oneR _ ck cn).drew) (by simp; omega) (by have := HN.out.lt; simp; omega) ?_; intro v3 w3 hown3 hg3; obtain ⟨a3, p3, hf3⟩ := (CavsAt.ownR hown3).form; obtain ⟨n3, hn3⟩ : ∃ n3, (k ++ [(⟨ck, cn⟩ : Cav)]).length = n3 := ⟨_, rfl⟩; rw [hn3] at hf3; subst hf3; clear hn3; have hr3 := Row.three (Rt.row (by first | exact HN.out.alloc _ | exact (HN.out.alloc _).drew | exact HN.out.drew.alloc _) hg3); obtain ⟨k0, k1, k2, j0, j1, j2⟩ := hr3))
      all_goals (
        have hM := Rt.more (by first | exact HN.out.alloc (.cells #[.int .i64 ck, .int .u64 (cn : Int)] 41) | exact (HN.out.alloc (.cells #[.int .i64 ck, .int .u64 (cn : Int)] 41)).drew | exact HN.out.drew.alloc (.cells #[.int .i64 ck, .int .u64 (cn : Int)] 41)) hown3 hg3
        clear hown3 hg3 c0 c1 c2 f0 f1 f2 d0 d1 d2 g0 g1 g2 z0 z1 z2 e0 e1 e2 q0 q1 y0 y1 k0 k1 k2 j0 j1 j2
        generalize World.setCell w3 _ _ = wz at hM ⊢
        have HM := Lib.hid hM
        clear hM
        have hwi : IntKind.i64.wrap ((i : Int) + 1) = (i : Int) + 1 := by rw [IntKind.wrap_i64]; omega
        go_wp2_with fail
        refine ⟨⟨i + 1, a3, n3, p3, by omega, by go_num, ?_⟩, by simp only [intOf]; omega⟩
        rw [HSN.out]
        exact HM.out)
    · obtain rfl : i = l.length := by omega
      have hlt' : ¬ (l.length : Int) < (l.length : Int) := by omega
      rw [List.take_length] at hN
      have HN := Lib.hid hN
      obtain ⟨c0, c1, c2, f0, f1, f2⟩ := Row.three hN.bx
      obtain ⟨d0, d1, d2, g0, g1, g2⟩ := Row.three hN.o
      obtain ⟨z0, z1, z2, h0, h1, h2⟩ := Row.three hN.z
      clear hN
      go_wp2_with fail
      have hd := HN.out.done
      obtain ⟨o0, o1, o2, _⟩ := Row.three hd.1
      unfold set3 at hd o0 o1 o2
      clear c0 c1 c2 f0 f1 f2 d0 d1 d2 g0 g1 g2 z0 z1 z2 h0 h1 h2
      generalize World.setCell _ _ _ = wz at hd o0 o1 o2 ⊢
      refine bodyPost_ret (by simp [results, Tryd.results11, go_sem, o0, o1, o2]; try rfl) rfl ?_
      exact ⟨_, rfl, hd.2.1, hd.2.2⟩

end Go.Proofs.YtalncnblcfcmcaaDoor

namespace Go.Proofs.YtalncnblcfcmcaaDoor
open Go.RowKit

set_option maxRecDepth 100000 in
set_option maxHeartbeats 8000000 in
theorem sameT_any (t : ByteArray) (v v2 : Value) (l : List Cav) (s : ByteArray) (w : World) (hv : CavsAt w v l) (hv2 : CavsAt w v2 l) (hl : l.length ≤ 1000) (hok : ∀ c ∈ l, c.n < 18446744073709551616) :
    Calls Tryd.prog 16 #[tokv t v s, tokv t v2 s] w fun e w' => e = .returned (.bool true) ∧ Below w.heap.size w w' := by
  have HRT := Lib.hid (fun y (h : CavsAt y v l) => refT_any t v l s y h hl hok)
  obtain ⟨a, cap, rfl⟩ := hv.form
  obtain ⟨a2, cap2, rfl⟩ := hv2.form
  obtain ⟨m, hm⟩ : ∃ m, l.length = m := ⟨_, rfl⟩
  rw [hm] at hv hv2 HRT ⊢
  have HNL := Lib.hid hm
  have hmi : (m : Int) ≤ 1000 := by omega
  have HV := Lib.hid hv
  have HV2 := Lib.hid hv2
  unfold tokv at HRT ⊢
  clear hv hv2 hok hm
  go_enter Tryd.func16, Tryd.ntmps16
  go_upto_region 1 with fail
  have hA : Box ((w.alloc (.cells #[.string t, .slice a m cap, .string s] 24)).alloc (.cells #[.string t, .slice a2 m cap2, .string s] 31)) w.heap.size t (.slice a m cap) s l := (Box.new w t a m cap s HV.out).alloc _
  have hO : Box ((w.alloc (.cells #[.string t, .slice a m cap, .string s] 24)).alloc (.cells #[.string t, .slice a2 m cap2, .string s] 31)) (w.heap.size + 1) t (.slice a2 m cap2) s l := ⟨Row.at (by simp) (by simp), (HV2.out.alloc _).alloc _, by simp⟩
  have hb : Below w.heap.size w ((w.alloc (.cells #[.string t, .slice a m cap, .string s] 24)).alloc (.cells #[.string t, .slice a2 m cap2, .string s] 31)) := by go_grown
  generalize ((w.alloc (.cells #[.string t, .slice a m cap, .string s] 24)).alloc (.cells #[.string t, .slice a2 m cap2, .string s] 31)) = x at hA hO hb ⊢
  obtain ⟨c0, c1, c2, _⟩ := Row.three hA.r
  have HA := Lib.hid hA
  have HO := Lib.hid hO
  have HB := Lib.hid hb
  clear hA hO hb
  obtain ⟨bt, hbt⟩ : ∃ b, w.heap.size + 1 = b := ⟨_, rfl⟩
  rw [hbt] at HO
  simp only [hbt]
  have HBT := Lib.hid hbt
  clear hbt
  go_upto_region 2 with (go_at_call 11; (with_reducible refine (HRT.out _ HA.out.cv).mono ?_); rintro e y ⟨v', rfl, hcv, hby⟩; obtain ⟨a3, p3, rfl⟩ := hcv.form; rw [HNL.out] at hcv ⊢)
  have hK : Bk w (y.alloc (.cells #[.string t, .slice a3 m p3, .string s] 31)) bt y.heap.size t a2 a3 m cap2 p3 s l :=
    ⟨(HO.out.below hby).alloc _, Box.newR y t a3 m p3 s hcv, (HB.out.trans (hby.mono HB.out.size)).alloc (by have := HB.out.size; have := hby.size; omega) _⟩
  clear HA HO HB hby hcv HRT c0 c1 c2 HV HV2
  generalize y.alloc (.cells #[.string t, .slice a3 m p3, .string s] 31) = x2 at hK ⊢
  generalize y.heap.size = bu at hK ⊢
  have HK := Lib.hid hK
  obtain ⟨⟨d0, d1, d2⟩, ⟨c0, c1, c2⟩⟩ := hK.cells
  clear hK
  go_upto_region 4 with fail
  clear d0 d1 d2 c0 c1 c2
  go_wp2_with fail
  go_loopw [6] (fun s6 wr => ∃ i : Nat, i ≤ m ∧ s6 = .int .i64 (i : Int) ∧ Bk w wr bt bu t a2 a3 m cap2 p3 s l) (fun s6 _ => m - (intOf s6).toNat)
  case atStart => exact ⟨0, by omega, rfl, HK.out⟩
  case round =>
    clear HK
    obtain ⟨i, hi, rfl, hK⟩ := hrel
    have hi0 : (0 : Int) ≤ (i : Int) := by omega
    by_cases hlt : i < m
    · have hlt' : (i : Int) < (m : Int) := by omega
      obtain ⟨ga, oa, pa', hfu, ea0, ea1⟩ := (hK.t.cv.get).2 i (by rw [HNL.out]; omega)
      rw [HNL.out] at hfu
      cases hfu
      obtain ⟨gb, ob, pb', hfu, eb0, eb1⟩ := (hK.u.cv.get).2 i (by rw [HNL.out]; omega)
      rw [HNL.out] at hfu
      cases hfu
      have hj : i < l.length := by rw [HNL.out]; omega
      generalize l[i] = c at ea0 ea1 eb0 eb1
      obtain ⟨ck, cn⟩ := c
      simp only at ea0 ea1 eb0 eb1
      obtain ⟨⟨d0, d1, d2⟩, ⟨c0, c1, c2⟩⟩ := hK.cells
      have HK := Lib.hid hK
      have hwi : IntKind.i64.wrap ((i : Int) + 1) = (i : Int) + 1 := by rw [IntKind.wrap_i64]; omega
      clear hK hj
      go_upto_region 7 with fail
      go_quiet (fail)
      go_wp2_with fail
      refine ⟨⟨i + 1, by omega, by go_num, HK.out.below ⟨rfl, rfl, rfl, Nat.le_refl _, fun _ _ => rfl⟩⟩, by simp only [intOf]; omega⟩
    · have hlt' : ¬ (i : Int) < (m : Int) := by omega
      have HK := Lib.hid hK
      obtain ⟨⟨d0, d1, d2⟩, ⟨c0, c1, c2⟩⟩ := hK.cells
      clear hK
      go_wp2_with fail
      go_ret
      exact ⟨rfl, HK.out.b⟩

end Go.Proofs.YtalncnblcfcmcaaDoor
