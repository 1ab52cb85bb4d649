/- The walks of mac.narrowed, New, Narrow. -/
import Derived.Test.YtalncnblcfcmcaaDoorMcFits
import Derived.Test.YtalncnblcfcmcaaDoorMcConcat
namespace Go.Proofs.YtalncnblcfcmcaaDoor
open Go.RowKit

namespace Mc
/-- a sum, narrowed by some caveats -/
def signs (s : ByteArray) (l : List Cav) : ByteArray := l.foldl (fun g c => signB g (putc c)) s
theorem signs_snoc (s : ByteArray) (l : List Cav) (c : Cav) : signs s (l ++ [c]) = signB (signs s l) (putc c) := by unfold signs; rw [List.foldl_append]; rfl
theorem signs_app (s : ByteArray) (l m : List Cav) : signs s (l ++ m) = signs (signs s l) m := by unfold signs; rw [List.foldl_append]
theorem signs_size (s : ByteArray) (l : List Cav) (h : s.size = 32) : (signs s l).size = 32 := by
  rcases List.eq_nil_or_concat l with rfl | ⟨l, c, rfl⟩
  · exact h
  · rw [List.concat_eq_append, signs_snoc]; rfl
theorem signs_le (s : ByteArray) (l : List Cav) (n : Nat) (hn : 32 ≤ n) (h : s.size ≤ n) : (signs s l).size ≤ n := by
  rcases List.eq_nil_or_concat l with rfl | ⟨l, c, rfl⟩
  · exact h
  · rw [List.concat_eq_append, signs_snoc]; exact hn
end Mc

theorem Row.three {w : World} {b : Nat} {a0 a1 a2 : Value} (h : Row w b [a0, a1, a2]) :
    w.cell? ⟨b, 0, none⟩ = some a0 ∧ w.cell? ⟨b, 1, none⟩ = some a1 ∧ w.cell? ⟨b, 2, none⟩ = some a2 ∧ w.frozen? ⟨b, 0, none⟩ = false ∧ w.frozen? ⟨b, 1, none⟩ = false ∧ w.frozen? ⟨b, 2, none⟩ = false :=
  ⟨(h 0 _ rfl).1, (h 1 _ rfl).1, (h 2 _ rfl).1, (h 0 _ rfl).2, (h 1 _ rfl).2, (h 2 _ rfl).2⟩

theorem CavsAt.setOther {x : World} {v : Value} {l : List Cav} (h : CavsAt x v l) {p : Addr} {z : Value} (hp : x.cell? p = some z) (hz : ∀ k n, z ≠ .int k n) (u : Value) : CavsAt (x.setCell p u) v l := by
  rcases h with h | h | ⟨b, off, cap, e, hlt, hc⟩
  · exact .inl h
  · exact .inr (.inl h)
  · refine .inr (.inr ⟨b, off, cap, e, by simpa using hlt, fun j hj => ?_⟩)
    have h0 := hc j hj
    refine ⟨(World.cell?_setCell_other _ _ _ _ ?_).trans h0.1, (World.cell?_setCell_other _ _ _ _ ?_).trans h0.2⟩
    · intro e'; rw [e', h0.1] at hp; cases hp; exact hz _ _ rfl
    · intro e'; rw [e', h0.2] at hp; cases hp; exact hz _ _ rfl
theorem CavsAt.drew {x : World} {v : Value} {l : List Cav} (h : CavsAt x v l) : CavsAt x.drew v l := h
theorem CavsAt.alloc {x : World} {v : Value} {l : List Cav} (h : CavsAt x v l) (o : Obj) : CavsAt (x.alloc o) v l := h.below ((Below.refl x.heap.size x).alloc (Nat.le_refl _) o) (Nat.le_refl _)
theorem CavsAt.get {x : World} {v : Value} {l : List Cav} (h : CavsAt x v l) : (∃ a cap, v = .slice a l.length cap) ∧ ∀ j (hj : j < l.length), ∃ b off cap, v = .slice (some ⟨b, off, none⟩) l.length cap ∧ x.cell? ⟨b, off + j * 2, none⟩ = some (.int .i64 l[j].k) ∧ x.cell? ⟨b, off + j * 2 + 1, none⟩ = some (.int .u64 (l[j].n : Int)) := by
  refine ⟨h.form, fun j hj => ?_⟩
  rcases h with ⟨_, rfl⟩ | ⟨_, _, _, rfl⟩ | ⟨b, off, cap, e, hlt, hc⟩
  · simp at hj
  · simp at hj
  · exact ⟨b, off, cap, e, hc j hj⟩

/-- the variables of narrowed -/
structure Nw (w x : World) (t : ByteArray) (v : Value) (sig : ByteArray) (k : List Cav) : Prop where
  r0 : Row x w.heap.size [.string t, v, .string sig]
  r1 : Row x (w.heap.size + 1) [.string ⟨#[]⟩, .slice none 0 0, .string ⟨#[]⟩]
  cv : CavsAt x v k
  b : Below w.heap.size w x
  lt : w.heap.size + 1 < x.heap.size
theorem Nw.drew {w x : World} {t : ByteArray} {v : Value} {sig : ByteArray} {k : List Cav} (h : Nw w x t v sig k) : Nw w x.drew t v sig k := ⟨h.r0, h.r1, h.cv, h.b.drew, h.lt⟩
theorem Nw.below {w x y : World} {t : ByteArray} {v : Value} {sig : ByteArray} {k : List Cav} (h : Nw w x t v sig k) (hb : Below x.heap.size x y) : Nw w y t v sig k :=
  have := h.lt
  ⟨h.r0.below hb (by omega), h.r1.below hb h.lt, h.cv.below hb (Nat.le_refl _), h.b.trans (hb.mono h.b.size), Nat.lt_of_lt_of_le h.lt hb.size⟩
theorem Nw.alloc {w x : World} {t : ByteArray} {v : Value} {sig : ByteArray} {k : List Cav} (h : Nw w x t v sig k) (o : Obj) : Nw w (x.alloc o) t v sig k := h.below ((Below.refl _ _).alloc (Nat.le_refl _) o)
theorem Nw.sig {w x : World} {t : ByteArray} {v : Value} {sig : ByteArray} {k : List Cav} (h : Nw w x t v sig k) (g : ByteArray) : Nw w (x.setCell ⟨w.heap.size, 2, none⟩ (.string g)) t v g k :=
  ⟨h.r0.set 2 (.string g) (by simp), h.r1.other _ (by omega), h.cv.setOther (Row.three h.r0).2.2.1 (fun _ _ e => by cases e) _, h.b.setCell (p := ⟨w.heap.size, 2, none⟩) (Nat.le_refl _) _, by simpa using h.lt⟩

def set3 (w : World) (b : Nat) (v0 v1 v2 : Value) : World := ((w.setCell ⟨b, 0, none⟩ v0).setCell ⟨b, 1, none⟩ v1).setCell ⟨b, 2, none⟩ v2
theorem Nw.done {w x : World} {t : ByteArray} {v : Value} {sig : ByteArray} {k : List Cav} (h : Nw w x t v sig k) :
    Row (set3 x (w.heap.size + 1) (.string t) v (.string sig)) (w.heap.size + 1) [.string t, v, .string sig] ∧ CavsAt (set3 x (w.heap.size + 1) (.string t) v (.string sig)) v k ∧ Below w.heap.size w (set3 x (w.heap.size + 1) (.string t) v (.string sig)) := by
  have r1 := h.r1.set 0 (.string t) (by simp)
  have r2 := r1.set 1 v (by simp)
  have r3 := r2.set 2 (.string sig) (by simp)
  have k1 := h.cv.setOther (Row.three h.r1).1 (fun _ _ e => by cases e) (.string t)
  have k2 := k1.setOther (Row.three r1).2.1 (fun _ _ e => by cases e) v
  have k3 := k2.setOther (Row.three r2).2.2.1 (fun _ _ e => by cases e) (.string sig)
  exact ⟨r3, k3, ((h.b.setCell (p := ⟨w.heap.size + 1, 0, none⟩) (by show w.heap.size ≤ w.heap.size + 1; omega) _).setCell (p := ⟨w.heap.size + 1, 1, none⟩) (by show w.heap.size ≤ w.heap.size + 1; omega) _).setCell (p := ⟨w.heap.size + 1, 2, none⟩) (by show w.heap.size ≤ w.heap.size + 1; omega) _⟩
theorem Nw.cavs {w x : World} {t : ByteArray} {v : Value} {sig : ByteArray} {k : List Cav} (h : Nw w x t v sig k) (hv : ∀ i n, v ≠ .int i n) {v2 : Value} {k2 : List Cav} (h2 : CavsAt x v2 k2) : Nw w (x.setCell ⟨w.heap.size, 1, none⟩ v2) t v2 sig k2 :=
  ⟨h.r0.set 1 v2 (by simp), h.r1.other _ (by omega), h2.setOther (Row.three h.r0).2.1 hv _, h.b.setCell (p := ⟨w.heap.size, 1, none⟩) (Nat.le_refl _) _, by simpa using h.lt⟩

set_option maxHeartbeats 4000000 in
theorem narrowed_new (t : ByteArray) (v : Value) (l : List Cav) (s : ByteArray) (u : Value) (m : List Cav) (w : World) (hL : Laid w) (hv : CavsAt w v l) (hu : CavsAt w u m)
    (hl : l.length ≤ 1000) (hm : m.length ≤ 1000) (hs : s.size ≤ 281474976710656) (hok : ∀ c ∈ m, c.n < 18446744073709551616) :
    Calls Tryd.prog 29 #[tokv t v s, u] w fun e w' => ∃ v', e = .returned (tokv t v' (Mc.signs s m)) ∧ CavsAt w' v' (l ++ m) ∧ Below w.heap.size w w' ∧ Fresh w.heap.size v' := by
  obtain ⟨a1, p1, rfl⟩ := hv.form
  obtain ⟨a2, p2, rfl⟩ := hu.form
  unfold tokv
  have HV := Lib.hid hv
  have HU := Lib.hid hu
  have HL := Lib.hid hL
  clear hv hu hL
  have hmi : (m.length : Int) ≤ 1000 := by omega
  go_enter Tryd.func29, Tryd.ntmps29
  go_upto_region 1 with fail
  have hN1 : Nw w ((w.alloc (.cells #[.string t, .slice a1 l.length p1, .string s] 24)).alloc (.cells #[.string ⟨#[]⟩, .slice none 0 0, .string ⟨#[]⟩] 24)) t (.slice a1 l.length p1) s l :=
    ⟨Row.alloc (Row.at rfl (by simp)) (by simp) _, Row.at (by simp) (by simp), (HV.out.alloc _).alloc _, by go_grown, by simp⟩
  generalize (w.alloc (.cells #[.string t, .slice a1 l.length p1, .string s] 24)).alloc (.cells #[.string ⟨#[]⟩, .slice none 0 0, .string ⟨#[]⟩] 24) = x1 at hN1 ⊢
  have HN := Lib.hid hN1
  obtain ⟨c0, c1, c2, f0, f1, f2⟩ := Row.three hN1.r0
  clear hN1
  have HC := Lib.hid (Concat_new (.slice a1 l.length p1) (.slice a2 m.length p2) l m x1.heap.size (x1.alloc (.cells #[.slice a1 l.length p1, .slice a2 m.length p2] 22)) (by rw [World.cell?_alloc_mark]; rfl) (by rw [World.cell?_alloc_mark]; rfl) (by simp)
    (HN.out.cv.alloc _) ((HU.out.below HN.out.b (Nat.le_refl _)).alloc _) hl hm)
  obtain ⟨kl, hkl⟩ : ∃ kl, l ++ m = kl := ⟨_, rfl⟩
  rw [hkl] at HC
  have HKL := Lib.hid hkl
  clear hkl
  go_wp2_with (go_at_call 51; refine HC.out.mono ?_; rintro e x2 ⟨v', rfl, hcv, hb2, hfr⟩; obtain ⟨a3, p3, rfl⟩ := hcv.form; have HFR := Lib.hid (hfr.le (show w.heap.size ≤ (x1.alloc (.cells #[.slice a1 l.length p1, .slice a2 m.length p2] 22)).heap.size from by have := HN.out.lt; simp; omega)); clear hfr; have hN2 := (HN.out.alloc (.cells #[.slice a1 l.length p1, .slice a2 m.length p2] 22)).below hb2; obtain ⟨d0, d1, d2, g0, g1, g2⟩ := Row.three hN2.r0)
  have hN3 := hN2.cavs (fun _ _ e => by cases e) hcv
  have HN3 := Lib.hid hN3
  clear hN3 hN2 hcv hb2 HC HN c0 c1 c2 f0 f1 f2 d0 d1 d2 g0 g1 g2
  generalize World.setCell x2 _ _ = x3 at HN3 ⊢
  go_loopw [15] (fun s15 wr => ∃ i : Nat, i ≤ m.length ∧ s15 = .int .i64 (i : Int) ∧ Nw w wr t (.slice a3 kl.length p3) (Mc.signs s (m.take i)) kl) (fun s15 _ => m.length - (intOf s15).toNat)
  case atStart => exact ⟨0, by omega, rfl, HN3.out⟩
  case round =>
    clear HN3
    obtain ⟨i, hi, rfl, hN⟩ := hrel
    by_cases hlt : i < m.length
    · have hlt' : (i : Int) < (m.length : Int) := by omega
      have hi0 : (0 : Int) ≤ (i : Int) := by omega
      obtain ⟨b, off, cap, hfu, q0, q1⟩ := ((HU.out.below hN.b (Nat.le_refl _)).get).2 i hlt
      cases hfu
      have hsn : Mc.signs s (m.take (i + 1)) = Mc.signB (Mc.signs s (m.take i)) (Mc.putc m[i]) := by
        rw [List.take_add_one, List.getElem?_eq_getElem hlt]; exact Mc.signs_snoc _ _ _
      have hsz := Mc.signs_le s (m.take i) 281474976710656 (by omega) hs
      have hok2 := hok m[i] (List.getElem_mem hlt)
      generalize m[i] = c at hsn hok2 q0 q1
      generalize Mc.signs s (m.take i) = sg at hsn hsz hN
      have HPC := Lib.hid (fun y => putc_any c y hok2)
      have hps := Mc.putc_size c
      have HSG := Lib.hid (fun y (h : Laid y) => Sign_any sg (Mc.putc c) y h hsz (by omega))
      rw [← hsn] at HSG
      generalize Mc.putc c = pc at HPC HSG
      generalize hs2 : Mc.signs s (m.take (i + 1)) = sg2 at HSG
      have HS2 := Lib.hid hs2
      clear hs2 hsn
      obtain ⟨ck, cn⟩ := c
      unfold Cav.val Cav.cells at HPC
      simp only at q0 q1
      go_upto_region 5 with fail
      have hN1 := (hN.alloc (.cells #[.int .i64 ck, .int .u64 (cn : Int)] 27)).drew
      have e0 : (wr.alloc (.cells #[.int .i64 ck, .int .u64 (cn : Int)] 27)).drew.cell? ⟨wr.heap.size, 0, none⟩ = some (.int .i64 ck) := by
        show (wr.alloc (.cells #[.int .i64 ck, .int .u64 (cn : Int)] 27)).cell? ⟨wr.heap.size, 0, none⟩ = _
        rw [World.cell?_alloc_mark]; rfl
      have e1 : (wr.alloc (.cells #[.int .i64 ck, .int .u64 (cn : Int)] 27)).drew.cell? ⟨wr.heap.size, 1, none⟩ = some (.int .u64 (cn : Int)) := by
        show (wr.alloc (.cells #[.int .i64 ck, .int .u64 (cn : Int)] 27)).cell? ⟨wr.heap.size, 1, none⟩ = _
        rw [World.cell?_alloc_mark]; rfl
      have hlt1 : wr.heap.size < (wr.alloc (.cells #[.int .i64 ck, .int .u64 (cn : Int)] 27)).drew.heap.size := by show wr.heap.size < (wr.alloc _).heap.size; simp
      obtain ⟨c0, c1, c2, f0, f1, f2⟩ := Row.three hN1.r0
      have HN := Lib.hid hN1
      clear hN hN1 q0 q1 c0 c1 f0 f1
      go_region_with ((first
        | (go_at_call 47; ((with_reducible refine (HPC.out _).mono ?_); rintro e y ⟨rfl, hby⟩; have hNy := HN.out.below hby; have d2 := (Row.three hNy.r0).2.2.1; have g2 := (Row.three hNy.r0).2.2.2.2.2; have HN2 := Lib.hid hNy; clear hby hNy))
        | (go_at_call 18; ((with_reducible refine (HSG.out _ (HL.out.below HN2.out.b (Nat.le_refl _))).mono ?_); rintro e z ⟨rfl, hbz⟩; have hNz := HN2.out.below hbz; have j2 := (Row.three hNz.r0).2.2.1; have k2 := (Row.three hNz.r0).2.2.2.2.2; have HN3 := Lib.hid hNz; clear hbz hNz))))
      all_goals (
        have hfin := HN3.out.sig sg2
        have HFIN := Lib.hid hfin
        clear hfin
        go_wp2_with fail
        refine ⟨⟨i + 1, by omega, by go_num, ?_⟩, by simp only [intOf]; omega⟩
        rw [HS2.out]
        exact HFIN.out)
    · obtain rfl : i = m.length := by omega
      have hlt' : ¬ (m.length : Int) < (m.length : Int) := by omega
      rw [List.take_length] at hN
      obtain ⟨c0, c1, c2, f0, f1, f2⟩ := Row.three hN.r0
      obtain ⟨d0, d1, d2, g0, g1, g2⟩ := Row.three hN.r1
      have HN := Lib.hid hN
      clear hN
      go_wp2_with fail
      have hd := HN.out.done
      obtain ⟨o0, o1, o2, _⟩ := Row.three hd.1
      unfold set3 at hd o0 o1 o2
      clear c0 c1 c2 f0 f1 f2 d0 d1 d2 g0 g1 g2
      generalize World.setCell _ _ _ = wz at hd o0 o1 o2 ⊢
      refine bodyPost_ret (by simp [results, Tryd.results29, go_sem, o0, o1, o2]; try rfl) rfl ?_
      exact ⟨_, rfl, HKL.out ▸ hd.2.1, hd.2.2, HFR.out⟩

theorem narrowed_any (t : ByteArray) (v : Value) (l : List Cav) (s : ByteArray) (u : Value) (m : List Cav) (w : World) (hL : Laid w) (hv : CavsAt w v l) (hu : CavsAt w u m)
    (hl : l.length ≤ 1000) (hm : m.length ≤ 1000) (hs : s.size ≤ 281474976710656) (hok : ∀ c ∈ m, c.n < 18446744073709551616) :
    Calls Tryd.prog 29 #[tokv t v s, u] w fun e w' => ∃ v', e = .returned (tokv t v' (Mc.signs s m)) ∧ CavsAt w' v' (l ++ m) ∧ Below w.heap.size w w' := by
  refine (narrowed_new t v l s u m w hL hv hu hl hm hs hok).mono ?_
  rintro e w' ⟨v, h1, h2, h3, _⟩
  exact ⟨v, h1, h2, h3⟩

end Go.Proofs.YtalncnblcfcmcaaDoor
