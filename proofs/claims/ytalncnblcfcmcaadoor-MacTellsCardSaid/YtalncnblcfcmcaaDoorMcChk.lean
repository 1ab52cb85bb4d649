/- The walks of mac.New, Narrow, Check. -/
import Derived.Test.YtalncnblcfcmcaaDoorMcNar
import Derived.Deep.RegionHeld3
import Derived.KernelRfl
namespace Go.Proofs.YtalncnblcfcmcaaDoor
open Go.RowKit

namespace Mc
def check (key t : ByteArray) (l : List Cav) (s : ByteArray) : Bool := fits l && ((signs (signB key t) l).toList == s.toList)
end Mc

set_option maxHeartbeats 4000000 in
theorem New_any (key t : ByteArray) (w : World) (hL : Laid w) (hk : key.size ≤ 281474976710656) (ht : t.size ≤ 281474976710000) :
    Calls Tryd.prog 13 #[.string key, .string t] w fun e w' => e = .returned (tokv t (.slice none 0 0) (Mc.signB key t)) ∧ Below w.heap.size w w' := by
  have HS := Lib.hid (fun y (h : Laid y) => Sign_any key t y h hk ht)
  have HL := Lib.hid hL
  clear hL
  unfold tokv
  generalize Mc.signB key t = sg at HS ⊢
  go_enter Tryd.func13, Tryd.ntmps13
  go_upto_region 1 with fail
  have hr : Row (w.alloc (.cells #[.string ⟨#[]⟩, .slice none 0 0, .string ⟨#[]⟩] 24)) w.heap.size [.string ⟨#[]⟩, .slice none 0 0, .string ⟨#[]⟩] := Row.at rfl (by simp)
  have hb : Below w.heap.size w (w.alloc (.cells #[.string ⟨#[]⟩, .slice none 0 0, .string ⟨#[]⟩] 24)) := (Below.refl _ _).alloc (Nat.le_refl _) _
  have hlt : w.heap.size < (w.alloc (.cells #[.string ⟨#[]⟩, .slice none 0 0, .string ⟨#[]⟩] 24)).heap.size := by simp
  generalize w.alloc (.cells #[.string ⟨#[]⟩, .slice none 0 0, .string ⟨#[]⟩] 24) = x at hr hb hlt ⊢
  go_wp2_with (go_at_call 18; (with_reducible refine (HS.out _ (HL.out.below hb (Nat.le_refl _))).mono ?_); rintro e z ⟨rfl, hbz⟩; have hr2 := hr.below hbz hlt; obtain ⟨c0, c1, c2, f0, f1, f2⟩ := Row.three hr2)
  have hb2 := hb.trans (hbz.mono hb.size)
  have hr3 := ((hr2.set 0 (.string t) (by simp)).set 1 (.slice none 0 0) (by simp)).set 2 (.string sg) (by simp)
  have hb3 := ((hb2.setCell (p := ⟨w.heap.size, 0, none⟩) (Nat.le_refl _) (.string t)).setCell (p := ⟨w.heap.size, 1, none⟩) (Nat.le_refl _) (.slice none 0 0)).setCell (p := ⟨w.heap.size, 2, none⟩) (Nat.le_refl _) (.string sg)
  obtain ⟨o0, o1, o2, _⟩ := Row.three hr3
  generalize World.setCell _ _ _ = wz at hb3 o0 o1 o2 ⊢
  refine bodyPost_ret (by simp [results, Tryd.results13, go_sem, o0, o1, o2]; try rfl) rfl ?_
  exact ⟨rfl, hb3⟩

set_option maxHeartbeats 4000000 in
theorem Narrow_new (t : ByteArray) (v : Value) (l : List Cav) (s : ByteArray) (c : Cav) (w : World) (hL : Laid w) (hv : CavsAt w v l) (hl : l.length ≤ 1000) (hs : s.size ≤ 281474976710656) (hc : c.n < 18446744073709551616) :
    Calls Tryd.prog 12 #[tokv t v s, c.val] w fun e w' => ∃ v', e = .returned (tokv t v' (Mc.signB s (Mc.putc c))) ∧ CavsAt w' v' (l ++ [c]) ∧ Below w.heap.size w w' ∧ Fresh w.heap.size v' := by
  have HN := Lib.hid (fun y u (hL : Laid y) (hv : CavsAt y v l) (hu : CavsAt y u [c]) => narrowed_new t v l s u [c] y hL hv hu hl (by simp) hs (by simpa using hc))
  have HSG := Lib.hid (show Mc.signs s [c] = Mc.signB s (Mc.putc c) from rfl)
  rw [HSG.out] at HN
  generalize Mc.signB s (Mc.putc c) = sg at HN ⊢
  obtain ⟨kl, hkl⟩ : ∃ kl, l ++ [c] = kl := ⟨_, rfl⟩
  rw [hkl] at HN ⊢
  obtain ⟨ck, cn⟩ := c
  obtain ⟨a, cap, rfl⟩ := hv.form
  have HV := Lib.hid hv
  have HL := Lib.hid hL
  clear hL hv HSG hkl
  unfold tokv Cav.val Cav.cells
  unfold tokv at HN
  go_enter Tryd.func12, Tryd.ntmps12
  go_upto_region 1 with fail
  have r0 : Row (((w.alloc (.cells #[.string t, .slice a l.length cap, .string s] 24)).alloc (.cells #[.int .i64 ck, .int .u64 (cn : Int)] 27)).alloc (.cells #[.string ⟨#[]⟩, .slice none 0 0, .string ⟨#[]⟩] 24)) w.heap.size [.string t, .slice a l.length cap, .string s] := Row.alloc (Row.alloc (Row.at rfl (by simp)) (by simp) _) (by simp <;> omega) _
  have r1 : Row (((w.alloc (.cells #[.string t, .slice a l.length cap, .string s] 24)).alloc (.cells #[.int .i64 ck, .int .u64 (cn : Int)] 27)).alloc (.cells #[.string ⟨#[]⟩, .slice none 0 0, .string ⟨#[]⟩] 24)) (w.heap.size + 1) [.int .i64 ck, .int .u64 (cn : Int)] := Row.alloc (Row.at (by simp) (by simp)) (by simp) _
  have r2 : Row (((w.alloc (.cells #[.string t, .slice a l.length cap, .string s] 24)).alloc (.cells #[.int .i64 ck, .int .u64 (cn : Int)] 27)).alloc (.cells #[.string ⟨#[]⟩, .slice none 0 0, .string ⟨#[]⟩] 24)) (w.heap.size + 1 + 1) [.string ⟨#[]⟩, .slice none 0 0, .string ⟨#[]⟩] := Row.at (by simp) (by simp)
  have hb : Below w.heap.size w (((w.alloc (.cells #[.string t, .slice a l.length cap, .string s] 24)).alloc (.cells #[.int .i64 ck, .int .u64 (cn : Int)] 27)).alloc (.cells #[.string ⟨#[]⟩, .slice none 0 0, .string ⟨#[]⟩] 24)) := by go_grown
  have hsz : w.heap.size + 3 ≤ (((w.alloc (.cells #[.string t, .slice a l.length cap, .string s] 24)).alloc (.cells #[.int .i64 ck, .int .u64 (cn : Int)] 27)).alloc (.cells #[.string ⟨#[]⟩, .slice none 0 0, .string ⟨#[]⟩] 24)).heap.size := by simp
  generalize (((w.alloc (.cells #[.string t, .slice a l.length cap, .string s] 24)).alloc (.cells #[.int .i64 ck, .int .u64 (cn : Int)] 27)).alloc (.cells #[.string ⟨#[]⟩, .slice none 0 0, .string ⟨#[]⟩] 24)) = x at r0 r1 r2 hb hsz ⊢
  obtain ⟨c0, c1, c2, _⟩ := Row.three r0
  obtain ⟨d0, d1, _⟩ := Row.two r1
  have hba : Below x.heap.size x (x.alloc (.cells #[.int .i64 ck, .int .u64 (cn : Int)] 27)) := (Below.refl _ _).alloc (Nat.le_refl _) _
  have hb1 := hb.trans (hba.mono (by omega))
  have hcs : CavsAt (x.alloc (.cells #[.int .i64 ck, .int .u64 (cn : Int)] 27)) (.slice (some ⟨x.heap.size, 0, none⟩) 1 1) [⟨ck, cn⟩] := by
    refine .inr (.inr ⟨x.heap.size, 0, 1, rfl, by simp, fun j hj => ?_⟩)
    obtain rfl : j = 0 := by simpa using hj
    exact ⟨by rw [World.cell?_alloc_mark]; rfl, by rw [World.cell?_alloc_mark]; rfl⟩
  have HC := Lib.hid (HN.out _ _ (HL.out.below hb1 (Nat.le_refl _)) (HV.out.below hb1 (Nat.le_refl _)) hcs)
  have HB1 := Lib.hid hb1
  have r2a := r2.below hba (by omega)
  have R2 := Lib.hid r2a
  clear hb1 hcs HN r2 r2a r0 r1
  go_wp2_with (go_at_call 29; (with_reducible refine HC.out.mono ?_); rintro e z ⟨v', rfl, hcv, hbz, hfr⟩; obtain ⟨a3, p3, rfl⟩ := hcv.form; have HFR := Lib.hid (hfr.le (by have := HB1.out.size; omega)); clear hfr; have hr2 := R2.out.below hbz (by simp; omega); obtain ⟨k0, k1, k2, f0, f1, f2⟩ := Row.three hr2)
  have hb2 := HB1.out.trans (hbz.mono HB1.out.size)
  have s1 := hr2.set 0 (.string t) (by simp)
  have s2 := s1.set 1 (.slice a3 kl.length p3) (by simp)
  have s3 := s2.set 2 (.string sg) (by simp)
  have hb3 := ((hb2.setCell (p := ⟨w.heap.size + 1 + 1, 0, none⟩) (by show w.heap.size ≤ w.heap.size + 1 + 1; omega) (.string t)).setCell (p := ⟨w.heap.size + 1 + 1, 1, none⟩) (by show w.heap.size ≤ w.heap.size + 1 + 1; omega) (.slice a3 kl.length p3)).setCell (p := ⟨w.heap.size + 1 + 1, 2, none⟩) (by show w.heap.size ≤ w.heap.size + 1 + 1; omega) (.string sg)
  have q1 := hcv.setOther (Row.three hr2).1 (fun _ _ e => by cases e) (.string t)
  have q2 := q1.setOther (Row.three s1).2.1 (fun _ _ e => by cases e) (.slice a3 kl.length p3)
  have q3 := q2.setOther (Row.three s2).2.2.1 (fun _ _ e => by cases e) (.string sg)
  simp only [List.set_cons_zero, List.set_cons_succ] at s3
  obtain ⟨o0, o1, o2, _⟩ := Row.three s3
  clear c0 c1 c2 d0 d1 k0 k1 k2 f0 f1 f2 s1 s2 s3 q1 q2
  generalize World.setCell _ _ _ = wz at hb3 q3 o0 o1 o2 ⊢
  refine bodyPost_ret (by simp [results, Tryd.results12, go_sem, o0, o1, o2]; try rfl) rfl ?_
  exact ⟨_, rfl, q3, hb3, HFR.out⟩

theorem Narrow_any (t : ByteArray) (v : Value) (l : List Cav) (s : ByteArray) (c : Cav) (w : World) (hL : Laid w) (hv : CavsAt w v l) (hl : l.length ≤ 1000) (hs : s.size ≤ 281474976710656) (hc : c.n < 18446744073709551616) :
    Calls Tryd.prog 12 #[tokv t v s, c.val] w fun e w' => ∃ v', e = .returned (tokv t v' (Mc.signB s (Mc.putc c))) ∧ CavsAt w' v' (l ++ [c]) ∧ Below w.heap.size w w' := by
  refine (Narrow_new t v l s c w hL hv hl hs hc).mono ?_
  rintro e w' ⟨v, h1, h2, h3, _⟩
  exact ⟨v, h1, h2, h3⟩

theorem tok_field0 (t s : ByteArray) (a : Option Addr) (n c : Nat) (w : World) : (Instr.field 24 (.agg #[.string t, .slice a n c, .string s]) 0).run Tryd.prog w = .ok (.string t) w := by kernel_rfl
theorem tok_field1 (t s : ByteArray) (a : Option Addr) (n c : Nat) (w : World) : (Instr.field 24 (.agg #[.string t, .slice a n c, .string s]) 1).run Tryd.prog w = .ok (.slice a n c) w := by kernel_rfl
theorem tok_field2 (t s : ByteArray) (a : Option Addr) (n c : Nat) (w : World) : (Instr.field 24 (.agg #[.string t, .slice a n c, .string s]) 2).run Tryd.prog w = .ok (.string s) w := by kernel_rfl

/-- a boxed token behind calls -/
structure Bx (w y : World) (t : ByteArray) (v : Value) (s : ByteArray) (l : List Cav) : Prop where
  c0 : y.cell? ⟨w.heap.size, 0, none⟩ = some (.string t)
  c1 : y.cell? ⟨w.heap.size, 1, none⟩ = some v
  c2 : y.cell? ⟨w.heap.size, 2, none⟩ = some (.string s)
  lt : w.heap.size < y.heap.size
  cv : CavsAt y v l
  b : Below w.heap.size w y
theorem Bx.below {w y z : World} {t : ByteArray} {v : Value} {s : ByteArray} {l : List Cav} (h : Bx w y t v s l) (hb : Below y.heap.size y z) : Bx w z t v s l :=
  ⟨(hb.cell (p := ⟨w.heap.size, 0, none⟩) h.lt).trans h.c0, (hb.cell (p := ⟨w.heap.size, 1, none⟩) h.lt).trans h.c1, (hb.cell (p := ⟨w.heap.size, 2, none⟩) h.lt).trans h.c2, Nat.lt_of_lt_of_le h.lt hb.size, h.cv.below hb (Nat.le_refl _), h.b.trans (hb.mono h.b.size)⟩
theorem Bx.new (w : World) (t : ByteArray) (a : Option Addr) (n cap : Nat) (s : ByteArray) {l : List Cav} (hv : CavsAt w (.slice a n cap) l) : Bx w (w.alloc (.cells #[.string t, .slice a n cap, .string s] 24)).drew t (.slice a n cap) s l := by
  have h : Bx w (w.alloc (.cells #[.string t, .slice a n cap, .string s] 24)) t (.slice a n cap) s l :=
    ⟨by rw [World.cell?_alloc_mark]; rfl, by rw [World.cell?_alloc_mark]; rfl, by rw [World.cell?_alloc_mark]; rfl, by simp, hv.alloc _, (Below.refl _ _).alloc (Nat.le_refl _) _⟩
  exact ⟨h.c0, h.c1, h.c2, h.lt, h.cv, h.b.drew⟩

set_option maxRecDepth 100000 in
set_option maxHeartbeats 4000000 in
theorem Check_any (key t : ByteArray) (v : Value) (l : List Cav) (s : ByteArray) (w : World) (hL : Laid w) (hv : CavsAt w v l) (hk : key.size ≤ 281474976710656) (ht : t.size ≤ 281474976710000) (hbig : l.length ≤ 9223372036854775807) (hok : ∀ c ∈ l, c.n < 18446744073709551616) :
    Calls Tryd.prog 21 #[.string key, tokv t v s] w fun e w' => e = .returned (.bool (Mc.check key t l s)) ∧ Below w.heap.size w w' := by
  have hf2 := fun s a n c w => tok_field2 t s a n c w
  have HF := Lib.hid (fun y (h : CavsAt y v l) => fits_any t v l s y h hbig)
  have HNW := Lib.hid (fun y (h : Laid y) => New_any key t y h hk ht)
  have HCK := Lib.hid (show Mc.check key t l s = (Mc.fits l && ((Mc.signs (Mc.signB key t) l).toList == s.toList)) from rfl)
  generalize Mc.check key t l s = q at HCK ⊢
  have HL := Lib.hid hL
  clear hL
  by_cases hf : Mc.fits l = true
  · have hl8 : l.length ≤ 8 := by unfold Mc.fits at hf; simp at hf; exact hf.1
    have HNR := Lib.hid (fun y (hL : Laid y) (hu : CavsAt y v l) => narrowed_any t (.slice none 0 0) [] (Mc.signB key t) v l y hL (CavsAt.nil y) hu (by simp) (by omega) (by rw [Mc.signB_size]; omega) hok)
    rw [hf] at HF HCK
    generalize Mc.signB key t = sk at HNW HNR HCK
    generalize Mc.signs sk l = sl at HNR HCK
    obtain ⟨a, cap, rfl⟩ := hv.form
    have hK := Bx.new w t a l.length cap s hv
    unfold tokv at HF HNW HNR ⊢
    clear hv hf hl8
    go_enter Tryd.func21, Tryd.ntmps21
    go_upto_region 1 with fail
    generalize w.alloc (.cells #[.string t, .slice a l.length cap, .string s] 24) = x at hK ⊢
    have HK := Lib.hid hK
    clear hK
    go_region_held3 (fun y => y.cell? ⟨w.heap.size, 0, none⟩ = some (.string t) ∧ y.cell? ⟨w.heap.size, 1, none⟩ = some (.slice a l.length cap) ∧ y.cell? ⟨w.heap.size, 2, none⟩ = some (.string s)) (exact ⟨HK.out.c0, HK.out.c1, HK.out.c2⟩)
      ((first | (go_at_call 40; (with_reducible refine (HF.out _ HK.out.cv).mono ?_); rintro e u ⟨rfl, hbu⟩; have HKn := Lib.hid (HK.out.below hbu); clear HK hbu; have HK := HKn; clear HKn) | (go_at_call 13; (with_reducible refine (HNW.out _ (HL.out.below HK.out.b (Nat.le_refl _))).mono ?_); rintro e u ⟨rfl, hbu⟩; have HKn := Lib.hid (HK.out.below hbu); clear HK hbu; have HK := HKn; clear HKn) | (go_at_call 29; (with_reducible refine (HNR.out _ (HL.out.below HK.out.b (Nat.le_refl _)) HK.out.cv).mono ?_); rintro e u ⟨v2, rfl, hcv2, hbu⟩; obtain ⟨a4, p4, rfl⟩ := hcv2.form; clear hcv2; have HKn := Lib.hid (HK.out.below hbu); clear HK hbu; have HK := HKn; clear HKn)))
    all_goals (go_wp2_with fail; go_ret; exact ⟨ret_bool (by rw [HCK.out]; simp), HK.out.b⟩)
  · have hf : Mc.fits l = false := by simpa using hf
    rw [hf] at HF HCK
    obtain ⟨a, cap, rfl⟩ := hv.form
    have hK := Bx.new w t a l.length cap s hv
    unfold tokv at HF HNW ⊢
    clear hv
    go_enter Tryd.func21, Tryd.ntmps21
    go_upto_region 1 with fail
    generalize w.alloc (.cells #[.string t, .slice a l.length cap, .string s] 24) = x at hK ⊢
    have HK := Lib.hid hK
    clear hK
    refine wp_region_held_drew (S := fun y => y.cell? ⟨w.heap.size, 0, none⟩ = some (.string t) ∧ y.cell? ⟨w.heap.size, 1, none⟩ = some (.slice a l.length cap) ∧ y.cell? ⟨w.heap.size, 2, none⟩ = some (.string s)) (by kernel_rfl) ?_ (fun hHeld => ?_)
    · exact ⟨HK.out.c0, HK.out.c1, HK.out.c2⟩
    refine' wpAnyH_take (i := 0) (v := _) rfl (by kernel_rfl) (by kernel_rfl) (by kernel_rfl) (fun _ _ _ h => h) (Or.inl ⟨by rfl, ?yya0⟩) (by assumption) ?rra0
    case yya0 => (intro w hSw; (try dsimp only at hSw); first | (go_simp; done) | (go_simp; with_reducible rfl))
    (try simp only [Act.put, List.setIfInBounds_toArray, List.set_cons_zero, List.set_cons_succ, List.getElem_toArray, List.getElem_cons_zero])
    refine wpAnyH_ready (rs := [1]) (by kernel_rfl) (by simp) ?_
    refine AllReadyH.cons rfl (fun K hK => ?_) AllReadyH.nil
    rw [if_pos (by rfl)]
    go_simp
    (go_at_call 40; (with_reducible refine (HF.out _ HK.out.cv).mono ?_); rintro e u ⟨rfl, hbu⟩; have HKn := Lib.hid (HK.out.below hbu); clear HK hbu; have HK := HKn; clear HKn)
    refine hK.out _ _ ?_ (fun hHeld2 => ?_)
    · exact ⟨HK.out.c0, HK.out.c1, HK.out.c2⟩
    clear hK K
    (try simp only [Act.put, List.setIfInBounds_toArray, List.set_cons_zero, List.set_cons_succ, List.getElem_toArray, List.getElem_cons_zero, List.getElem_cons_succ])
    refine' wpAnyH_take (i := 2) (v := _) rfl (by kernel_rfl) (by kernel_rfl) (by kernel_rfl) (fun _ _ _ h => h) (Or.inl ⟨by rfl, ?yya2⟩) (by assumption) ?rra2
    case yya2 => (intro w hSw; (try dsimp only at hSw); first | (go_simp; done) | (go_simp; with_reducible rfl))
    (try simp only [Act.put, List.setIfInBounds_toArray, List.set_cons_zero, List.set_cons_succ, List.getElem_toArray, List.getElem_cons_zero, List.getElem_cons_succ])
    refine wpAnyH_take (i := 3) rfl (by kernel_rfl) (by kernel_rfl) (by kernel_rfl) (fun _ _ _ h => h) (Or.inr ⟨by rfl, rfl⟩) (by assumption) ?_
    (try simp only [Act.put, List.setIfInBounds_toArray, List.set_cons_zero, List.set_cons_succ, List.getElem_toArray, List.getElem_cons_zero, List.getElem_cons_succ])
    refine wpAnyH_take (i := 4) rfl (by kernel_rfl) (by kernel_rfl) (by kernel_rfl) (fun _ _ _ h => h) (Or.inr ⟨by rfl, rfl⟩) (by assumption) ?_
    (try simp only [Act.put, List.setIfInBounds_toArray, List.set_cons_zero, List.set_cons_succ, List.getElem_toArray, List.getElem_cons_zero, List.getElem_cons_succ])
    refine wpAnyH_take (i := 5) rfl (by kernel_rfl) (by kernel_rfl) (by kernel_rfl) (fun _ _ _ h => h) (Or.inr ⟨by rfl, rfl⟩) (by assumption) ?_
    (try simp only [Act.put, List.setIfInBounds_toArray, List.set_cons_zero, List.set_cons_succ, List.getElem_toArray, List.getElem_cons_zero, List.getElem_cons_succ])
    refine wpAnyH_take (i := 6) rfl (by kernel_rfl) (by kernel_rfl) (by kernel_rfl) (fun _ _ _ h => h) (Or.inr ⟨by rfl, rfl⟩) (by assumption) ?_
    (try simp only [Act.put, List.setIfInBounds_toArray, List.set_cons_zero, List.set_cons_succ, List.getElem_toArray, List.getElem_cons_zero, List.getElem_cons_succ])
    refine wpAnyH_take (i := 7) rfl (by kernel_rfl) (by kernel_rfl) (by kernel_rfl) (fun _ _ _ h => h) (Or.inr ⟨by rfl, rfl⟩) (by assumption) ?_
    (try simp only [Act.put, List.setIfInBounds_toArray, List.set_cons_zero, List.set_cons_succ, List.getElem_toArray, List.getElem_cons_zero, List.getElem_cons_succ])
    refine wpAnyH_take (i := 8) rfl (by kernel_rfl) (by kernel_rfl) (by kernel_rfl) (fun _ _ _ h => h) (Or.inr ⟨by rfl, rfl⟩) (by assumption) ?_
    (try simp only [Act.put, List.setIfInBounds_toArray, List.set_cons_zero, List.set_cons_succ, List.getElem_toArray, List.getElem_cons_zero, List.getElem_cons_succ])
    refine wpAnyH_take (i := 9) rfl (by kernel_rfl) (by kernel_rfl) (by kernel_rfl) (fun _ _ _ h => h) (Or.inr ⟨by rfl, rfl⟩) (by assumption) ?_
    (try simp only [Act.put, List.setIfInBounds_toArray, List.set_cons_zero, List.set_cons_succ, List.getElem_toArray, List.getElem_cons_zero, List.getElem_cons_succ])
    refine wpAnyH_take (i := 10) rfl (by kernel_rfl) (by kernel_rfl) (by kernel_rfl) (fun _ _ _ h => h) (Or.inr ⟨by rfl, rfl⟩) (by assumption) ?_
    (try simp only [Act.put, List.setIfInBounds_toArray, List.set_cons_zero, List.set_cons_succ, List.getElem_toArray, List.getElem_cons_zero, List.getElem_cons_succ])
    refine wpAnyH_take (i := 11) rfl (by kernel_rfl) (by kernel_rfl) (by kernel_rfl) (fun _ _ _ h => h) (Or.inr ⟨by rfl, rfl⟩) (by assumption) ?_
    (try simp only [Act.put, List.setIfInBounds_toArray, List.set_cons_zero, List.set_cons_succ, List.getElem_toArray, List.getElem_cons_zero, List.getElem_cons_succ])
    refine wpAnyH_take (i := 12) rfl (by kernel_rfl) (by kernel_rfl) (by kernel_rfl) (fun _ _ _ h => h) (Or.inr ⟨by rfl, rfl⟩) (by assumption) ?_
    (try simp only [Act.put, List.setIfInBounds_toArray, List.set_cons_zero, List.set_cons_succ, List.getElem_toArray, List.getElem_cons_zero, List.getElem_cons_succ])
    refine wpAnyH_take (i := 13) rfl (by kernel_rfl) (by kernel_rfl) (by kernel_rfl) (fun _ _ _ h => h) (Or.inr ⟨by rfl, rfl⟩) (by assumption) ?_
    (try simp only [Act.put, List.setIfInBounds_toArray, List.set_cons_zero, List.set_cons_succ, List.getElem_toArray, List.getElem_cons_zero, List.getElem_cons_succ])
    refine' wpAnyH_take (i := 14) (v := _) rfl (by kernel_rfl) (by kernel_rfl) (by kernel_rfl) (fun _ _ _ h => h) (Or.inl ⟨by rfl, ?yya14⟩) (by assumption) ?rra14
    case yya14 => (intro w hSw; (try dsimp only at hSw); first | (go_simp; done) | (go_simp; with_reducible rfl))
    (try simp only [Act.put, List.setIfInBounds_toArray, List.set_cons_zero, List.set_cons_succ, List.getElem_toArray, List.getElem_cons_zero, List.getElem_cons_succ])
    refine' wpAnyH_take (i := 15) (v := _) rfl (by kernel_rfl) (by kernel_rfl) (by kernel_rfl) (fun _ _ _ h => h) (Or.inl ⟨by rfl, ?yya15⟩) (by assumption) ?rra15
    case yya15 => (intro w hSw; (try dsimp only at hSw); first | (go_simp; done) | (go_simp; with_reducible rfl))
    (try simp only [Act.put, List.setIfInBounds_toArray, List.set_cons_zero, List.set_cons_succ, List.getElem_toArray, List.getElem_cons_zero, List.getElem_cons_succ])
    refine wpAnyH_done (by kernel_rfl) ?_ _
    go_wp2_with fail
    go_ret
    exact ⟨ret_bool (by rw [HCK.out]; simp), HK.out.b⟩

end Go.Proofs.YtalncnblcfcmcaaDoor
