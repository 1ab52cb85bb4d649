/- The walk of the law MacTells. -/
import Derived.Test.YtalncnblcfcmcaaDoorMcRefG
import Derived.Test.YtalncnblcfcmcaaDoorMcRefH
import Derived.Test.YtalncnblcfcmcaaDoorMcRefD
import Derived.Test.YtalncnblcfcmcaaDoorMcRefE
import Derived.Test.YtalncnblcfcmcaaDoorShRefC
import Derived.Test.YtalncnblcfcmcaaDoorMcEx
import Derived.Lib.MinMax
import Derived.Deep.DeepCutAuto
namespace Go.Proofs.YtalncnblcfcmcaaDoor
open Go.RowKit

theorem blockC : BlockC := fun st b w gh caph gk capk hb hh hH hK lh lk => refblock_any st b w gh caph gk capk hb hh hH hK lh lk
theorem sumC : SumC := sumC_of blockC

/-- a token in a box: where, its name, its slice of caveats, its sum, the caveats -/
structure Tk5 where
  b : Nat
  t : ByteArray
  a : Option Addr
  n : Nat
  p : Nat
  s : ByteArray
  l : List Cav
abbrev Tk5.at (k : Tk5) (y : World) : Prop := Box y k.b k.t (.slice k.a k.n k.p) k.s k.l
/-- the tokens in boxes, and the caveat in its own -/
structure Tl (w y : World) (gc : Nat) (ck : Int) (cn : Nat) (ks : List Tk5) : Prop where
  boxes : ∀ k ∈ ks, k.at y
  c : Row y gc [.int .i64 ck, .int .u64 (cn : Int)]
  lc : gc < y.heap.size
  b : Below w.heap.size w y
theorem Tl.below {w y z : World} {gc : Nat} {ck : Int} {cn : Nat} {ks : List Tk5} (h : Tl w y gc ck cn ks) (hb : Below y.heap.size y z) : Tl w z gc ck cn ks :=
  ⟨fun k hk => (h.boxes k hk).below hb, h.c.below hb h.lc, Nat.lt_of_lt_of_le h.lc hb.size, h.b.trans (hb.mono h.b.size)⟩
theorem Tl.drew {w y : World} {gc : Nat} {ck : Int} {cn : Nat} {ks : List Tk5} (h : Tl w y gc ck cn ks) : Tl w y.drew gc ck cn ks := h.below (Below.refl _ _).drew
theorem Tl.alloc {w y : World} {gc : Nat} {ck : Int} {cn : Nat} {ks : List Tk5} (h : Tl w y gc ck cn ks) (o : Obj) : Tl w (y.alloc o) gc ck cn ks := h.below ((Below.refl _ _).alloc (Nat.le_refl _) o)
theorem Tl.get {w y : World} {gc : Nat} {ck : Int} {cn : Nat} {ks : List Tk5} (h : Tl w y gc ck cn ks) (i : Nat) (k : Tk5) (e : ks[i]? = some k) : k.at y := h.boxes k (List.mem_of_getElem? e)
theorem Tl.add {w y : World} {gc : Nat} {ck : Int} {cn : Nat} {ks : List Tk5} (h : Tl w y gc ck cn ks) {t s : ByteArray} {a : Option Addr} {n p : Nat} {l : List Cav} (hcv : CavsAt y (.slice a n p) l) (ty : TypeId) :
    Tl w (y.alloc (.cells #[.string t, .slice a n p, .string s] ty)) gc ck cn (⟨y.heap.size, t, a, n, p, s, l⟩ :: ks) :=
  ⟨fun k hk => by
    rcases List.mem_cons.1 hk with rfl | hk
    · exact ⟨Row.at rfl (by simp), hcv.alloc _, by simp⟩
    · exact (h.boxes k hk).alloc _, (h.alloc _).c, (h.alloc _).lc, (h.alloc _).b⟩
theorem Box.three {y : World} {b : Nat} {t s : ByteArray} {v : Value} {l : List Cav} (h : Box y b t v s l) : y.cell? ⟨b, 0, none⟩ = some (.string t) ∧ y.cell? ⟨b, 1, none⟩ = some v ∧ y.cell? ⟨b, 2, none⟩ = some (.string s) :=
  ⟨(Row.three h.r).1, (Row.three h.r).2.1, (Row.three h.r).2.2.1⟩
/-- the token's caveats are laid anew -/
theorem Tl.cut {w y : World} {gc : Nat} {ck : Int} {cn : Nat} {b : Nat} {t s : ByteArray} {a : Option Addr} {n p : Nat} {l : List Cav} (h : Tl w y gc ck cn [⟨b, t, a, n, p, s, l⟩]) (hne : b ≠ gc) (hw : w.heap.size ≤ b) (m : Nat) (hm : m ≤ n) :
    Tl w (y.setCell ⟨b, 1, none⟩ (.slice a m p)) gc ck cn [⟨b, t, a, m, p, s, l.take m⟩] := by
  have hb : Box y b t (.slice a n p) s l := h.boxes ⟨b, t, a, n, p, s, l⟩ (List.mem_singleton.2 rfl)
  refine ⟨fun k hk => ?_, h.c.other _ hne, by simpa using h.lc, h.b.setCell (p := ⟨b, 1, none⟩) hw _⟩
  obtain rfl := List.mem_singleton.1 hk
  exact ⟨hb.r.set 1 _ (by simp), (hb.cv.take m hm).setOther (Row.three hb.r).2.1 (fun _ _ e => by cases e) _, by simpa using hb.lt⟩

/-- a token laid into a block that was made ahead -/
theorem Tl.put {w x z : World} {gc : Nat} {ck : Int} {cn : Nat} {ks : List Tk5} (h : Tl w x gc ck cn ks) (h2 : Tl w z gc ck cn ks) (zr : Row z x.heap.size [.string ⟨#[]⟩, .slice none 0 0, .string ⟨#[]⟩]) (lz : x.heap.size < z.heap.size) {t s : ByteArray} {a : Option Addr} {n p : Nat} {l : List Cav} (hcv : CavsAt z (.slice a n p) l) :
    Tl w (set3 z x.heap.size (.string t) (.slice a n p) (.string s)) gc ck cn (⟨x.heap.size, t, a, n, p, s, l⟩ :: ks) := by
  have r1 := zr.set 0 (.string t) (by simp)
  have r2 := r1.set 1 (.slice a n p) (by simp)
  have r3 := r2.set 2 (.string s) (by simp)
  have cc : ∀ {v : Value} {k : List Cav}, CavsAt z v k → CavsAt (set3 z x.heap.size (.string t) (.slice a n p) (.string s)) v k := fun hk =>
    ((hk.setOther (Row.three zr).1 (fun _ _ e => by cases e) (.string t)).setOther (Row.three r1).2.1 (fun _ _ e => by cases e) (.slice a n p)).setOther (Row.three r2).2.2.1 (fun _ _ e => by cases e) (.string s)
  have hs : (set3 z x.heap.size (.string t) (.slice a n p) (.string s)).heap.size = z.heap.size := by simp [set3]
  refine ⟨fun k hk => ?_, ((h2.c.other _ (by have := h.lc; omega)).other _ (by have := h.lc; omega)).other _ (by have := h.lc; omega), by rw [hs]; exact h2.lc, ((h2.b.setCell (p := ⟨x.heap.size, 0, none⟩) h.b.size _).setCell (p := ⟨x.heap.size, 1, none⟩) h.b.size _).setCell (p := ⟨x.heap.size, 2, none⟩) h.b.size _⟩
  rcases List.mem_cons.1 hk with rfl | hk
  · exact ⟨r3, cc hcv, by rw [hs]; exact lz⟩
  · have hb := h2.boxes k hk
    have hl := (h.boxes k hk).lt
    exact ⟨((hb.r.other _ (by omega)).other _ (by omega)).other _ (by omega), cc hb.cv, by rw [hs]; exact hb.lt⟩

end Go.Proofs.YtalncnblcfcmcaaDoor

namespace Go.Proofs.YtalncnblcfcmcaaDoor
open Go.RowKit

set_option maxRecDepth 100000 in
set_option maxHeartbeats 16000000 in
theorem MacTells_walk (key s : ByteArray) (t : ByteArray) (v : Value) (l : List Cav) (sg : ByteArray) (c : Cav) (right round : Nat) (at0 : Int) (w : World) (hL : LaidM w) (_hkey : key.size ≤ 140737488351232) (hs : s.size ≤ 140737488351232) (ht : t.size ≤ 140737488351232) (hsg : sg.size ≤ 140737488351232) (hv : CavsAt w v l) (hok : ∀ c ∈ l, c.n < 18446744073709551616) (hz : l.length ≤ maxLen) (hcap : ∀ a n cap, v = .slice a n cap → n ≤ cap ∧ cap ≤ maxLen) (hc : c.n < 18446744073709551616) (hr : right < 18446744073709551616) (_hrd : round < 18446744073709551616) :
    Calls Tryd.prog 3 #[.string key, .string s, tokv t v sg, c.val, .int .u64 (right : Int), .int .u64 (round : Int), .int .i64 at0] w fun e w' => e = .returned (.bool true) ∧ Below w.heap.size w w' := by
  have HEX := Lib.hid (fun y (h : LaidM y) => macExamples_any y h)
  obtain ⟨a, cap, rfl⟩ := hv.form
  have hcp := hcap _ _ _ rfl
  unfold maxLen at hcp hz
  obtain ⟨m, hm⟩ : ∃ m, min l.length 12 = m := ⟨_, rfl⟩
  have hmin : min (l.length : Int) 12 = (m : Int) := by omega
  have hm0 : (0 : Int) ≤ (m : Int) := by omega
  have hmc : (m : Int) ≤ (cap : Int) := by omega
  have hbi : (l.length : Int) ≤ 9223372036854775807 := by omega
  have HM := Lib.hid (show m ≤ l.length ∧ m ≤ 12 from by omega)
  have HL := Lib.hid hL
  have HV := Lib.hid hv
  obtain ⟨ck, cn⟩ := c
  simp only at hc
  have hokL : ∀ c ∈ l.take m, c.n < 18446744073709551616 := fun c h => hok c (List.mem_of_mem_take h)
  have hLm : (l.take m).length = m := by rw [List.length_take]; omega
  unfold tokv Cav.val Cav.cells
  clear hv hL hcap hm hok
  go_enter Tryd.func3, Tryd.ntmps3
  go_upto_region 1 with fail
  have hT : Tl w ((w.alloc (.cells #[.string t, .slice a l.length cap, .string sg] 24)).alloc (.cells #[.int .i64 ck, .int .u64 (cn : Int)] 27)) (w.heap.size + 1) ck cn [⟨w.heap.size, t, a, l.length, cap, sg, l⟩] :=
    ⟨fun k hk => by rw [List.mem_singleton.1 hk]; exact (Box.new w t a l.length cap sg HV.out).alloc _, Row.at (by simp) (by simp), by simp, by go_grown⟩
  generalize ((w.alloc (.cells #[.string t, .slice a l.length cap, .string sg] 24)).alloc (.cells #[.int .i64 ck, .int .u64 (cn : Int)] 27)) = x0 at hT ⊢
  obtain ⟨b9, hb9⟩ : ∃ b, w.heap.size = b := ⟨_, rfl⟩
  rw [hb9] at hT ⊢
  obtain ⟨gc, hgc⟩ : ∃ b, b9 + 1 = b := ⟨_, rfl⟩
  rw [hgc] at hT
  simp only [hgc]
  have HB9 := Lib.hid hb9
  have hne : b9 ≠ gc := by omega
  have HNE := Lib.hid hne
  have HT0 := Lib.hid hT
  clear hb9 hgc hT hne
  go_wp2_with fail
  refine (HEX.out _ (HL.out.below HT0.out.b (Nat.le_refl _))).mono ?_
  rintro e x1 ⟨rfl, hb1⟩
  have HT := Lib.hid (HT0.out.below hb1)
  clear HT0 hb1 HEX
  go_upto_region 5 with fail
  have hkk : (key.extract 0 (min (key.size : Int) 200).toNat).size ≤ 200 := by rw [ByteArray.size_extract]; omega
  generalize key.extract 0 (min (key.size : Int) 200).toNat = kk at hkk ⊢
  obtain ⟨c0, c1, c2, f0, f1, f2⟩ := Row.three (HT.out.get 0 _ rfl).r
  go_upto_region 6 with fail
  have HTn := Lib.hid (HT.out.cut HNE.out (by have := HB9.out; omega) m HM.out.1)
  clear HT c0 c1 c2 f0 f1 f2
  have HT := HTn
  clear HTn
  generalize World.setCell x1 _ _ = x2 at HT ⊢
  obtain ⟨L, hLe⟩ : ∃ L, l.take m = L := ⟨_, rfl⟩
  rw [hLe] at HT hokL hLm
  clear hLe hmin hbi hmc
  have hm12 := HM.out.2
  have HML := Lib.hid hLm
  have HOL := Lib.hid hokL
  have HRT := Lib.hid (fun y (h : CavsAt y (.slice a m cap) L) => refT_any t (.slice a m cap) L sg y h (by omega) hokL)
  obtain ⟨c0, c1, c2⟩ := Box.three (HT.out.get 0 _ rfl)
  unfold tokv at HRT
  clear hokL hLm
  go_upto_region 7 with (go_at_call 11; (with_reducible refine (HRT.out _ (HT.out.get 0 _ rfl).cv).mono ?_); rintro e u ⟨v', rfl, hcv, hbu⟩; obtain ⟨a16, p16, rfl⟩ := hcv.form; rw [HML.out] at hcv ⊢)
  have HTn := Lib.hid ((HT.out.below hbu).add (t := t) (s := sg) hcv 31)
  clear HT c0 c1 c2 hbu hcv HRT
  have HT := HTn
  clear HTn
  generalize u.alloc (.cells #[.string t, .slice a16 m p16, .string sg] 31) = x3 at HT ⊢
  generalize u.heap.size = b16 at HT ⊢
  -- Narrow(t, c)
  obtain ⟨Ln, hLn⟩ : ∃ Ln, L ++ [(⟨ck, cn⟩ : Cav)] = Ln := ⟨_, rfl⟩
  obtain ⟨n1, hn1⟩ : ∃ n1, Ln.length = n1 := ⟨_, rfl⟩
  have HN1L := Lib.hid hn1
  have hn1s : n1 ≤ 13 := by rw [← hn1, ← hLn, List.length_append, HML.out]; simp; omega
  have hokn : ∀ c ∈ Ln, c.n < 18446744073709551616 := fun c h => by
    rw [← hLn] at h
    rcases List.mem_append.1 h with h | h
    · exact HOL.out c h
    · rw [List.mem_singleton.1 h]; exact hc
  have HN1 := Lib.hid (fun y (hl : Laid y) (h : CavsAt y (.slice a m cap) L) => Narrow_any t (.slice a m cap) L sg ⟨ck, cn⟩ y hl h (by have := HML.out; omega) (by omega) hc)
  have HC1 := Lib.hid (fun y (h : CavsAt y (.slice a16 m p16) L) => rNarrow_any sumC t (.slice a16 m p16) L sg ⟨ck, cn⟩ y h (by have := HML.out; omega) (by omega) hc)
  rw [hLn] at HN1 HC1
  unfold tokv Cav.val Cav.cells at HN1 HC1
  generalize Mc.signB sg (Mc.putc ⟨ck, cn⟩) = sgn at HN1 HC1
  have HC2 := Lib.hid (fun an pn v2 y (h : CavsAt y (.slice an n1 pn) Ln) (h2 : CavsAt y v2 Ln) => sameT_any t (.slice an n1 pn) v2 Ln sgn y h h2 (by omega) hokn)
  unfold tokv at HC2
  clear hLn hn1 hokn
  obtain ⟨c0, c1, c2⟩ := Box.three (HT.out.get 1 _ rfl)
  obtain ⟨e0, e1, _⟩ := Row.two HT.out.c
  go_upto_region 8 with (go_at_call 12; (with_reducible refine (HN1.out _ (HL.out.l.below HT.out.b (Nat.le_refl _)) (HT.out.get 1 _ rfl).cv).mono ?_); rintro e u ⟨v', rfl, hcv, hbu⟩; obtain ⟨an, pn, rfl⟩ := hcv.form; rw [HN1L.out] at hcv ⊢)
  have HTn := Lib.hid ((HT.out.below hbu).add (t := t) (s := sgn) hcv 24)
  clear HT c0 c1 c2 e0 e1 hbu hcv HN1
  have HT := HTn
  clear HTn
  generalize u.alloc (.cells #[.string t, .slice an n1 pn, .string sgn] 24) = x4 at HT ⊢
  generalize u.heap.size = b17 at HT ⊢
  -- Narrow(New(key, t.Tenant), c)
  obtain ⟨Lm, hLm⟩ : ∃ Lm, ([] : List Cav) ++ [(⟨ck, cn⟩ : Cav)] = Lm := ⟨_, rfl⟩
  obtain ⟨n2, hn2⟩ : ∃ n2, Lm.length = n2 := ⟨_, rfl⟩
  have HN2L := Lib.hid hn2
  have hn2s : n2 ≤ 1 := by rw [← hn2, ← hLm]; simp
  have hokm : ∀ c ∈ Lm, c.n < 18446744073709551616 := fun c h => by
    rw [← hLm, List.nil_append] at h
    rw [List.mem_singleton.1 h]; exact hc
  have hsk := Mc.signB_size kk t
  have HD1 := Lib.hid (fun y (hl : Laid y) => New_any kk t y hl (by omega) (by omega))
  have HD2 := Lib.hid (fun y => rNew_any sumC kk t y (by omega) (by omega))
  have HD6 := Lib.hid (fun am pm sgm y (hl : Laid y) (h : CavsAt y (.slice am n2 pm) Lm) => Check_any kk t (.slice am n2 pm) Lm sgm y hl h (by omega) (by omega) (by omega) hokm)
  have HD8 := Lib.hid (fun sgm v y (h : CavsAt y v Lm) => rCheck_any sumC kk t v Lm sgm y h (by omega) (by omega) (by omega) hokm)
  generalize Mc.signB kk t = sk at HD1 HD2 hsk
  have HNM := Lib.hid (fun y (hl : Laid y) => Narrow_any t (.slice none 0 0) [] sk ⟨ck, cn⟩ y hl (CavsAt.nil y) (by simp) (by omega) hc)
  rw [hLm] at HNM
  unfold tokv Cav.val Cav.cells at HNM
  have hsgm := Mc.signB_size sk (Mc.putc ⟨ck, cn⟩)
  generalize Mc.signB sk (Mc.putc ⟨ck, cn⟩) = sgm at HNM hsgm
  have HD3 := Lib.hid (fun y => sameT_any t (.slice none 0 0) (.slice none 0 0) [] sk y (CavsAt.nil y) (CavsAt.nil y) (by simp) (by simp))
  unfold tokv at HD1 HD2 HD3
  have HOM := Lib.hid hokm
  clear hLm hn2 hokm
  go_cut [18] (fun s18 wx => ∃ am pm b18, s18 = .pointer (some ⟨b18, 0, none⟩) ∧ Tl w wx gc ck cn [⟨b18, t, am, n2, pm, sgm, Lm⟩, ⟨b17, t, an, n1, pn, sgn, Ln⟩, ⟨b16, t, a16, m, p16, sg, L⟩, ⟨b9, t, a, m, cap, sg, L⟩])
  case first =>
    refine wp_region_held_drew (S := (fun y => (y.cell? ⟨b9, 0, none⟩ = some (.string t) ∧ y.cell? ⟨b9, 1, none⟩ = some (.slice a m cap) ∧ y.cell? ⟨b9, 2, none⟩ = some (.string sg)) ∧ (y.cell? ⟨gc, 0, none⟩ = some (.int .i64 ck) ∧ y.cell? ⟨gc, 1, none⟩ = some (.int .u64 (cn : Int))))) (by kernel_rfl) ?_ (fun hHeld => ?_)
    · exact ⟨(HT.out.drew.get 2 _ rfl).three, ⟨(Row.two HT.out.drew.c).1, (Row.two HT.out.drew.c).2.1⟩⟩
    refine' wpAnyH_take (i := 0) (v := _) rfl (by kernel_rfl) (by kernel_rfl) (by kernel_rfl) (fun _ _ _ h => h) (Or.inl ⟨by rfl, ?yyq0⟩) (by assumption) ?rrq0
    case yyq0 => (intro w hSw; (try dsimp only at hSw); first | (go_simp; done) | (go_simp; with_reducible rfl))
    (try simp only [Act.put, List.setIfInBounds_toArray, List.set_cons_zero, List.set_cons_succ, List.getElem_toArray, List.getElem_cons_zero])
    refine' wpAnyH_take (i := 1) (v := _) rfl (by kernel_rfl) (by kernel_rfl) (by kernel_rfl) (fun _ _ _ h => h) (Or.inl ⟨by rfl, ?yyq1⟩) (by assumption) ?rrq1
    case yyq1 => (intro w hSw; (try dsimp only at hSw); first | (go_simp; done) | (go_simp; with_reducible rfl))
    (try simp only [Act.put, List.setIfInBounds_toArray, List.set_cons_zero, List.set_cons_succ, List.getElem_toArray, List.getElem_cons_zero, List.getElem_cons_succ])
    refine' wpAnyH_take (i := 2) (v := _) rfl (by kernel_rfl) (by kernel_rfl) (by kernel_rfl) (fun _ _ _ h => h) (Or.inl ⟨by rfl, ?yyq2⟩) (by assumption) ?rrq2
    case yyq2 => (intro w hSw; (try dsimp only at hSw); first | (go_simp; done) | (go_simp; with_reducible rfl))
    (try simp only [Act.put, List.setIfInBounds_toArray, List.set_cons_zero, List.set_cons_succ, List.getElem_toArray, List.getElem_cons_zero, List.getElem_cons_succ])
    refine' wpAnyH_take (i := 4) (v := _) rfl (by kernel_rfl) (by kernel_rfl) (by kernel_rfl) (fun _ _ _ h => h) (Or.inl ⟨by rfl, ?yyq4⟩) (by assumption) ?rrq4
    case yyq4 => (intro w hSw; (try dsimp only at hSw); first | (go_simp; done) | (go_simp; with_reducible rfl))
    (try simp only [Act.put, List.setIfInBounds_toArray, List.set_cons_zero, List.set_cons_succ, List.getElem_toArray, List.getElem_cons_zero, List.getElem_cons_succ])
    refine wpAnyH_ready (rs := [3, 6]) (by kernel_rfl) (by simp) ?_
    refine AllReadyH.cons rfl (fun K hK => ?_) (AllReadyH.cons rfl (fun K hK => ?_) AllReadyH.nil)
    · rw [if_pos (by rfl)]
      go_simp
      (go_at_call 13; (with_reducible refine (HD1.out _ (HL.out.l.below (HT.out.drew).b (Nat.le_refl _))).mono ?_); rintro e u ⟨rfl, hbu⟩; have HT2 := Lib.hid ((HT.out.drew).below hbu))
      refine hK.out _ _ ?_ (fun hHeld2 => ?_)
      · exact ⟨(HT2.out.get 2 _ rfl).three, ⟨(Row.two HT2.out.c).1, (Row.two HT2.out.c).2.1⟩⟩
      clear hK K
      (try simp only [Act.put, List.setIfInBounds_toArray, List.set_cons_zero, List.set_cons_succ, List.getElem_toArray, List.getElem_cons_zero, List.getElem_cons_succ])
      refine wpAnyH_ready (rs := [5, 6]) (by kernel_rfl) (by simp) ?_
      refine AllReadyH.cons rfl (fun K hK => ?_) (AllReadyH.cons rfl (fun K hK => ?_) AllReadyH.nil)
      · rw [if_pos (by rfl)]
        go_simp
        (go_at_call 12; (with_reducible refine (HNM.out _ (HL.out.l.below (HT2.out).b (Nat.le_refl _))).mono ?_); rintro e z ⟨v', rfl, hcv, hbz⟩; obtain ⟨am, pm, rfl⟩ := hcv.form; rw [HN2L.out] at hcv ⊢; have HT3 := Lib.hid ((HT2.out).below hbz))
        refine hK.out _ _ ?_ (fun hHeld3 => ?_)
        · exact ⟨(HT3.out.get 2 _ rfl).three, ⟨(Row.two HT3.out.c).1, (Row.two HT3.out.c).2.1⟩⟩
        clear hK K
        (try simp only [Act.put, List.setIfInBounds_toArray, List.set_cons_zero, List.set_cons_succ, List.getElem_toArray, List.getElem_cons_zero, List.getElem_cons_succ])
        refine wpAnyH_ready (rs := [6]) (by kernel_rfl) (by simp) ?_
        refine AllReadyH.cons rfl (fun K hK => ?_) AllReadyH.nil
        rw [if_pos (by rfl)]
        go_simp
        refine hK.out _ _ ?_ (fun hHeld4 => ?_)
        · exact ⟨((HT3.out.alloc (.cells #[.string ⟨#[]⟩, .slice none 0 0, .string ⟨#[]⟩] 24)).get 2 _ rfl).three, ⟨(Row.two (HT3.out.alloc (.cells #[.string ⟨#[]⟩, .slice none 0 0, .string ⟨#[]⟩] 24)).c).1, (Row.two (HT3.out.alloc (.cells #[.string ⟨#[]⟩, .slice none 0 0, .string ⟨#[]⟩] 24)).c).2.1⟩⟩
        clear hK K
        (try simp only [Act.put, List.setIfInBounds_toArray, List.set_cons_zero, List.set_cons_succ, List.getElem_toArray, List.getElem_cons_zero, List.getElem_cons_succ])
        have HZZ := Lib.hid (show Row (z.alloc (.cells #[.string ⟨#[]⟩, .slice none 0 0, .string ⟨#[]⟩] 24)) z.heap.size [.string ⟨#[]⟩, .slice none 0 0, .string ⟨#[]⟩] from Row.at rfl (by simp))
        obtain ⟨k0, k1, k2, m0, m1, m2⟩ := Row.three HZZ.out
        refine wpAnyH_ready (rs := [7]) (by kernel_rfl) (by simp) ?_
        refine AllReadyH.cons rfl (fun K hK => ?_) AllReadyH.nil
        rw [if_pos (by rfl)]
        go_simp
        refine hK.out _ _ ?_ (fun hHeld5 => ?_)
        · (first | exact ⟨((HT3.out.add (t := t) (s := sgm) hcv 24).get 3 _ rfl).three, ⟨(Row.two (HT3.out.add (t := t) (s := sgm) hcv 24).c).1, (Row.two (HT3.out.add (t := t) (s := sgm) hcv 24).c).2.1⟩⟩ | exact ⟨((Tl.put HT3.out (HT3.out.alloc (.cells #[.string ⟨#[]⟩, .slice none 0 0, .string ⟨#[]⟩] 24)) HZZ.out (by simp) (hcv.alloc _)).get 3 _ rfl).three, ⟨(Row.two (Tl.put HT3.out (HT3.out.alloc (.cells #[.string ⟨#[]⟩, .slice none 0 0, .string ⟨#[]⟩] 24)) HZZ.out (by simp) (hcv.alloc _)).c).1, (Row.two (Tl.put HT3.out (HT3.out.alloc (.cells #[.string ⟨#[]⟩, .slice none 0 0, .string ⟨#[]⟩] 24)) HZZ.out (by simp) (hcv.alloc _)).c).2.1⟩⟩)
        clear hK K
        (try simp only [Act.put, List.setIfInBounds_toArray, List.set_cons_zero, List.set_cons_succ, List.getElem_toArray, List.getElem_cons_zero, List.getElem_cons_succ])
        refine wpAnyH_done (by kernel_rfl) ?_ _
        go_wp2_with fail
        go_meet
        first
          | exact ⟨am, pm, _, rfl, HT3.out.add (t := t) (s := sgm) hcv 24⟩
          | exact ⟨am, pm, _, rfl, Tl.put HT3.out (HT3.out.alloc (.cells #[.string ⟨#[]⟩, .slice none 0 0, .string ⟨#[]⟩] 24)) HZZ.out (by simp) (hcv.alloc _)⟩
      · rw [if_pos (by rfl)]
        go_simp
        refine hK.out _ _ ?_ (fun hHeld6 => ?_)
        · exact ⟨((HT2.out.alloc (.cells #[.string ⟨#[]⟩, .slice none 0 0, .string ⟨#[]⟩] 24)).get 2 _ rfl).three, ⟨(Row.two (HT2.out.alloc (.cells #[.string ⟨#[]⟩, .slice none 0 0, .string ⟨#[]⟩] 24)).c).1, (Row.two (HT2.out.alloc (.cells #[.string ⟨#[]⟩, .slice none 0 0, .string ⟨#[]⟩] 24)).c).2.1⟩⟩
        clear hK K
        (try simp only [Act.put, List.setIfInBounds_toArray, List.set_cons_zero, List.set_cons_succ, List.getElem_toArray, List.getElem_cons_zero, List.getElem_cons_succ])
        refine wpAnyH_ready (rs := [5]) (by kernel_rfl) (by simp) ?_
        refine AllReadyH.cons rfl (fun K hK => ?_) AllReadyH.nil
        rw [if_pos (by rfl)]
        go_simp
        (go_at_call 12; (with_reducible refine (HNM.out _ (HL.out.l.below (HT2.out.alloc (.cells #[.string ⟨#[]⟩, .slice none 0 0, .string ⟨#[]⟩] 24)).b (Nat.le_refl _))).mono ?_); rintro e z ⟨v', rfl, hcv, hbz⟩; obtain ⟨am, pm, rfl⟩ := hcv.form; rw [HN2L.out] at hcv ⊢; have HT3 := Lib.hid ((HT2.out.alloc (.cells #[.string ⟨#[]⟩, .slice none 0 0, .string ⟨#[]⟩] 24)).below hbz))
        refine hK.out _ _ ?_ (fun hHeld7 => ?_)
        · exact ⟨(HT3.out.get 2 _ rfl).three, ⟨(Row.two HT3.out.c).1, (Row.two HT3.out.c).2.1⟩⟩
        clear hK K
        (try simp only [Act.put, List.setIfInBounds_toArray, List.set_cons_zero, List.set_cons_succ, List.getElem_toArray, List.getElem_cons_zero, List.getElem_cons_succ])
        have HZZ := Lib.hid (show Row z u.heap.size [.string ⟨#[]⟩, .slice none 0 0, .string ⟨#[]⟩] from Row.below (B := (u.alloc (.cells #[.string ⟨#[]⟩, .slice none 0 0, .string ⟨#[]⟩] 24)).heap.size) (Row.at rfl (by simp)) hbz (by simp))
        obtain ⟨k0, k1, k2, m0, m1, m2⟩ := Row.three HZZ.out
        refine wpAnyH_ready (rs := [7]) (by kernel_rfl) (by simp) ?_
        refine AllReadyH.cons rfl (fun K hK => ?_) AllReadyH.nil
        rw [if_pos (by rfl)]
        go_simp
        refine hK.out _ _ ?_ (fun hHeld8 => ?_)
        · (first | exact ⟨((HT3.out.add (t := t) (s := sgm) hcv 24).get 3 _ rfl).three, ⟨(Row.two (HT3.out.add (t := t) (s := sgm) hcv 24).c).1, (Row.two (HT3.out.add (t := t) (s := sgm) hcv 24).c).2.1⟩⟩ | exact ⟨((Tl.put HT2.out HT3.out HZZ.out (Nat.lt_of_lt_of_le (by simp) hbz.size) hcv).get 3 _ rfl).three, ⟨(Row.two (Tl.put HT2.out HT3.out HZZ.out (Nat.lt_of_lt_of_le (by simp) hbz.size) hcv).c).1, (Row.two (Tl.put HT2.out HT3.out HZZ.out (Nat.lt_of_lt_of_le (by simp) hbz.size) hcv).c).2.1⟩⟩)
        clear hK K
        (try simp only [Act.put, List.setIfInBounds_toArray, List.set_cons_zero, List.set_cons_succ, List.getElem_toArray, List.getElem_cons_zero, List.getElem_cons_succ])
        refine wpAnyH_done (by kernel_rfl) ?_ _
        go_wp2_with fail
        go_meet
        first
          | exact ⟨am, pm, _, rfl, HT3.out.add (t := t) (s := sgm) hcv 24⟩
          | exact ⟨am, pm, _, rfl, Tl.put HT2.out HT3.out HZZ.out (Nat.lt_of_lt_of_le (by simp) hbz.size) hcv⟩
    · rw [if_pos (by rfl)]
      go_simp
      refine hK.out _ _ ?_ (fun hHeld9 => ?_)
      · exact ⟨((HT.out.alloc (.cells #[.string ⟨#[]⟩, .slice none 0 0, .string ⟨#[]⟩] 24)).drew.get 2 _ rfl).three, ⟨(Row.two (HT.out.alloc (.cells #[.string ⟨#[]⟩, .slice none 0 0, .string ⟨#[]⟩] 24)).drew.c).1, (Row.two (HT.out.alloc (.cells #[.string ⟨#[]⟩, .slice none 0 0, .string ⟨#[]⟩] 24)).drew.c).2.1⟩⟩
      clear hK K
      (try simp only [Act.put, List.setIfInBounds_toArray, List.set_cons_zero, List.set_cons_succ, List.getElem_toArray, List.getElem_cons_zero, List.getElem_cons_succ])
      refine wpAnyH_ready (rs := [3]) (by kernel_rfl) (by simp) ?_
      refine AllReadyH.cons rfl (fun K hK => ?_) AllReadyH.nil
      rw [if_pos (by rfl)]
      go_simp
      (go_at_call 13; (with_reducible refine (HD1.out _ (HL.out.l.below ((HT.out.alloc (.cells #[.string ⟨#[]⟩, .slice none 0 0, .string ⟨#[]⟩] 24)).drew).b (Nat.le_refl _))).mono ?_); rintro e u ⟨rfl, hbu⟩; have HT2 := Lib.hid (((HT.out.alloc (.cells #[.string ⟨#[]⟩, .slice none 0 0, .string ⟨#[]⟩] 24)).drew).below hbu))
      refine hK.out _ _ ?_ (fun hHeld10 => ?_)
      · exact ⟨(HT2.out.get 2 _ rfl).three, ⟨(Row.two HT2.out.c).1, (Row.two HT2.out.c).2.1⟩⟩
      clear hK K
      (try simp only [Act.put, List.setIfInBounds_toArray, List.set_cons_zero, List.set_cons_succ, List.getElem_toArray, List.getElem_cons_zero, List.getElem_cons_succ])
      have hz0 : Row (x4.alloc (.cells #[.string ⟨#[]⟩, .slice none 0 0, .string ⟨#[]⟩] 24)).drew x4.heap.size [.string ⟨#[]⟩, .slice none 0 0, .string ⟨#[]⟩] := Row.drew (Row.at rfl (by simp))
      have HZU := Lib.hid (show Row u x4.heap.size [.string ⟨#[]⟩, .slice none 0 0, .string ⟨#[]⟩] from hz0.below hbu (by simp))
      have HZL := Lib.hid (show x4.heap.size < u.heap.size from Nat.lt_of_lt_of_le (by simp) hbu.size)
      refine wpAnyH_ready (rs := [5]) (by kernel_rfl) (by simp) ?_
      refine AllReadyH.cons rfl (fun K hK => ?_) AllReadyH.nil
      rw [if_pos (by rfl)]
      go_simp
      (go_at_call 12; (with_reducible refine (HNM.out _ (HL.out.l.below (HT2.out).b (Nat.le_refl _))).mono ?_); rintro e z ⟨v', rfl, hcv, hbz⟩; obtain ⟨am, pm, rfl⟩ := hcv.form; rw [HN2L.out] at hcv ⊢; have HT3 := Lib.hid ((HT2.out).below hbz))
      refine hK.out _ _ ?_ (fun hHeld11 => ?_)
      · exact ⟨(HT3.out.get 2 _ rfl).three, ⟨(Row.two HT3.out.c).1, (Row.two HT3.out.c).2.1⟩⟩
      clear hK K
      (try simp only [Act.put, List.setIfInBounds_toArray, List.set_cons_zero, List.set_cons_succ, List.getElem_toArray, List.getElem_cons_zero, List.getElem_cons_succ])
      have HZZ := Lib.hid (show Row z x4.heap.size [.string ⟨#[]⟩, .slice none 0 0, .string ⟨#[]⟩] from HZU.out.below hbz HZL.out)
      obtain ⟨k0, k1, k2, m0, m1, m2⟩ := Row.three HZZ.out
      refine wpAnyH_ready (rs := [7]) (by kernel_rfl) (by simp) ?_
      refine AllReadyH.cons rfl (fun K hK => ?_) AllReadyH.nil
      rw [if_pos (by rfl)]
      go_simp
      refine hK.out _ _ ?_ (fun hHeld12 => ?_)
      · (first | exact ⟨((HT3.out.add (t := t) (s := sgm) hcv 24).get 3 _ rfl).three, ⟨(Row.two (HT3.out.add (t := t) (s := sgm) hcv 24).c).1, (Row.two (HT3.out.add (t := t) (s := sgm) hcv 24).c).2.1⟩⟩ | exact ⟨((Tl.put HT.out HT3.out HZZ.out (Nat.lt_of_lt_of_le HZL.out hbz.size) hcv).get 3 _ rfl).three, ⟨(Row.two (Tl.put HT.out HT3.out HZZ.out (Nat.lt_of_lt_of_le HZL.out hbz.size) hcv).c).1, (Row.two (Tl.put HT.out HT3.out HZZ.out (Nat.lt_of_lt_of_le HZL.out hbz.size) hcv).c).2.1⟩⟩)
      clear hK K
      (try simp only [Act.put, List.setIfInBounds_toArray, List.set_cons_zero, List.set_cons_succ, List.getElem_toArray, List.getElem_cons_zero, List.getElem_cons_succ])
      refine wpAnyH_done (by kernel_rfl) ?_ _
      go_wp2_with fail
      go_meet
      first
        | exact ⟨am, pm, _, rfl, HT3.out.add (t := t) (s := sgm) hcv 24⟩
        | exact ⟨am, pm, _, rfl, Tl.put HT.out HT3.out HZZ.out (Nat.lt_of_lt_of_le HZL.out hbz.size) hcv⟩
  case rest =>
    obtain ⟨am, pm, b18, rfl, hT⟩ := hcut
    clear HT HNM
    have HT := Lib.hid hT
    clear hT
    -- Get
    have HG := Lib.hid (fun y (h : LaidM y) => macGet_any s at0 y h (by omega))
    have HG2 := Lib.hid (fun y => rMacGet_any s at0 y (by omega))
    have hgs := Mc.getR_small s at0
    generalize Mc.getR s at0 = R at HG HG2 hgs
    obtain ⟨⟨xt, xl, xs, nx⟩, bb⟩ := R
    simp only at HG HG2 hgs
    obtain ⟨nxl, hnxl⟩ : ∃ n, xl.length = n := ⟨_, rfl⟩
    have HXL := Lib.hid hnxl
    have HC3 := Lib.hid (fun ax px ay py y (h : CavsAt y (.slice ax nxl px) xl) (h2 : CavsAt y (.slice ay nxl py) xl) => sameT_any xt (.slice ax nxl px) (.slice ay nxl py) xl xs y h h2 hgs.1 hgs.2)
    unfold tokv at HG HG2 HC3
    clear hgs hnxl
    go_upto_region 10 with (go_at_call 14; (with_reducible refine (HG.out _ (HL.out.below HT.out.b (Nat.le_refl _))).mono ?_); rintro e u ⟨v', rfl, hcv, hbu⟩; obtain ⟨ax, px, rfl⟩ := hcv.form; rw [HXL.out] at hcv ⊢)
    have HTn := Lib.hid ((HT.out.below hbu).add (t := xt) (s := xs) hcv 24)
    clear HT hbu hcv HG
    have HT := HTn
    clear HTn
    generalize u.alloc (.cells #[.string xt, .slice ax nxl px, .string xs] 24) = x6 at HT ⊢
    generalize u.heap.size = b19 at HT ⊢
    go_upto_region 11 with (go_at_call 15; (with_reducible refine (HG2.out _).mono ?_); rintro e u ⟨v', rfl, hcv, hbu⟩; obtain ⟨ay, py, rfl⟩ := hcv.form; rw [HXL.out] at hcv ⊢)
    have HTn := Lib.hid ((HT.out.below hbu).add (t := xt) (s := xs) hcv 31).drew
    clear HT hbu hcv HG2
    have HT := HTn
    clear HTn
    generalize u.alloc (.cells #[.string xt, .slice ay nxl py, .string xs] 31) = x7 at HT ⊢
    generalize u.heap.size = b22 at HT ⊢
    have HC4 := Lib.hid (fun y (hl : Laid y) => Sign_any kk s y hl (by omega) (by omega))
    have HC5 := Lib.hid (fun y => rSign_any sumC kk s y (by omega) (by omega))
    generalize Mc.signB kk s = sgs at HC4 HC5
    have HD4 := Lib.hid (fun y (hl : Laid y) (h : CavsAt y (.slice a m cap) L) => Check_any kk t (.slice a m cap) L sg y hl h (by omega) (by omega) (by have := HML.out; omega) HOL.out)
    have HD5 := Lib.hid (fun y (h : CavsAt y (.slice a16 m p16) L) => rCheck_any sumC kk t (.slice a16 m p16) L sg y h (by omega) (by omega) (by have := HML.out; omega) HOL.out)
    have HD6n := Lib.hid (HD6.out am pm sgm)
    have HD8n := Lib.hid (HD8.out sgm)
    clear HD6 HD8
    have HD6 := HD6n
    have HD8 := HD8n
    clear HD6n HD8n
    generalize Mc.check kk t L sg = q1 at HD4 HD5
    generalize Mc.check kk t Lm sgm = q2 at HD6 HD8
    have HD7 := Lib.hid (fun y (h : CavsAt y (.slice am n2 pm) Lm) => refT_any t (.slice am n2 pm) Lm sgm y h (by have := HN2L.out; omega) HOM.out)
    have HD9 := Lib.hid (fun y (h : CavsAt y (.slice a m cap) L) => Allows_any t (.slice a m cap) L sg right round y h (by have := HML.out; omega))
    have HD10 := Lib.hid (fun y (h : CavsAt y (.slice a16 m p16) L) => rAllows_any t (.slice a16 m p16) L sg right round y h (by have := HML.out; omega) HOL.out hr)
    generalize Mc.allows L right round = q3 at HD9 HD10
    have HD11 := Lib.hid (fun y (hl : LaidM y) (h : CavsAt y (.slice a m cap) L) => macPut_any t (.slice a m cap) L sg y hl h (by omega) (by have := HML.out; omega) HOL.out)
    have HD12 := Lib.hid (fun y (h : CavsAt y (.slice a16 m p16) L) => rMacPut_any t (.slice a16 m p16) L sg y h (by omega) (by have := HML.out; omega) HOL.out)
    generalize Mc.put t L sg = P1 at HD11 HD12
    have HD13 := Lib.hid (fun y (hl : LaidM y) (h : CavsAt y (.slice am n2 pm) Lm) => macPut_any t (.slice am n2 pm) Lm sgm y hl h (by omega) (by have := HN2L.out; omega) HOM.out)
    have HD15 := Lib.hid (fun v y (h : CavsAt y v Lm) => rMacPut_any t v Lm sgm y h (by omega) (by have := HN2L.out; omega) HOM.out)
    generalize Mc.put t Lm sgm = P2 at HD13 HD15
    have HC2n := Lib.hid (HC2.out an pn)
    have HC3n := Lib.hid (HC3.out ax px ay py)
    clear HC2 HC3
    have HC2 := HC2n
    have HC3 := HC3n
    clear HC2n HC3n
    unfold tokv at HD4 HD5 HD6 HD7 HD8 HD9 HD10 HD11 HD12 HD13 HD15
    clear hs ht hsg hc hr hkk hm12 hn1s hn2s hsk hsgm hcp hz hm0
    go_region_held3 (fun y => (y.cell? ⟨b16, 0, none⟩ = some (.string t) ∧ y.cell? ⟨b16, 1, none⟩ = some (.slice a16 m p16) ∧ y.cell? ⟨b16, 2, none⟩ = some (.string sg)) ∧ (y.cell? ⟨gc, 0, none⟩ = some (.int .i64 ck) ∧ y.cell? ⟨gc, 1, none⟩ = some (.int .u64 (cn : Int))) ∧ (y.cell? ⟨b17, 0, none⟩ = some (.string t) ∧ y.cell? ⟨b17, 1, none⟩ = some (.slice an n1 pn) ∧ y.cell? ⟨b17, 2, none⟩ = some (.string sgn)) ∧ (y.cell? ⟨b19, 0, none⟩ = some (.string xt) ∧ y.cell? ⟨b19, 1, none⟩ = some (.slice ax nxl px) ∧ y.cell? ⟨b19, 2, none⟩ = some (.string xs)) ∧ (y.cell? ⟨b22, 0, none⟩ = some (.string xt) ∧ y.cell? ⟨b22, 1, none⟩ = some (.slice ay nxl py) ∧ y.cell? ⟨b22, 2, none⟩ = some (.string xs))) (exact ⟨(HT.out.get 4 _ rfl).three, ⟨(Row.two HT.out.c).1, (Row.two HT.out.c).2.1⟩, (HT.out.get 3 _ rfl).three, (HT.out.get 1 _ rfl).three, (HT.out.get 0 _ rfl).three⟩)
      ((first
        | (go_at_call 17; (with_reducible refine (HC1.out _ (HT.out.get 4 _ rfl).cv).mono ?_); rintro e u ⟨v', rfl, hcv, hbu⟩; obtain ⟨a5, p5, rfl⟩ := hcv.form; rw [HN1L.out] at hcv ⊢; have HV5 := Lib.hid hcv; clear hcv; have HTn := Lib.hid (HT.out.below hbu); clear HT hbu; have HT := HTn; clear HTn)
        | (go_at_call 16; (with_reducible refine (HC2.out _ _ (HT.out.get 3 _ rfl).cv HV5.out).mono ?_); rintro e u ⟨rfl, hbu⟩; have HTn := Lib.hid (HT.out.below hbu); clear HT hbu; have HT := HTn; clear HTn)
        | (go_at_call 16; (with_reducible refine (HC3.out _ (HT.out.get 1 _ rfl).cv (HT.out.get 0 _ rfl).cv).mono ?_); rintro e u ⟨rfl, hbu⟩; have HTn := Lib.hid (HT.out.below hbu); clear HT hbu; have HT := HTn; clear HTn)
        | (go_at_call 18; (with_reducible refine (HC4.out _ (HL.out.l.below HT.out.b (Nat.le_refl _))).mono ?_); rintro e u ⟨rfl, hbu⟩; have HTn := Lib.hid (HT.out.below hbu); clear HT hbu; have HT := HTn; clear HTn)
        | (go_at_call 19; (with_reducible refine (HC5.out _).mono ?_); rintro e u ⟨rfl, hbu⟩; have HTn := Lib.hid (HT.out.below hbu); clear HT hbu; have HT := HTn; clear HTn)))
    all_goals (
      have HTn := Lib.hid HT.out.drew
      clear HT
      have HT := HTn
      clear HTn HC1 HC2 HC3 HC4 HC5
      go_upto_region 13 with fail
      go_region_held3 (fun y => (y.cell? ⟨b9, 0, none⟩ = some (.string t) ∧ y.cell? ⟨b9, 1, none⟩ = some (.slice a m cap) ∧ y.cell? ⟨b9, 2, none⟩ = some (.string sg)) ∧ (y.cell? ⟨b16, 0, none⟩ = some (.string t) ∧ y.cell? ⟨b16, 1, none⟩ = some (.slice a16 m p16) ∧ y.cell? ⟨b16, 2, none⟩ = some (.string sg)) ∧ (y.cell? ⟨b18, 0, none⟩ = some (.string t) ∧ y.cell? ⟨b18, 1, none⟩ = some (.slice am n2 pm) ∧ y.cell? ⟨b18, 2, none⟩ = some (.string sgm))) (exact ⟨(HT.out.get 5 _ rfl).three, (HT.out.get 4 _ rfl).three, (HT.out.get 2 _ rfl).three⟩)
        ((first
          | (go_at_call 13; (with_reducible refine (HD1.out _ (HL.out.l.below HT.out.b (Nat.le_refl _))).mono ?_); rintro e u ⟨rfl, hbu⟩; have HTn := Lib.hid (HT.out.below hbu); clear HT hbu; have HT := HTn; clear HTn)
          | (go_at_call 20; (with_reducible refine (HD2.out _).mono ?_); rintro e u ⟨rfl, hbu⟩; have HTn := Lib.hid (HT.out.below hbu); clear HT hbu; have HT := HTn; clear HTn)
          | (go_at_call 16; (with_reducible refine (HD3.out _).mono ?_); rintro e u ⟨rfl, hbu⟩; have HTn := Lib.hid (HT.out.below hbu); clear HT hbu; have HT := HTn; clear HTn)
          | (go_at_call 21; (with_reducible refine (HD4.out _ (HL.out.l.below HT.out.b (Nat.le_refl _)) (HT.out.get 5 _ rfl).cv).mono ?_); rintro e u ⟨rfl, hbu⟩; have HTn := Lib.hid (HT.out.below hbu); clear HT hbu; have HT := HTn; clear HTn)
          | (go_at_call 22; (with_reducible refine (HD5.out _ (HT.out.get 4 _ rfl).cv).mono ?_); rintro e u ⟨rfl, hbu⟩; have HTn := Lib.hid (HT.out.below hbu); clear HT hbu; have HT := HTn; clear HTn)
          | (go_at_call 21; (with_reducible refine (HD6.out _ (HL.out.l.below HT.out.b (Nat.le_refl _)) (HT.out.get 2 _ rfl).cv).mono ?_); rintro e u ⟨rfl, hbu⟩; have HTn := Lib.hid (HT.out.below hbu); clear HT hbu; have HT := HTn; clear HTn)
          | (go_at_call 11; (with_reducible refine (HD7.out _ (HT.out.get 2 _ rfl).cv).mono ?_); rintro e u ⟨v', rfl, hcv, hbu⟩; obtain ⟨a7, p7, rfl⟩ := hcv.form; rw [HN2L.out] at hcv ⊢; have HV7 := Lib.hid hcv; clear hcv; have HTn := Lib.hid (HT.out.below hbu); clear HT hbu; have HT := HTn; clear HTn)
          | (go_at_call 22; (with_reducible refine (HD8.out _ _ HV7.out).mono ?_); rintro e u ⟨rfl, hbu⟩; have HTn := Lib.hid (HT.out.below hbu); clear HT hbu; have HT := HTn; clear HTn)
          | (go_at_call 23; (with_reducible refine (HD9.out _ (HT.out.get 5 _ rfl).cv).mono ?_); rintro e u ⟨rfl, hbu⟩; have HTn := Lib.hid (HT.out.below hbu); clear HT hbu; have HT := HTn; clear HTn)
          | (go_at_call 24; (with_reducible refine (HD10.out _ (HT.out.get 4 _ rfl).cv).mono ?_); rintro e u ⟨rfl, hbu⟩; have HTn := Lib.hid (HT.out.below hbu); clear HT hbu; have HT := HTn; clear HTn)
          | (go_at_call 25; (with_reducible refine (HD11.out _ (HL.out.below HT.out.b (Nat.le_refl _)) (HT.out.get 5 _ rfl).cv).mono ?_); rintro e u ⟨rfl, hbu⟩; have HTn := Lib.hid (HT.out.below hbu); clear HT hbu; have HT := HTn; clear HTn)
          | (go_at_call 26; (with_reducible refine (HD12.out _ (HT.out.get 4 _ rfl).cv).mono ?_); rintro e u ⟨rfl, hbu⟩; have HTn := Lib.hid (HT.out.below hbu); clear HT hbu; have HT := HTn; clear HTn)
          | (go_at_call 25; (with_reducible refine (HD13.out _ (HL.out.below HT.out.b (Nat.le_refl _)) (HT.out.get 2 _ rfl).cv).mono ?_); rintro e u ⟨rfl, hbu⟩; have HTn := Lib.hid (HT.out.below hbu); clear HT hbu; have HT := HTn; clear HTn)
          | (go_at_call 26; (with_reducible refine (HD15.out _ _ HV7.out).mono ?_); rintro e u ⟨rfl, hbu⟩; have HTn := Lib.hid (HT.out.below hbu); clear HT hbu; have HT := HTn; clear HTn)))
      all_goals (go_wp2_with fail; go_ret; exact ⟨rfl, HT.out.b⟩))

end Go.Proofs.YtalncnblcfcmcaaDoor
