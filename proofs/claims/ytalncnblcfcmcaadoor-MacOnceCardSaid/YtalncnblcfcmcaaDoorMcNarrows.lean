/- The walk of the statement MacNarrows. -/
import Derived.Test.YtalncnblcfcmcaaDoorMcEx
import Derived.Lib.MinMax
namespace Go.Proofs.YtalncnblcfcmcaaDoor
open Go.RowKit

/-- a token in a box -/
structure Box (x : World) (b : Nat) (t : ByteArray) (v : Value) (s : ByteArray) (l : List Cav) : Prop where
  r : Row x b [.string t, v, .string s]
  cv : CavsAt x v l
  lt : b < x.heap.size
theorem Box.below {x y : World} {b : Nat} {t : ByteArray} {v : Value} {s : ByteArray} {l : List Cav} (h : Box x b t v s l) (hb : Below x.heap.size x y) : Box y b t v s l :=
  ⟨h.r.below hb h.lt, h.cv.below hb (Nat.le_refl _), Nat.lt_of_lt_of_le h.lt hb.size⟩
theorem Box.alloc {x : World} {b : Nat} {t : ByteArray} {v : Value} {s : ByteArray} {l : List Cav} (h : Box x b t v s l) (o : Obj) : Box (x.alloc o) b t v s l := h.below ((Below.refl _ _).alloc (Nat.le_refl _) o)
theorem Box.drew {x : World} {b : Nat} {t : ByteArray} {v : Value} {s : ByteArray} {l : List Cav} (h : Box x b t v s l) : Box x.drew b t v s l := ⟨h.r, h.cv, h.lt⟩
theorem Box.new (x : World) (t : ByteArray) (a : Option Addr) (n cap : Nat) (s : ByteArray) {l : List Cav} (hv : CavsAt x (.slice a n cap) l) : Box (x.alloc (.cells #[.string t, .slice a n cap, .string s] 24)) x.heap.size t (.slice a n cap) s l :=
  ⟨Row.at rfl (by simp), hv.alloc _, by simp⟩

/-- three tokens in boxes -/
structure Tri (w y : World) (bt bu ba : Nat) (vt vu va : Value) (sg : ByteArray) (lt lu la : List Cav) : Prop where
  t : Box y bt ⟨#[]⟩ vt ⟨#[]⟩ lt
  u : Box y bu ⟨#[]⟩ vu sg lu
  a : Box y ba ⟨#[]⟩ va ⟨#[]⟩ la
  b : Below w.heap.size w y
theorem Tri.below {w y z : World} {bt bu ba : Nat} {vt vu va : Value} {sg : ByteArray} {lt lu la : List Cav} (h : Tri w y bt bu ba vt vu va sg lt lu la) (hb : Below y.heap.size y z) : Tri w z bt bu ba vt vu va sg lt lu la :=
  ⟨h.t.below hb, h.u.below hb, h.a.below hb, h.b.trans (hb.mono h.b.size)⟩
theorem Tri.cells {w y : World} {bt bu ba : Nat} {vt vu va : Value} {sg : ByteArray} {lt lu la : List Cav} (h : Tri w y bt bu ba vt vu va sg lt lu la) :
    (y.cell? ⟨bt, 0, none⟩ = some (.string ⟨#[]⟩) ∧ y.cell? ⟨bt, 1, none⟩ = some vt ∧ y.cell? ⟨bt, 2, none⟩ = some (.string ⟨#[]⟩)) ∧ (y.cell? ⟨bu, 0, none⟩ = some (.string ⟨#[]⟩) ∧ y.cell? ⟨bu, 1, none⟩ = some vu ∧ y.cell? ⟨bu, 2, none⟩ = some (.string sg)) ∧ (y.cell? ⟨ba, 0, none⟩ = some (.string ⟨#[]⟩) ∧ y.cell? ⟨ba, 1, none⟩ = some va ∧ y.cell? ⟨ba, 2, none⟩ = some (.string ⟨#[]⟩)) :=
  ⟨⟨(Row.three h.t.r).1, (Row.three h.t.r).2.1, (Row.three h.t.r).2.2.1⟩, ⟨(Row.three h.u.r).1, (Row.three h.u.r).2.1, (Row.three h.u.r).2.2.1⟩, ⟨(Row.three h.a.r).1, (Row.three h.a.r).2.1, (Row.three h.a.r).2.2.1⟩⟩

theorem CavsAt.take {x : World} {a : Option Addr} {n cap : Nat} {l : List Cav} (h : CavsAt x (.slice a n cap) l) (m : Nat) (hm : m ≤ n) : CavsAt x (.slice a m cap) (l.take m) := by
  rcases h with ⟨h, rfl⟩ | ⟨ad, c, h, rfl⟩ | ⟨b, off, cp, h, hlt, hc⟩
  · cases h
    obtain rfl : m = 0 := by omega
    exact .inl ⟨rfl, rfl⟩
  · cases h
    obtain rfl : m = 0 := by omega
    exact .inr (.inl ⟨_, _, rfl, rfl⟩)
  · cases h
    refine .inr (.inr ⟨b, off, cap, by rw [List.length_take, Nat.min_eq_left hm], hlt, fun j hj => ?_⟩)
    rw [List.length_take] at hj
    rw [List.getElem_take]
    exact hc j (by omega)
theorem CavsAt.one (x : World) (k : Int) (n : Nat) : CavsAt (x.alloc (.cells #[.int .i64 k, .int .u64 (n : Int)] 27)) (.slice (some ⟨x.heap.size, 0, none⟩) 1 1) [⟨k, n⟩] := by
  refine .inr (.inr ⟨x.heap.size, 0, 1, rfl, by simp, fun j hj => ?_⟩)
  obtain rfl : j = 0 := by simpa using hj
  exact ⟨by rw [World.cell?_alloc_mark]; rfl, by rw [World.cell?_alloc_mark]; rfl⟩

set_option maxRecDepth 100000 in
set_option maxHeartbeats 8000000 in
theorem MacNarrows_walk (v : Value) (l : List Cav) (c : Cav) (r rd : Nat) (w : World) (hL : LaidM w) (hv : CavsAt w v l) (hz : l.length ≤ maxLen) (_hok : ∀ c ∈ l, c.n < 18446744073709551616) (hcap : ∀ a n cap, v = .slice a n cap → n ≤ cap ∧ cap ≤ maxLen) (hc : c.n < 18446744073709551616) (_hr : r < 18446744073709551616) (_hrd : rd < 18446744073709551616) :
    Calls Tryd.prog 5 #[v, c.val, .int .u64 (r : Int), .int .u64 (rd : Int)] w fun e w' => e = .returned (.bool true) ∧ Below w.heap.size w w' := by
  have HEX := Lib.hid (fun y (h : LaidM y) => macExamples_any y h)
  obtain ⟨a, cap, rfl⟩ := hv.form
  have hcp := hcap _ _ _ rfl
  unfold maxLen at hcp hz
  obtain ⟨m, hm⟩ : ∃ m, min l.length 8 = m := ⟨_, rfl⟩
  have hmin : min (l.length : Int) 8 = (m : Int) := by omega
  have hm0 : (0 : Int) ≤ (m : Int) := by omega
  have hmc : (m : Int) ≤ (cap : Int) := by omega
  have hbi : (l.length : Int) ≤ 9223372036854775807 := by omega
  have HM := Lib.hid (show m ≤ l.length ∧ m ≤ 8 from by omega)
  have HL := Lib.hid hL
  have HV := Lib.hid hv
  obtain ⟨ck, cn⟩ := c
  unfold Cav.val Cav.cells
  clear hv hL hcap hm
  go_enter Tryd.func5, Tryd.ntmps5
  go_upto_region 1 with fail
  have r0 : Row (w.alloc (.cells #[.int .i64 ck, .int .u64 (cn : Int)] 27)) w.heap.size [.int .i64 ck, .int .u64 (cn : Int)] := Row.at rfl (by simp)
  have hb0 : Below w.heap.size w (w.alloc (.cells #[.int .i64 ck, .int .u64 (cn : Int)] 27)) := (Below.refl _ _).alloc (Nat.le_refl _) _
  have l0 : w.heap.size < (w.alloc (.cells #[.int .i64 ck, .int .u64 (cn : Int)] 27)).heap.size := by simp
  generalize w.alloc (.cells #[.int .i64 ck, .int .u64 (cn : Int)] 27) = x0 at r0 hb0 l0 ⊢
  go_wp2_with fail
  refine (HEX.out _ (HL.out.below hb0 (Nat.le_refl _))).mono ?_
  rintro e x1 ⟨rfl, hb1⟩
  have r1 := r0.below hb1 l0
  have hb1a := hb0.trans (hb1.mono hb0.size)
  have l1 : w.heap.size < x1.heap.size := Nat.lt_of_lt_of_le l0 hb1.size
  clear r0 hb0 hb1 l0
  go_upto_region 5 with fail
  have hvm := (HV.out.below hb1a (Nat.le_refl _)).take m HM.out.1
  have hbt := Box.new x1 ⟨#[]⟩ a m cap ⟨#[]⟩ hvm
  have r2 := r1.alloc l1 (.cells #[.string ⟨#[]⟩, .slice a m cap, .string ⟨#[]⟩] 24)
  have hb2 := hb1a.alloc hb1a.size (.cells #[.string ⟨#[]⟩, .slice a m cap, .string ⟨#[]⟩] 24)
  have l2 : w.heap.size < (x1.alloc (.cells #[.string ⟨#[]⟩, .slice a m cap, .string ⟨#[]⟩] 24)).heap.size := by simp; omega
  generalize x1.alloc (.cells #[.string ⟨#[]⟩, .slice a m cap, .string ⟨#[]⟩] 24) = x2 at hbt r2 hb2 l2 ⊢
  generalize x1.heap.size = bt at hbt ⊢
  clear r1 l1 hb1a hvm
  have HNR := Lib.hid (Narrow_any ⟨#[]⟩ (.slice a m cap) (l.take m) ⟨#[]⟩ ⟨ck, cn⟩ x2 (HL.out.l.below hb2 (Nat.le_refl _)) hbt.cv (by rw [List.length_take]; have := HM.out; omega) (by show (0 : Nat) ≤ _; omega) hc)
  unfold tokv Cav.val Cav.cells at HNR
  generalize Mc.signB ⟨#[]⟩ (Mc.putc ⟨ck, cn⟩) = sg at HNR
  have HBT := Lib.hid hbt
  obtain ⟨c0, c1, c2, _⟩ := Row.three hbt.r
  obtain ⟨d0, d1, _⟩ := Row.two r2
  clear hbt
  simp only [List.toArray] at HNR
  go_wp2_with fail
  refine HNR.out.mono ?_
  rintro e x3 ⟨v', rfl, hcu, hb3⟩
  obtain ⟨nu, hnu⟩ : ∃ n, (l.take m ++ [(⟨ck, cn⟩ : Cav)]).length = n := ⟨_, rfl⟩
  obtain ⟨au, pu, hfu⟩ := hcu.form
  rw [hnu] at hfu
  subst hfu
  clear hnu c0 c1 c2 d0 d1
  go_upto_region 6 with fail
  have hbu := Box.new x3 ⟨#[]⟩ au nu pu sg hcu
  have hbt := (HBT.out.below hb3).alloc (.cells #[.string ⟨#[]⟩, .slice au nu pu, .string sg] 24)
  have r3 := (r2.below hb3 l2).alloc (Nat.lt_of_lt_of_le l2 hb3.size) (.cells #[.string ⟨#[]⟩, .slice au nu pu, .string sg] 24)
  have hb3a := hb2.trans (hb3.mono hb2.size)
  have hb4 := hb3a.alloc hb3a.size (.cells #[.string ⟨#[]⟩, .slice au nu pu, .string sg] 24)
  have l3 : w.heap.size < (x3.alloc (.cells #[.string ⟨#[]⟩, .slice au nu pu, .string sg] 24)).heap.size := by have := hb3.size; simp; omega
  generalize x3.alloc (.cells #[.string ⟨#[]⟩, .slice au nu pu, .string sg] 24) = x4 at hbu hbt r3 hb4 l3 ⊢
  generalize x3.heap.size = bu at hbu ⊢
  clear r2 hb2 l2 hb3 hb3a hcu HBT HNR
  obtain ⟨d0, d1, _⟩ := Row.two r3
  have HBT := Lib.hid hbt
  have HBU := Lib.hid hbu
  have HB4 := Lib.hid hb4
  clear hbt hbu hb4
  go_upto_region 7 with fail
  have hT : Tri w ((x4.alloc (.cells #[.int .i64 ck, .int .u64 (cn : Int)] 27)).alloc (.cells #[.string ⟨#[]⟩, .slice (some ⟨x4.heap.size, 0, none⟩) 1 1, .string ⟨#[]⟩] 24)).drew bt bu (x4.heap.size + 1) (.slice a m cap) (.slice au nu pu) (.slice (some ⟨x4.heap.size, 0, none⟩) 1 1) sg (l.take m) (l.take m ++ [⟨ck, cn⟩]) [⟨ck, cn⟩] := by
    have hone := CavsAt.one x4 ck cn
    have hn := Box.new (x4.alloc (.cells #[.int .i64 ck, .int .u64 (cn : Int)] 27)) ⟨#[]⟩ (some ⟨x4.heap.size, 0, none⟩) 1 1 ⟨#[]⟩ hone
    have e : (x4.alloc (.cells #[.int .i64 ck, .int .u64 (cn : Int)] 27)).heap.size = x4.heap.size + 1 := by simp
    rw [e] at hn
    exact ⟨((HBT.out.alloc _).alloc _).drew, ((HBU.out.alloc _).alloc _).drew, hn.drew, ((HB4.out.alloc HB4.out.size _).alloc (by have := HB4.out.size; simp; omega) _).drew⟩
  generalize (x4.alloc (.cells #[.int .i64 ck, .int .u64 (cn : Int)] 27)).alloc (.cells #[.string ⟨#[]⟩, .slice (some ⟨x4.heap.size, 0, none⟩) 1 1, .string ⟨#[]⟩] 24) = x5 at hT ⊢
  generalize x4.heap.size + 1 = ba at hT ⊢
  generalize x4.heap.size = ga at hT ⊢
  have HT := Lib.hid hT
  clear hT HBT HBU HB4 r3 l3 d0 d1 HV HEX
  have hlen : (l.take m).length ≤ 8 := by rw [List.length_take]; have := HM.out; omega
  have HAT := Lib.hid (fun y (h : CavsAt y (.slice a m cap) (l.take m)) => Allows_any ⟨#[]⟩ (.slice a m cap) (l.take m) ⟨#[]⟩ r rd y h (by omega))
  have HAU := Lib.hid (fun y (h : CavsAt y (.slice au nu pu) (l.take m ++ [⟨ck, cn⟩])) => Allows_any ⟨#[]⟩ (.slice au nu pu) (l.take m ++ [⟨ck, cn⟩]) sg r rd y h (by rw [List.length_append]; simp; omega))
  have HAA := Lib.hid (fun y (h : CavsAt y (.slice (some ⟨ga, 0, none⟩) 1 1) [⟨ck, cn⟩]) => Allows_any ⟨#[]⟩ (.slice (some ⟨ga, 0, none⟩) 1 1) [⟨ck, cn⟩] ⟨#[]⟩ r rd y h (by simp))
  have HA0 := Lib.hid (fun y => Allows_any ⟨#[]⟩ (.slice none 0 0) [] ⟨#[]⟩ r rd y (CavsAt.nil y) (by simp))
  have hq : Mc.allows (l.take m ++ [⟨ck, cn⟩]) r rd = (Mc.allows (l.take m) r rd && Mc.allows [⟨ck, cn⟩] r rd) := by
    unfold Mc.allows; rw [List.any_append]; simp
  have hq0 : Mc.allows [] r rd = true := rfl
  rw [hq] at HAU
  rw [hq0] at HA0
  unfold tokv at HAT HAU HAA HA0
  clear hq hq0 hlen
  generalize l.take m = L at *
  generalize Mc.allows [⟨ck, cn⟩] r rd = qa at *
  generalize Mc.allows L r rd = qt at *
  cases qt with
  | false =>
    simp only [Bool.false_and] at HAU
    refine wp_region_held_drew (S := fun y => (y.cell? ⟨bt, 0, none⟩ = some (.string ⟨#[]⟩) ∧ y.cell? ⟨bt, 1, none⟩ = some (.slice a m cap) ∧ y.cell? ⟨bt, 2, none⟩ = some (.string ⟨#[]⟩)) ∧ (y.cell? ⟨bu, 0, none⟩ = some (.string ⟨#[]⟩) ∧ y.cell? ⟨bu, 1, none⟩ = some (.slice au nu pu) ∧ y.cell? ⟨bu, 2, none⟩ = some (.string sg)) ∧ (y.cell? ⟨ba, 0, none⟩ = some (.string ⟨#[]⟩) ∧ y.cell? ⟨ba, 1, none⟩ = some (.slice (some ⟨ga, 0, none⟩) 1 1) ∧ y.cell? ⟨ba, 2, none⟩ = some (.string ⟨#[]⟩))) (by kernel_rfl) ?_ (fun hHeld => ?_)
    · exact HT.out.cells
    refine' wpAnyH_take (i := 0) (v := _) rfl (by kernel_rfl) (by kernel_rfl) (by kernel_rfl) (fun _ _ _ h => h) (Or.inl ⟨by rfl, ?yyf0⟩) (by assumption) ?rrf0
    case yyf0 => (intro w hSw; (try dsimp only at hSw); first | (go_simp; done) | (go_simp; with_reducible rfl))
    (try simp only [Act.put, List.setIfInBounds_toArray, List.set_cons_zero, List.set_cons_succ, List.getElem_toArray, List.getElem_cons_zero])
    refine' wpAnyH_take (i := 1) (v := _) rfl (by kernel_rfl) (by kernel_rfl) (by kernel_rfl) (fun _ _ _ h => h) (Or.inl ⟨by rfl, ?yyf1⟩) (by assumption) ?rrf1
    case yyf1 => (intro w hSw; (try dsimp only at hSw); first | (go_simp; done) | (go_simp; with_reducible rfl))
    (try simp only [Act.put, List.setIfInBounds_toArray, List.set_cons_zero, List.set_cons_succ, List.getElem_toArray, List.getElem_cons_zero, List.getElem_cons_succ])
    refine' wpAnyH_take (i := 2) (v := _) rfl (by kernel_rfl) (by kernel_rfl) (by kernel_rfl) (fun _ _ _ h => h) (Or.inl ⟨by rfl, ?yyf2⟩) (by assumption) ?rrf2
    case yyf2 => (intro w hSw; (try dsimp only at hSw); first | (go_simp; done) | (go_simp; with_reducible rfl))
    (try simp only [Act.put, List.setIfInBounds_toArray, List.set_cons_zero, List.set_cons_succ, List.getElem_toArray, List.getElem_cons_zero, List.getElem_cons_succ])
    refine' wpAnyH_take (i := 3) (v := _) rfl (by kernel_rfl) (by kernel_rfl) (by kernel_rfl) (fun _ _ _ h => h) (Or.inl ⟨by rfl, ?yyf3⟩) (by assumption) ?rrf3
    case yyf3 => (intro w hSw; (try dsimp only at hSw); first | (go_simp; done) | (go_simp; with_reducible rfl))
    (try simp only [Act.put, List.setIfInBounds_toArray, List.set_cons_zero, List.set_cons_succ, List.getElem_toArray, List.getElem_cons_zero, List.getElem_cons_succ])
    refine' wpAnyH_take (i := 4) (v := _) rfl (by kernel_rfl) (by kernel_rfl) (by kernel_rfl) (fun _ _ _ h => h) (Or.inl ⟨by rfl, ?yyf4⟩) (by assumption) ?rrf4
    case yyf4 => (intro w hSw; (try dsimp only at hSw); first | (go_simp; done) | (go_simp; with_reducible rfl))
    (try simp only [Act.put, List.setIfInBounds_toArray, List.set_cons_zero, List.set_cons_succ, List.getElem_toArray, List.getElem_cons_zero, List.getElem_cons_succ])
    refine' wpAnyH_take (i := 6) (v := _) rfl (by kernel_rfl) (by kernel_rfl) (by kernel_rfl) (fun _ _ _ h => h) (Or.inl ⟨by rfl, ?yyf6⟩) (by assumption) ?rrf6
    case yyf6 => (intro w hSw; (try dsimp only at hSw); first | (go_simp; done) | (go_simp; with_reducible rfl))
    (try simp only [Act.put, List.setIfInBounds_toArray, List.set_cons_zero, List.set_cons_succ, List.getElem_toArray, List.getElem_cons_zero, List.getElem_cons_succ])
    refine' wpAnyH_take (i := 7) (v := _) rfl (by kernel_rfl) (by kernel_rfl) (by kernel_rfl) (fun _ _ _ h => h) (Or.inl ⟨by rfl, ?yyf7⟩) (by assumption) ?rrf7
    case yyf7 => (intro w hSw; (try dsimp only at hSw); first | (go_simp; done) | (go_simp; with_reducible rfl))
    (try simp only [Act.put, List.setIfInBounds_toArray, List.set_cons_zero, List.set_cons_succ, List.getElem_toArray, List.getElem_cons_zero, List.getElem_cons_succ])
    refine' wpAnyH_take (i := 8) (v := _) rfl (by kernel_rfl) (by kernel_rfl) (by kernel_rfl) (fun _ _ _ h => h) (Or.inl ⟨by rfl, ?yyf8⟩) (by assumption) ?rrf8
    case yyf8 => (intro w hSw; (try dsimp only at hSw); first | (go_simp; done) | (go_simp; with_reducible rfl))
    (try simp only [Act.put, List.setIfInBounds_toArray, List.set_cons_zero, List.set_cons_succ, List.getElem_toArray, List.getElem_cons_zero, List.getElem_cons_succ])
    refine wpAnyH_ready (rs := [5]) (by kernel_rfl) (by simp) ?_
    refine AllReadyH.cons rfl (fun K hK => ?_) AllReadyH.nil
    rw [if_pos (by rfl)]
    go_simp
    (go_at_call 23; (with_reducible refine (HAU.out _ HT.out.u.cv).mono ?_); rintro e u ⟨rfl, hbu⟩; have HTn := Lib.hid (HT.out.below hbu); clear HT hbu; have HT := HTn; clear HTn)
    refine hK.out _ _ ?_ (fun hHeld2 => ?_)
    · exact HT.out.cells
    clear hK K
    (try simp only [Act.put, List.setIfInBounds_toArray, List.set_cons_zero, List.set_cons_succ, List.getElem_toArray, List.getElem_cons_zero, List.getElem_cons_succ])
    refine wpAnyH_ready (rs := [9]) (by kernel_rfl) (by simp) ?_
    refine AllReadyH.cons rfl (fun K hK => ?_) AllReadyH.nil
    rw [if_pos (by rfl)]
    go_simp
    (go_at_call 23; (with_reducible refine (HAT.out _ HT.out.t.cv).mono ?_); rintro e u ⟨rfl, hbu⟩; have HTn := Lib.hid (HT.out.below hbu); clear HT hbu; have HT := HTn; clear HTn)
    refine hK.out _ _ ?_ (fun hHeld2 => ?_)
    · exact HT.out.cells
    clear hK K
    (try simp only [Act.put, List.setIfInBounds_toArray, List.set_cons_zero, List.set_cons_succ, List.getElem_toArray, List.getElem_cons_zero, List.getElem_cons_succ])
    refine' wpAnyH_take (i := 10) (v := _) rfl (by kernel_rfl) (by kernel_rfl) (by kernel_rfl) (fun _ _ _ h => h) (Or.inl ⟨by rfl, ?yyf10⟩) (by assumption) ?rrf10
    case yyf10 => (intro w hSw; (try dsimp only at hSw); first | (go_simp; done) | (go_simp; with_reducible rfl))
    (try simp only [Act.put, List.setIfInBounds_toArray, List.set_cons_zero, List.set_cons_succ, List.getElem_toArray, List.getElem_cons_zero, List.getElem_cons_succ])
    refine wpAnyH_take (i := 11) rfl (by kernel_rfl) (by kernel_rfl) (by kernel_rfl) (fun _ _ _ h => h) (Or.inr ⟨by rfl, rfl⟩) (by assumption) ?_
    (try simp only [Act.put, List.setIfInBounds_toArray, List.set_cons_zero, List.set_cons_succ, List.getElem_toArray, List.getElem_cons_zero, List.getElem_cons_succ])
    refine wpAnyH_take (i := 12) rfl (by kernel_rfl) (by kernel_rfl) (by kernel_rfl) (fun _ _ _ h => h) (Or.inr ⟨by rfl, rfl⟩) (by assumption) ?_
    (try simp only [Act.put, List.setIfInBounds_toArray, List.set_cons_zero, List.set_cons_succ, List.getElem_toArray, List.getElem_cons_zero, List.getElem_cons_succ])
    refine wpAnyH_take (i := 13) rfl (by kernel_rfl) (by kernel_rfl) (by kernel_rfl) (fun _ _ _ h => h) (Or.inr ⟨by rfl, rfl⟩) (by assumption) ?_
    (try simp only [Act.put, List.setIfInBounds_toArray, List.set_cons_zero, List.set_cons_succ, List.getElem_toArray, List.getElem_cons_zero, List.getElem_cons_succ])
    refine wpAnyH_take (i := 14) rfl (by kernel_rfl) (by kernel_rfl) (by kernel_rfl) (fun _ _ _ h => h) (Or.inr ⟨by rfl, rfl⟩) (by assumption) ?_
    (try simp only [Act.put, List.setIfInBounds_toArray, List.set_cons_zero, List.set_cons_succ, List.getElem_toArray, List.getElem_cons_zero, List.getElem_cons_succ])
    refine' wpAnyH_take (i := 15) (v := _) rfl (by kernel_rfl) (by kernel_rfl) (by kernel_rfl) (fun _ _ _ h => h) (Or.inl ⟨by rfl, ?yyf15⟩) (by assumption) ?rrf15
    case yyf15 => (intro w hSw; (try dsimp only at hSw); first | (go_simp; done) | (go_simp; with_reducible rfl))
    (try simp only [Act.put, List.setIfInBounds_toArray, List.set_cons_zero, List.set_cons_succ, List.getElem_toArray, List.getElem_cons_zero, List.getElem_cons_succ])
    refine' wpAnyH_take (i := 16) (v := _) rfl (by kernel_rfl) (by kernel_rfl) (by kernel_rfl) (fun _ _ _ h => h) (Or.inl ⟨by rfl, ?yyf16⟩) (by assumption) ?rrf16
    case yyf16 => (intro w hSw; (try dsimp only at hSw); first | (go_simp; done) | (go_simp; with_reducible rfl))
    (try simp only [Act.put, List.setIfInBounds_toArray, List.set_cons_zero, List.set_cons_succ, List.getElem_toArray, List.getElem_cons_zero, List.getElem_cons_succ])
    refine' wpAnyH_take (i := 17) (v := _) rfl (by kernel_rfl) (by kernel_rfl) (by kernel_rfl) (fun _ _ _ h => h) (Or.inl ⟨by rfl, ?yyf17⟩) (by assumption) ?rrf17
    case yyf17 => (intro w hSw; (try dsimp only at hSw); first | (go_simp; done) | (go_simp; with_reducible rfl))
    (try simp only [Act.put, List.setIfInBounds_toArray, List.set_cons_zero, List.set_cons_succ, List.getElem_toArray, List.getElem_cons_zero, List.getElem_cons_succ])
    refine' wpAnyH_take (i := 18) (v := _) rfl (by kernel_rfl) (by kernel_rfl) (by kernel_rfl) (fun _ _ _ h => h) (Or.inl ⟨by rfl, ?yyf18⟩) (by assumption) ?rrf18
    case yyf18 => (intro w hSw; (try dsimp only at hSw); first | (go_simp; done) | (go_simp; with_reducible rfl))
    (try simp only [Act.put, List.setIfInBounds_toArray, List.set_cons_zero, List.set_cons_succ, List.getElem_toArray, List.getElem_cons_zero, List.getElem_cons_succ])
    refine' wpAnyH_take (i := 19) (v := _) rfl (by kernel_rfl) (by kernel_rfl) (by kernel_rfl) (fun _ _ _ h => h) (Or.inl ⟨by rfl, ?yyf19⟩) (by assumption) ?rrf19
    case yyf19 => (intro w hSw; (try dsimp only at hSw); first | (go_simp; done) | (go_simp; with_reducible rfl))
    (try simp only [Act.put, List.setIfInBounds_toArray, List.set_cons_zero, List.set_cons_succ, List.getElem_toArray, List.getElem_cons_zero, List.getElem_cons_succ])
    refine' wpAnyH_take (i := 20) (v := _) rfl (by kernel_rfl) (by kernel_rfl) (by kernel_rfl) (fun _ _ _ h => h) (Or.inl ⟨by rfl, ?yyf20⟩) (by assumption) ?rrf20
    case yyf20 => (intro w hSw; (try dsimp only at hSw); first | (go_simp; done) | (go_simp; with_reducible rfl))
    (try simp only [Act.put, List.setIfInBounds_toArray, List.set_cons_zero, List.set_cons_succ, List.getElem_toArray, List.getElem_cons_zero, List.getElem_cons_succ])
    refine' wpAnyH_take (i := 21) (v := _) rfl (by kernel_rfl) (by kernel_rfl) (by kernel_rfl) (fun _ _ _ h => h) (Or.inl ⟨by rfl, ?yyf21⟩) (by assumption) ?rrf21
    case yyf21 => (intro w hSw; (try dsimp only at hSw); first | (go_simp; done) | (go_simp; with_reducible rfl))
    (try simp only [Act.put, List.setIfInBounds_toArray, List.set_cons_zero, List.set_cons_succ, List.getElem_toArray, List.getElem_cons_zero, List.getElem_cons_succ])
    refine wpAnyH_ready (rs := [22]) (by kernel_rfl) (by simp) ?_
    refine AllReadyH.cons rfl (fun K hK => ?_) AllReadyH.nil
    rw [if_pos (by rfl)]
    go_simp
    (go_at_call 23; (with_reducible refine (HA0.out _).mono ?_); rintro e u ⟨rfl, hbu⟩; have HTn := Lib.hid (HT.out.below hbu); clear HT hbu; have HT := HTn; clear HTn)
    refine hK.out _ _ ?_ (fun hHeld2 => ?_)
    · exact HT.out.cells
    clear hK K
    (try simp only [Act.put, List.setIfInBounds_toArray, List.set_cons_zero, List.set_cons_succ, List.getElem_toArray, List.getElem_cons_zero, List.getElem_cons_succ])
    refine' wpAnyH_take (i := 23) (v := _) rfl (by kernel_rfl) (by kernel_rfl) (by kernel_rfl) (fun _ _ _ h => h) (Or.inl ⟨by rfl, ?yyf23⟩) (by assumption) ?rrf23
    case yyf23 => (intro w hSw; (try dsimp only at hSw); first | (go_simp; done) | (go_simp; with_reducible rfl))
    (try simp only [Act.put, List.setIfInBounds_toArray, List.set_cons_zero, List.set_cons_succ, List.getElem_toArray, List.getElem_cons_zero, List.getElem_cons_succ])
    refine' wpAnyH_take (i := 24) (v := _) rfl (by kernel_rfl) (by kernel_rfl) (by kernel_rfl) (fun _ _ _ h => h) (Or.inl ⟨by rfl, ?yyf24⟩) (by assumption) ?rrf24
    case yyf24 => (intro w hSw; (try dsimp only at hSw); first | (go_simp; done) | (go_simp; with_reducible rfl))
    (try simp only [Act.put, List.setIfInBounds_toArray, List.set_cons_zero, List.set_cons_succ, List.getElem_toArray, List.getElem_cons_zero, List.getElem_cons_succ])
    refine wpAnyH_done (by kernel_rfl) ?_ _
    go_wp2_with fail
    go_ret
    exact ⟨rfl, HT.out.b⟩
  | true =>
    simp only [Bool.true_and] at HAU
    cases qa <;> (
      go_region_held3 (fun y => (y.cell? ⟨bt, 0, none⟩ = some (.string ⟨#[]⟩) ∧ y.cell? ⟨bt, 1, none⟩ = some (.slice a m cap) ∧ y.cell? ⟨bt, 2, none⟩ = some (.string ⟨#[]⟩)) ∧ (y.cell? ⟨bu, 0, none⟩ = some (.string ⟨#[]⟩) ∧ y.cell? ⟨bu, 1, none⟩ = some (.slice au nu pu) ∧ y.cell? ⟨bu, 2, none⟩ = some (.string sg)) ∧ (y.cell? ⟨ba, 0, none⟩ = some (.string ⟨#[]⟩) ∧ y.cell? ⟨ba, 1, none⟩ = some (.slice (some ⟨ga, 0, none⟩) 1 1) ∧ y.cell? ⟨ba, 2, none⟩ = some (.string ⟨#[]⟩))) (exact HT.out.cells)
        ((first | (go_at_call 23; (with_reducible refine (HAU.out _ HT.out.u.cv).mono ?_); rintro e u ⟨rfl, hbu⟩; have HTn := Lib.hid (HT.out.below hbu); clear HT hbu; have HT := HTn; clear HTn) | (go_at_call 23; (with_reducible refine (HAT.out _ HT.out.t.cv).mono ?_); rintro e u ⟨rfl, hbu⟩; have HTn := Lib.hid (HT.out.below hbu); clear HT hbu; have HT := HTn; clear HTn) | (go_at_call 23; (with_reducible refine (HAA.out _ HT.out.a.cv).mono ?_); rintro e u ⟨rfl, hbu⟩; have HTn := Lib.hid (HT.out.below hbu); clear HT hbu; have HT := HTn; clear HTn) | (go_at_call 23; (with_reducible refine (HA0.out _).mono ?_); rintro e u ⟨rfl, hbu⟩; have HTn := Lib.hid (HT.out.below hbu); clear HT hbu; have HT := HTn; clear HTn)))
      all_goals (go_wp2_with fail; go_ret; exact ⟨rfl, HT.out.b⟩))

end Go.Proofs.YtalncnblcfcmcaaDoor
