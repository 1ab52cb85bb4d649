/- The walk of the statement MacShared. -/
import Derived.Test.YtalncnblcfcmcaaDoorMcLawNar
import Derived.Test.YtalncnblcfcmcaaDoorMcTab
import Derived.Lib.MinMax
namespace Go.Proofs.YtalncnblcfcmcaaDoor
open Go.RowKit

theorem CavsAt.setLow {x : World} {v : Value} {l : List Cav} {b : Nat} (h : CavsAt x v l) (hf : Fresh b v) {p : Addr} (hp : p.block < b) (u : Value) : CavsAt (x.setCell p u) v l := by
  rcases h with h | h | ⟨g, off, cap, e, hlt, hc⟩
  · exact .inl h
  · exact .inr (.inl h)
  · have hg : b ≤ g := hf ⟨g, off, none⟩ _ _ e
    refine .inr (.inr ⟨g, off, cap, e, by simpa using hlt, fun j hj => ?_⟩)
    have h0 := hc j hj
    refine ⟨(World.cell?_setCell_other _ _ _ _ ?_).trans h0.1, (World.cell?_setCell_other _ _ _ _ ?_).trans h0.2⟩
    · intro e'; rw [e'] at hp; simp at hp; omega
    · intro e'; rw [e'] at hp; simp at hp; omega
theorem Box.setLow {x : World} {b c : Nat} {t : ByteArray} {v : Value} {s : ByteArray} {l : List Cav} (h : Box x b t v s l) (hf : Fresh c v) {g : Nat} (j : Nat) (hp : g < c) (hc : c ≤ b) (u : Value) : Box (x.setCell ⟨g, j, none⟩ u) b t v s l :=
  ⟨h.r.other u (by omega), h.cv.setLow hf (p := ⟨g, j, none⟩) hp u, by have := h.lt; simpa using this⟩
namespace Mc
theorem check_self (k t : ByteArray) {l : List Cav} (h : fits l = true) : check k t l (signs (signB k t) l) = true := by unfold check; rw [h]; simp
theorem fits_snoc {l : List Cav} {c : Cav} (h : fits l = true) (h7 : l.length ≤ 7) (hc : known c = true) : fits (l ++ [c]) = true := by
  unfold fits at h ⊢
  simp only [Bool.and_eq_true, Bool.not_eq_true'] at h
  rw [List.any_append, h.2]
  simp [hc]
  omega
end Mc

/-- two caveats in boxes -/
structure Two (w y : World) (k1 : Int) (n1 : Nat) (k2 : Int) (n2 : Nat) : Prop where
  c : Row y w.heap.size [.int .i64 k1, .int .u64 (n1 : Int)]
  d : Row y (w.heap.size + 1) [.int .i64 k2, .int .u64 (n2 : Int)]
  b : Below w.heap.size w y
  lt : w.heap.size + 1 < y.heap.size
theorem Two.below {w y z : World} {k1 k2 : Int} {n1 n2 : Nat} (h : Two w y k1 n1 k2 n2) (hb : Below y.heap.size y z) : Two w z k1 n1 k2 n2 :=
  have := h.lt
  ⟨h.c.below hb (by omega), h.d.below hb h.lt, h.b.trans (hb.mono h.b.size), Nat.lt_of_lt_of_le h.lt hb.size⟩
theorem Two.alloc {w y : World} {k1 k2 : Int} {n1 n2 : Nat} (h : Two w y k1 n1 k2 n2) (o : Obj) : Two w (y.alloc o) k1 n1 k2 n2 := h.below ((Below.refl _ _).alloc (Nat.le_refl _) o)
theorem Two.setc {w y : World} {k1 k2 : Int} {n1 n2 : Nat} (h : Two w y k1 n1 k2 n2) (k : Int) : Two w (y.setCell ⟨w.heap.size, 0, none⟩ (.int .i64 k)) k n1 k2 n2 :=
  ⟨h.c.set 0 (.int .i64 k) (by simp), h.d.other _ (by omega), h.b.setCell (p := ⟨w.heap.size, 0, none⟩) (Nat.le_refl _) _, by simpa using h.lt⟩
theorem Two.setd {w y : World} {k1 k2 : Int} {n1 n2 : Nat} (h : Two w y k1 n1 k2 n2) (k : Int) : Two w (y.setCell ⟨w.heap.size + 1, 0, none⟩ (.int .i64 k)) k1 n1 k n2 :=
  ⟨h.c.other _ (by omega), h.d.set 0 (.int .i64 k) (by simp), h.b.setCell (p := ⟨w.heap.size + 1, 0, none⟩) (by show w.heap.size ≤ w.heap.size + 1; omega) _, by simpa using h.lt⟩

/-- the three tokens, the two caveats, and the caveats that were laid behind -/
structure Shr (w y : World) (bt ba bb : Nat) (a3 : Option Addr) (n p3 ga oa pa gb ob pb : Nat) (st sa sb : ByteArray) (L La Lb : List Cav) (cn dn : Nat) : Prop where
  two : Two w y 1 cn 2 dn
  t : Box y bt ⟨#[97]⟩ (.slice a3 n p3) st L
  a : Box y ba ⟨#[97]⟩ (.slice (some ⟨ga, oa, none⟩) (n + 1) pa) sa La
  b : Box y bb ⟨#[97]⟩ (.slice (some ⟨gb, ob, none⟩) (n + 1) pb) sb Lb
  ea : y.cell? ⟨ga, oa + n * 2, none⟩ = some (.int .i64 1) ∧ y.cell? ⟨ga, oa + n * 2 + 1, none⟩ = some (.int .u64 (cn : Int))
  eb : y.cell? ⟨gb, ob + n * 2, none⟩ = some (.int .i64 2) ∧ y.cell? ⟨gb, ob + n * 2 + 1, none⟩ = some (.int .u64 (dn : Int))
theorem Shr.below {w y z : World} {bt ba bb : Nat} {a3 : Option Addr} {n p3 ga oa pa gb ob pb : Nat} {st sa sb : ByteArray} {L La Lb : List Cav} {cn dn : Nat} (h : Shr w y bt ba bb a3 n p3 ga oa pa gb ob pb st sa sb L La Lb cn dn) (hb : Below y.heap.size y z) : Shr w z bt ba bb a3 n p3 ga oa pa gb ob pb st sa sb L La Lb cn dn :=
  ⟨h.two.below hb, h.t.below hb, h.a.below hb, h.b.below hb,
   ⟨(hb.cell (p := ⟨ga, oa + n * 2, none⟩) (lt_of_cell h.ea.1)).trans h.ea.1, (hb.cell (p := ⟨ga, oa + n * 2 + 1, none⟩) (lt_of_cell h.ea.1)).trans h.ea.2⟩,
   ⟨(hb.cell (p := ⟨gb, ob + n * 2, none⟩) (lt_of_cell h.eb.1)).trans h.eb.1, (hb.cell (p := ⟨gb, ob + n * 2 + 1, none⟩) (lt_of_cell h.eb.1)).trans h.eb.2⟩⟩
theorem Shr.drew {w y : World} {bt ba bb : Nat} {a3 : Option Addr} {n p3 ga oa pa gb ob pb : Nat} {st sa sb : ByteArray} {L La Lb : List Cav} {cn dn : Nat} (h : Shr w y bt ba bb a3 n p3 ga oa pa gb ob pb st sa sb L La Lb cn dn) : Shr w y.drew bt ba bb a3 n p3 ga oa pa gb ob pb st sa sb L La Lb cn dn :=
  ⟨⟨h.two.c, h.two.d, h.two.b.drew, h.two.lt⟩, h.t.drew, h.a.drew, h.b.drew, h.ea, h.eb⟩
theorem Shr.cells {w y : World} {bt ba bb : Nat} {a3 : Option Addr} {n p3 ga oa pa gb ob pb : Nat} {st sa sb : ByteArray} {L La Lb : List Cav} {cn dn : Nat} (h : Shr w y bt ba bb a3 n p3 ga oa pa gb ob pb st sa sb L La Lb cn dn) :
    (y.cell? ⟨bt, 0, none⟩ = some (.string ⟨#[97]⟩) ∧ y.cell? ⟨bt, 1, none⟩ = some (.slice a3 n p3) ∧ y.cell? ⟨bt, 2, none⟩ = some (.string st)) ∧ (y.cell? ⟨ba, 0, none⟩ = some (.string ⟨#[97]⟩) ∧ y.cell? ⟨ba, 1, none⟩ = some (.slice (some ⟨ga, oa, none⟩) (n + 1) pa) ∧ y.cell? ⟨ba, 2, none⟩ = some (.string sa)) ∧ (y.cell? ⟨bb, 0, none⟩ = some (.string ⟨#[97]⟩) ∧ y.cell? ⟨bb, 1, none⟩ = some (.slice (some ⟨gb, ob, none⟩) (n + 1) pb) ∧ y.cell? ⟨bb, 2, none⟩ = some (.string sb)) ∧ (y.cell? ⟨w.heap.size, 0, none⟩ = some (.int .i64 1) ∧ y.cell? ⟨w.heap.size, 1, none⟩ = some (.int .u64 (cn : Int))) ∧ (y.cell? ⟨w.heap.size + 1, 0, none⟩ = some (.int .i64 2) ∧ y.cell? ⟨w.heap.size + 1, 1, none⟩ = some (.int .u64 (dn : Int))) ∧ (y.cell? ⟨ga, oa + n * 2, none⟩ = some (.int .i64 1) ∧ y.cell? ⟨ga, oa + n * 2 + 1, none⟩ = some (.int .u64 (cn : Int))) ∧ (y.cell? ⟨gb, ob + n * 2, none⟩ = some (.int .i64 2) ∧ y.cell? ⟨gb, ob + n * 2 + 1, none⟩ = some (.int .u64 (dn : Int))) :=
  ⟨⟨(Row.three h.t.r).1, (Row.three h.t.r).2.1, (Row.three h.t.r).2.2.1⟩, ⟨(Row.three h.a.r).1, (Row.three h.a.r).2.1, (Row.three h.a.r).2.2.1⟩, ⟨(Row.three h.b.r).1, (Row.three h.b.r).2.1, (Row.three h.b.r).2.2.1⟩, ⟨(Row.two h.two.c).1, (Row.two h.two.c).2.1⟩, ⟨(Row.two h.two.d).1, (Row.two h.two.d).2.1⟩, h.ea, h.eb⟩

set_option maxRecDepth 100000 in
set_option maxHeartbeats 8000000 in
theorem MacShared_walk (key : ByteArray) (v : Value) (l : List Cav) (c d : Cav) (w : World) (hL : LaidM w) (_hk : key.size ≤ maxLen) (hv : CavsAt w v l) (hz : l.length ≤ maxLen) (hok : ∀ c ∈ l, c.n < 18446744073709551616) (hcap : ∀ a n cap, v = .slice a n cap → n ≤ cap ∧ cap ≤ maxLen) (hc : c.n < 18446744073709551616) (hd : d.n < 18446744073709551616) :
    Calls Tryd.prog 8 #[.string key, v, c.val, d.val] w fun e w' => e = .returned (.bool true) ∧ Below w.heap.size w w' := by
  have HEX := Lib.hid (fun y (h : LaidM y) => macExamples_any y h)
  obtain ⟨a, cap, rfl⟩ := hv.form
  have hcp := hcap _ _ _ rfl
  unfold maxLen at hcp hz _hk
  obtain ⟨m, hm⟩ : ∃ m, min l.length 7 = m := ⟨_, rfl⟩
  have hmin : min (l.length : Int) 7 = (m : Int) := by omega
  have hm0 : (0 : Int) ≤ (m : Int) := by omega
  have hmc : (m : Int) ≤ (cap : Int) := by omega
  have hbi : (l.length : Int) ≤ 9223372036854775807 := by omega
  have HM := Lib.hid (show m ≤ l.length ∧ m ≤ 7 from by omega)
  have HOK := Lib.hid (fun c (h : c ∈ l.take m) => hok c (List.mem_of_mem_take h))
  have HL := Lib.hid hL
  have HV := Lib.hid hv
  obtain ⟨ck, cn⟩ := c
  obtain ⟨dk, dn⟩ := d
  unfold Cav.val Cav.cells
  simp only at hc hd
  clear hv hL hcap hm hok
  go_enter Tryd.func8, Tryd.ntmps8
  go_upto_region 1 with fail
  have h2 : Two w ((w.alloc (.cells #[.int .i64 ck, .int .u64 (cn : Int)] 27)).alloc (.cells #[.int .i64 dk, .int .u64 (dn : Int)] 27)) ck cn dk dn :=
    ⟨Row.alloc (Row.at rfl (by simp)) (by simp) _, Row.at (by simp) (by simp), by go_grown, by simp⟩
  generalize (w.alloc (.cells #[.int .i64 ck, .int .u64 (cn : Int)] 27)).alloc (.cells #[.int .i64 dk, .int .u64 (dn : Int)] 27) = x0 at h2 ⊢
  have H2 := Lib.hid h2
  clear h2
  go_wp2_with fail
  refine (HEX.out _ (HL.out.below H2.out.b (Nat.le_refl _))).mono ?_
  rintro e x1 ⟨rfl, hb1⟩
  have H2n := Lib.hid (H2.out.below hb1)
  clear H2 hb1
  have H2 := H2n
  clear H2n
  go_upto_region 5 with fail
  have hzk : (key.extract 0 (min (key.size : Int) 100).toNat).size ≤ 100 := by rw [ByteArray.size_extract]; omega
  generalize key.extract 0 (min (key.size : Int) 100).toNat = kk at hzk ⊢
  have hl7 : (Mc.lawCavs (l.take m)).length ≤ 7 := by rw [Mc.lawCavs_len, List.length_take]; have := HM.out; omega
  have HLN := Lib.hid (lawNarrowed_any kk ⟨#[97]⟩ (.slice a m cap) (l.take m) x1 (HL.out.l.below H2.out.b (Nat.le_refl _)) ((HV.out.below H2.out.b (Nat.le_refl _)).take m HM.out.1) (by omega) (by show (1 : Nat) ≤ _; omega) (by rw [List.length_take]; have := HM.out; omega) HOK.out)
  have hf0 := Mc.lawCavs_fits (l.take m)
  have ho0 := Mc.lawCavs_ok (l.take m) HOK.out
  have k0 := Mc.check_self kk ⟨#[97]⟩ hf0
  have k1 := Mc.check_self kk ⟨#[97]⟩ (Mc.fits_snoc hf0 hl7 (show Mc.known ⟨1, cn⟩ = true from rfl))
  have k2 := Mc.check_self kk ⟨#[97]⟩ (Mc.fits_snoc hf0 hl7 (show Mc.known ⟨2, dn⟩ = true from rfl))
  rw [Mc.signs_snoc] at k1 k2
  have hss := Mc.signs_size (Mc.signB kk ⟨#[97]⟩) (Mc.lawCavs (l.take m)) (Mc.signB_size kk _)
  generalize Mc.signs (Mc.signB kk ⟨#[97]⟩) (Mc.lawCavs (l.take m)) = st at HLN k0 k1 k2 hss
  generalize Mc.lawCavs (l.take m) = L at HLN k0 k1 k2 hl7 ho0
  clear hf0 HOK
  have HN1 := Lib.hid (fun v y (hl : Laid y) (h : CavsAt y v L) => Narrow_new ⟨#[97]⟩ v L st ⟨1, cn⟩ y hl h (by omega) (by omega) hc)
  have HN2 := Lib.hid (fun v y (hl : Laid y) (h : CavsAt y v L) => Narrow_new ⟨#[97]⟩ v L st ⟨2, dn⟩ y hl h (by omega) (by omega) hd)
  generalize Mc.signB st (Mc.putc ⟨1, cn⟩) = sa at HN1 k1
  generalize Mc.signB st (Mc.putc ⟨2, dn⟩) = sb at HN2 k2
  have ho1 : ∀ c ∈ L ++ [(⟨1, cn⟩ : Cav)], c.n < 18446744073709551616 := by intro c h; rcases List.mem_append.1 h with h | h; exact ho0 c h; rw [List.mem_singleton.1 h]; exact hc
  have ho2 : ∀ c ∈ L ++ [(⟨2, dn⟩ : Cav)], c.n < 18446744073709551616 := by intro c h; rcases List.mem_append.1 h with h | h; exact ho0 c h; rw [List.mem_singleton.1 h]; exact hd
  have HC0 := Lib.hid (fun v y (hl : Laid y) (h : CavsAt y v L) => check_is k0 v (by omega) (by show (1 : Nat) ≤ _; omega) (by omega) ho0 y hl h)
  have HC1 := Lib.hid (fun v y (hl : Laid y) (h : CavsAt y v (L ++ [⟨1, cn⟩])) => check_is k1 v (by omega) (by show (1 : Nat) ≤ _; omega) (by rw [List.length_append]; simp; omega) ho1 y hl h)
  have HC2 := Lib.hid (fun v y (hl : Laid y) (h : CavsAt y v (L ++ [⟨2, dn⟩])) => check_is k2 v (by omega) (by show (1 : Nat) ≤ _; omega) (by rw [List.length_append]; simp; omega) ho2 y hl h)
  clear ho0 ho1 ho2 k0 k1 k2 hss
  unfold tokv at HLN HN1 HN2 HC0 HC1 HC2
  unfold Cav.val Cav.cells at HN1 HN2
  obtain ⟨n, hn⟩ : ∃ n, L.length = n := ⟨_, rfl⟩
  have hn7 : (n : Int) ≤ 7 := by omega
  have HNL := Lib.hid hn
  clear hn hl7
  go_upto_region 6 with (go_at_call 27; (with_reducible refine HLN.out.mono ?_); rintro e x2 ⟨v', rfl, hcv, hb2, hfr⟩; obtain ⟨a3, p3, rfl⟩ := hcv.form; rw [HNL.out] at hcv hfr ⊢)
  have hbt := Box.new x2 ⟨#[97]⟩ a3 n p3 st hcv
  have h2 := (H2.out.below hb2).alloc (.cells #[.string ⟨#[97]⟩, .slice a3 n p3, .string st] 24)
  have hge : w.heap.size + 1 < x1.heap.size := H2.out.lt
  have hbs := hb2.size
  have HFR := Lib.hid hfr
  clear hfr hcv H2 hb2 HLN
  generalize x2.alloc (.cells #[.string ⟨#[97]⟩, .slice a3 n p3, .string st] 24) = x3 at hbt h2 ⊢
  generalize x2.heap.size = bt at hbt hbs ⊢
  obtain ⟨c0, _, q0, _⟩ := Row.two h2.c
  go_upto_region 7 with fail
  have hbt1 := hbt.setLow HFR.out 0 (show w.heap.size < x1.heap.size by omega) hbs (.int .i64 1)
  have h21 := h2.setc 1
  clear hbt h2 c0 q0
  generalize World.setCell x3 _ _ = x4 at hbt1 h21 ⊢
  obtain ⟨c0, _, q0, _⟩ := Row.two h21.d
  go_upto_region 8 with fail
  have hbt := hbt1.setLow HFR.out 0 hge hbs (.int .i64 2)
  have h2 := h21.setd 2
  clear hbt1 h21 c0 q0 hge hbs HFR
  generalize World.setCell x4 _ _ = x5 at hbt h2 ⊢
  obtain ⟨c0, c1, _⟩ := Row.two h2.c
  obtain ⟨d0, d1, d2, _⟩ := Row.three hbt.r
  have HBT := Lib.hid hbt
  have H2 := Lib.hid h2
  clear hbt h2
  have hn1 : (L ++ [(⟨1, cn⟩ : Cav)]).length = n + 1 := by rw [List.length_append, HNL.out]; rfl
  have hn2 : (L ++ [(⟨2, dn⟩ : Cav)]).length = n + 1 := by rw [List.length_append, HNL.out]; rfl
  have HE1 := Lib.hid hn1
  have HE2 := Lib.hid hn2
  clear hn1 hn2
  go_upto_region 9 with (go_at_call 12; (with_reducible refine (HN1.out _ _ (HL.out.l.below H2.out.b (Nat.le_refl _)) HBT.out.cv).mono ?_); rintro e x6 ⟨v', rfl, hca, hb6, hfx⟩; obtain ⟨aa, pa, rfl⟩ := hca.form; rw [HE1.out] at hca ⊢; clear hfx)
  have HBA := Lib.hid (Box.new x6 ⟨#[97]⟩ aa (n + 1) pa sa hca)
  have HBTn := Lib.hid ((HBT.out.below hb6).alloc (.cells #[.string ⟨#[97]⟩, .slice aa (n + 1) pa, .string sa] 24))
  have H2n := Lib.hid ((H2.out.below hb6).alloc (.cells #[.string ⟨#[97]⟩, .slice aa (n + 1) pa, .string sa] 24))
  clear HBT H2 hca hb6 HN1 c0 c1 d0 d1 d2
  have HBT := HBTn
  have H2 := H2n
  clear HBTn H2n
  generalize x6.alloc (.cells #[.string ⟨#[97]⟩, .slice aa (n + 1) pa, .string sa] 24) = x7 at HBA HBT H2 ⊢
  generalize x6.heap.size = ba at HBA ⊢
  obtain ⟨c0, c1, _⟩ := Row.two H2.out.d
  obtain ⟨d0, d1, d2, _⟩ := Row.three HBT.out.r
  go_upto_region 10 with (go_at_call 12; (with_reducible refine (HN2.out _ _ (HL.out.l.below H2.out.b (Nat.le_refl _)) HBT.out.cv).mono ?_); rintro e x6 ⟨v', rfl, hca, hb6, hfx⟩; obtain ⟨ab, pb, rfl⟩ := hca.form; rw [HE2.out] at hca ⊢; clear hfx)
  have HBB := Lib.hid (Box.new x6 ⟨#[97]⟩ ab (n + 1) pb sb hca)
  have HBTn := Lib.hid ((HBT.out.below hb6).alloc (.cells #[.string ⟨#[97]⟩, .slice ab (n + 1) pb, .string sb] 24))
  have HBAn := Lib.hid ((HBA.out.below hb6).alloc (.cells #[.string ⟨#[97]⟩, .slice ab (n + 1) pb, .string sb] 24))
  have H2n := Lib.hid ((H2.out.below hb6).alloc (.cells #[.string ⟨#[97]⟩, .slice ab (n + 1) pb, .string sb] 24))
  clear HBT HBA H2 hca hb6 HN2 c0 c1 d0 d1 d2
  have HBT := HBTn
  have HBA := HBAn
  have H2 := H2n
  clear HBTn H2n HBAn
  generalize x6.alloc (.cells #[.string ⟨#[97]⟩, .slice ab (n + 1) pb, .string sb] 24) = x8 at HBA HBT HBB H2 ⊢
  generalize x6.heap.size = bb at HBB ⊢
  obtain ⟨ga, oa, pa', hfu, ea0, ea1⟩ := (HBA.out.cv.get).2 n (by rw [HE1.out]; omega)
  rw [HE1.out] at hfu
  cases hfu
  obtain ⟨gb, ob, pb', hfu, eb0, eb1⟩ := (HBB.out.cv.get).2 n (by rw [HE2.out]; omega)
  rw [HE2.out] at hfu
  cases hfu
  have hx1 : (L ++ [(⟨1, cn⟩ : Cav)])[n]'(by rw [HE1.out]; omega) = ⟨1, cn⟩ := by
    rw [List.getElem_append_right (by rw [HNL.out]; omega)]; simp
  have hx2 : (L ++ [(⟨2, dn⟩ : Cav)])[n]'(by rw [HE2.out]; omega) = ⟨2, dn⟩ := by
    rw [List.getElem_append_right (by rw [HNL.out]; omega)]; simp
  rw [hx1] at ea0 ea1
  rw [hx2] at eb0 eb1
  have hS : Shr w x8 bt ba bb a3 n p3 ga oa pa gb ob pb st sa sb L (L ++ [⟨1, cn⟩]) (L ++ [⟨2, dn⟩]) cn dn := ⟨H2.out, HBT.out, HBA.out, HBB.out, ⟨ea0, ea1⟩, ⟨eb0, eb1⟩⟩
  have HS := Lib.hid hS
  obtain ⟨⟨_, f1, _⟩, ⟨_, f2, _⟩, ⟨_, f3, _⟩, _⟩ := hS.cells
  have hwn : IntKind.i64.wrap ((n : Int) + 1) = (n : Int) + 1 := by rw [IntKind.wrap_i64]; omega
  have hn0 : (0 : Int) ≤ (n : Int) := by omega
  have hn9 : (n : Int) < (n : Int) + 1 := by omega
  have hn8 : n < n + 1 := by omega
  have hn6 : (n : Int) < ((n + 1 : Nat) : Int) := by omega
  clear ea0 ea1 eb0 eb1 hx1 hx2 HBA HBB HBT H2 hS HE1 HE2
  go_upto_region 13 with fail
  clear f1 f2 f3
  have HSn := Lib.hid HS.out.drew
  clear HS
  have HS := HSn
  clear HSn
  go_region_held3 (fun y => (y.cell? ⟨bt, 0, none⟩ = some (.string ⟨#[97]⟩) ∧ y.cell? ⟨bt, 1, none⟩ = some (.slice a3 n p3) ∧ y.cell? ⟨bt, 2, none⟩ = some (.string st)) ∧ (y.cell? ⟨ba, 0, none⟩ = some (.string ⟨#[97]⟩) ∧ y.cell? ⟨ba, 1, none⟩ = some (.slice (some ⟨ga, oa, none⟩) (n + 1) pa) ∧ y.cell? ⟨ba, 2, none⟩ = some (.string sa)) ∧ (y.cell? ⟨bb, 0, none⟩ = some (.string ⟨#[97]⟩) ∧ y.cell? ⟨bb, 1, none⟩ = some (.slice (some ⟨gb, ob, none⟩) (n + 1) pb) ∧ y.cell? ⟨bb, 2, none⟩ = some (.string sb)) ∧ (y.cell? ⟨w.heap.size, 0, none⟩ = some (.int .i64 1) ∧ y.cell? ⟨w.heap.size, 1, none⟩ = some (.int .u64 (cn : Int))) ∧ (y.cell? ⟨w.heap.size + 1, 0, none⟩ = some (.int .i64 2) ∧ y.cell? ⟨w.heap.size + 1, 1, none⟩ = some (.int .u64 (dn : Int))) ∧ (y.cell? ⟨ga, oa + n * 2, none⟩ = some (.int .i64 1) ∧ y.cell? ⟨ga, oa + n * 2 + 1, none⟩ = some (.int .u64 (cn : Int))) ∧ (y.cell? ⟨gb, ob + n * 2, none⟩ = some (.int .i64 2) ∧ y.cell? ⟨gb, ob + n * 2 + 1, none⟩ = some (.int .u64 (dn : Int)))) (exact HS.out.cells)
    ((first | (go_at_call 21; (with_reducible refine (HC0.out _ _ (HL.out.l.below HS.out.two.b (Nat.le_refl _)) HS.out.t.cv).mono ?_); rintro e u ⟨rfl, hbu⟩; have HSn := Lib.hid (HS.out.below hbu); clear HS hbu; have HS := HSn; clear HSn) | (go_at_call 21; (with_reducible refine (HC1.out _ _ (HL.out.l.below HS.out.two.b (Nat.le_refl _)) HS.out.a.cv).mono ?_); rintro e u ⟨rfl, hbu⟩; have HSn := Lib.hid (HS.out.below hbu); clear HS hbu; have HS := HSn; clear HSn) | (go_at_call 21; (with_reducible refine (HC2.out _ _ (HL.out.l.below HS.out.two.b (Nat.le_refl _)) HS.out.b.cv).mono ?_); rintro e u ⟨rfl, hbu⟩; have HSn := Lib.hid (HS.out.below hbu); clear HS hbu; have HS := HSn; clear HSn)))
  all_goals (go_wp2_with fail; go_ret; exact ⟨rfl, HS.out.two.b⟩)

end Go.Proofs.YtalncnblcfcmcaaDoor
