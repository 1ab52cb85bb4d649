/- The walk of the statement MacChecks. -/
import Derived.Test.YtalncnblcfcmcaaDoorMcShared
import Derived.Test.YtalncnblcfcmcaaDoorBytes
namespace Go.Proofs.YtalncnblcfcmcaaDoor
open Go.RowKit

namespace Mc
theorem check_other (k t : ByteArray) (l : List Cav) {s : ByteArray} (h : s ≠ signs (signB k t) l) : check k t l s = false := by
  unfold check
  have : ((signs (signB k t) l).toList == s.toList) = false := by
    rw [beq_eq_false_iff_ne]
    intro e
    apply h
    rw [ByteArray.toList_eq, ByteArray.toList_eq] at e
    exact ByteArray.ext (Array.toList_inj.1 e.symm)
  rw [this, Bool.and_false]
end Mc

/-- a token, and one that is nearly it -/
structure Chk (w y : World) (bt bu : Nat) (a3 : Option Addr) (n p3 : Nat) (st su : ByteArray) (L : List Cav) : Prop where
  t : Box y bt ⟨#[97]⟩ (.slice a3 n p3) st L
  u : Box y bu ⟨#[97]⟩ (.slice a3 n p3) su L
  b : Below w.heap.size w y
  ge : w.heap.size ≤ bu
  ne : bt ≠ bu
theorem Chk.below {w y z : World} {bt bu : Nat} {a3 : Option Addr} {n p3 : Nat} {st su : ByteArray} {L : List Cav} (h : Chk w y bt bu a3 n p3 st su L) (hb : Below y.heap.size y z) : Chk w z bt bu a3 n p3 st su L :=
  ⟨h.t.below hb, h.u.below hb, h.b.trans (hb.mono h.b.size), h.ge, h.ne⟩
theorem Chk.drew {w y : World} {bt bu : Nat} {a3 : Option Addr} {n p3 : Nat} {st su : ByteArray} {L : List Cav} (h : Chk w y bt bu a3 n p3 st su L) : Chk w y.drew bt bu a3 n p3 st su L :=
  ⟨h.t.drew, h.u.drew, h.b.drew, h.ge, h.ne⟩
theorem Chk.set {w y : World} {bt bu : Nat} {a3 : Option Addr} {n p3 : Nat} {st su : ByteArray} {L : List Cav} (h : Chk w y bt bu a3 n p3 st su L) (s : ByteArray) : Chk w (y.setCell ⟨bu, 2, none⟩ (.string s)) bt bu a3 n p3 st s L :=
  ⟨⟨h.t.r.other _ (fun e => h.ne e.symm), h.t.cv.setOther (Row.three h.u.r).2.2.1 (fun _ _ e => by cases e) _, by have := h.t.lt; simpa using this⟩,
   ⟨h.u.r.set 2 (.string s) (by simp), h.u.cv.setOther (Row.three h.u.r).2.2.1 (fun _ _ e => by cases e) _, by have := h.u.lt; simpa using this⟩,
   h.b.setCell (p := ⟨bu, 2, none⟩) h.ge _, h.ge, h.ne⟩
theorem Chk.cells {w y : World} {bt bu : Nat} {a3 : Option Addr} {n p3 : Nat} {st su : ByteArray} {L : List Cav} (h : Chk w y bt bu a3 n p3 st su L) :
    (y.cell? ⟨bt, 0, none⟩ = some (.string ⟨#[97]⟩) ∧ y.cell? ⟨bt, 1, none⟩ = some (.slice a3 n p3) ∧ y.cell? ⟨bt, 2, none⟩ = some (.string st)) ∧ (y.cell? ⟨bu, 0, none⟩ = some (.string ⟨#[97]⟩) ∧ y.cell? ⟨bu, 1, none⟩ = some (.slice a3 n p3) ∧ y.cell? ⟨bu, 2, none⟩ = some (.string su)) :=
  ⟨⟨(Row.three h.t.r).1, (Row.three h.t.r).2.1, (Row.three h.t.r).2.2.1⟩, ⟨(Row.three h.u.r).1, (Row.three h.u.r).2.1, (Row.three h.u.r).2.2.1⟩⟩

theorem xor_bit (x : UInt8) (k : Nat) : bits .xor .u8 (x.toNat : Int) ((2 : Int) ^ k % 256) = ((x ^^^ UInt8.ofNat (2 ^ k)).toNat : Int) := by
  have h : ((2 : Int) ^ k % 256) = ((2 ^ k % 256 : Nat) : Int) := by rw [Int.natCast_emod, Int.natCast_pow]; rfl
  rw [h, u8_xor_nat _ _ x.toNat_lt (by omega), UInt8.toNat_xor, UInt8.toNat_ofNat']
theorem bit_ne (x : UInt8) {k : Nat} (hk : k < 8) : x ^^^ UInt8.ofNat (2 ^ k) ≠ x := by
  intro h
  have h1 : x ^^^ (x ^^^ UInt8.ofNat (2 ^ k)) = x ^^^ x := by rw [h]
  rw [← UInt8.xor_assoc, UInt8.xor_self, UInt8.zero_xor] at h1
  have h2 : ∀ k : Fin 8, UInt8.ofNat (2 ^ k.val) ≠ 0 := by decide
  exact h2 ⟨k, hk⟩ h1

set_option maxRecDepth 100000 in
set_option maxHeartbeats 8000000 in
theorem MacChecks_walk (key : ByteArray) (v : Value) (l : List Cav) (how pl : Nat) (w : World) (hL : LaidM w) (_hk : key.size ≤ maxLen) (hv : CavsAt w v l) (hz : l.length ≤ maxLen) (hok : ∀ c ∈ l, c.n < 18446744073709551616) (_hh : how < 256) (_hp : pl < 256) :
    Calls Tryd.prog 4 #[.string key, v, .int .u8 (how : Int), .int .u8 (pl : Int)] w fun e w' => e = .returned (.bool true) ∧ Below w.heap.size w w' := by
  have HEX := Lib.hid (fun y (h : LaidM y) => macExamples_any y h)
  obtain ⟨a, cap, rfl⟩ := hv.form
  unfold maxLen at hz _hk
  obtain ⟨m, hm⟩ : ∃ m, min l.length 8 = m := ⟨_, rfl⟩
  have hmin : min (l.length : Int) 8 = (m : Int) := by omega
  obtain ⟨q, hq⟩ : ∃ q, how % 4 = q := ⟨_, rfl⟩
  have hq2 : (how : Int) % 4 = (q : Int) := by omega
  have hq4 : q < 4 := by omega
  have hbi : (l.length : Int) ≤ 9223372036854775807 := by omega
  have HOK := Lib.hid hok
  have HL := Lib.hid hL
  have HV := Lib.hid hv
  have HM := Lib.hid hm
  clear hv hL hm hok
  go_enter Tryd.func4, Tryd.ntmps4
  go_wp2_with fail
  refine (HEX.out _ HL.out).mono ?_
  rintro e x1 ⟨rfl, hb1⟩
  go_upto_region 5 with fail
  have hzk : (key.extract 0 (min (key.size : Int) 100).toNat).size ≤ 100 := by rw [ByteArray.size_extract]; omega
  generalize key.extract 0 (min (key.size : Int) 100).toNat = kk at hzk ⊢
  have hlm : (Mc.lawCavs l).length = m := by rw [Mc.lawCavs_len]; exact HM.out
  have HLN := Lib.hid (lawNarrowed_any kk ⟨#[97]⟩ (.slice a l.length cap) l x1 (HL.out.l.below hb1 (Nat.le_refl _)) (HV.out.below hb1 (Nat.le_refl _)) (by omega) (by show (1 : Nat) ≤ _; omega) (by omega) HOK.out)
  have ho0 := Mc.lawCavs_ok l HOK.out
  have k0 := Mc.check_self kk ⟨#[97]⟩ (Mc.lawCavs_fits l)
  have kx := fun s => Mc.check_other kk ⟨#[97]⟩ (Mc.lawCavs l) (s := s)
  have hss := Mc.signs_size (Mc.signB kk ⟨#[97]⟩) (Mc.lawCavs l) (Mc.signB_size kk _)
  generalize Mc.signs (Mc.signB kk ⟨#[97]⟩) (Mc.lawCavs l) = st at HLN k0 kx hss
  generalize Mc.lawCavs l = L at HLN k0 kx hlm ho0
  clear HOK HV
  have hm8 : m ≤ 8 := by have := HM.out; omega
  have HC0 := Lib.hid (fun v y (hl : Laid y) (h : CavsAt y v L) => check_is k0 v (by omega) (by show (1 : Nat) ≤ _; omega) (by omega) ho0 y hl h)
  have HCX := Lib.hid (fun v s (hs : s ≠ st) y (hl : Laid y) (h : CavsAt y v L) => check_is (kx s hs) v (by omega) (by show (1 : Nat) ≤ _; omega) (by omega) ho0 y hl h)
  have HSS := Lib.hid hss
  have HNL := Lib.hid hlm
  clear k0 kx ho0 hss hlm
  unfold tokv at HLN HC0 HCX
  go_upto_region 6 with (go_at_call 27; (with_reducible refine HLN.out.mono ?_); rintro e x2 ⟨v', rfl, hcv, hb2, hfr⟩; obtain ⟨a3, p3, rfl⟩ := hcv.form; rw [HNL.out] at hcv ⊢; clear hfr)
  have hbt := Box.new x2 ⟨#[97]⟩ a3 m p3 st hcv
  have hb3 := (hb1.trans (hb2.mono hb1.size)).alloc (by have := hb1.size; have := hb2.size; omega) (.cells #[.string ⟨#[97]⟩, .slice a3 m p3, .string st] 24)
  have hge : w.heap.size ≤ x2.heap.size := by have := hb1.size; have := hb2.size; omega
  clear hb1 hb2 hcv HLN
  generalize x2.alloc (.cells #[.string ⟨#[97]⟩, .slice a3 m p3, .string st] 24) = x3 at hbt hb3 ⊢
  generalize x2.heap.size = bt at hbt hge ⊢
  obtain ⟨d0, d1, d2, _⟩ := Row.three hbt.r
  have HBT := Lib.hid hbt
  have HB3 := Lib.hid hb3
  clear hbt hb3
  go_upto_region 8 with (go_at_call 21; (with_reducible refine (HC0.out _ _ (HL.out.l.below HB3.out (Nat.le_refl _)) HBT.out.cv).mono ?_); rintro e x4 ⟨rfl, hb4⟩)
  have HBTn := Lib.hid (HBT.out.below hb4)
  have HB3n := Lib.hid (HB3.out.trans (hb4.mono HB3.out.size))
  clear HBT HB3 hb4 d0 d1 d2
  have HBT := HBTn
  have HB3 := HB3n
  clear HBTn HB3n
  obtain ⟨d0, d1, d2, _⟩ := Row.three HBT.out.r
  go_upto_region 9 with fail
  have hC : Chk w (x4.alloc (.cells #[.string ⟨#[97]⟩, .slice a3 m p3, .string st] 24)) bt x4.heap.size a3 m p3 st st L :=
    ⟨HBT.out.alloc _, Box.new x4 ⟨#[97]⟩ a3 m p3 st HBT.out.cv, HB3.out.alloc HB3.out.size _, HB3.out.size, fun e => by have := HBT.out.lt; omega⟩
  clear d0 d1 d2 HBT HB3 hge
  generalize x4.alloc (.cells #[.string ⟨#[97]⟩, .slice a3 m p3, .string st] 24) = x5 at hC ⊢
  generalize x4.heap.size = bu at hC ⊢
  obtain ⟨⟨_, d1, d2⟩, ⟨c0, c1, c2⟩⟩ := hC.cells
  obtain ⟨_, _, _, _, _, f2⟩ := Row.three hC.u.r
  have HC := Lib.hid hC
  clear hC
  rcases (show q = 0 ∨ q = 1 ∨ q = 2 ∨ q = 3 by omega) with rfl | rfl | rfl | rfl
  · have hcv := run_bytes st
    have hsz : (st.size : Int) = 32 := by have := HSS.out; omega
    obtain ⟨i, hi⟩ : ∃ i, pl % 32 = i := ⟨_, rfl⟩
    have hi2 : (pl : Int) % 32 = (i : Int) := by omega
    have hi3 : (0 : Int) ≤ (i : Int) := by omega
    have hi4 : (i : Int) < 32 := by omega
    obtain ⟨r, hr⟩ : ∃ r, how / 4 = r := ⟨_, rfl⟩
    have hr2 : (how : Int) / 4 = (r : Int) := by omega
    obtain ⟨k, hk⟩ : ∃ k, r % 8 = k := ⟨_, rfl⟩
    have hk2 : (r : Int) % 8 = (k : Int) := by omega
    have hk3 : k < 8 := by omega
    go_upto_region 14 with fail
    have hB := bytes_at x5 st
    have hbel := bytes_below x5 st
    clear hcv
    generalize grownCap x5 st.size 0 5 = cap2
    generalize Lib.bytesWorld x5 5 st = x6 at hB hbel ⊢
    have hLl : st.data.toList.length = 32 := by have := HSS.out; simpa using this
    obtain ⟨M, hM⟩ : ∃ M, st.data.toList = M := ⟨_, rfl⟩
    rw [hM] at hB hLl
    have HLST := Lib.hid hM
    clear hM
    have c9 := hB.cell i (by omega)
    have f9 := hB.frozen i (by omega)
    have HB := Lib.hid hB
    have HBL := Lib.hid hbel
    have HLM := Lib.hid hLl
    obtain ⟨b0, hb0⟩ : ∃ b, M[i] = b := ⟨_, rfl⟩
    rw [hb0] at c9
    have HB0 := Lib.hid hb0
    clear hb0 hB hbel
    go_upto_region 15 with fail
    rw [xor_bit]
    obtain ⟨b1, hb1⟩ : ∃ b, b0 ^^^ UInt8.ofNat (2 ^ k) = b := ⟨_, rfl⟩
    have hne1 : b1 ≠ b0 := hb1 ▸ bit_ne b0 hk3
    rw [hb1]
    have hB7 := HB.out.set i b1 _ rfl (by omega)
    have hbel7 := HBL.out.setCell (p := ⟨x5.heap.size, i, none⟩) (Nat.le_refl _) (.int .u8 (b1.toNat : Int))
    clear c9 f9 HB HBL hb1
    generalize World.setCell x6 _ _ = x7 at hB7 hbel7 ⊢
    have hC7 := HC.out.below hbel7
    have hcv := hB7.str st.size cap2 (by rw [List.length_set, HLM.out, HSS.out])
    generalize x5.heap.size = g at hcv ⊢
    clear HC d1 d2 c0 c1 c2 f2 hB7 hbel7
    obtain ⟨⟨_, d1, d2⟩, ⟨c0, c1, c2⟩⟩ := hC7.cells
    obtain ⟨_, _, _, _, _, f2⟩ := Row.three hC7.u.r
    have HC := Lib.hid hC7
    clear hC7
    have hne : (⟨(M.set i b1).toArray⟩ : ByteArray) ≠ st := by
      intro e
      have e2 : M.set i b1 = M := by have := congrArg (fun b => b.data.toList) e; simpa [HLST.out] using this
      have e3 : (M.set i b1)[i]? = M[i]? := by rw [e2]
      rw [List.getElem?_set_self (by rw [HLM.out]; omega), List.getElem?_eq_getElem (by rw [HLM.out]; omega), HB0.out] at e3
      exact hne1 (Option.some.inj e3)
    generalize (⟨(M.set i b1).toArray⟩ : ByteArray) = su at hne hcv
    clear hne1 HB0 hLl hsz
    go_upto_region 22 with fail
    clear hcv
    have hC := HC.out.set su
    generalize World.setCell _ _ _ = x6 at hC ⊢
    clear d1 d2 c0 c1 c2 f2 HC
    obtain ⟨⟨_, d1, d2⟩, ⟨c0, c1, c2⟩⟩ := hC.cells
    have HC := Lib.hid hC
    have HNE := Lib.hid hne
    clear hC hne
    go_wp2_with (go_at_call 21; (with_reducible refine (HCX.out _ _ HNE.out _ (HL.out.l.below HC.out.b (Nat.le_refl _)) HC.out.u.cv).mono ?_); rintro e x7 ⟨rfl, hb7⟩; have HD := Lib.hid (HC.out.below hb7); clear hb7; obtain ⟨⟨_, e1, e2⟩, _⟩ := HD.out.cells)
    all_goals (go_ret; exact ⟨rfl, HD.out.b⟩)
  · have hsl : (31 : Int) ≤ (st.size : Int) := by have := HSS.out; omega
    go_upto_region 22 with fail
    have hC := HC.out.set (st.extract 0 31)
    have hne : (st.extract 0 31 : ByteArray) ≠ st := by
      intro e
      have h1 := congrArg ByteArray.size e
      have h2 := HSS.out
      rw [ByteArray.size_extract] at h1
      omega

    generalize World.setCell _ _ _ = x6 at hC ⊢
    generalize (st.extract 0 31 : ByteArray) = su at hC hne ⊢
    clear d1 d2 c0 c1 c2 f2 HC
    obtain ⟨⟨_, d1, d2⟩, ⟨c0, c1, c2⟩⟩ := hC.cells
    have HC := Lib.hid hC
    have HNE := Lib.hid hne
    clear hC hne
    go_wp2_with (go_at_call 21; (with_reducible refine (HCX.out _ _ HNE.out _ (HL.out.l.below HC.out.b (Nat.le_refl _)) HC.out.u.cv).mono ?_); rintro e x7 ⟨rfl, hb7⟩; have HD := Lib.hid (HC.out.below hb7); clear hb7; obtain ⟨⟨_, e1, e2⟩, _⟩ := HD.out.cells)
    all_goals (go_ret; exact ⟨rfl, HD.out.b⟩)
  · have hog : ¬ 9223372036854775807 < st.size + 1 := by have := HSS.out; omega
    go_upto_region 22 with fail
    clear hog
    have hC := HC.out.set (st ++ ⟨#[0]⟩)
    have hne : (st ++ ⟨#[0]⟩ : ByteArray) ≠ st := by
      intro e
      have h1 := congrArg ByteArray.size e
      have h2 := HSS.out
      rw [ByteArray.size_append] at h1
      have h3 : (⟨#[0]⟩ : ByteArray).size = 1 := rfl
      omega

    generalize World.setCell _ _ _ = x6 at hC ⊢
    generalize (st ++ ⟨#[0]⟩ : ByteArray) = su at hC hne ⊢
    clear d1 d2 c0 c1 c2 f2 HC
    obtain ⟨⟨_, d1, d2⟩, ⟨c0, c1, c2⟩⟩ := hC.cells
    have HC := Lib.hid hC
    have HNE := Lib.hid hne
    clear hC hne
    go_wp2_with (go_at_call 21; (with_reducible refine (HCX.out _ _ HNE.out _ (HL.out.l.below HC.out.b (Nat.le_refl _)) HC.out.u.cv).mono ?_); rintro e x7 ⟨rfl, hb7⟩; have HD := Lib.hid (HC.out.below hb7); clear hb7; obtain ⟨⟨_, e1, e2⟩, _⟩ := HD.out.cells)
    all_goals (go_ret; exact ⟨rfl, HD.out.b⟩)
  · go_upto_region 22 with fail
    have hC := HC.out.set (⟨#[]⟩)
    have hne : (⟨#[]⟩ : ByteArray) ≠ st := by
      intro e
      have h1 := congrArg ByteArray.size e
      have h2 := HSS.out
      have h3 : (⟨#[]⟩ : ByteArray).size = 0 := rfl
      omega

    generalize World.setCell _ _ _ = x6 at hC ⊢
    generalize (⟨#[]⟩ : ByteArray) = su at hC hne ⊢
    clear d1 d2 c0 c1 c2 f2 HC
    obtain ⟨⟨_, d1, d2⟩, ⟨c0, c1, c2⟩⟩ := hC.cells
    have HC := Lib.hid hC
    have HNE := Lib.hid hne
    clear hC hne
    go_wp2_with (go_at_call 21; (with_reducible refine (HCX.out _ _ HNE.out _ (HL.out.l.below HC.out.b (Nat.le_refl _)) HC.out.u.cv).mono ?_); rintro e x7 ⟨rfl, hb7⟩; have HD := Lib.hid (HC.out.below hb7); clear hb7; obtain ⟨⟨_, e1, e2⟩, _⟩ := HD.out.cells)
    all_goals (go_ret; exact ⟨rfl, HD.out.b⟩)

end Go.Proofs.YtalncnblcfcmcaaDoor
