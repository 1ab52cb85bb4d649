/- The walk of the statement MacBack. -/
import Derived.Test.YtalncnblcfcmcaaDoorMcShared
import Derived.Test.YtalncnblcfcmcaaDoorMcLawP
namespace Go.Proofs.YtalncnblcfcmcaaDoor
open Go.RowKit

namespace Mc
theorem right_ab : Wd.right ⟨#[206, 177, 206, 178]⟩ = true := by kernel_rfl
theorem putB_le (t : ByteArray) (l : List Cav) (s : ByteArray) : (putB t l s).size ≤ 20 + t.size + 20 * l.length + s.size := by
  have h1 := cavsB_size l
  have h2 : (⟨(cavsB l).toArray⟩ : ByteArray).size = (cavsB l).length := by show (cavsB l).toArray.size = _; simp
  have h3 := (Wi.put_len t.size).2
  have h4 := (Wi.put_len l.length).2
  rw [← dl, putB_list, putText_list]
  simp only [List.length_append]
  rw [dl, dl]
  omega
theorem some_empty {b : ByteArray} (h : 0 < b.size) : b.toList.isEmpty = false := by
  rw [ByteArray.toList_eq]
  have h2 : 0 < b.data.toList.length := h
  cases hq : b.data.toList with
  | nil => rw [hq] at h2; simp at h2
  | cons a l => rfl
end Mc

/-- a token, and what was got of it -/
structure Bk (w y : World) (bt bu : Nat) (tn : ByteArray) (a3 a4 : Option Addr) (n p3 p4 : Nat) (st : ByteArray) (L : List Cav) : Prop where
  t : Box y bt tn (.slice a3 n p3) st L
  u : Box y bu tn (.slice a4 n p4) st L
  b : Below w.heap.size w y
theorem Bk.below {w y z : World} {bt bu : Nat} {tn : ByteArray} {a3 a4 : Option Addr} {n p3 p4 : Nat} {st : ByteArray} {L : List Cav} (h : Bk w y bt bu tn a3 a4 n p3 p4 st L) (hb : Below y.heap.size y z) : Bk w z bt bu tn a3 a4 n p3 p4 st L :=
  ⟨h.t.below hb, h.u.below hb, h.b.trans (hb.mono h.b.size)⟩
theorem Bk.drew {w y : World} {bt bu : Nat} {tn : ByteArray} {a3 a4 : Option Addr} {n p3 p4 : Nat} {st : ByteArray} {L : List Cav} (h : Bk w y bt bu tn a3 a4 n p3 p4 st L) : Bk w y.drew bt bu tn a3 a4 n p3 p4 st L :=
  ⟨h.t.drew, h.u.drew, h.b.drew⟩
theorem Bk.cells {w y : World} {bt bu : Nat} {tn : ByteArray} {a3 a4 : Option Addr} {n p3 p4 : Nat} {st : ByteArray} {L : List Cav} (h : Bk w y bt bu tn a3 a4 n p3 p4 st L) :
    (y.cell? ⟨bt, 0, none⟩ = some (.string tn) ∧ y.cell? ⟨bt, 1, none⟩ = some (.slice a3 n p3) ∧ y.cell? ⟨bt, 2, none⟩ = some (.string st)) ∧ (y.cell? ⟨bu, 0, none⟩ = some (.string tn) ∧ y.cell? ⟨bu, 1, none⟩ = some (.slice a4 n p4) ∧ y.cell? ⟨bu, 2, none⟩ = some (.string st)) :=
  ⟨⟨(Row.three h.t.r).1, (Row.three h.t.r).2.1, (Row.three h.t.r).2.2.1⟩, ⟨(Row.three h.u.r).1, (Row.three h.u.r).2.1, (Row.three h.u.r).2.2.1⟩⟩

set_option maxRecDepth 100000 in
set_option maxHeartbeats 8000000 in
theorem MacBack_walk (key : ByteArray) (v : Value) (l : List Cav) (ahead behind : ByteArray) (cut : Nat) (w : World) (hL : LaidM w) (_hk : key.size ≤ 140737488351232) (hv : CavsAt w v l) (hz : l.length ≤ maxLen) (hok : ∀ c ∈ l, c.n < 18446744073709551616) (ha : ahead.size ≤ 140737488351232) (hb : behind.size ≤ 140737488351232) (hcut : cut < 256) :
    Calls Tryd.prog 6 #[.string key, v, .string ahead, .string behind, .int .u8 (cut : Int)] w fun e w' => e = .returned (.bool true) ∧ Below w.heap.size w w' := by
  have HEX := Lib.hid (fun y (h : LaidM y) => macExamples_any y h)
  obtain ⟨a, cap, rfl⟩ := hv.form
  unfold maxLen at hz
  have hbi : (l.length : Int) ≤ 9223372036854775807 := by omega
  have HOK := Lib.hid hok
  have HL := Lib.hid hL
  have HV := Lib.hid hv
  clear hv hL hok
  go_enter Tryd.func6, Tryd.ntmps6
  go_wp2_with fail
  refine (HEX.out _ HL.out).mono ?_
  rintro e x1 ⟨rfl, hb1⟩
  go_upto_region 5 with fail
  have hzk : (key.extract 0 (min (key.size : Int) 100).toNat).size ≤ 100 := by rw [ByteArray.size_extract]; omega
  generalize key.extract 0 (min (key.size : Int) 100).toNat = kk at hzk ⊢
  have HLN := Lib.hid (lawNarrowed_any kk ⟨#[206, 177, 206, 178]⟩ (.slice a l.length cap) l x1 (HL.out.l.below hb1 (Nat.le_refl _)) (HV.out.below hb1 (Nat.le_refl _)) (by omega) (by show (4 : Nat) ≤ _; omega) (by omega) HOK.out)
  have ho0 := Mc.lawCavs_ok l HOK.out
  have hf0 := Mc.lawCavs_fits l
  have hl8 : (Mc.lawCavs l).length ≤ 8 := by rw [Mc.lawCavs_len]; omega
  have hss := Mc.signs_size (Mc.signB kk ⟨#[206, 177, 206, 178]⟩) (Mc.lawCavs l) (Mc.signB_size kk _)
  generalize Mc.signs (Mc.signB kk ⟨#[206, 177, 206, 178]⟩) (Mc.lawCavs l) = st at HLN hss
  generalize Mc.lawCavs l = L at HLN hl8 ho0 hf0
  clear HOK HV
  have hmay : Mc.may ⟨#[206, 177, 206, 178]⟩ L st = true := by unfold Mc.may; rw [Mc.right_ab, hf0, hss]; rfl
  have hput : Mc.put ⟨#[206, 177, 206, 178]⟩ L st = Mc.putB ⟨#[206, 177, 206, 178]⟩ L st := by unfold Mc.put; rw [if_pos hmay]
  have hPs := Mc.putB_le ⟨#[206, 177, 206, 178]⟩ L st
  have hPp := Mc.putB_pos hmay
  have hgot : Mc.getR (ahead ++ Mc.putB ⟨#[206, 177, 206, 178]⟩ L st ++ behind) (ahead.size : Int) = (⟨⟨#[206, 177, 206, 178]⟩, L, st, (((ahead.size + (Mc.putB ⟨#[206, 177, 206, 178]⟩ L st).size : Nat)) : Int)⟩, true) := by
    unfold Mc.getR
    rw [Mc.got (a := ahead.size) (R := behind.data.toList) hmay (by show (4 : Nat) ≤ _; omega) ho0 (by simp)]
  have htorn := fun n hn => show Mc.getR ((Mc.putB ⟨#[206, 177, 206, 178]⟩ L st).extract 0 n) 0 = (⟨⟨#[]⟩, [], ⟨#[]⟩, 0⟩, false) from by
    unfold Mc.getR
    rw [Mc.torn hmay (by show (4 : Nat) ≤ _; omega) ho0 n hn]
  have HP := Lib.hid (fun v y (hl : LaidM y) (h : CavsAt y v L) => put_is hput v (by show (4 : Nat) ≤ _; omega) (by omega) ho0 y hl h)
  generalize Mc.putB ⟨#[206, 177, 206, 178]⟩ L st = P at hgot htorn HP hPs hPp
  have h4 : (⟨#[206, 177, 206, 178]⟩ : ByteArray).size = 4 := rfl
  rw [h4, hss] at hPs
  have hP2 : P.size ≤ 1000 := by omega
  have HG := Lib.hid (fun y (hl : LaidM y) => get_is hgot (by rw [ByteArray.size_append, ByteArray.size_append]; omega) y hl)
  have HT := Lib.hid (fun n (hn : n < P.size) y (hl : LaidM y) => get_is (htorn n hn) (by rw [ByteArray.size_extract]; omega) y hl)
  unfold tokv at HLN HP HG HT
  simp only at HG HT
  obtain ⟨m, hm⟩ : ∃ m, L.length = m := ⟨_, rfl⟩
  have HNL := Lib.hid hm
  have hm8 : m ≤ 8 := by omega
  have hemp := Mc.some_empty (b := P) (by omega)
  have HE := Lib.hid hemp
  have hP3 : 32 ≤ P.size := hPp
  clear hm hl8 hf0 ho0 hmay hput hPs hgot htorn hss h4 hPp
  go_upto_region 6 with (go_at_call 27; (with_reducible refine HLN.out.mono ?_); rintro e x2 ⟨v', rfl, hcv, hb2, hfr⟩; obtain ⟨a3, p3, rfl⟩ := hcv.form; rw [HNL.out] at hcv ⊢; clear hfr)
  have hbt := Box.new x2 ⟨#[206, 177, 206, 178]⟩ a3 m p3 st hcv
  have hb3 := (hb1.trans (hb2.mono hb1.size)).alloc (by have := hb1.size; have := hb2.size; omega) (.cells #[.string ⟨#[206, 177, 206, 178]⟩, .slice a3 m p3, .string st] 24)
  clear hb1 hb2 hcv HLN
  generalize x2.alloc (.cells #[.string ⟨#[206, 177, 206, 178]⟩, .slice a3 m p3, .string st] 24) = x3 at hbt hb3 ⊢
  generalize x2.heap.size = bt at hbt ⊢
  obtain ⟨d0, d1, d2, _⟩ := Row.three hbt.r
  have HBT := Lib.hid hbt
  have HB3 := Lib.hid hb3
  clear hbt hb3
  go_upto_region 7 with (go_at_call 25; (with_reducible refine (HP.out _ _ (HL.out.below HB3.out (Nat.le_refl _)) HBT.out.cv).mono ?_); rintro e x4 ⟨rfl, hb4⟩)
  have HBTn := Lib.hid (HBT.out.below hb4)
  have HB3n := Lib.hid (HB3.out.trans (hb4.mono HB3.out.size))
  clear HBT HB3 hb4 d0 d1 d2 HP
  have HBT := HBTn
  have HB3 := HB3n
  clear HBTn HB3n
  have o1 : ¬ 9223372036854775807 < ahead.size + P.size := by omega
  have o2 : ¬ 9223372036854775807 < ahead.size + P.size + behind.size := by omega
  go_upto_region 8 with (go_at_call 14; (with_reducible refine (HG.out _ (HL.out.below HB3.out (Nat.le_refl _))).mono ?_); rintro e x5 ⟨v', rfl, hcv, hb5⟩; obtain ⟨a4, p4, rfl⟩ := hcv.form; rw [HNL.out] at hcv ⊢)
  have hK : Bk w (x5.alloc (.cells #[.string ⟨#[206, 177, 206, 178]⟩, .slice a4 m p4, .string st] 24)) bt x5.heap.size ⟨#[206, 177, 206, 178]⟩ a3 a4 m p3 p4 st L :=
    ⟨(HBT.out.below hb5).alloc _, Box.new x5 _ a4 m p4 st hcv, (HB3.out.trans (hb5.mono HB3.out.size)).alloc (by have := HB3.out.size; have := hb5.size; omega) _⟩
  clear HBT HB3 hb5 hcv HG o1 o2
  generalize x5.alloc (.cells #[.string ⟨#[206, 177, 206, 178]⟩, .slice a4 m p4, .string st] 24) = x6 at hK ⊢
  generalize x5.heap.size = bu at hK ⊢
  have HK := Lib.hid hK
  obtain ⟨⟨d0, d1, d2⟩, ⟨c0, c1, c2⟩⟩ := hK.cells
  clear hK
  have hwa : IntKind.i64.wrap ((ahead.size : Int) + (P.size : Int)) = (ahead.size : Int) + (P.size : Int) := by rw [IntKind.wrap_i64]; omega
  go_upto_region 10 with fail
  clear d0 d1 d2 c0 c1 c2 hemp
  go_upto_region 11 with fail
  go_loopw [17] (fun s17 wr => ∃ i : Nat, i ≤ m ∧ s17 = .int .i64 (i : Int) ∧ Bk w wr bt bu ⟨#[206, 177, 206, 178]⟩ a3 a4 m p3 p4 st L) (fun s17 _ => m - (intOf s17).toNat)
  case atStart => exact ⟨0, by omega, rfl, HK.out⟩
  case round =>
    clear HK
    obtain ⟨i, hi, rfl, hK⟩ := hrel
    have hi0 : (0 : Int) ≤ (i : Int) := by omega
    by_cases hlt : i < m
    · have hlt' : (i : Int) < (m : Int) := by omega
      obtain ⟨ga, oa, pa', hfu, ea0, ea1⟩ := (hK.t.cv.get).2 i (by rw [HNL.out]; omega)
      rw [HNL.out] at hfu
      cases hfu
      obtain ⟨gb, ob, pb', hfu, eb0, eb1⟩ := (hK.u.cv.get).2 i (by rw [HNL.out]; omega)
      rw [HNL.out] at hfu
      cases hfu
      have hj : i < L.length := by rw [HNL.out]; omega
      generalize L[i] = c at ea0 ea1 eb0 eb1
      obtain ⟨ck, cn⟩ := c
      simp only at ea0 ea1 eb0 eb1
      obtain ⟨⟨d0, d1, d2⟩, ⟨c0, c1, c2⟩⟩ := hK.cells
      have HK := Lib.hid hK
      have hwi : IntKind.i64.wrap ((i : Int) + 1) = (i : Int) + 1 := by rw [IntKind.wrap_i64]; omega
      clear hK hj
      go_upto_region 13 with fail
      go_quiet (fail)
      go_wp2_with fail
      refine ⟨⟨i + 1, by omega, by go_num, HK.out.below ⟨rfl, rfl, rfl, Nat.le_refl _, fun _ _ => rfl⟩⟩, by simp only [intOf]; omega⟩
    · have hlt' : ¬ (i : Int) < (m : Int) := by omega
      have HK := Lib.hid hK
      obtain ⟨⟨d0, d1, d2⟩, ⟨c0, c1, c2⟩⟩ := hK.cells
      obtain ⟨c, hc⟩ : ∃ c, cut % P.size = c := ⟨_, rfl⟩
      have hcl : c < P.size := by rw [← hc]; exact Nat.mod_lt _ (by omega)
      have hc1 : (cut : Int) % (P.size : Int) = (c : Int) := by rw [← hc]; rfl
      have hc2 : (cut : Int).tmod (P.size : Int) = (c : Int) := by rw [Int.tmod_eq_emod_of_nonneg (by omega)]; exact hc1
      have hp0 : ¬ (P.size : Int) = 0 := by omega
      have hw1 : IntKind.i64.wrap ((P.size : Int) - 1) = (P.size : Int) - 1 := by rw [IntKind.wrap_i64]; omega
      have hw2 : IntKind.i64.wrap ((P.size : Int) - 1 - (c : Int)) = (P.size : Int) - 1 - (c : Int) := by rw [IntKind.wrap_i64]; omega
      have hw3 : IntKind.i64.wrap (cut : Int) = (cut : Int) := by rw [IntKind.wrap_i64]; omega
      have hw4 : IntKind.i64.wrap (c : Int) = (c : Int) := by rw [IntKind.wrap_i64]; omega
      have hb1 : (0 : Int) ≤ (P.size : Int) - 1 - (c : Int) := by omega
      have hb2 : (P.size : Int) - 1 - (c : Int) ≤ (P.size : Int) := by omega
      clear hK hc
      go_wp2_with (go_at_call 14; (with_reducible refine (HT.out _ (by omega) _ (HL.out.below HK.out.b (Nat.le_refl _))).mono ?_); rintro e x7 ⟨v', rfl, hcv, hb7⟩; obtain ⟨a5, p5, rfl⟩ := hcv.form; have HB7 := Lib.hid (HK.out.b.trans (hb7.mono HK.out.b.size)); clear hb7 hcv)
      go_ret
      exact ⟨rfl, HB7.out.alloc HB7.out.size _⟩

end Go.Proofs.YtalncnblcfcmcaaDoor
