/- The walks of the document's own mixed, Sign: each gives what the code gives. -/
import Derived.Test.YtalncnblcfcmcaaDoorShRefE
import Derived.Test.YtalncnblcfcmcaaDoorMcCav
namespace Go.Proofs.YtalncnblcfcmcaaDoor
open Go.RowKit

/-- what the document's Sum is to do -/
def SumC : Prop := ∀ (s : ByteArray) (w : World), s.size ≤ 281474976710656 →
    Calls Tryd.prog 38 #[.string s] w fun e w' => e = .returned (.string ⟨(Sh.sum s.data.toList).toArray⟩) ∧ Below w.heap.size w w'
theorem sumC_of (h : BlockC) : SumC := fun s w hs => refSum_any h s w hs

namespace Mc
theorem mixed_next (k : List UInt8) (x : UInt8) {i : Nat} (h : i < 64) : (mixed k x).take (i + 1) = (mixed k x).take i ++ [k.getD i 0 ^^^ x] := by
  rw [List.take_add_one, List.getElem?_eq_getElem (by rw [mixed_len]; exact h)]
  simp [mixed]
end Mc

set_option maxRecDepth 100000 in
set_option maxHeartbeats 4000000 in
theorem rmixed_any (k : ByteArray) (x : UInt8) (w : World) :
    Calls Tryd.prog 39 #[.string k, .int .u8 (x.toNat : Int)] w fun e w' => e = .returned (.string ⟨(Mc.mixed k.data.toList x).toArray⟩) ∧ Below w.heap.size w w' := by
  have HM := Lib.hid (Mc.mixed_len k.data.toList x)
  go_enter Tryd.func39, Tryd.ntmps39
  go_wp2_with fail
  go_loopw [5, 6] (fun s5 s6 wr => ∃ (i : Nat) (o : ByteArray), i ≤ 64 ∧ s6 = .int .i64 (i : Int) ∧ s5 = .string o ∧ o.data.toList = (Mc.mixed k.data.toList x).take i ∧ Below w.heap.size w wr) (fun _ s6 _ => 64 - (intOf s6).toNat)
  case atStart => exact ⟨0, _, by omega, rfl, rfl, rfl, Below.refl _ _⟩
  case round =>
    obtain ⟨i, o, hi, rfl, rfl, ho, hbel⟩ := hrel
    have hos : o.size = i := by
      have h := congrArg List.length ho
      rw [List.length_take, HM.out] at h
      have e1 : o.data.toList.length = o.size := by simp
      omega
    have hi0 : (0 : Int) ≤ (i : Int) := by omega
    by_cases h64 : i < 64
    · have h64' : (i : Int) < 64 := by omega
      have hn := Mc.mixed_next k.data.toList x h64
      obtain ⟨b, hb⟩ : ∃ b, k.data.toList.getD i 0 = b := ⟨_, rfl⟩
      rw [hb] at hn
      have hx : bits .xor .u8 (b.toNat : Int) (x.toNat : Int) = ((b ^^^ x).toNat : Int) := by
        rw [u8_xor_nat _ _ (UInt8.toNat_lt _) (UInt8.toNat_lt _), UInt8.toNat_xor]
      generalize b ^^^ x = c8 at hn hx
      have kc := conv_byte wr c8.toNat (UInt8.toNat_lt _)
      rw [UInt8.ofNat_toNat] at kc
      obtain ⟨c, hc⟩ : ∃ c : ByteArray, ⟨#[c8]⟩ = c := ⟨_, rfl⟩
      have hcs : c.size = 1 := by rw [← hc]; rfl
      have hog : ¬ 9223372036854775807 < o.size + c.size := by omega
      rw [hc] at kc
      have HN := Lib.hid (show (o ++ c).data.toList = (Mc.mixed k.data.toList x).take (i + 1) from by rw [hn, ← ho, ← hc]; simp)
      have HB := Lib.hid hbel
      by_cases hk : i < k.size
      · have hk' : (i : Int) < (k.size : Int) := by omega
        have hb2 : k[i] = b := by rw [← hb, byte_at k hk]
        have hx2 : bits .xor .u8 (k[i].toNat : Int) (x.toNat : Int) = (c8.toNat : Int) := by rw [hb2]; exact hx
        clear hn hb hb2 hc hcs ho hbel hos hx
        go_wp2_with fail
        refine ⟨⟨i + 1, _, by omega, by go_num, rfl, HN.out, HB.out.alloc HB.out.size _⟩, by simp only [intOf]; omega⟩
      · have hk' : ¬ (i : Int) < (k.size : Int) := by omega
        have hkl : k.data.toList.length ≤ i := by simp; omega
        have hb0 : b = 0 := by rw [← hb, List.getD_eq_getElem?_getD, List.getElem?_eq_none hkl]; rfl
        have hx2 : bits .xor .u8 0 (x.toNat : Int) = (c8.toNat : Int) := by rw [← hx, hb0]; rfl
        clear hn hb hb0 hc hcs ho hbel hos hx hkl
        go_wp2_with fail
        refine ⟨⟨i + 1, _, by omega, by go_num, rfl, HN.out, HB.out.alloc HB.out.size _⟩, by simp only [intOf]; omega⟩
    · obtain rfl : i = 64 := by omega
      have h64' : ¬ ((64 : Nat) : Int) < 64 := by omega
      rw [List.take_of_length_le (by rw [HM.out]; omega)] at ho
      have HO := Lib.hid (show (⟨(Mc.mixed k.data.toList x).toArray⟩ : ByteArray) = o from by rw [← ho])
      have HB := Lib.hid hbel
      clear ho hbel hos
      go_wp2_with fail
      go_ret
      exact ⟨ret_str HO.out.symm, HB.out⟩

set_option maxRecDepth 100000 in
set_option maxHeartbeats 4000000 in
theorem rSign_any (hS : SumC) (k s : ByteArray) (w : World) (hk : k.size ≤ 281474976710656) (hs : s.size ≤ 281474976710000) :
    Calls Tryd.prog 19 #[.string k, .string s] w fun e w' => e = .returned (.string (Mc.signB k s)) ∧ Below w.heap.size w w' := by
  obtain ⟨q, hq⟩ : ∃ q : ByteArray, ⟨(Mc.key k.data.toList).toArray⟩ = q := ⟨_, rfl⟩
  have hqd : q.data.toList = Mc.key k.data.toList := by rw [← hq]
  obtain ⟨mo, hmo⟩ : ∃ q : ByteArray, ⟨(Mc.mixed (Mc.key k.data.toList) 92).toArray⟩ = q := ⟨_, rfl⟩
  obtain ⟨mi, hmi⟩ : ∃ q : ByteArray, ⟨(Mc.mixed (Mc.key k.data.toList) 54).toArray⟩ = q := ⟨_, rfl⟩
  have hmos : mo.size = 64 := by rw [← hmo]; show (Mc.mixed _ _).toArray.size = 64; simp [Mc.mixed_len]
  have hmis : mi.size = 64 := by rw [← hmi]; show (Mc.mixed _ _).toArray.size = 64; simp [Mc.mixed_len]
  obtain ⟨si, hsi⟩ : ∃ q : ByteArray, ⟨(Sh.sum (mi ++ s).data.toList).toArray⟩ = q := ⟨_, rfl⟩
  have hsis : si.size = 32 := by rw [← hsi]; rfl
  have HR := Lib.hid (show (⟨(Sh.sum (mo ++ si).data.toList).toArray⟩ : ByteArray) = Mc.signB k s from by
    unfold Mc.signB Mc.sign
    congr 3
    rw [ByteArray.data_append, Array.toList_append, ← hmo, ← hsi, ByteArray.data_append, Array.toList_append, ← hmi])
  have H1 := Lib.hid (fun w => show Calls Tryd.prog 39 #[.string q, .int .u8 92] w fun e w' => e = .returned (.string mo) ∧ Below w.heap.size w w' from by
    have := rmixed_any q 92 w
    rw [hqd, hmo] at this
    exact this)
  have H2 := Lib.hid (fun w => show Calls Tryd.prog 39 #[.string q, .int .u8 54] w fun e w' => e = .returned (.string mi) ∧ Below w.heap.size w w' from by
    have := rmixed_any q 54 w
    rw [hqd, hmi] at this
    exact this)
  have HS1 := Lib.hid (fun w => show Calls Tryd.prog 38 #[.string (mi ++ s)] w fun e w' => e = .returned (.string si) ∧ Below w.heap.size w w' from by
    have := hS (mi ++ s) w (by rw [ByteArray.size_append]; omega)
    rw [hsi] at this
    exact this)
  have HS2 := Lib.hid (fun w => show Calls Tryd.prog 38 #[.string (mo ++ si)] w fun e w' => e = .returned (.string (Mc.signB k s)) ∧ Below w.heap.size w w' from HR.out ▸ hS (mo ++ si) w (by rw [ByteArray.size_append]; omega))
  generalize Mc.signB k s = res at HS2 ⊢
  have hog1 : ¬ 9223372036854775807 < mi.size + s.size := by omega
  have hog2 : ¬ 9223372036854775807 < mo.size + si.size := by omega
  by_cases h64 : 64 < k.size
  · have h64' : (64 : Int) < (k.size : Int) := by omega
    have hqq : (⟨(Sh.sum k.data.toList).toArray⟩ : ByteArray) = q := by
      rw [← hq]; unfold Mc.key; rw [if_pos (by simp; omega)]
    have HS0 := Lib.hid (fun w => show Calls Tryd.prog 38 #[.string k] w fun e w' => e = .returned (.string q) ∧ Below w.heap.size w w' from hqq ▸ hS k w hk)
    clear hq hqd hmo hmi hsi hqq hmos hmis hsis hS HR
    go_enter Tryd.func19, Tryd.ntmps19
    have HB := Lib.hid (Below.refl w.heap.size w)
    go_wp2_with (first
      | (go_at_call 38; (first | with_reducible refine (HS0.out _).mono ?_ | with_reducible refine (HS1.out _).mono ?_ | with_reducible refine (HS2.out _).mono ?_); rintro e u ⟨rfl, hbu⟩; have HBn := Lib.hid (HB.out.trans (hbu.mono HB.out.size)); clear HB hbu; have HB := HBn; clear HBn)
      | (go_at_call 39; (first | with_reducible refine (H1.out _).mono ?_ | with_reducible refine (H2.out _).mono ?_); rintro e u ⟨rfl, hbu⟩; have HBn := Lib.hid (HB.out.trans (hbu.mono HB.out.size)); clear HB hbu; have HB := HBn; clear HBn))
    go_ret
    exact ⟨rfl, HB.out⟩
  · have h64' : ¬ (64 : Int) < (k.size : Int) := by omega
    have hqq : k = q := by
      rw [← hq]; unfold Mc.key; rw [if_neg (by simp; omega)]
    subst hqq
    clear hq hqd hmo hmi hsi hmos hmis hsis hS HR
    go_enter Tryd.func19, Tryd.ntmps19
    have HB := Lib.hid (Below.refl w.heap.size w)
    go_wp2_with (first
      | (go_at_call 38; (first | with_reducible refine (HS1.out _).mono ?_ | with_reducible refine (HS2.out _).mono ?_); rintro e u ⟨rfl, hbu⟩; have HBn := Lib.hid (HB.out.trans (hbu.mono HB.out.size)); clear HB hbu; have HB := HBn; clear HBn)
      | (go_at_call 39; (first | with_reducible refine (H1.out _).mono ?_ | with_reducible refine (H2.out _).mono ?_); rintro e u ⟨rfl, hbu⟩; have HBn := Lib.hid (HB.out.trans (hbu.mono HB.out.size)); clear HB hbu; have HB := HBn; clear HBn))
    go_ret
    exact ⟨rfl, HB.out⟩

end Go.Proofs.YtalncnblcfcmcaaDoor
