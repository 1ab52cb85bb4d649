/- The walk of the chapter's examples. -/
import Derived.Test.YtglajmadjpadgaaDoorShSum
import Derived.Test.YtglajmadjpadgaaDoorShPar
import Derived.KernelRfl
namespace Go.Proofs.YtglajmadjpadgaaDoor
open Go.RowKit

theorem ex_parse1 : Sh.parse [54, 49, 54, 50, 102, 102] = ([97, 98, 255], true) := by kernel_rfl
theorem ex_parse2 : Sh.parse [54, 65] = ([], false) := by kernel_rfl
theorem ex_parse3 : Sh.parse [54, 49, 54] = ([], false) := by kernel_rfl
theorem ex_hex1 : Sh.hex [97, 98, 255] = [54, 49, 54, 50, 102, 102] := by kernel_rfl
theorem ex_sum0 : Sh.hex (Sh.sum []) = [101, 51, 98, 48, 99, 52, 52, 50, 57, 56, 102, 99, 49, 99, 49, 52, 57, 97, 102, 98, 102, 52, 99, 56, 57, 57, 54, 102, 98, 57, 50, 52, 50, 55, 97, 101, 52, 49, 101, 52, 54, 52, 57, 98, 57, 51, 52, 99, 97, 52, 57, 53, 57, 57, 49, 98, 55, 56, 53, 50, 98, 56, 53, 53] := by kernel_rfl
theorem ex_sum1 : Sh.hex (Sh.sum [97, 98, 99]) = [98, 97, 55, 56, 49, 54, 98, 102, 56, 102, 48, 49, 99, 102, 101, 97, 52, 49, 52, 49, 52, 48, 100, 101, 53, 100, 97, 101, 50, 50, 50, 51, 98, 48, 48, 51, 54, 49, 97, 51, 57, 54, 49, 55, 55, 97, 57, 99, 98, 52, 49, 48, 102, 102, 54, 49, 102, 50, 48, 48, 49, 53, 97, 100] := by kernel_rfl

theorem parse_lit (t o : List UInt8) (b : Bool) (h : Sh.parse t = (o, b)) (hl : t.length ≤ 1000) (w : World) : Calls Tryd.prog 9 #[.string ⟨t.toArray⟩] w fun e w' => e = .returned (.tuple #[.string ⟨o.toArray⟩, .bool b]) ∧ Below w.heap.size w w' := by
  have := Parse_any ⟨t.toArray⟩ w (by show t.toArray.size ≤ _; simp; omega)
  simp only [h] at this
  exact this
theorem hex_lit (t o : List UInt8) (h : Sh.hex t = o) (hl : t.length ≤ 1000) (w : World) : Calls Tryd.prog 13 #[.string ⟨t.toArray⟩] w fun e w' => e = .returned (.string ⟨o.toArray⟩) ∧ Below w.heap.size w w' := by
  have := Hex_any ⟨t.toArray⟩ w (by show t.toArray.size ≤ _; simp; omega)
  simp only [h] at this
  exact this
theorem sum_lit (t o : List UInt8) (h : Sh.sum t = o) (hl : t.length ≤ 1000) (w : World) (hL : Laid w) : Calls Tryd.prog 11 #[.string ⟨t.toArray⟩] w fun e w' => e = .returned (.string ⟨o.toArray⟩) ∧ Below w.heap.size w w' := by
  have := Sum_any ⟨t.toArray⟩ w hL (by show t.toArray.size ≤ _; simp; omega)
  simp only [h] at this
  exact this
theorem Sh.sum_len (t : List UInt8) : (Sh.sum t).length = 32 := rfl

set_option maxHeartbeats 4000000 in
theorem examples_any (w : World) (hL : Laid w) :
    Calls Tryd.prog 8 #[] w fun e w' => e = .returned (.bool true) ∧ Below w.heap.size w w' := by
  have P1 := Lib.hid (parse_lit [54, 49, 54, 50, 102, 102] _ _ ex_parse1 (by decide))
  have P2 := Lib.hid (parse_lit [54, 65] _ _ ex_parse2 (by decide))
  have P3 := Lib.hid (parse_lit [54, 49, 54] _ _ ex_parse3 (by decide))
  have H1 := Lib.hid (hex_lit [97, 98, 255] _ ex_hex1 (by decide))
  obtain ⟨s0, hs0⟩ : ∃ s, Sh.sum [] = s := ⟨_, rfl⟩
  obtain ⟨s1, hs1⟩ : ∃ s, Sh.sum [97, 98, 99] = s := ⟨_, rfl⟩
  have S0 := Lib.hid (sum_lit [] s0 hs0 (by decide))
  have S1 := Lib.hid (sum_lit [97, 98, 99] s1 hs1 (by decide))
  have K0 := Lib.hid (hex_lit s0 _ (hs0 ▸ ex_sum0) (by rw [← hs0, Sh.sum_len]; decide))
  have K1 := Lib.hid (hex_lit s1 _ (hs1 ▸ ex_sum1) (by rw [← hs1, Sh.sum_len]; decide))
  clear hs0 hs1
  generalize (⟨s0.toArray⟩ : ByteArray) = q0 at S0 K0
  generalize (⟨s1.toArray⟩ : ByteArray) = q1 at S1 K1
  have HL := Lib.hid hL; clear hL
  go_enter Tryd.func8, Tryd.ntmps8
  go_wp2_with fail
  refine (P1.out _).mono ?_
  rintro e w1 ⟨rfl, hb1⟩
  go_wp2_with fail
  refine (P2.out _).mono ?_
  rintro e w2 ⟨rfl, hb2⟩
  go_wp2_with fail
  refine (P3.out _).mono ?_
  rintro e w3 ⟨rfl, hb3⟩
  have hb := hb1.trans ((hb2.mono hb1.size).trans (hb3.mono (Nat.le_trans hb1.size hb2.size)))
  have HB := Lib.hid hb; clear hb hb1 hb2 hb3
  go_wp2_with (first
    | (go_at_call 13; (first | with_reducible refine (H1.out _).mono ?_ | with_reducible refine (K0.out _).mono ?_ | with_reducible refine (K1.out _).mono ?_); rintro e u ⟨rfl, hbu⟩; have HBn := Lib.hid (HB.out.trans (hbu.mono HB.out.size)); clear HB hbu; have HB := HBn; clear HBn)
    | (go_at_call 11; (first | with_reducible refine (S0.out _ (HL.out.below HB.out (Nat.le_refl _))).mono ?_ | with_reducible refine (S1.out _ (HL.out.below HB.out (Nat.le_refl _))).mono ?_); rintro e u ⟨rfl, hbu⟩; have HBn := Lib.hid (HB.out.trans (hbu.mono HB.out.size)); clear HB hbu; have HB := HBn; clear HBn))

  go_ret
  exact ⟨rfl, HB.out⟩

end Go.Proofs.YtglajmadjpadgaaDoor
