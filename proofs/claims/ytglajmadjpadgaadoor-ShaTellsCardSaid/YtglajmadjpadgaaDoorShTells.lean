/- The walk of the statement ShaTells. -/
import Derived.Test.YtglajmadjpadgaaDoorShRefE
import Derived.Test.YtglajmadjpadgaaDoorShRefC
import Derived.Test.YtglajmadjpadgaaDoorShBack
namespace Go.Proofs.YtglajmadjpadgaaDoor
open Go.RowKit

theorem str_self (b : ByteArray) : (b.toList == b.toList) = true := by simp

set_option maxRecDepth 100000 in
set_option maxHeartbeats 8000000 in
theorem ShaTells_core (hblk : BlockC) (s text : ByteArray) (w : World) (hL : Laid w) (_hs : s.size ≤ 140737488351232) (ht : text.size ≤ 140737488351232) :
    Calls Tryd.prog 3 #[.string s, .string text] w fun e w' => e = .returned (.bool true) ∧ Below w.heap.size w w' := by
  have HEX := Lib.hid (examples_any w hL)
  have HL := Lib.hid hL
  obtain ⟨o, ho⟩ : ∃ o : ByteArray, ⟨(Sh.parse text.data.toList).1.toArray⟩ = o := ⟨_, rfl⟩
  obtain ⟨b, hb⟩ : ∃ b, (Sh.parse text.data.toList).2 = b := ⟨_, rfl⟩
  have HP := Lib.hid (fun w => parse_str text w ht o b ho hb)
  have HRP := Lib.hid (fun w => show Calls Tryd.prog 10 #[.string text] w fun e w' => e = .returned (.tuple #[.string o, .bool b]) ∧ Below w.heap.size w w' from ho ▸ hb ▸ refParse_any text w ht)
  clear ho hb hL
  go_enter Tryd.func3, Tryd.ntmps3
  go_upto_region 5 with (go_at_call 8; refine HEX.out.mono ?_; rintro e w1 ⟨rfl, hb1⟩; have HB := Lib.hid hb1; clear hb1)
  have hz : (s.extract 0 (min (s.size : Int) 300).toNat).size ≤ 300 := by rw [ByteArray.size_extract]; omega
  generalize s.extract 0 (min (s.size : Int) 300).toNat = c at hz ⊢
  obtain ⟨x, hx⟩ : ∃ x : ByteArray, ⟨(Sh.sum c.data.toList).toArray⟩ = x := ⟨_, rfl⟩
  obtain ⟨y, hy⟩ : ∃ y : ByteArray, ⟨(Sh.hex c.data.toList).toArray⟩ = y := ⟨_, rfl⟩
  have HS := Lib.hid (fun u (h : Laid u) => show Calls Tryd.prog 11 #[.string c] u fun e w' => e = .returned (.string x) ∧ Below u.heap.size u w' from hx ▸ Sum_any c u h (by omega))
  have HRS := Lib.hid (fun u => show Calls Tryd.prog 12 #[.string c] u fun e w' => e = .returned (.string x) ∧ Below u.heap.size u w' from hx ▸ refSum_any hblk c u (by omega))
  have HH := Lib.hid (fun u => hex_str c u (by omega) y hy)
  have HRH := Lib.hid (fun u => show Calls Tryd.prog 14 #[.string c] u fun e w' => e = .returned (.string y) ∧ Below u.heap.size u w' from hy ▸ refHex_any c u (by omega))
  clear hx hy hblk
  cases b <;> (
    go_wp2_with (first
      | (go_at_call 9; with_reducible refine (HP.out _).mono ?_; rintro e u ⟨rfl, hbu⟩; have HBn := Lib.hid (HB.out.trans (hbu.mono HB.out.size)); clear HB hbu; have HB := HBn; clear HBn)
      | (go_at_call 10; with_reducible refine (HRP.out _).mono ?_; rintro e u ⟨rfl, hbu⟩; have HBn := Lib.hid (HB.out.trans (hbu.mono HB.out.size)); clear HB hbu; have HB := HBn; clear HBn)
      | (go_at_call 11; with_reducible refine (HS.out _ (HL.out.below HB.out (Nat.le_refl _))).mono ?_; rintro e u ⟨rfl, hbu⟩; have HBn := Lib.hid (HB.out.trans (hbu.mono HB.out.size)); clear HB hbu; have HB := HBn; clear HBn)
      | (go_at_call 12; with_reducible refine (HRS.out _).mono ?_; rintro e u ⟨rfl, hbu⟩; have HBn := Lib.hid (HB.out.trans (hbu.mono HB.out.size)); clear HB hbu; have HB := HBn; clear HBn)
      | (go_at_call 13; with_reducible refine (HH.out _).mono ?_; rintro e u ⟨rfl, hbu⟩; have HBn := Lib.hid (HB.out.trans (hbu.mono HB.out.size)); clear HB hbu; have HB := HBn; clear HBn)
      | (go_at_call 14; with_reducible refine (HRH.out _).mono ?_; rintro e u ⟨rfl, hbu⟩; have HBn := Lib.hid (HB.out.trans (hbu.mono HB.out.size)); clear HB hbu; have HB := HBn; clear HBn))
    all_goals (go_ret; exact ⟨rfl, HB.out⟩))

theorem blockC : BlockC := fun st b w gh caph gk capk hb hh hH hK lh lk => refblock_any st b w gh caph gk capk hb hh hH hK lh lk
theorem ShaTells_walk (s text : ByteArray) (w : World) (hL : Laid w) (hs : s.size ≤ 140737488351232) (ht : text.size ≤ 140737488351232) :
    Calls Tryd.prog 3 #[.string s, .string text] w fun e w' => e = .returned (.bool true) ∧ Below w.heap.size w w' := ShaTells_core blockC s text w hL hs ht

end Go.Proofs.YtglajmadjpadgaaDoor
