/- The walk of the statement ShaBack. -/
import Derived.Test.YtglajmadjpadgaaDoorShLaws
namespace Go.Proofs.YtglajmadjpadgaaDoor
open Go.RowKit

theorem hex_str (s : ByteArray) (w : World) (hs : s.size ≤ 70368744177664) (h : ByteArray) (hh : ⟨(Sh.hex s.data.toList).toArray⟩ = h) :
    Calls Tryd.prog 13 #[.string s] w fun e w' => e = .returned (.string h) ∧ Below w.heap.size w w' := hh ▸ Hex_any s w hs
theorem parse_str (s : ByteArray) (w : World) (hs : s.size ≤ 140737488351232) (o : ByteArray) (b : Bool) (h1 : ⟨(Sh.parse s.data.toList).1.toArray⟩ = o) (h2 : (Sh.parse s.data.toList).2 = b) :
    Calls Tryd.prog 9 #[.string s] w fun e w' => e = .returned (.tuple #[.string o, .bool b]) ∧ Below w.heap.size w w' := h1 ▸ h2 ▸ Parse_any s w hs
theorem str_data (l : List UInt8) : (⟨l.toArray⟩ : ByteArray).data.toList = l := rfl
theorem str_eq (s : ByteArray) : (⟨s.data.toList.toArray⟩ : ByteArray) = s := Lib.mk_data s
theorem str_size (l : List UInt8) : (⟨l.toArray⟩ : ByteArray).size = l.length := by show l.toArray.size = _; simp
theorem str_app (a b : ByteArray) : (a ++ b).data.toList = a.data.toList ++ b.data.toList := by simp

set_option maxHeartbeats 4000000 in
theorem ShaBack_walk (a b : ByteArray) (w : World) (hL : Laid w) (ha : a.size ≤ 1048576) (hb : b.size ≤ 1048576) :
    Calls Tryd.prog 5 #[.string a, .string b] w fun e w' => e = .returned (.bool true) ∧ Below w.heap.size w w' := by
  obtain ⟨x, hx⟩ : ∃ x : ByteArray, ⟨(Sh.hex a.data.toList).toArray⟩ = x := ⟨_, rfl⟩
  obtain ⟨y, hy⟩ : ∃ x : ByteArray, ⟨(Sh.hex b.data.toList).toArray⟩ = x := ⟨_, rfl⟩
  have hxd : x.data.toList = Sh.hex a.data.toList := by rw [← hx]
  have hyd : y.data.toList = Sh.hex b.data.toList := by rw [← hy]
  have hxs : x.size = 2 * a.size := by rw [← hx, str_size, Sh.hex_len]; rfl
  have hys : y.size = 2 * b.size := by rw [← hy, str_size, Sh.hex_len]; rfl
  have HA := Lib.hid (fun w => hex_str a w (by omega) x hx)
  have HBX := Lib.hid (fun w => hex_str b w (by omega) y hy)
  have HAB := Lib.hid (fun w => hex_str (a ++ b) w (by rw [ByteArray.size_append]; omega) (x ++ y) (by rw [str_app, Sh.hex_app, ← hx, ← hy]; apply ByteArray.ext; simp))
  have HP := Lib.hid (fun w => parse_str x w (by omega) a true (by rw [hxd, Sh.parse_hex, str_eq]) (by rw [hxd, Sh.parse_hex]))
  have heq : (x.toList == y.toList) = (a.toList == b.toList) := by
    rw [Lib.toList_data, Lib.toList_data, Lib.toList_data, Lib.toList_data, hxd, hyd, Bool.eq_iff_iff, beq_iff_eq, beq_iff_eq]
    exact ⟨Sh.hex_inj, fun e => by rw [e]⟩
  clear hx hy hxd hyd
  have HEX := Lib.hid (examples_any w hL)
  go_enter Tryd.func5, Tryd.ntmps5
  go_wp2_with (first
    | (go_at_call 8; refine HEX.out.mono ?_; rintro e w1 ⟨rfl, hb1⟩; have HB := Lib.hid hb1; clear hb1)
    | (go_at_call 9; with_reducible refine (HP.out _).mono ?_; rintro e u ⟨rfl, hbu⟩; have HBn := Lib.hid (HB.out.trans (hbu.mono HB.out.size)); clear HB hbu; have HB := HBn; clear HBn)
    | (go_at_call 13; (first | with_reducible refine (HA.out _).mono ?_ | with_reducible refine (HBX.out _).mono ?_ | with_reducible refine (HAB.out _).mono ?_); rintro e u ⟨rfl, hbu⟩; have HBn := Lib.hid (HB.out.trans (hbu.mono HB.out.size)); clear HB hbu; have HB := HBn; clear HBn))
  all_goals (go_ret; exact ⟨rfl, HB.out⟩)

end Go.Proofs.YtglajmadjpadgaaDoor
