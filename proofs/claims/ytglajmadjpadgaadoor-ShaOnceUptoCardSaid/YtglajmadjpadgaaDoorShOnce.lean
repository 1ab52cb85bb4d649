/- The walk of the statement ShaBack. -/
import Derived.Test.YtglajmadjpadgaaDoorShBack
namespace Go.Proofs.YtglajmadjpadgaaDoor
open Go.RowKit

set_option maxHeartbeats 4000000 in
theorem ShaOnce_walk (a b : ByteArray) (w : World) (hL : Laid w) (ha : a.size ≤ 1048576) (hb : b.size ≤ 1048576) :
    Calls Tryd.prog 6 #[.string a, .string b] w fun e w' => e = .returned (.bool true) ∧ Below w.heap.size w w' := by
  obtain ⟨y, hy⟩ : ∃ x : ByteArray, ⟨(Sh.hex b.data.toList).toArray⟩ = x := ⟨_, rfl⟩
  have hyd : y.data.toList = Sh.hex b.data.toList := by rw [← hy]
  have hys : y.size = 2 * b.size := by rw [← hy, str_size, Sh.hex_len]; rfl
  have HBX := Lib.hid (fun w => hex_str b w (by omega) y hy)
  have HP1 := Lib.hid (fun w => parse_str (y ++ ⟨#[48]⟩) w (by rw [ByteArray.size_append, hys]; show _ + 1 ≤ _; omega) ⟨#[]⟩ false (by rw [str_app, hyd]; show (⟨(Sh.parse (Sh.hex b.data.toList ++ [48])).1.toArray⟩ : ByteArray) = _; rw [Sh.parse_one]) (by rw [str_app, hyd]; show (Sh.parse (Sh.hex b.data.toList ++ [48])).2 = _; rw [Sh.parse_one]))
  have HP2 := Lib.hid (fun w => parse_str (y ++ ⟨#[48, 65]⟩) w (by rw [ByteArray.size_append, hys]; show _ + 2 ≤ _; omega) ⟨#[]⟩ false (by rw [str_app, hyd]; show (⟨(Sh.parse (Sh.hex b.data.toList ++ [48, 65])).1.toArray⟩ : ByteArray) = _; rw [Sh.parse_two]) (by rw [str_app, hyd]; show (Sh.parse (Sh.hex b.data.toList ++ [48, 65])).2 = _; rw [Sh.parse_two]))
  have HP3 := Lib.hid (fun w => parse_str (y ++ ⟨#[32, 48]⟩) w (by rw [ByteArray.size_append, hys]; show _ + 2 ≤ _; omega) ⟨#[]⟩ false (by rw [str_app, hyd]; show (⟨(Sh.parse (Sh.hex b.data.toList ++ [32, 48])).1.toArray⟩ : ByteArray) = _; rw [Sh.parse_three]) (by rw [str_app, hyd]; show (Sh.parse (Sh.hex b.data.toList ++ [32, 48])).2 = _; rw [Sh.parse_three]))
  have HP4 := Lib.hid (fun w => parse_str (y ++ ⟨#[48, 103]⟩) w (by rw [ByteArray.size_append, hys]; show _ + 2 ≤ _; omega) ⟨#[]⟩ false (by rw [str_app, hyd]; show (⟨(Sh.parse (Sh.hex b.data.toList ++ [48, 103])).1.toArray⟩ : ByteArray) = _; rw [Sh.parse_four]) (by rw [str_app, hyd]; show (Sh.parse (Sh.hex b.data.toList ++ [48, 103])).2 = _; rw [Sh.parse_four]))
  obtain ⟨o, ho⟩ : ∃ x : ByteArray, ⟨(Sh.parse a.data.toList).1.toArray⟩ = x := ⟨_, rfl⟩
  obtain ⟨r, hr⟩ : ∃ r, (Sh.parse a.data.toList).2 = r := ⟨_, rfl⟩
  have HPA := Lib.hid (fun w => parse_str a w (by omega) o r ho hr)
  clear hy hyd
  have HEX := Lib.hid (examples_any w hL)
  have main : (r = true ∧ ∀ w, Calls Tryd.prog 13 #[.string o] w fun e w' => e = .returned (.string a) ∧ Below w.heap.size w w') ∨ (r = false ∧ o = ⟨#[]⟩) := by
    cases r with
    | true =>
      refine .inl ⟨rfl, fun w => hex_str o w ?_ a ?_⟩
      · rw [← ho, str_size]
        have h := congrArg List.length (Sh.parse_true hr)
        rw [Sh.hex_len] at h
        have : a.data.toList.length = a.size := rfl
        omega
      · rw [← ho, str_data, Sh.parse_true hr, str_eq]
    | false => exact .inr ⟨rfl, by rw [← ho, Sh.parse_false hr]⟩
  clear ho hr ha
  rcases main with ⟨rfl, HO'⟩ | ⟨rfl, rfl⟩
  · have HO := Lib.hid HO'
    clear HO'
    go_enter Tryd.func6, Tryd.ntmps6
    go_wp2_with (first
      | (go_at_call 8; refine HEX.out.mono ?_; rintro e w1 ⟨rfl, hb1⟩; have HB := Lib.hid hb1; clear hb1)
      | (go_at_call 9; (first | with_reducible refine (HPA.out _).mono ?_ | with_reducible refine (HP1.out _).mono ?_ | with_reducible refine (HP2.out _).mono ?_ | with_reducible refine (HP3.out _).mono ?_ | with_reducible refine (HP4.out _).mono ?_); rintro e u ⟨rfl, hbu⟩; have HBn := Lib.hid (HB.out.trans (hbu.mono HB.out.size)); clear HB hbu; have HB := HBn; clear HBn)
      | (go_at_call 13; (first | with_reducible refine (HO.out _).mono ?_ | with_reducible refine (HBX.out _).mono ?_); rintro e u ⟨rfl, hbu⟩; have HBn := Lib.hid (HB.out.trans (hbu.mono HB.out.size)); clear HB hbu; have HB := HBn; clear HBn))
    all_goals (go_ret; exact ⟨rfl, HB.out⟩)
  · go_enter Tryd.func6, Tryd.ntmps6
    go_wp2_with (first
      | (go_at_call 8; refine HEX.out.mono ?_; rintro e w1 ⟨rfl, hb1⟩; have HB := Lib.hid hb1; clear hb1)
      | (go_at_call 9; (first | with_reducible refine (HPA.out _).mono ?_ | with_reducible refine (HP1.out _).mono ?_ | with_reducible refine (HP2.out _).mono ?_ | with_reducible refine (HP3.out _).mono ?_ | with_reducible refine (HP4.out _).mono ?_); rintro e u ⟨rfl, hbu⟩; have HBn := Lib.hid (HB.out.trans (hbu.mono HB.out.size)); clear HB hbu; have HB := HBn; clear HBn)
      | (go_at_call 13; (first | with_reducible refine (HBX.out _).mono ?_); rintro e u ⟨rfl, hbu⟩; have HBn := Lib.hid (HB.out.trans (hbu.mono HB.out.size)); clear HB hbu; have HB := HBn; clear HBn))
    all_goals (go_ret; exact ⟨rfl, HB.out⟩)

end Go.Proofs.YtglajmadjpadgaaDoor
