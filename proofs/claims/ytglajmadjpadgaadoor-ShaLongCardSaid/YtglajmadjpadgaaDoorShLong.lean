/- The walk of the statement ShaLong. -/
import Derived.Test.YtglajmadjpadgaaDoorShBack
namespace Go.Proofs.YtglajmadjpadgaaDoor
open Go.RowKit

set_option maxHeartbeats 4000000 in
theorem ShaLong_walk (t : ByteArray) (n b : Nat) (w : World) (hL : Laid w) (hb : b < 256) :
    Calls Tryd.prog 4 #[.string t, .int .u8 (n : Int), .int .u8 (b : Int)] w fun e w' => e = .returned (.bool true) ∧ Below w.heap.size w w' := by
  have HEX := Lib.hid (examples_any w hL)
  have HL := Lib.hid hL; clear hL
  obtain ⟨m, hm⟩ : ∃ m, n % 140 = m := ⟨_, rfl⟩
  have hm2 : (n : Int) % 140 = (m : Int) := by omega
  have hm3 : m < 140 := by omega
  clear hm
  go_enter Tryd.func4, Tryd.ntmps4
  go_wp2_with (go_at_call 8; refine HEX.out.mono ?_; rintro e w1 ⟨rfl, hb1⟩; have HB := Lib.hid hb1; clear hb1)
  have hz : (t.extract 0 (min (t.size : Int) 200).toNat).size ≤ 200 := by rw [ByteArray.size_extract]; omega
  have HZ := Lib.hid hz; clear hz
  go_loopw [8, 9] (fun s8 s9 wr => ∃ (s : ByteArray) (i : Nat), i ≤ m ∧ s8 = .string s ∧ s.size ≤ 200 + i ∧ s9 = .int .i64 (i : Int) ∧ Below w.heap.size w wr) (fun _ s9 _ => m - (intOf s9).toNat)
  case atStart => exact ⟨_, 0, by omega, rfl, HZ.out, rfl, HB.out⟩
  case round =>
    clear HB HZ
    obtain ⟨s, i, hi, rfl, hs, rfl, hbl⟩ := hrel
    have HB := Lib.hid hbl; clear hbl
    by_cases him : i < m
    · have him' : (i : Int) < (m : Int) := by omega
      have kc := row_string (n := 1) (cap := 1) (l := [UInt8.ofNat b]) (one_row wr b hb) rfl
      obtain ⟨o, ho⟩ : ∃ o : ByteArray, ⟨[UInt8.ofNat b].toArray⟩ = o := ⟨_, rfl⟩
      have hos : o.size = 1 := by rw [← ho]; rfl
      rw [ho] at kc
      clear ho
      go_wp2_with fail
      refine ⟨⟨s ++ o, i + 1, by omega, rfl, by rw [ByteArray.size_append]; omega, by go_num, HB.out.alloc HB.out.size _⟩, by simp only [intOf]; omega⟩
    · obtain rfl : i = m := by omega
      have him' : ¬ (i : Int) < (i : Int) := by omega
      obtain ⟨x, hx⟩ : ∃ x : ByteArray, ⟨(Sh.sum s.data.toList).toArray⟩ = x := ⟨_, rfl⟩
      obtain ⟨y, hy⟩ : ∃ y : ByteArray, ⟨(Sh.hex x.data.toList).toArray⟩ = y := ⟨_, rfl⟩
      have hxs : x.size = 32 := by rw [← hx, str_size, Sh.sum_len]
      have hys : y.size = 64 := by rw [← hy, str_size, Sh.hex_len, show x.data.toList.length = x.size from rfl, hxs]
      have HS := Lib.hid (fun u (h : Laid u) => show Calls Tryd.prog 11 #[.string s] u fun e w' => e = .returned (.string x) ∧ Below u.heap.size u w' from hx ▸ Sum_any s u h (by omega))
      have HH := Lib.hid (fun u => hex_str x u (by omega) y hy)
      have HP := Lib.hid (fun u => parse_str y u (by omega) x true (by rw [← hy, str_data, Sh.parse_hex, str_eq]) (by rw [← hy, str_data, Sh.parse_hex]))
      clear hx hy
      go_wp2_with (first
        | (go_at_call 13; with_reducible refine (HH.out _).mono ?_; rintro e u ⟨rfl, hbu⟩; have HBn := Lib.hid (HB.out.trans (hbu.mono HB.out.size)); clear HB hbu; have HB := HBn; clear HBn)
        | (go_at_call 9; with_reducible refine (HP.out _).mono ?_; rintro e u ⟨rfl, hbu⟩; have HBn := Lib.hid (HB.out.trans (hbu.mono HB.out.size)); clear HB hbu; have HB := HBn; clear HBn)
        | (go_at_call 11; with_reducible refine (HS.out _ (HL.out.below HB.out (Nat.le_refl _))).mono ?_; rintro e u ⟨rfl, hbu⟩; have HBn := Lib.hid (HB.out.trans (hbu.mono HB.out.size)); clear HB hbu; have HB := HBn; clear HBn))
      all_goals (go_ret; exact ⟨rfl, HB.out⟩)

end Go.Proofs.YtglajmadjpadgaaDoor
