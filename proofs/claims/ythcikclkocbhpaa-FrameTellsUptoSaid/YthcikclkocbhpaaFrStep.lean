/- The walks of frame.step and frame.Sum: what they compute, as the plain functions say. -/
import Derived.Test.YthcikclkocbhpaaFrPlain
import Derived.Test.YthcikclkocbhpaaKit
namespace Go.Proofs.Ythcikclkocbhpaa
open Go.RowKit

theorem bit_int (x : Nat) (h : x < 4294967296) : bits .xor .u32 ((x : Int) / 2) (3988292384 * bits .and .u32 (x : Int) 1 % 4294967296) = ((Fr.bit x : Nat) : Int) := by
  have h1 : bits .and .u32 (x : Int) 1 = ((x % 2 : Nat) : Int) := by
    have := u32_and_nat x 1 h (by omega)
    rw [nat_mask1] at this
    exact this
  rw [h1]
  have h2 : ((x : Int) / 2) = ((x / 2 : Nat) : Int) := by omega
  have h3 : (3988292384 * ((x % 2 : Nat) : Int) % 4294967296) = ((3988292384 * (x % 2) : Nat) : Int) := by omega
  rw [h2, h3, u32_xor_nat _ _ (by omega) (by omega)]
  rfl

set_option maxHeartbeats 400000 in
theorem step_any (r b : Nat) (w : World) (hr : r < 4294967296) (hb : b < 256) :
    Calls Try.prog 23 #[.int .u32 (r : Int), .int .u8 (b : Int)] w fun e w' => e = .returned (.int .u32 (Fr.step r b : Nat)) ∧ w = w' := by
  have hx := u32_xor_nat r b hr (by omega)
  go_enter Try.func23, Try.ntmps23
  go_wp2
  go_loop [0, 9] (fun s i => ∃ k : Nat, k ≤ 8 ∧ i = .int .i64 k ∧ s = .int .u32 (Fr.bits (r ^^^ b) k : Nat)) (fun _ i => 8 - (intOf i).toNat)
  case atStart => exact ⟨0, by omega, rfl, rfl⟩
  case round =>
    obtain ⟨k, hk, rfl, rfl⟩ := hrel
    clear hx
    have hlt := Fr.bits_lt (r ^^^ b) (Nat.xor_lt_two_pow (n := 32) hr (by omega)) k
    have hs : Fr.bits (r ^^^ b) (k + 1) = Fr.bit (Fr.bits (r ^^^ b) k) := rfl
    have he : k = 8 → Fr.bits (r ^^^ b) k = Fr.step r b := by rintro rfl; rfl
    generalize Fr.bits (r ^^^ b) k = x at hlt hs he
    have hb := Lib.hid (bit_int x hlt)
    have HS := Lib.hid hs; clear hs
    have HE := Lib.hid he; clear he
    go_wp2
    · go_round
      case rel => exact ⟨k + 1, by omega, by go_num, by rw [HS.out, hb.out]⟩
      case measure => simp [intOf]; omega
    · go_ret
      exact ⟨ret_int (by rw [HE.out (by omega)]), rfl⟩

set_option maxHeartbeats 400000 in
theorem Sum_any (s : ByteArray) (w : World) (hs : s.size ≤ maxLen) :
    Calls Try.prog 16 #[.string s] w fun e w' => e = .returned (.int .u32 (Fr.sum s.data.toList : Nat)) ∧ w = w' := by
  unfold maxLen at hs
  go_enter Try.func16, Try.ntmps16
  go_wp2
  go_loop [3, 4, 7] (fun r _ i => ∃ k : Nat, k ≤ s.size ∧ i = .int .i64 k ∧ r = .int .u32 (Fr.run 4294967295 (s.data.toList.take k) : Nat)) (fun _ _ i => s.size - (intOf i).toNat)
  case atStart => exact ⟨0, by omega, rfl, rfl⟩
  case round =>
    obtain ⟨k, hk, rfl, rfl⟩ := hrel
    have hlt := Fr.run_lt (s.data.toList.take k) 4294967295 (by omega)
    by_cases hk' : k < s.size
    · have hs : Fr.run 4294967295 (s.data.toList.take (k + 1)) = Fr.step (Fr.run 4294967295 (s.data.toList.take k)) s[k].toNat := by
        rw [take_snoc s k hk', Fr.run_snoc]
      have hu : s[k].toNat < 256 := s[k].toNat_lt
      generalize Fr.run 4294967295 (s.data.toList.take k) = x at hlt hs
      have HS := Lib.hid hs; clear hs
      go_wp2_with (go_at_call 23; refine (step_any _ _ _ hlt hu).mono ?_; rintro e w' ⟨rfl, rfl⟩)
      go_round
      case rel => exact ⟨k + 1, by omega, by go_num, by rw [HS.out]⟩
      case measure => simp [intOf]; omega
    · have he : Fr.sum s.data.toList = 4294967295 ^^^ Fr.run 4294967295 (s.data.toList.take k) := by
        rw [List.take_of_length_le (by simp; omega)]; rfl
      generalize Fr.run 4294967295 (s.data.toList.take k) = x at hlt he
      have HN := Lib.hid (not_u32 x hlt)
      have HE := Lib.hid he; clear he
      go_wp2
      go_ret
      exact ⟨ret_int (by rw [HE.out, ← HN.out]), rfl⟩

end Go.Proofs.Ythcikclkocbhpaa
