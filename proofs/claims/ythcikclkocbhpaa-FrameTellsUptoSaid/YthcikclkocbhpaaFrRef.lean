/- The walks of demesneref08: Sum, four, Put: the document's own answer, told by the same plain functions. -/
import Derived.Test.YthcikclkocbhpaaFrFour
namespace Go.Proofs.Ythcikclkocbhpaa
open Go.RowKit

namespace Fr
/-- k bits of a byte, one by one, as the document goes -/
def refBits (r b : Nat) : Nat → Nat
  | 0 => r
  | k + 1 => (refBits r b k / 2) ^^^ (3988292384 * ((refBits r b k % 2) ^^^ (b / 2 ^ k % 2)))

theorem refBits_eq (r b : Nat) : ∀ k, bits (r ^^^ b) k = refBits r b k ^^^ (b / 2 ^ k)
  | 0 => by simp [bits, refBits]
  | k + 1 => by
    have ih := refBits_eq r b k
    show bit (bits (r ^^^ b) k) = _
    rw [ih]
    show (refBits r b k ^^^ b / 2 ^ k) / 2 ^^^ (3988292384 * ((refBits r b k ^^^ b / 2 ^ k) % 2)) = ((refBits r b k / 2) ^^^ (3988292384 * ((refBits r b k % 2) ^^^ (b / 2 ^ k % 2)))) ^^^ b / 2 ^ (k + 1)
    have h1 : (refBits r b k ^^^ b / 2 ^ k) / 2 = refBits r b k / 2 ^^^ (b / 2 ^ k / 2) := Nat.xor_div_two_pow (n := 1)
    have h2 : (refBits r b k ^^^ b / 2 ^ k) % 2 = refBits r b k % 2 ^^^ (b / 2 ^ k % 2) := Nat.xor_mod_two_pow (n := 1)
    rw [h1, h2, Nat.div_div_eq_div_mul, ← Nat.pow_succ]
    rw [Nat.xor_assoc, Nat.xor_assoc, Nat.xor_comm (b / 2 ^ (k + 1))]

theorem refBits_step (r b : Nat) (hb : b < 256) : refBits r b 8 = step r b := by
  have := refBits_eq r b 8
  rw [show b / 2 ^ 8 = 0 from by omega, Nat.xor_zero] at this
  exact this.symm

theorem refBits_lt (r b : Nat) (hr : r < 4294967296) : ∀ k, refBits r b k < 4294967296
  | 0 => hr
  | k + 1 => by
    have ih := refBits_lt r b hr k
    unfold refBits
    have h1 : refBits r b k % 2 ^^^ b / 2 ^ k % 2 < 2 := Nat.xor_lt_two_pow (n := 1) (by omega) (by omega)
    exact Nat.xor_lt_two_pow (n := 32) (by omega) (by omega)
end Fr

theorem odd_cast (y j : Nat) : ((y : Int) / 2 ^ j).tmod 2 % 4294967296 = ((y / 2 ^ j % 2 : Nat) : Int) := by
  have h : ((y : Int) / 2 ^ j) = ((y / 2 ^ j : Nat) : Int) := by rw [Int.natCast_ediv, Int.natCast_pow]; rfl
  rw [h]
  generalize y / 2 ^ j = q
  rw [Int.tmod_eq_emod_of_nonneg (by omega)]
  omega

theorem odd_yes (R y j : Nat) (h : ((R : Int) % 2 != ((y : Int) / 2 ^ j).tmod 2 % 4294967296) = true) : R % 2 ^^^ y / 2 ^ j % 2 = 1 := by
  rw [odd_cast, bne_iff_ne] at h
  generalize y / 2 ^ j = q at *
  have h1 : R % 2 = 0 ∨ R % 2 = 1 := by omega
  have h2 : q % 2 = 0 ∨ q % 2 = 1 := by omega
  rcases h1 with h1 | h1 <;> rcases h2 with h2 | h2 <;> rw [h1, h2] <;> first | rfl | (exfalso; omega)

theorem odd_no (R y j : Nat) (h : ((R : Int) % 2 != ((y : Int) / 2 ^ j).tmod 2 % 4294967296) = false) : R % 2 ^^^ y / 2 ^ j % 2 = 0 := by
  rw [odd_cast, bne_eq_false_iff_eq] at h
  generalize y / 2 ^ j = q at *
  rw [show R % 2 = q % 2 from by omega, Nat.xor_self]

theorem u32_half (R : Nat) (h : R < 4294967296) : Value.int .u32 (bits .xor .u32 ((R : Int) / 2) 3988292384) = Value.int .u32 ((R / 2 ^^^ 3988292384 * 1 : Nat) : Int) := by
  have := u32_xor_nat (R / 2) 3988292384 (by omega) (by omega)
  rw [show ((R / 2 : Nat) : Int) = (R : Int) / 2 from by omega] at this
  rw [Nat.mul_one, ← this]
  rfl

set_option maxHeartbeats 1000000 in
theorem refSum_any (s : ByteArray) (w : World) (hs : s.size ≤ maxLen) :
    Calls Try.prog 17 #[.string s] w fun e w' => e = .returned (.int .u32 (Fr.sum s.data.toList : Nat)) ∧ w = w' := by
  unfold maxLen at hs
  go_enter Try.func17, Try.ntmps17
  go_wp2
  go_loop [3, 4, 5, 6] (fun r i _ _ => ∃ k : Nat, k ≤ s.size ∧ i = .int .i64 k ∧ r = .int .u32 (Fr.run 4294967295 (s.data.toList.take k) : Nat)) (fun _ i _ _ => s.size - (intOf i).toNat)
  case atStart => exact ⟨0, by omega, rfl, rfl⟩
  case round =>
    obtain ⟨k, hk, rfl, rfl⟩ := hrel
    have hlt := Fr.run_lt (s.data.toList.take k) 4294967295 (by omega)
    by_cases hk' : k < s.size
    · have hs : Fr.run 4294967295 (s.data.toList.take (k + 1)) = Fr.step (Fr.run 4294967295 (s.data.toList.take k)) s[k].toNat := by
        rw [take_snoc s k hk', Fr.run_snoc]
      have hu : s[k].toNat < 256 := s[k].toNat_lt
      generalize Fr.run 4294967295 (s.data.toList.take k) = x at hlt hs
      have HS := Lib.hid hs; clear hs
      go_wp2
      go_loop [3, 5, 6] (fun r i _ => ∃ j : Nat, j ≤ 8 ∧ i = .int .i64 j ∧ r = .int .u32 (Fr.refBits x s[k].toNat j : Nat)) (fun _ i _ => 8 - (intOf i).toNat)
      case atStart => exact ⟨0, by omega, rfl, rfl⟩
      case round =>
        obtain ⟨j, hj, rfl, rfl⟩ := hrel
        have hr := Fr.refBits_lt x s[k].toNat hlt j
        have hsucc : Fr.refBits x s[k].toNat (j + 1) = (Fr.refBits x s[k].toNat j / 2) ^^^ (3988292384 * ((Fr.refBits x s[k].toNat j % 2) ^^^ (s[k].toNat / 2 ^ j % 2))) := rfl
        have hend : j = 8 → Fr.refBits x s[k].toNat j = Fr.step x s[k].toNat := by rintro rfl; exact Fr.refBits_step x _ hu
        generalize Fr.refBits x s[k].toNat j = R at hr hsucc hend ⊢
        have HSUCC := Lib.hid hsucc; clear hsucc
        have HEND := Lib.hid hend; clear hend
        by_cases h8 : j < 8
        · go_wp2
          · have hd := odd_yes R s[k].toNat j (by assumption)
            go_round
            case rel => exact ⟨j + 1, by omega, by go_num, by rw [HSUCC.out, hd, u32_half R hr]⟩
            case measure => simp [intOf]; omega
          · have hd := odd_no R s[k].toNat j (by assumption)
            go_round
            case rel => exact ⟨j + 1, by omega, by go_num, by rw [HSUCC.out, hd, Nat.mul_zero, Nat.xor_zero]; exact congrArg (Value.int .u32) (by omega)⟩
            case measure => simp [intOf]; omega
        · go_wp2
          go_round
          case rel => exact ⟨k + 1, by omega, by go_num, by rw [HS.out, HEND.out (by omega)]⟩
          case measure => simp [intOf]; omega
    · have he : Fr.sum s.data.toList = 4294967295 ^^^ Fr.run 4294967295 (s.data.toList.take k) := by
        rw [List.take_of_length_le (by simp; omega)]; rfl
      generalize Fr.run 4294967295 (s.data.toList.take k) = x at hlt he
      have HN := Lib.hid (not_u32 x hlt)
      have HE := Lib.hid he; clear he
      go_wp2
      go_ret
      exact ⟨ret_int (by rw [HE.out, ← HN.out]), rfl⟩

set_option maxHeartbeats 400000 in
theorem reffour_any (n : Nat) (w : World) (hn : n < 4294967296) :
    Calls Try.prog 21 #[.int .u32 (n : Int)] w fun e w' => e = .returned (.string ⟨(Fr.four n).toArray⟩) ∧ Below w.heap.size w w' := by
  have kc := conv4
  go_enter Try.func21, Try.ntmps21
  go_wp2
  go_ret
  exact ⟨ret_str (by rw [byte_mod (n / 65536) _ rfl, byte_mod (n / 256) _ rfl, byte_mod n _ rfl]; rfl), (Below.refl _ _).alloc (Nat.le_refl _) _⟩

set_option maxHeartbeats 400000 in
theorem refPut_any (s : ByteArray) (w : World) :
    Calls Try.prog 18 #[.string s] w fun e w' => e = .returned (.string ⟨(Fr.put s.data.toList).toArray⟩) ∧ Below w.heap.size w w' := by
  by_cases hs : 65536 < s.size
  · have HE : Hid (Fr.put s.data.toList = []) := by
      show _ = _
      unfold Fr.put; rw [if_pos (by simpa using hs)]
    go_enter Try.func18, Try.ntmps18
    go_wp2
    go_ret
    exact ⟨ret_str (by rw [HE.out]), Below.refl _ _⟩
  · have hs' : s.size ≤ 65536 := by omega
    have HE : Hid (Fr.put s.data.toList = Fr.four s.size ++ Fr.four (Fr.sum s.data.toList) ++ s.data.toList) := by
      show _ = _
      unfold Fr.put; rw [if_neg (by simp; omega)]
      simp
    have hl := Fr.sum_lt s.data.toList
    have h4 := Fr.four_length
    clear hs
    go_enter Try.func18, Try.ntmps18
    go_wp2_with fail
    refine (reffour_any _ _ (by omega)).mono ?_
    rintro e w1 ⟨rfl, hb1⟩
    go_wp2_with fail
    refine (refSum_any _ _ (by unfold maxLen; omega)).mono ?_
    rintro e w1 ⟨rfl, rfl⟩
    go_wp2_with fail
    refine (reffour_any _ _ (by omega)).mono ?_
    rintro e w2 ⟨rfl, hb2⟩
    go_wp2_with fail
    go_ret
    exact ⟨ret_str (by rw [HE.out]; exact put_bytes _ _ _ _ rfl), hb1.trans (hb2.mono hb1.size)⟩

end Go.Proofs.Ythcikclkocbhpaa
