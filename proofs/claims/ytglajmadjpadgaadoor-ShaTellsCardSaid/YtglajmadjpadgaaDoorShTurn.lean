/- The walks of bits.RotateLeft32 and sha.turn. -/
import Derived.Test.YtglajmadjpadgaaDoorShPlain
import Derived.Laws.BitsAllLaws
namespace Go.Proofs.YtglajmadjpadgaaDoor
open Go.RowKit

theorem mask5 (a : Nat) : a &&& 31 = a % 32 := Nat.and_two_pow_sub_one_eq_mod a 5

theorem rot_and (n : Nat) (h1 : 1 ≤ n) (h2 : n ≤ 31) : bits .and .u64 (IntKind.u64.wrap (-(n : Int))) 31 = ((32 - n : Nat) : Int) := by
  rw [show IntKind.u64.wrap (-(n : Int)) = ((18446744073709551616 - n : Nat) : Int) from by rw [IntKind.wrap_u64]; omega]
  have h := u64_and_nat (18446744073709551616 - n) 31 (by omega) (by omega)
  rw [mask5, show (18446744073709551616 - n) % 32 = 32 - n by omega] at h
  exact h

theorem rotr_int (x n : Nat) (hx : x < 4294967296) : bits .or .u32 ((x : Int) * 2 ^ (32 - n) % 4294967296) ((x : Int) / 2 ^ n) = ((Sh.rotr x n : Nat) : Int) := by
  have h1 : ((x : Int) * 2 ^ (32 - n) % 4294967296) = ((x * 2 ^ (32 - n) % 4294967296 : Nat) : Int) := by
    rw [Int.natCast_emod, Int.natCast_mul, Int.natCast_pow]; rfl
  have h2 : ((x : Int) / 2 ^ n) = ((x / 2 ^ n : Nat) : Int) := by
    rw [Int.natCast_ediv, Int.natCast_pow]; rfl
  have h3 : x / 2 ^ n ≤ x := Nat.div_le_self _ _
  rw [h1, h2, u32_or_nat _ _ (Nat.mod_lt _ (by omega)) (by omega)]
  rfl

set_option maxHeartbeats 1000000 in
theorem turn_any (x n : Nat) (w : World) (hx : x < 4294967296) (h1 : 1 ≤ n) (h2 : n ≤ 31) :
    Calls Tryd.prog 24 #[.int .u32 (x : Int), .int .i64 (n : Int)] w fun e w' => e = .returned (.int .u32 (Sh.rotr x n : Nat)) ∧ w = w' := by
  have hand := rot_and n h1 h2
  obtain ⟨m, hm⟩ : ∃ m, 32 - n = m := ⟨_, rfl⟩
  have H := Lib.hid (rotr_int x n hx)
  rw [hm] at hand H
  have hn : (1 : Int) ≤ (n : Int) := by omega
  have hn2 : (n : Int) ≤ 31 := by omega
  have hm3 : (32 : Int) - (m : Int) = (n : Int) := by omega
  have hm0 : (0 : Int) ≤ (m : Int) := by omega
  have hm1 : (m : Int) ≤ 31 := by omega
  clear hm
  go_enter Tryd.func24, Tryd.ntmps24
  go_wp2
  go_ret
  exact ⟨ret_int H.out, rfl⟩

end Go.Proofs.YtglajmadjpadgaaDoor
