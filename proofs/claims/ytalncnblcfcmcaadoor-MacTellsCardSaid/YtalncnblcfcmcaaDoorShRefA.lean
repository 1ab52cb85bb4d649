/- The walks of the document's own answer: turn. -/
import Derived.Test.YtalncnblcfcmcaaDoorShHex
import Derived.Test.YtalncnblcfcmcaaDoorShRowS
import Derived.Deep.QuietTactic
import Derived.BigQuiet
namespace Go.Proofs.YtalncnblcfcmcaaDoor
open Go.RowKit

theorem below_drewN {B : Nat} {w w' : World} (h : Below B w w') (n : Nat) : Below B w (w'.drewN n) := h.trans ⟨rfl, rfl, rfl, Nat.le_refl _, fun _ _ => rfl⟩
theorem rotr_int2 (x n m : Nat) (hx : x < 4294967296) (hm : 32 - n = m) : bits .or .u32 ((x : Int) / 2 ^ n) ((x : Int) * 2 ^ m % 4294967296) = ((Sh.rotr x n : Nat) : Int) := by
  subst hm
  have h1 : ((x : Int) * 2 ^ (32 - n) % 4294967296) = ((x * 2 ^ (32 - n) % 4294967296 : Nat) : Int) := by
    rw [Int.natCast_emod, Int.natCast_mul, Int.natCast_pow]; rfl
  have h2 : ((x : Int) / 2 ^ n) = ((x / 2 ^ n : Nat) : Int) := by
    rw [Int.natCast_ediv, Int.natCast_pow]; rfl
  have h3 : x / 2 ^ n ≤ x := Nat.div_le_self _ _
  rw [h1, h2, u32_or_nat _ _ (by omega) (Nat.mod_lt _ (by omega))]
  unfold Sh.rotr
  rw [Nat.or_comm]

set_option maxHeartbeats 1000000 in
theorem refturn_quiet (x n : Nat) (w : World) (hx : x < 4294967296) (h1 : 1 ≤ n) (h2 : n ≤ 31) :
    Calls Tryd.prog 69 #[.int .u32 (x : Int), .int .i64 (n : Int)] w fun e w' => e = .returned (.int .u32 (Sh.rotr x n : Nat)) ∧ ∃ m, w' = w.drewN m := by
  obtain ⟨m, hm⟩ : ∃ m, 32 - n = m := ⟨_, rfl⟩
  have H := Lib.hid (rotr_int2 x n m hx hm)
  have hn : (0 : Int) ≤ (n : Int) := by omega
  have hn2 : (n : Int) ≤ 31 := by omega
  have hm3 : (32 : Int) - (n : Int) = (m : Int) := by omega
  have hm4 : IntKind.i64.wrap (m : Int) = (m : Int) := by rw [IntKind.wrap_i64]; omega
  have hm0 : (0 : Int) ≤ (m : Int) := by omega
  have hm1 : (m : Int) ≤ 31 := by omega
  clear hm
  go_enter Tryd.func69, Tryd.ntmps69
  go_wp2_with fail
  go_quiet (fail)
  go_wp2
  go_ret
  exact ⟨ret_int H.out, _, rfl⟩

end Go.Proofs.YtalncnblcfcmcaaDoor
