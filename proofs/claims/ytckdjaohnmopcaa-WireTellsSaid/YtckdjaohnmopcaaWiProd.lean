/- The walk of WireProducts. -/
import Derived.Test.YtckdjaohnmopcaaWiSums
namespace Go.Proofs.Ytckdjaohnmopcaa
open Go.RowKit

theorem mul_yes {a b : Nat} (h : a * b < 18446744073709551616) : Wi.mul a b = (a * b, true) := if_pos h
theorem mul_no {a b : Nat} (h : ¬ a * b < 18446744073709551616) : Wi.mul a b = (0, false) := if_neg h
theorem wrap_mul (a b : Nat) : IntKind.u64.wrap ((a : Int) * (b : Int)) = ((a * b % 18446744073709551616 : Nat) : Int) := by
  rw [← Int.natCast_mul]; exact Mul64.wrapM (a * b)
theorem over_div {a b : Nat} (h : ¬ a * b < 18446744073709551616) (_hb : 0 < b) : a * b % 18446744073709551616 / b ≠ a := by
  intro e
  have h1 : a * b % 18446744073709551616 < 18446744073709551616 := Nat.mod_lt _ (by decide)
  have h2 : a * b ≤ a * b % 18446744073709551616 := by
    have := Nat.div_mul_le_self (a * b % 18446744073709551616) b
    rw [e] at this
    exact this
  omega

set_option maxRecDepth 100000 in
set_option maxHeartbeats 4000000 in
theorem WireProducts_zero (a : Nat) (w : World) (ha : a < 18446744073709551616) :
    Calls Try.prog 5 #[.int .u64 (a : Int), .int .u64 0] w fun e w' => e = .returned (.bool true) ∧ Below w.heap.size w w' := by
  have H1 := fun w => Mul_any a 0 w ha (by omega)
  have H2 := fun w => Mul_any 0 a w (by omega) ha
  have H3 := fun w => Mul_any a 1 w ha (by omega)
  rw [mul_yes (by omega), Nat.mul_zero] at H1
  rw [mul_yes (by omega), Nat.zero_mul] at H2
  rw [mul_yes (by omega), Nat.mul_one] at H3
  unfold Wi.two at H1 H2 H3
  simp only at H1 H2 H3
  rw [show ((0 : Nat) : Int) = (0 : Int) from rfl] at H1 H2
  rw [show ((1 : Nat) : Int) = (1 : Int) from rfl] at H3
  have K1 := Lib.hid H1; clear H1
  have K2 := Lib.hid H2; clear H2
  have K3 := Lib.hid H3; clear H3
  clear ha
  go_enter Try.func5, Try.ntmps5
  go_wp2_with fail
  refine (examples_any _).mono ?_
  rintro e w1 ⟨rfl, hbl⟩
  go_wp2_with fail
  refine (K1.out _).mono ?_
  rintro e w2 ⟨rfl, rfl⟩
  go_wp2_with fail
  refine (K2.out _).mono ?_
  rintro e w2 ⟨rfl, rfl⟩
  go_wp2_with fail
  refine (K1.out _).mono ?_
  rintro e w2 ⟨rfl, rfl⟩
  go_wp2_with fail
  refine (K3.out _).mono ?_
  rintro e w2 ⟨rfl, rfl⟩
  go_wp2_with fail
  go_ret
  exact ⟨rfl, hbl⟩

set_option maxRecDepth 100000 in
set_option maxHeartbeats 4000000 in
theorem WireProducts_pos (a b : Nat) (w : World) (ha : a < 18446744073709551616) (hb : b < 18446744073709551616) (hb0 : 0 < b) :
    Calls Try.prog 5 #[.int .u64 (a : Int), .int .u64 (b : Int)] w fun e w' => e = .returned (.bool true) ∧ Below w.heap.size w w' := by
  have H1 := fun w => Mul_any a b w ha hb
  have H2 := fun w => Mul_any b a w hb ha
  have H3 := fun w => Mul_any a 1 w ha (by omega)
  have H4 := fun w => Mul_any a 0 w ha (by omega)
  rw [mul_yes (by omega), Nat.mul_one] at H3
  rw [mul_yes (by omega), Nat.mul_zero] at H4
  unfold Wi.two at H1 H2 H3 H4
  simp only at H3 H4
  rw [show ((0 : Nat) : Int) = (0 : Int) from rfl] at H4
  rw [show ((1 : Nat) : Int) = (1 : Int) from rfl] at H3
  have K3 := Lib.hid H3; clear H3
  have K4 := Lib.hid H4; clear H4
  have hwr := wrap_mul a b
  have hbz : ¬ ((b : Int) = 0) := by omega
  have hbz2 : ((b : Int) == 0) = false := by simpa using hbz
  have hdv := fun M : Nat => (Int.natCast_ediv M b).symm
  have hnz : b ≠ 0 := by omega
  by_cases h : a * b < 18446744073709551616
  · rw [mul_yes h] at H1
    rw [mul_yes (by rw [Nat.mul_comm]; exact h), Nat.mul_comm b a] at H2
    rw [Nat.mod_eq_of_lt h] at hwr
    have hq : a * b / b = a := Nat.mul_div_cancel _ hb0
    have hd := hdv (a * b)
    rw [hq] at hd
    simp only at H1 H2
    generalize a * b = M at H1 H2 hwr hd
    have hdt : (M : Int).tdiv (b : Int) = (a : Int) := by rw [Int.tdiv_eq_ediv_of_nonneg (by omega)]; exact hd
    have K1 := Lib.hid H1; clear H1
    have K2 := Lib.hid H2; clear H2
    have hwa : IntKind.u64.wrap (a : Int) = (a : Int) := by rw [IntKind.wrap_u64]; omega
    clear ha hb h hq hdv hnz
    have hb0' : (0 : Int) < (b : Int) := by omega
    go_enter Try.func5, Try.ntmps5
    go_wp2_with fail
    refine (examples_any _).mono ?_
    rintro e w1 ⟨rfl, hbl⟩
    go_wp2_with fail
    refine (K1.out _).mono ?_
    rintro e w2 ⟨rfl, rfl⟩
    go_wp2_with fail
    refine (K2.out _).mono ?_
    rintro e w2 ⟨rfl, rfl⟩
    go_wp2_with fail
    refine (K4.out _).mono ?_
    rintro e w2 ⟨rfl, rfl⟩
    go_wp2_with fail
    refine (K3.out _).mono ?_
    rintro e w2 ⟨rfl, rfl⟩
    go_wp2_with fail
    go_ret
    exact ⟨rfl, hbl⟩
  · rw [mul_no h] at H1
    rw [mul_no (by rw [Nat.mul_comm]; exact h)] at H2
    have hq := over_div h hb0
    have hd := hdv (a * b % 18446744073709551616)
    simp only at H1 H2
    rw [show ((0 : Nat) : Int) = (0 : Int) from rfl] at H1 H2
    have hMl : a * b % 18446744073709551616 < 18446744073709551616 := Nat.mod_lt _ (by decide)
    generalize a * b % 18446744073709551616 = M at hwr hd hq hMl
    have hDl : M / b ≤ M := Nat.div_le_self _ _
    generalize M / b = D at hd hq hDl
    have hwD : IntKind.u64.wrap (D : Int) = (D : Int) := by rw [IntKind.wrap_u64]; omega
    have hdt : (M : Int).tdiv (b : Int) = (D : Int) := by rw [Int.tdiv_eq_ediv_of_nonneg (by omega)]; exact hd.symm ▸ rfl
    have hda : ((D : Int) == (a : Int)) = false := by simpa using fun e : (D : Int) = (a : Int) => hq (by omega)
    have hdn : (D == a) = false := by simpa using hq
    have K1 := Lib.hid H1; clear H1
    have K2 := Lib.hid H2; clear H2
    clear ha hb h hdv hnz hMl hDl
    have hb0' : (0 : Int) < (b : Int) := by omega
    go_enter Try.func5, Try.ntmps5
    go_wp2_with fail
    refine (examples_any _).mono ?_
    rintro e w1 ⟨rfl, hbl⟩
    go_wp2_with fail
    refine (K1.out _).mono ?_
    rintro e w2 ⟨rfl, rfl⟩
    go_wp2_with fail
    refine (K2.out _).mono ?_
    rintro e w2 ⟨rfl, rfl⟩
    go_wp2_with fail
    refine (K4.out _).mono ?_
    rintro e w2 ⟨rfl, rfl⟩
    go_wp2_with fail
    refine (K3.out _).mono ?_
    rintro e w2 ⟨rfl, rfl⟩
    go_wp2_with fail
    go_ret
    exact ⟨rfl, hbl⟩

theorem WireProducts_walk (a b : Int) (w : World) (wa : (Lit.int .u64 a).wf = true) (wb : (Lit.int .u64 b).wf = true) :
    Calls Try.prog 5 #[.int .u64 a, .int .u64 b] w fun e w' => e = .returned (.bool true) ∧ Below w.heap.size w w' := by
  have h1 := bounds_u64 wa
  have h2 := bounds_u64 wb
  obtain ⟨a, rfl⟩ := Int.eq_ofNat_of_zero_le h1.1
  obtain ⟨b, rfl⟩ := Int.eq_ofNat_of_zero_le h2.1
  by_cases hb : b = 0
  · subst hb; exact WireProducts_zero a w (by omega)
  · exact WireProducts_pos a b w (by omega) (by omega) (by omega)

end Go.Proofs.Ytckdjaohnmopcaa
