/- The walk of WireSums. -/
import Derived.Test.YtckdjaohnmopcaaWiEx
import Derived.OpenShut
namespace Go.Proofs.Ytckdjaohnmopcaa
open Go.RowKit

theorem add_yes {a b : Nat} (h : a + b < 18446744073709551616) : Wi.add a b = (a + b, true) := if_pos h
theorem add_no {a b : Nat} (h : ¬ a + b < 18446744073709551616) : Wi.add a b = (0, false) := if_neg h
theorem sub_yes {a b : Nat} (h : b ≤ a) : Wi.sub a b = (a - b, true) := if_pos h
theorem sub_no {a b : Nat} (h : ¬ b ≤ a) : Wi.sub a b = (0, false) := if_neg h

/-- the walk, whatever the sums and the differences are -/
structure Sums (a b c e x y z : Nat) (ok back dif : Bool) : Prop where
  ab : Wi.add a b = (c, ok)
  ba : Wi.add b a = (c, ok)
  cb : Wi.sub c b = (x, back)
  sab : Wi.sub a b = (y, dif)
  yb : Wi.add y b = (z, true)
  wr : IntKind.u64.wrap ((a : Int) + (b : Int)) = (e : Int)
  ge : decide ((a : Int) ≤ (e : Int)) = ok
  gd : decide ((b : Int) ≤ (a : Int)) = dif
  gn : decide (b ≤ a) = dif
  en : decide (a ≤ e) = ok
  c0 : ok = false → c = 0
  b1 : ok = true → back = true ∧ x = a
  d1 : dif = true → z = a
  d0 : dif = false → y = 0
  cl : c < 18446744073709551616
  yl : y < 18446744073709551616

set_option maxRecDepth 100000 in
set_option maxHeartbeats 4000000 in
theorem WireSums_go (a b c e x y z : Nat) (ok back dif : Bool) (w : World) (ha : a < 18446744073709551616) (hb : b < 18446744073709551616) (h : Sums a b c e x y z ok back dif) :
    Calls Try.prog 4 #[.int .u64 (a : Int), .int .u64 (b : Int)] w fun e w' => e = .returned (.bool true) ∧ Below w.heap.size w w' := by
  have H1 := fun w => Add_any a b w ha hb
  have H2 := fun w => Add_any b a w hb ha
  have H3 := fun w => Sub_any c b w h.cl hb
  have H4 := fun w => Sub_any a b w ha hb
  have H5 := fun w => Add_any y b w h.yl hb
  rw [h.ab] at H1
  rw [h.ba] at H2
  rw [h.cb] at H3
  rw [h.sab] at H4
  rw [h.yb] at H5
  unfold Wi.two at H1 H2 H3 H4 H5
  simp only at H1 H2 H3 H4 H5
  have hwr := h.wr
  have hge := h.ge
  have hgd := h.gd
  have hgn := h.gn
  have hen := h.en
  have c0 := h.c0
  have b1 := h.b1
  have d1 := h.d1
  have d0 := h.d0
  clear h ha hb
  have K1 := Lib.hid H1; clear H1
  have K2 := Lib.hid H2; clear H2
  have K3 := Lib.hid H3; clear H3
  have K4 := Lib.hid H4; clear H4
  have K5 := Lib.hid H5; clear H5
  cases ok <;> cases dif
  case' false.false => (have e1 := c0 rfl; subst e1; have e2 := d0 rfl; subst e2)
  case' false.true => (have e1 := c0 rfl; subst e1; have e2 := d1 rfl; subst e2)
  case' true.false => (obtain ⟨e1, e3⟩ := b1 rfl; subst e1; subst e3; have e2 := d0 rfl; subst e2)
  case' true.true => (obtain ⟨e1, e3⟩ := b1 rfl; subst e1; subst e3; have e2 := d1 rfl; subst e2)
  all_goals
    clear c0 b1 d1 d0
    try rw [show ((0 : Nat) : Int) = (0 : Int) from rfl] at K1 K2
    try rw [show ((0 : Nat) : Int) = (0 : Int) from rfl] at K3
    try rw [show ((0 : Nat) : Int) = (0 : Int) from rfl] at K4
    try rw [show ((0 : Nat) : Int) = (0 : Int) from rfl] at K5
    go_enter Try.func4, Try.ntmps4
    go_wp2_with fail
    refine (examples_any _).mono ?_
    rintro e w1 ⟨rfl, hbl⟩
    go_wp2_with fail
    refine (K1.out _).mono ?_
    rintro e w2 ⟨rfl, rfl⟩
    go_wp2_with fail
    refine (K2.out _).mono ?_
    rintro e w2 ⟨rfl, rfl⟩
    go_wp2_with fail
    refine (K3.out _).mono ?_
    rintro e w2 ⟨rfl, rfl⟩
    go_wp2_with fail
    refine (K4.out _).mono ?_
    rintro e w2 ⟨rfl, rfl⟩
    go_wp2_with fail
    refine (K5.out _).mono ?_
    rintro e w2 ⟨rfl, rfl⟩
    go_wp2_with fail
    go_ret
    exact ⟨by first | rfl | exact ret_bool (by simp [hgn]), hbl⟩

theorem WireSums_walk (a b : Int) (w : World) (wa : (Lit.int .u64 a).wf = true) (wb : (Lit.int .u64 b).wf = true) :
    Calls Try.prog 4 #[.int .u64 a, .int .u64 b] w fun e w' => e = .returned (.bool true) ∧ Below w.heap.size w w' := by
  have h1 := bounds_u64 wa
  have h2 := bounds_u64 wb
  obtain ⟨a, rfl⟩ := Int.eq_ofNat_of_zero_le h1.1
  obtain ⟨b, rfl⟩ := Int.eq_ofNat_of_zero_le h2.1
  have ha : a < 18446744073709551616 := by omega
  have hb : b < 18446744073709551616 := by omega
  have hb0 : Wi.add 0 b = (b, true) := by rw [add_yes (by omega), Nat.zero_add]
  by_cases h : a + b < 18446744073709551616
  · have hcb : Wi.sub (a + b) b = (a, true) := by rw [sub_yes (by omega)]; simp
    have hwr : IntKind.u64.wrap ((a : Int) + (b : Int)) = ((a + b : Nat) : Int) := by rw [IntKind.wrap_u64]; omega
    by_cases hd : b ≤ a
    · exact WireSums_go a b (a + b) (a + b) a (a - b) a true true true w ha hb ⟨add_yes h, by rw [Nat.add_comm]; exact add_yes (by omega), hcb, sub_yes hd, by rw [add_yes (by omega)]; congr 1; omega, hwr, decide_eq_true (by omega), decide_eq_true (by omega), decide_eq_true (by omega), decide_eq_true (by omega), by simp, by simp, by simp, by simp, by omega, by omega⟩
    · exact WireSums_go a b (a + b) (a + b) a 0 b true true false w ha hb ⟨add_yes h, by rw [Nat.add_comm]; exact add_yes (by omega), hcb, sub_no hd, hb0, hwr, decide_eq_true (by omega), decide_eq_false (by omega), decide_eq_false (by omega), decide_eq_true (by omega), by simp, by simp, by simp, by simp, by omega, by omega⟩
  · have hcb : Wi.sub 0 b = (0, false) := sub_no (by omega)
    have hwr : IntKind.u64.wrap ((a : Int) + (b : Int)) = ((a + b - 18446744073709551616 : Nat) : Int) := by rw [IntKind.wrap_u64]; omega
    by_cases hd : b ≤ a
    · exact WireSums_go a b 0 (a + b - 18446744073709551616) 0 (a - b) a false false true w ha hb ⟨add_no h, add_no (by omega), hcb, sub_yes hd, by rw [add_yes (by omega)]; congr 1; omega, hwr, decide_eq_false (by omega), decide_eq_true (by omega), decide_eq_true (by omega), decide_eq_false (by omega), by simp, by simp, by simp, by simp, by omega, by omega⟩
    · exact WireSums_go a b 0 (a + b - 18446744073709551616) 0 0 b false false false w ha hb ⟨add_no h, add_no (by omega), hcb, sub_no hd, hb0, hwr, decide_eq_false (by omega), decide_eq_false (by omega), decide_eq_false (by omega), decide_eq_false (by omega), by simp, by simp, by simp, by simp, by omega, by omega⟩

end Go.Proofs.Ytckdjaohnmopcaa
