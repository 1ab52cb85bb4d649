/- The walk of WireTells. -/
import Derived.Test.YtckdjaohnmopcaaWiRefGet
import Derived.Test.YtckdjaohnmopcaaWiEx
import Derived.OpenShut
namespace Go.Proofs.Ytckdjaohnmopcaa
open Go.RowKit

set_option maxRecDepth 100000 in
set_option maxHeartbeats 8000000 in
theorem WireTells_core (a b : Nat) (s : ByteArray) (i m : Int) (w : World) (ha : a < 18446744073709551616) (hb : b < 18446744073709551616) (hs : s.size ≤ 140737488351232) (hm : m < 9223372036854775808) :
    Calls Try.prog 6 #[.int .u64 (a : Int), .int .u64 (b : Int), .string s, .int .i64 i, .int .i64 m] w fun e w' => e = .returned (.bool true) ∧ Below w.heap.size w w' := by
  have G1 := fun w => Get_any s i w (by omega)
  have G2 := fun w => rGet_any s i w (by omega)
  have T1 := fun w => GetText_any s i m w (by omega)
  have T2 := fun w => rGetText_any s i m w (by omega) hm
  have P1 := fun w => Put_any a w ha
  have P2 := fun w => rPut_any a w ha
  have Q1 := fun w => PutText_any s w (by omega)
  have Q2 := fun w => rPutText_any s w (by omega)
  have A1 := fun w => Add_any a b w ha hb
  have A2 := fun w => rAdd_any a b w ha hb
  have S1 := fun w => Sub_any a b w ha hb
  have S2 := fun w => rSub_any a b w ha hb
  have M1 := fun w => Mul_any a b w ha hb
  have M2 := fun w => rMul_any a b w ha hb
  generalize Wi.get s i = r at G1 G2
  generalize Wi.getText s i m = t at T1 T2
  generalize (⟨(Wi.put a).toArray⟩ : ByteArray) = p at P1 P2
  generalize Wi.putText s = q at Q1 Q2
  generalize Wi.add a b = c1 at A1 A2
  generalize Wi.sub a b = c2 at S1 S2
  generalize Wi.mul a b = c3 at M1 M2
  obtain ⟨n, f, ok⟩ := r
  obtain ⟨tx, te, tok⟩ := t
  obtain ⟨x1, y1⟩ := c1
  obtain ⟨x2, y2⟩ := c2
  obtain ⟨x3, y3⟩ := c3
  unfold Wi.val at G1 G2
  unfold Wi.tval at T1 T2
  unfold Wi.two at A1 A2 S1 S2 M1 M2
  simp only at G1 G2 T1 T2 A1 A2 S1 S2 M1 M2
  have KG1 := Lib.hid G1; clear G1
  have KG2 := Lib.hid G2; clear G2
  have KT1 := Lib.hid T1; clear T1
  have KT2 := Lib.hid T2; clear T2
  have KP1 := Lib.hid P1; clear P1
  have KP2 := Lib.hid P2; clear P2
  have KQ1 := Lib.hid Q1; clear Q1
  have KQ2 := Lib.hid Q2; clear Q2
  have KA1 := Lib.hid A1; clear A1
  have KA2 := Lib.hid A2; clear A2
  have KS1 := Lib.hid S1; clear S1
  have KS2 := Lib.hid S2; clear S2
  have KM1 := Lib.hid M1; clear M1
  have KM2 := Lib.hid M2; clear M2
  clear ha hb hs hm
  go_enter Try.func6, Try.ntmps6
  go_wp2_with fail
  refine (examples_any _).mono ?_
  rintro e w1 ⟨rfl, hb1⟩
  go_wp2_with fail
  refine (KG1.out _).mono ?_
  rintro e w2 ⟨rfl, hb2⟩
  go_wp2_with fail
  refine (KG2.out _).mono ?_
  rintro e w3 ⟨rfl, rfl⟩
  go_wp2_with fail
  refine (KT1.out _).mono ?_
  rintro e w3 ⟨rfl, hb3⟩
  go_wp2_with fail
  refine (KT2.out _).mono ?_
  rintro e w4 ⟨rfl, rfl⟩
  go_wp2_with fail
  refine (KP1.out _).mono ?_
  rintro e w4 ⟨rfl, hb4⟩
  go_wp2_with fail
  refine (KP2.out _).mono ?_
  rintro e w5 ⟨rfl, hb5⟩
  go_wp2_with fail
  refine (KQ1.out _).mono ?_
  rintro e w6 ⟨rfl, hb6⟩
  go_wp2_with fail
  refine (KQ2.out _).mono ?_
  rintro e w7 ⟨rfl, hb7⟩
  have hbb := below4 hb1 (below4 hb2 (below4 hb3 (below4 hb4 (below4 hb5 (below4 hb6 hb7)))))
  clear hb1 hb2 hb3 hb4 hb5 hb6 hb7
  have HB := Lib.hid hbb; clear hbb
  go_wp2_with fail
  refine (KA1.out _).mono ?_
  rintro e w5 ⟨rfl, rfl⟩
  go_wp2_with fail
  refine (KA2.out _).mono ?_
  rintro e w5 ⟨rfl, rfl⟩
  go_wp2_with fail
  refine (KS1.out _).mono ?_
  rintro e w5 ⟨rfl, rfl⟩
  go_wp2_with fail
  refine (KS2.out _).mono ?_
  rintro e w5 ⟨rfl, rfl⟩
  go_wp2_with fail
  refine (KM1.out _).mono ?_
  rintro e w5 ⟨rfl, rfl⟩
  go_wp2_with fail
  refine (KM2.out _).mono ?_
  rintro e w5 ⟨rfl, rfl⟩
  go_wp2_with fail
  go_ret
  exact ⟨rfl, HB.out⟩

theorem WireTells_walk (a b : Int) (s : ByteArray) (i m : Int) (w : World) (wa : (Lit.int .u64 a).wf = true) (wb : (Lit.int .u64 b).wf = true) (hs : s.size ≤ 140737488351232) (_wi : (Lit.int .i64 i).wf = true) (wm : (Lit.int .i64 m).wf = true) :
    Calls Try.prog 6 #[.int .u64 a, .int .u64 b, .string s, .int .i64 i, .int .i64 m] w fun e w' => e = .returned (.bool true) ∧ Below w.heap.size w w' := by
  have h1 := bounds_u64 wa
  have h2 := bounds_u64 wb
  have h3 := bounds_i64 wm
  obtain ⟨a, rfl⟩ := Int.eq_ofNat_of_zero_le h1.1
  obtain ⟨b, rfl⟩ := Int.eq_ofNat_of_zero_le h2.1
  exact WireTells_core a b s i m w (by omega) (by omega) hs (by omega)

end Go.Proofs.Ytckdjaohnmopcaa
