/- The walk of WireBack. -/
import Derived.Test.YtckdjaohnmopcaaWiApart
import Derived.Test.YtckdjaohnmopcaaWiOnce
namespace Go.Proofs.Ytckdjaohnmopcaa
open Go.RowKit

theorem get_mid {s : ByteArray} {A R : List UInt8} {n : Nat} (hn : n < 18446744073709551616) (h : s.data.toList = A ++ (Wi.put n ++ R)) : Wi.get s (A.length : Int) = (n, (A.length : Int) + ((Wi.put n).length : Int), true) := by
  refine get_found (a := A.length) ?_
  rw [h, List.drop_left]
  exact Wi.at0_yes hn R

theorem extract_mid {s : ByteArray} {A B R : List UInt8} {t : ByteArray} (h : s.data.toList = A ++ (B ++ (t.data.toList ++ R))) : s.extract (A.length + B.length) (A.length + B.length + t.size) = t := by
  apply ByteArray.ext
  apply Array.toList_inj.1
  have e : t.data.toList.length = t.size := by simp
  rw [Lib.extract_data, h, ← List.append_assoc, ← List.length_append, List.drop_left, show (A ++ B).length + t.size - (A ++ B).length = t.data.toList.length by omega, List.take_left]

theorem getText_mid {s t : ByteArray} {A R : List UInt8} (ht : t.size < 18446744073709551616) (h : s.data.toList = A ++ (Wi.put t.size ++ (t.data.toList ++ R))) :
    Wi.getText s (A.length : Int) (t.size : Int) = (t, (A.length : Int) + ((Wi.put t.size).length : Int) + (t.size : Int), true) := by
  have hg := get_mid ht h
  have hl := congrArg List.length h
  simp only [List.length_append] at hl
  have e1 : s.data.toList.length = s.size := by simp
  have e2 : t.data.toList.length = t.size := by simp
  unfold Wi.getText
  rw [hg]
  simp only
  rw [if_pos ⟨trivial, by omega, by omega, by omega⟩]
  rw [show ((A.length : Int) + ((Wi.put t.size).length : Int)).toNat = A.length + (Wi.put t.size).length by omega, extract_mid h]

theorem getText_short {s t : ByteArray} {A R : List UInt8} (ht : t.size < 18446744073709551616) (h : s.data.toList = A ++ (Wi.put t.size ++ (t.data.toList ++ R))) :
    Wi.getText s (A.length : Int) ((t.size : Int) - 1) = (⟨#[]⟩, 0, false) := by
  have hg := get_mid ht h
  unfold Wi.getText
  rw [hg]
  simp only
  rw [if_neg (by omega)]

set_option maxRecDepth 100000 in
set_option maxHeartbeats 8000000 in
theorem WireBack_core (a b : Nat) (t ahead behind : ByteArray) (w : World) (ha : a < 18446744073709551616) (hb : b < 18446744073709551616) (ht : t.size ≤ 140737488351232) (hah : ahead.size ≤ 140737488351232) (hbe : behind.size ≤ 140737488351232) :
    Calls Try.prog 7 #[.int .u64 (a : Int), .int .u64 (b : Int), .string t, .string ahead, .string behind] w fun e w' => e = .returned (.bool true) ∧ Below w.heap.size w w' := by
  have H1 := fun w => Put_any a w ha
  have H2 := fun w => PutText_any t w (by omega)
  have H3 := fun w => Put_any b w hb
  have hx := putText_size t
  have l1 := (Wi.put_len a).2
  have l2 := (Wi.put_len t.size).2
  have l3 := (Wi.put_len b).2
  have z1 := bytes_size (Wi.put a)
  have z3 := bytes_size (Wi.put b)
  obtain ⟨S, hS⟩ : ∃ S, ahead ++ (⟨(Wi.put a).toArray⟩ : ByteArray) ++ Wi.putText t ++ (⟨(Wi.put b).toArray⟩ : ByteArray) ++ behind = S := ⟨_, rfl⟩
  have hSl : S.data.toList = ahead.data.toList ++ (Wi.put a ++ (Wi.put t.size ++ (t.data.toList ++ (Wi.put b ++ behind.data.toList)))) := by
    rw [← hS]
    simp [Wi.putText]
  have hSz : S.size = ahead.size + (Wi.put a).length + (Wi.put t.size).length + t.size + (Wi.put b).length + behind.size := by
    have := congrArg List.length hSl
    simp only [List.length_append] at this
    have e1 : S.data.toList.length = S.size := by simp
    have e2 : t.data.toList.length = t.size := by simp
    have e3 : ahead.data.toList.length = ahead.size := by simp
    have e4 : behind.data.toList.length = behind.size := by simp
    omega
  have ea : ahead.data.toList.length = ahead.size := by simp
  have G1 := fun w => Get_any S (ahead.size : Int) w (by omega)
  have g1 := get_mid ha hSl
  rw [ea] at g1
  rw [g1] at G1
  obtain ⟨P1, hP1⟩ : ∃ P1 : Nat, ahead.size + (Wi.put a).length = P1 := ⟨_, rfl⟩
  have hS2 : S.data.toList = (ahead.data.toList ++ Wi.put a) ++ (Wi.put t.size ++ (t.data.toList ++ (Wi.put b ++ behind.data.toList))) := by rw [hSl]; simp
  have ea2 : (ahead.data.toList ++ Wi.put a).length = P1 := by rw [List.length_append, ea]; exact hP1
  have G2 := fun w => GetText_any S (P1 : Int) (t.size : Int) w (by omega)
  have g2 := getText_mid (by omega) hS2
  rw [ea2] at g2
  rw [g2] at G2
  have G4 := fun w => GetText_any S (P1 : Int) ((t.size : Int) - 1) w (by omega)
  have g4 := getText_short (by omega) hS2
  rw [ea2] at g4
  rw [g4] at G4
  obtain ⟨P2, hP2⟩ : ∃ P2 : Nat, P1 + (Wi.put t.size).length + t.size = P2 := ⟨_, rfl⟩
  have hS3 : S.data.toList = (ahead.data.toList ++ Wi.put a ++ Wi.put t.size ++ t.data.toList) ++ (Wi.put b ++ behind.data.toList) := by rw [hSl]; simp
  have ea3 : (ahead.data.toList ++ Wi.put a ++ Wi.put t.size ++ t.data.toList).length = P2 := by
    have e2 : t.data.toList.length = t.size := by simp
    simp only [List.length_append, ea, e2]; omega
  have G3 := fun w => Get_any S (P2 : Int) w (by omega)
  have g3 := get_mid hb hS3
  rw [ea3] at g3
  rw [g3] at G3
  rw [show (ahead.size : Int) + ((Wi.put a).length : Int) = (P1 : Int) by omega] at G1
  rw [show (P1 : Int) + ((Wi.put t.size).length : Int) + (t.size : Int) = (P2 : Int) by omega] at G2
  obtain ⟨P3, hP3⟩ : ∃ P3 : Nat, P2 + (Wi.put b).length = P3 := ⟨_, rfl⟩
  rw [show (P2 : Int) + ((Wi.put b).length : Int) = (P3 : Int) by omega] at G3
  have hend : (P3 : Int) = (S.size : Int) - (behind.size : Int) := by omega
  have hSb : (S.size : Int) ≤ 9007199254740992 := by omega
  have hSc : (behind.size : Int) ≤ (S.size : Int) := by omega
  have htb : (t.size : Int) ≤ 9007199254740992 := by omega
  unfold Wi.val at G1 G3
  unfold Wi.tval at G2 G4
  simp only at G1 G2 G3 G4
  clear g1 g2 g3 g4 hSl hS2 hS3 ea ea2 ea3 ha hb hP1 hP2 hP3 hSz
  generalize (⟨(Wi.put a).toArray⟩ : ByteArray) = p at H1 hS z1
  generalize (⟨(Wi.put b).toArray⟩ : ByteArray) = q at H3 hS z3
  generalize Wi.putText t = x at H2 hS hx
  have c1 : ahead.size + p.size ≤ 9007199254740992 := by omega
  have c2 : ahead.size + p.size + x.size ≤ 9007199254740992 := by omega
  have c3 : ahead.size + p.size + x.size + q.size ≤ 9007199254740992 := by omega
  have c4 : ahead.size + p.size + x.size + q.size + behind.size ≤ 9007199254740992 := by omega
  have K1 := Lib.hid H1; clear H1
  have K2 := Lib.hid H2; clear H2
  have K3 := Lib.hid H3; clear H3
  have J1 := Lib.hid G1; clear G1
  have J2 := Lib.hid G2; clear G2
  have J3 := Lib.hid G3; clear G3
  have J4 := Lib.hid G4; clear G4
  have HS := Lib.hid hS; clear hS
  have HE := Lib.hid hend; clear hend
  clear z1 z3 hx l1 l2 l3 ht hah hbe
  go_enter Try.func7, Try.ntmps7
  go_wp2_with fail
  refine (examples_any _).mono ?_
  rintro e w1 ⟨rfl, hb1⟩
  go_wp2_with fail
  refine (K1.out _).mono ?_
  rintro e w2 ⟨rfl, hb2⟩
  go_wp2_with fail
  refine (K2.out _).mono ?_
  rintro e w3 ⟨rfl, hb3⟩
  go_wp2_with fail
  refine (K3.out _).mono ?_
  rintro e w4 ⟨rfl, hb4⟩
  go_upto_region 5 with fail
  rw [HS.out]
  clear c1 c2 c3 c4 HS K1 K2 K3
  go_wp2_with fail
  refine (J1.out _).mono ?_
  rintro e w5 ⟨rfl, hb5⟩
  go_wp2_with fail
  refine (J2.out _).mono ?_
  rintro e w6 ⟨rfl, hb6⟩
  go_wp2_with fail
  refine (J3.out _).mono ?_
  rintro e w7 ⟨rfl, hb7⟩
  go_wp2_with fail
  refine (J4.out _).mono ?_
  rintro e w8 ⟨rfl, hb8⟩
  go_upto_region 9 with fail
  rw [HE.out]
  go_wp2_with fail
  go_ret
  exact ⟨rfl, below4 hb1 (below4 hb2 (below4 hb3 (below4 hb4 (below4 hb5 (below4 hb6 (below4 hb7 hb8))))))⟩

theorem WireBack_walk (a b : Int) (t s r : ByteArray) (w : World) (wa : (Lit.int .u64 a).wf = true) (wb : (Lit.int .u64 b).wf = true) (ht : t.size ≤ 140737488351232) (hs : s.size ≤ 140737488351232) (hr : r.size ≤ 140737488351232) :
    Calls Try.prog 7 #[.int .u64 a, .int .u64 b, .string t, .string s, .string r] w fun e w' => e = .returned (.bool true) ∧ Below w.heap.size w w' := by
  have h1 := bounds_u64 wa
  have h2 := bounds_u64 wb
  obtain ⟨a, rfl⟩ := Int.eq_ofNat_of_zero_le h1.1
  obtain ⟨b, rfl⟩ := Int.eq_ofNat_of_zero_le h2.1
  exact WireBack_core a b t s r w (by omega) (by omega) ht hs hr

end Go.Proofs.Ytckdjaohnmopcaa
