/- The walk of WireOnce. -/
import Derived.Test.YtckdjaohnmopcaaWiSums
import Derived.Deep.RegionHeld3
import Derived.Deep.DeepCutAuto
namespace Go.Proofs.Ytckdjaohnmopcaa
open Go.RowKit

theorem put_one {a : Nat} (ha : a < 128) : (Wi.put a).length = 1 := by
  unfold Wi.put Wi.putN
  rw [if_pos ha]; rfl
theorem put_more {a : Nat} (ha : ¬ a < 128) : (Wi.put a).length ≠ 1 := by
  have := (Wi.putN_len 8 (a / 128)).1
  show (Wi.putN 9 a).length ≠ 1
  rw [Wi.putN, if_neg ha, List.length_cons]; omega

/-- no beginning of a number is one -/
theorem torn_none {a m : Nat} (ha : a < 18446744073709551616) (hm : m < (Wi.put a).length) : Wi.at0 ((Wi.put a).take m) = none := by
  cases h : Wi.at0 ((Wi.put a).take m) with
  | none => rfl
  | some p =>
    obtain ⟨u, c⟩ := p
    obtain ⟨hu, hc, ht, _⟩ := Wi.at0_some h
    have h1 : Wi.put u ++ (((Wi.put a).take m).drop c ++ (Wi.put a).drop m) = Wi.put a ++ [] := by
      rw [← List.append_assoc, ← ht, List.take_append_drop, List.append_nil]
    have h2 := Wi.put_prefix hu ha h1
    subst h2
    have := congrArg List.length ht
    rw [List.length_append, List.length_take] at this
    omega

theorem bytes_size (l : List UInt8) : (⟨l.toArray⟩ : ByteArray).size = l.length := by show l.toArray.size = _; simp

theorem torn_get {a m : Nat} (ha : a < 18446744073709551616) (hm : m < (Wi.put a).length) : Wi.get ((⟨(Wi.put a).toArray⟩ : ByteArray).extract 0 m) 0 = (0, 0, false) := by
  refine get_never (a := 0) ?_
  have e : ((⟨(Wi.put a).toArray⟩ : ByteArray).extract 0 m).data.toList = (Wi.put a).take m := by
    rw [Lib.extract_data]; simp
  rw [e, List.drop_zero]
  exact torn_none ha hm

theorem get_extract {s : ByteArray} {a n : Nat} (h : (s.data.toList.drop a).take (Wi.put n).length = Wi.put n) : (⟨(Wi.put n).toArray⟩ : ByteArray) = s.extract a (a + (Wi.put n).length) := by
  apply ByteArray.ext
  apply Array.toList_inj.1
  rw [Lib.extract_data, show a + (Wi.put n).length - a = (Wi.put n).length by omega, h]

set_option maxRecDepth 100000 in
set_option maxHeartbeats 8000000 in
theorem WireOnce_core (s : ByteArray) (i : Int) (a : Nat) (w : World) (hz : s.size ≤ 140737488351232) (ha : a < 18446744073709551616) :
    Calls Try.prog 3 #[.string s, .int .i64 i, .int .u64 (a : Int)] w fun e w' => e = .returned (.bool true) ∧ Below w.heap.size w w' := by
  have HGET := fun w => Get_any s i w (by omega)
  have HP := fun w => Put_any a w ha
  obtain ⟨m, hm⟩ : ∃ m, (Wi.put a).length = m + 1 := ⟨(Wi.put a).length - 1, by have := (Wi.put_len a).1; omega⟩
  have hm10 := (Wi.put_len a).2
  have HT := fun w => Get_any ((⟨(Wi.put a).toArray⟩ : ByteArray).extract 0 m) 0 w (by have := bytes_size (Wi.put a); simp; omega)
  rw [torn_get ha (by omega)] at HT
  have hqs := bytes_size (Wi.put a)
  rw [hm] at hqs hm10
  have h128 : (a < 128 ∧ m = 0) ∨ (¬ a < 128 ∧ m ≠ 0) := by
    by_cases h : a < 128
    · have := put_one h; exact .inl ⟨h, by omega⟩
    · have := put_more h; exact .inr ⟨h, by omega⟩
  generalize (⟨(Wi.put a).toArray⟩ : ByteArray) = q at HP HT hqs
  unfold Wi.val at HT
  rw [show m = q.size - 1 by omega] at HT
  have hq1 : (1 : Int) ≤ (q.size : Int) := by omega
  have hq10 : (q.size : Int) ≤ 10 := by omega
  have hne : ¬ q.toList = [] := by
    intro h
    have h2 : q = ⟨#[]⟩ := by
      apply ByteArray.ext; apply Array.toList_inj.1
      rw [← Lib.toList_data, h]
    rw [h2] at hqs
    have : (0 : Nat) = m + 1 := hqs
    omega
  have hne2 : q.toList.isEmpty = false := by simpa using hne
  have h1b : (((a : Int) < 128) ∧ (q.size : Int) = 1 ∧ q.size = 1) ∨ (¬ ((a : Int) < 128) ∧ ((q.size : Int) == 1) = false ∧ (q.size == 1) = false) := by
    rcases h128 with ⟨h, e⟩ | ⟨h, e⟩
    · exact .inl ⟨by omega, by omega, by omega⟩
    · exact .inr ⟨by omega, by simp; omega, by simp; omega⟩
  obtain ⟨r, hr⟩ : ∃ r, Wi.get s i = r := ⟨_, rfl⟩
  rw [hr] at HGET
  obtain ⟨n, f, ok⟩ := r
  unfold Wi.val at HGET
  simp only at HGET HT
  rw [show ((0 : Nat) : Int) = (0 : Int) from rfl] at HT
  have KG := Lib.hid HGET; clear HGET
  have KP := Lib.hid HP; clear HP
  have KT := Lib.hid HT; clear HT
  have H1 := Lib.hid h1b; clear h1b h128 hqs hm hm10
  cases ok
  case false =>
    obtain ⟨rfl, rfl⟩ := get_false hr
    clear hr ha hz
    rw [show ((0 : Nat) : Int) = (0 : Int) from rfl] at KG
    go_enter Try.func3, Try.ntmps3
    go_wp2_with fail
    refine (examples_any _).mono ?_
    rintro e w1 ⟨rfl, hb1⟩
    go_wp2_with fail
    refine (KG.out _).mono ?_
    rintro e w2 ⟨rfl, hb2⟩
    go_wp2_with fail
    refine (KP.out _).mono ?_
    rintro e w3 ⟨rfl, hb3⟩
    go_wp2_with fail
    refine (KT.out _).mono ?_
    rintro e w4 ⟨rfl, hb4⟩
    have hb := below4 hb1 (below4 hb2 (below4 hb3 hb4))
    clear hb1 hb2 hb3 hb4
    have HB := Lib.hid hb; clear hb
    go_upto_region 9 with fail
    go_cut [61] (fun c wx => c = .bool false ∧ Below w.heap.size w wx)
    case first =>
      go_region
      all_goals (go_wp2_with fail; go_meet; exact ⟨rfl, HB.out.drew⟩)
    obtain ⟨rfl, hbw⟩ := hcut
    clear HB
    have HB := Lib.hid hbw; clear hbw
    rcases H1.out with ⟨e1, e2, e3⟩ | ⟨e1, e2, e3⟩
    all_goals
      go_wp2_with fail
      go_ret
      exact ⟨by first | rfl | exact ret_bool (by simp; omega), HB.out⟩
  case true =>
    obtain ⟨i', rfl, rfl, hfs, hn, he⟩ := get_true hr
    have hpe := get_extract he
    have HPN := fun w => Put_any n w hn
    rw [hpe] at HPN
    have hpl := (Wi.put_len n).1
    obtain ⟨F, hF⟩ : ∃ F, i' + (Wi.put n).length = F := ⟨_, rfl⟩
    rw [hF] at HPN hfs KG
    have hiF : i' ≤ F := by omega
    clear hr ha hpe he hn hF hpl
    have KN := Lib.hid HPN; clear HPN
    have h0 : (0 : Int) ≤ (i' : Int) := by omega
    have h1 : (i' : Int) ≤ (F : Int) := by omega
    have h2 : (F : Int) ≤ (s.size : Int) := by omega
    have h3 : decide (s.size < F) = false := decide_eq_false (by omega)
    have h4 : decide ((s.size : Int) < (F : Int)) = false := decide_eq_false (by omega)
    clear hz
    go_enter Try.func3, Try.ntmps3
    go_wp2_with fail
    refine (examples_any _).mono ?_
    rintro e w1 ⟨rfl, hb1⟩
    go_wp2_with fail
    refine (KG.out _).mono ?_
    rintro e w2 ⟨rfl, hb2⟩
    go_wp2_with fail
    refine (KP.out _).mono ?_
    rintro e w3 ⟨rfl, hb3⟩
    go_wp2_with fail
    refine (KT.out _).mono ?_
    rintro e w4 ⟨rfl, hb4⟩
    have hb := below4 hb1 (below4 hb2 (below4 hb3 hb4))
    clear hb1 hb2 hb3 hb4
    have HB := Lib.hid hb; clear hb
    go_upto_region 9 with fail
    go_region_held3 (fun _ => True) (trivial) ((first | (go_at_call 11; ((with_reducible refine (KN.out _).mono ?_); rintro e u ⟨rfl, hq⟩); have HBn := Lib.hid (below4 HB.out.drew hq); clear HB; have HB := HBn; clear HBn)))
    rcases H1.out with ⟨e1, e2, e3⟩ | ⟨e1, e2, e3⟩
    all_goals
      go_wp2_with fail
      go_ret
      exact ⟨by first | rfl | exact ret_bool (by simp; omega), HB.out⟩

theorem WireOnce_walk (s : ByteArray) (i a : Int) (w : World) (hz : s.size ≤ 140737488351232) (_wi : (Lit.int .i64 i).wf = true) (wa : (Lit.int .u64 a).wf = true) :
    Calls Try.prog 3 #[.string s, .int .i64 i, .int .u64 a] w fun e w' => e = .returned (.bool true) ∧ Below w.heap.size w w' := by
  have h1 := bounds_u64 wa
  obtain ⟨a, rfl⟩ := Int.eq_ofNat_of_zero_le h1.1
  exact WireOnce_core s i a w hz (by omega)

end Go.Proofs.Ytckdjaohnmopcaa
