/- The walk of WireApart. -/
import Derived.Test.YtckdjaohnmopcaaWiSums
namespace Go.Proofs.Ytckdjaohnmopcaa
open Go.RowKit

/-- one text is no beginning of another one: how the walk asks -/
structure Apart (p q : ByteArray) : Prop where
  ne : (p.toList == q.toList) = false
  pre : p.size ≤ q.size → ((q.extract 0 p.size).toList == p.toList) = false

theorem apart_of {p q : ByteArray} (h : ¬ p.data.toList <+: q.data.toList) : Apart p q := by
  refine ⟨?_, fun hl => ?_⟩
  · rw [Lib.toList_data, Lib.toList_data, beq_eq_false_iff_ne]
    intro e; exact h (by rw [e]; exact List.prefix_refl _)
  · rw [Lib.toList_data, Lib.toList_data, Lib.extract_data, beq_eq_false_iff_ne, List.drop_zero]
    intro e; exact h (by rw [← e]; exact List.take_prefix _ _)

theorem put_apart {a b : Nat} (ha : a < 18446744073709551616) (hb : b < 18446744073709551616) (h : a ≠ b) : Apart ⟨(Wi.put a).toArray⟩ ⟨(Wi.put b).toArray⟩ :=
  apart_of fun ⟨t, ht⟩ => h (Wi.put_prefix ha hb (t := t) (r := []) (by simpa using ht))

theorem putText_list (s : ByteArray) : (Wi.putText s).data.toList = Wi.put s.size ++ s.data.toList := by simp [Wi.putText]

theorem text_apart {s t : ByteArray} (hs : s.size < 18446744073709551616) (ht : t.size < 18446744073709551616) (h : s ≠ t) : Apart (Wi.putText s) (Wi.putText t) := by
  refine apart_of fun ⟨r, hr⟩ => h ?_
  rw [putText_list, putText_list, List.append_assoc] at hr
  have e := Wi.put_prefix hs ht hr
  rw [e] at hr
  have hr2 := List.append_cancel_left hr
  have hl := congrArg List.length hr2
  rw [List.length_append] at hl
  have e1 : s.data.toList.length = s.size := by simp
  have e2 : t.data.toList.length = t.size := by simp
  have hr0 : r = [] := List.length_eq_zero_iff.1 (by omega)
  rw [hr0, List.append_nil] at hr2
  apply ByteArray.ext
  exact Array.toList_inj.1 hr2

/-- how two are asked: the same, or apart, the first one no longer, or longer -/
def Asked (p q : ByteArray) : Prop := (p.size ≤ q.size ∧ (p.toList == q.toList) = false ∧ ((q.extract 0 p.size).toList == p.toList) = false) ∨ (q.size < p.size ∧ (p.toList == q.toList) = false)
theorem Apart.asked {p q : ByteArray} (h : Apart p q) : Asked p q := by
  by_cases hl : p.size ≤ q.size
  · exact .inl ⟨hl, h.ne, h.pre hl⟩
  · exact .inr ⟨by omega, h.ne⟩

theorem putText_size (s : ByteArray) : (Wi.putText s).size = (Wi.put s.size).length + s.size := by
  have := congrArg List.length (putText_list s)
  simpa using this

set_option maxRecDepth 100000 in
set_option maxHeartbeats 8000000 in
theorem WireApart_core (a b : Nat) (s t : ByteArray) (w : World) (ha : a < 18446744073709551616) (hb : b < 18446744073709551616) (hs : s.size ≤ 140737488351232) (ht : t.size ≤ 140737488351232) :
    Calls Try.prog 8 #[.int .u64 (a : Int), .int .u64 (b : Int), .string s, .string t] w fun e w' => e = .returned (.bool true) ∧ Below w.heap.size w w' := by
  have H1 := fun w => Put_any a w ha
  have H2 := fun w => Put_any b w hb
  have H3 := fun w => PutText_any s w (by omega)
  have H4 := fun w => PutText_any t w (by omega)
  have hA : a = b ∨ (a ≠ b ∧ Asked ⟨(Wi.put a).toArray⟩ ⟨(Wi.put b).toArray⟩) := by
    by_cases h : a = b
    · exact .inl h
    · exact .inr ⟨h, (put_apart ha hb h).asked⟩
  have hT : s = t ∨ (s ≠ t ∧ Asked (Wi.putText s) (Wi.putText t)) := by
    by_cases h : s = t
    · exact .inl h
    · exact .inr ⟨h, (text_apart (by omega) (by omega) h).asked⟩
  have hT2 : s = t ∨ (s.toList == t.toList) = false ∧ Asked (Wi.putText s) (Wi.putText t) := by
    rcases hT with h | ⟨h, h2⟩
    · exact .inl h
    · refine .inr ⟨?_, h2⟩
      rw [beq_eq_false_iff_ne, Lib.toList_data, Lib.toList_data]
      intro e; exact h (ByteArray.ext (Array.toList_inj.1 e))
  clear hT ha hb
  unfold Asked at hA hT2
  have hx := putText_size s
  have hy := putText_size t
  have hl1 := (Wi.put_len s.size).2
  have hl2 := (Wi.put_len t.size).2
  have hxs : (Wi.putText s).size ≤ 140737488355328 := by omega
  have hys : (Wi.putText t).size ≤ 140737488355328 := by omega
  clear hx hy hl1 hl2
  generalize (⟨(Wi.put a).toArray⟩ : ByteArray) = p at H1 hA
  generalize (⟨(Wi.put b).toArray⟩ : ByteArray) = q at H2 hA
  generalize Wi.putText s = x at H3 hT2 hxs
  generalize Wi.putText t = y at H4 hT2 hys
  have K1 := Lib.hid H1; clear H1
  have K2 := Lib.hid H2; clear H2
  have K3 := Lib.hid H3; clear H3
  have K4 := Lib.hid H4; clear H4
  have hA2 : (a : Int) = (b : Int) ∨ (¬ (a : Int) = (b : Int) ∧ ((a : Int) == (b : Int)) = false ∧ p.size ≤ q.size ∧ (p.size : Int) ≤ (q.size : Int) ∧ ¬ p.toList = q.toList ∧ (p.toList == q.toList) = false ∧ ¬ (q.extract 0 p.size).toList = p.toList ∧ ((q.extract 0 p.size).toList == p.toList) = false) ∨
      (¬ (a : Int) = (b : Int) ∧ ((a : Int) == (b : Int)) = false ∧ ¬ p.size ≤ q.size ∧ ¬ (p.size : Int) ≤ (q.size : Int) ∧ ¬ p.toList = q.toList ∧ (p.toList == q.toList) = false) := by
    rcases hA with h | ⟨h, ⟨h1, h2, h3⟩ | ⟨h1, h2⟩⟩
    · exact .inl (by omega)
    · exact .inr (.inl ⟨by omega, by simpa using fun e : (a : Int) = (b : Int) => h (by omega), h1, by omega, by simpa using h2, h2, by simpa using h3, h3⟩)
    · exact .inr (.inr ⟨by omega, by simpa using fun e : (a : Int) = (b : Int) => h (by omega), by omega, by omega, by simpa using h2, h2⟩)
  have hT3 : s.toList = t.toList ∨ (¬ s.toList = t.toList ∧ (s.toList == t.toList) = false ∧ x.size ≤ y.size ∧ (x.size : Int) ≤ (y.size : Int) ∧ ¬ x.toList = y.toList ∧ (x.toList == y.toList) = false ∧ ¬ (y.extract 0 x.size).toList = x.toList ∧ ((y.extract 0 x.size).toList == x.toList) = false) ∨
      (¬ s.toList = t.toList ∧ (s.toList == t.toList) = false ∧ ¬ x.size ≤ y.size ∧ ¬ (x.size : Int) ≤ (y.size : Int) ∧ ¬ x.toList = y.toList ∧ (x.toList == y.toList) = false) := by
    rcases hT2 with h | ⟨h, ⟨h1, h2, h3⟩ | ⟨h1, h2⟩⟩
    · exact .inl (by rw [h])
    · exact .inr (.inl ⟨by simpa using h, h, h1, by omega, by simpa using h2, h2, by simpa using h3, h3⟩)
    · exact .inr (.inr ⟨by simpa using h, h, by omega, by omega, by simpa using h2, h2⟩)
  have HA := Lib.hid hA2; clear hA2 hA
  have HT := Lib.hid hT3; clear hT3 hT2
  clear hs ht hxs hys
  go_enter Try.func8, Try.ntmps8
  go_wp2_with fail
  refine (examples_any _).mono ?_
  rintro e w1 ⟨rfl, hb1⟩
  go_wp2_with fail
  refine (K1.out _).mono ?_
  rintro e w2 ⟨rfl, hb2⟩
  go_wp2_with fail
  refine (K2.out _).mono ?_
  rintro e w3 ⟨rfl, hb3⟩
  go_wp2_with fail
  refine (K3.out _).mono ?_
  rintro e w4 ⟨rfl, hb4⟩
  go_wp2_with fail
  refine (K4.out _).mono ?_
  rintro e w5 ⟨rfl, hb5⟩
  have hb := below4 hb1 (below4 hb2 (below4 hb3 (below4 hb4 hb5)))
  clear hb1 hb2 hb3 hb4 hb5
  have HB := Lib.hid hb; clear hb
  have hp0 : (0 : Int) ≤ (p.size : Int) := by omega
  have hx0 : (0 : Int) ≤ (x.size : Int) := by omega
  go_upto_region 8 with fail
  rcases HA.out with h1 | ⟨h1, h2, h3, h4, h5, h6, h7, h8⟩ | ⟨h1, h2, h3, h4, h5, h6⟩ <;> rcases HT.out with g1 | ⟨g1, g2, g3, g4, g5, g6, g7, g8⟩ | ⟨g1, g2, g3, g4, g5, g6⟩
  all_goals
    go_wp2_with fail
    go_ret
    exact ⟨rfl, HB.out⟩

theorem WireApart_walk (a b : Int) (s t : ByteArray) (w : World) (wa : (Lit.int .u64 a).wf = true) (wb : (Lit.int .u64 b).wf = true) (hs : s.size ≤ 140737488351232) (ht : t.size ≤ 140737488351232) :
    Calls Try.prog 8 #[.int .u64 a, .int .u64 b, .string s, .string t] w fun e w' => e = .returned (.bool true) ∧ Below w.heap.size w w' := by
  have h1 := bounds_u64 wa
  have h2 := bounds_u64 wb
  obtain ⟨a, rfl⟩ := Int.eq_ofNat_of_zero_le h1.1
  obtain ⟨b, rfl⟩ := Int.eq_ofNat_of_zero_le h2.1
  exact WireApart_core a b s t w (by omega) (by omega) hs ht

end Go.Proofs.Ytckdjaohnmopcaa
