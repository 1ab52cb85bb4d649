/- The walk of frame.Next. -/
import Derived.Test.YthcikclkocbhpaaFrFour
import Derived.Deep.RegionWith
import Derived.Deep.Cut
namespace Go.Proofs.Ythcikclkocbhpaa
open Go.RowKit

theorem or_i64 (a b : Nat) (ha : a < 16777216) (hb : b < 256) : bits .or .i64 ((a : Int) * 256) (b : Int) = (a : Int) * 256 + (b : Int) := by
  have h1 : (BitVec.ofInt 64 ((a : Int) * 256)).toNat = a * 256 := by
    rw [show (a : Int) * 256 = ((a * 256 : Nat) : Int) from by omega, BitVec.ofInt_natCast, BitVec.toNat_ofNat]; exact Nat.mod_eq_of_lt (by omega)
  have h2 : (BitVec.ofInt 64 (b : Int)).toNat = b := by
    rw [BitVec.ofInt_natCast, BitVec.toNat_ofNat]; exact Nat.mod_eq_of_lt (by omega)
  show IntKind.i64.wrap ((BitVec.ofInt 64 ((a : Int) * 256) ||| BitVec.ofInt 64 (b : Int)).toNat : Int) = _
  rw [BitVec.toNat_or, h1, h2, nat_join 8 (a * 256) b (by omega) (by omega), IntKind.wrap_i64]
  omega

theorem or_i64_zero (b : Nat) (hb : b < 256) : bits .or .i64 0 (b : Int) = (b : Int) := by
  have := or_i64 0 b (by omega) hb
  rw [show ((0 : Nat) : Int) * 256 = 0 from by omega] at this
  rw [this]; omega

theorem at_take (s : ByteArray) (k : Nat) (hh : k + 8 ≤ s.size) : (s.data.toList.drop k).take 4 = [s[k], s[k + 1], s[k + 2], s[k + 3]] := by
  have h : s.data.toList.length = s.size := by simp
  rw [List.drop_eq_getElem_cons (by omega), List.drop_eq_getElem_cons (by omega), List.drop_eq_getElem_cons (by omega), List.drop_eq_getElem_cons (by omega)]
  rfl

set_option maxHeartbeats 400000 in
theorem Next_out (s : ByteArray) (at_ : Int) (w : World) (hs : s.size ≤ maxLen) (hh : at_ < 0 ∨ (s.size : Int) - 8 < at_) :
    Calls Try.prog 11 #[.string s, .int .i64 at_] w fun e w' => e = .returned (.tuple #[.string ⟨#[]⟩, .int .i64 0, .bool false]) ∧ w = w' := by
  unfold maxLen at hs
  by_cases h0 : at_ < 0
  · go_enter Try.func11, Try.ntmps11
    go_wp2
    go_ret3
    exact ⟨rfl, rfl⟩
  · have h1 : (s.size : Int) - 8 < at_ := by omega
    go_enter Try.func11, Try.ntmps11
    go_wp2
    go_ret3
    exact ⟨rfl, rfl⟩

/-- what frame.Next answers -/
def NextRes (o : Option (List UInt8)) (k : Nat) : Value := match o with
  | none => .tuple #[.string ⟨#[]⟩, .int .i64 0, .bool false]
  | some b => .tuple #[.string ⟨b.toArray⟩, .int .i64 ((k + 8 + b.length : Nat) : Int), .bool true]

def NextAt (l : List UInt8) (i : Int) : Value := if i < 0 then NextRes none 0 else NextRes (Fr.next l i.toNat) i.toNat

theorem next_hit (k n : Nat) {o : Option (List UInt8)} {b : List UInt8} (h : o = if true = true then some b else none) (hl : b.length = n) : NextRes o k = .tuple #[.string ⟨b.toArray⟩, .int .i64 ((k : Int) + 8 + (n : Int)), .bool true] := by
  subst hl
  rw [h, if_pos rfl]
  show Value.tuple #[.string ⟨b.toArray⟩, .int .i64 ((k + 8 + b.length : Nat) : Int), .bool true] = _
  rw [show (((k + 8 + b.length : Nat)) : Int) = (k : Int) + 8 + (b.length : Int) from by omega]

theorem next_miss (k : Nat) {o : Option (List UInt8)} {b : List UInt8} (h : o = if false = true then some b else none) : NextRes o k = .tuple #[.string ⟨#[]⟩, .int .i64 0, .bool false] := by
  rw [h, if_neg (by decide)]; rfl

theorem Next_some (s : ByteArray) (k n : Nat) (hh : k + 8 ≤ s.size) (hn : n = Fr.num (s.data.toList.drop k)) (h1 : n ≤ 65536) (h2 : k + 8 + n ≤ s.size) :
    Fr.next s.data.toList k = if Lib.hasPrefix (s.extract k s.size).data.toList (Fr.put (s.extract (k + 8) (k + 8 + n)).data.toList) then some (s.extract (k + 8) (k + 8 + n)).data.toList else none := by
  have h : s.data.toList.length = s.size := by simp
  subst hn
  unfold Fr.next
  simp only [Lib.extract_data]
  rw [List.take_of_length_le (i := s.size - k) (by simp), show k + 8 + Fr.num (s.data.toList.drop k) - (k + 8) = Fr.num (s.data.toList.drop k) from by omega]
  rw [if_neg (by omega), if_neg (by omega)]
  rfl

theorem Next_none (s : ByteArray) (k n : Nat) (hh : k + 8 ≤ s.size) (hn : n = Fr.num (s.data.toList.drop k)) (h1 : 65536 < n ∨ s.size < k + 8 + n) : Fr.next s.data.toList k = none := by
  have h : s.data.toList.length = s.size := by simp
  subst hn
  unfold Fr.next
  rw [if_neg (by omega), if_pos (by omega)]

set_option maxHeartbeats 400000 in
theorem Next_in (s : ByteArray) (k : Nat) (w : World) (hs : s.size ≤ maxLen) (hh : k + 8 ≤ s.size) :
    Calls Try.prog 11 #[.string s, .int .i64 (k : Int)] w fun e w' => e = .returned (NextRes (Fr.next s.data.toList k) k) ∧ Below w.heap.size w w' := by
  unfold maxLen at hs
  have c0 : s[k].toNat < 256 := s[k].toNat_lt
  have c1 : s[k + 1].toNat < 256 := s[k + 1].toNat_lt
  have c2 : s[k + 2].toNat < 256 := s[k + 2].toNat_lt
  have c3 : s[k + 3].toNat < 256 := s[k + 3].toNat_lt
  have hn : ((s[k].toNat * 256 + s[k + 1].toNat) * 256 + s[k + 2].toNat) * 256 + s[k + 3].toNat = Fr.num (s.data.toList.drop k) := by
    unfold Fr.num
    rw [at_take s k hh]
    simp
  have e0 := or_i64_zero _ c0
  have e1 := or_i64 s[k].toNat _ (by omega) c1
  have e2 := or_i64 (s[k].toNat * 256 + s[k + 1].toNat) _ (by omega) c2
  have e3 := or_i64 ((s[k].toNat * 256 + s[k + 1].toNat) * 256 + s[k + 2].toNat) _ (by omega) c3
  have hN : ((((s[k].toNat : Int) * 256 + s[k + 1].toNat) * 256 + s[k + 2].toNat) * 256 + s[k + 3].toNat) = ((((s[k].toNat * 256 + s[k + 1].toNat) * 256 + s[k + 2].toNat) * 256 + s[k + 3].toNat : Nat) : Int) := by omega
  rw [hn] at hN
  have hb : ((s[k].toNat * 256 + s[k + 1].toNat) * 256 + s[k + 2].toNat) * 256 + s[k + 3].toNat ≤ 4294967295 := by omega
  rw [hn] at hb
  have HN := Lib.hid hN
  clear hn hN
  simp only [Int.natCast_add, Int.natCast_mul, Int.cast_ofNat_Int] at e1 e2 e3
  have hsome := Next_some s k _ hh rfl
  have hnone := Next_none s k _ hh rfl
  have Hsome := Lib.hid hsome; clear hsome
  have Hnone := Lib.hid hnone; clear hnone
  generalize Fr.num (s.data.toList.drop k) = n at *
  go_enter Try.func11, Try.ntmps11
  go_wp2
  refine wp_loop_rounds 5 ?_
  iterate 4
    rw [rounds_succ]
    go_wp2
  rw [rounds_succ]
  go_upto_region 9 with fail
  rw [HN.out]
  clear HN e0 e1 e2 e3 c0 c1 c2 c3
  by_cases h1 : 65536 < n ∨ s.size < k + 8 + n
  · have h2 : ((if (s.size : Int) - k - 8 < 65536 then (s.size : Int) - k - 8 else 65536) < (n : Int)) := by split <;> omega
    go_wp2
    all_goals
      go_ret3
      exact ⟨by rw [Hnone.out h1]; rfl, Below.refl _ _⟩
  · have h2 : ¬ ((if (s.size : Int) - k - 8 < 65536 then (s.size : Int) - k - 8 else 65536) < (n : Int)) := by split <;> omega
    have h3 : n ≤ 65536 := by omega
    have h4 : k + 8 + n ≤ s.size := by omega
    have hl : (s.extract (k + 8) (k + 8 + n)).data.toList.length = n := by rw [Lib.extract_data]; simp; omega
    go_upto_region 13 with fail
    clear h2
    generalize (if (s.size : Int) - k - 8 < 65536 then (s.size : Int) - k - 8 else 65536) = m
    have Hs := Lib.hid (Hsome.out h3 h4)
    have hx1 : (s.extract k s.size).size ≤ maxLen := by unfold maxLen; simp; omega
    have hp := Fr.put_length_le (s.extract (k + 8) (k + 8 + n)).data.toList
    have hx2 : (⟨(Fr.put (s.extract (k + 8) (k + 8 + n)).data.toList).toArray⟩ : ByteArray).size ≤ maxLen := by
      show (Fr.put (s.extract (k + 8) (k + 8 + n)).data.toList).toArray.size ≤ _
      unfold maxLen; simp only [List.size_toArray]; omega
    have H1 := Lib.hid hx1; clear hx1
    have H2 := Lib.hid hx2; clear hx2 hp
    have HL := Lib.hid hl; clear hl Hsome Hnone h1
    generalize s.extract (k + 8) (k + 8 + n) = body at *
    have h5 : k ≤ s.size := by omega
    go_region_with (first | (go_at_call 10; ((with_reducible refine (Put_any _ _).mono ?_); rintro e w1 ⟨rfl, hb1⟩)) | (go_at_call 20; ((with_reducible refine (HasPrefix_any _ _ _ H1.out H2.out).mono ?_); rintro e w1 ⟨rfl, rfl⟩; generalize Lib.hasPrefix (s.extract k s.size).data.toList (Fr.put body.data.toList) = p at Hs ⊢)))
    have hb2 := below_of_drew hb1
    cases p with
    | true =>
      have HR := Lib.hid (next_hit k n Hs.out HL.out)
      go_wp2
      go_ret3
      exact ⟨by rw [HR.out]; rfl, hb2⟩
    | false =>
      have HR := Lib.hid (next_miss k Hs.out)
      go_wp2
      go_ret3
      exact ⟨by rw [HR.out]; rfl, hb2⟩

theorem Next_any (s : ByteArray) (i : Int) (w : World) (hs : s.size ≤ maxLen) :
    Calls Try.prog 11 #[.string s, .int .i64 i] w fun e w' => e = .returned (NextAt s.data.toList i) ∧ Below w.heap.size w w' := by
  have h : s.data.toList.length = s.size := by simp
  by_cases hh : i < 0 ∨ (s.size : Int) - 8 < i
  · refine (Next_out s i w hs hh).mono ?_
    rintro e w' ⟨rfl, rfl⟩
    refine ⟨?_, Below.refl _ _⟩
    unfold NextAt
    by_cases h0 : i < 0
    · rw [if_pos h0]; rfl
    · rw [if_neg h0]
      have : Fr.next s.data.toList i.toNat = none := by unfold Fr.next; rw [if_pos (by omega)]
      rw [this]; rfl
  · obtain ⟨k, rfl⟩ := Int.eq_ofNat_of_zero_le (show 0 ≤ i by omega)
    refine (Next_in s k w hs (by omega)).mono ?_
    rintro e w' ⟨rfl, hb⟩
    refine ⟨?_, hb⟩
    unfold NextAt
    rw [if_neg (by omega), Int.toNat_natCast]

theorem Next_yes (s : ByteArray) (k m : Nat) (b : List UInt8) (w : World) (hs : s.size ≤ maxLen) (h : Fr.next s.data.toList k = some b) (hm : k + 8 + b.length = m) :
    Calls Try.prog 11 #[.string s, .int .i64 (k : Int)] w fun e w' => e = .returned (.tuple #[.string ⟨b.toArray⟩, .int .i64 (m : Int), .bool true]) ∧ Below w.heap.size w w' := by
  subst hm
  refine (Next_any s k w hs).mono ?_
  rintro e w' ⟨rfl, hb⟩
  refine ⟨?_, hb⟩
  unfold NextAt
  rw [if_neg (by omega), Int.toNat_natCast, h]; rfl

theorem Next_no (s : ByteArray) (k : Nat) (w : World) (hs : s.size ≤ maxLen) (h : Fr.next s.data.toList k = none) :
    Calls Try.prog 11 #[.string s, .int .i64 (k : Int)] w fun e w' => e = .returned (.tuple #[.string ⟨#[]⟩, .int .i64 0, .bool false]) ∧ Below w.heap.size w w' := by
  refine (Next_any s k w hs).mono ?_
  rintro e w' ⟨rfl, hb⟩
  refine ⟨?_, hb⟩
  unfold NextAt
  rw [if_neg (by omega), Int.toNat_natCast, h]; rfl

end Go.Proofs.Ythcikclkocbhpaa
