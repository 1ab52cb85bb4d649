/- The walks of demesneref08.Next and All. -/
import Derived.Test.YthcikclkocbhpaaFrRef
import Derived.Test.YthcikclkocbhpaaFrEnds
import Derived.Test.YthcikclkocbhpaaFrEx
import Derived.Deep.RegionHeld3
import Derived.IntWalk
namespace Go.Proofs.Ythcikclkocbhpaa
open Go.RowKit

namespace Fr
theorem four_num (l : List UInt8) (h : 4 ≤ l.length) : four (num l) = l.take 4 := by
  match l, h with
  | a :: b :: c :: d :: r, _ =>
    have ha := a.toNat_lt
    have hb := b.toNat_lt
    have hc := c.toNat_lt
    have hd := d.toNat_lt
    have e : ∀ (x : UInt8) (m : Nat), m % 256 = x.toNat → UInt8.ofNat m = x := fun x m hm => by
      apply UInt8.toNat_inj.1
      rw [UInt8.toNat_ofNat']; exact hm
    show four (((0 * 256 + a.toNat) * 256 + b.toNat) * 256 + c.toNat |> fun n => n * 256 + d.toNat) = [a, b, c, d]
    unfold four
    simp only
    rw [e a _ (by omega), e b _ (by omega), e c _ (by omega), e d _ (by omega)]

theorem prefix_split (f c b d : List UInt8) (h : f.length = c.length) : f ++ b <+: c ++ d ↔ f = c ∧ b <+: d := by
  constructor
  · rintro ⟨t, ht⟩
    rw [List.append_assoc] at ht
    obtain ⟨h1, h2⟩ := List.append_inj ht h
    exact ⟨h1, t, h2⟩
  · rintro ⟨rfl, t, rfl⟩
    exact ⟨t, by simp⟩

/-- the document's check, and the program's -/
theorem check_eq (r b : List UInt8) (hb : b.length ≤ 65536) (hn : num r = b.length) (h8 : b.length + 8 ≤ r.length) (hbr : (r.drop 8).take b.length = b) :
    (put b).isPrefixOf r = ((r.drop 4).take 4 == four (sum b)) := by
  have hp : put b = four b.length ++ (four (sum b) ++ b) := by unfold put; rw [if_neg (by omega), List.append_assoc]
  have h4 := four_num r (by omega)
  rw [hn] at h4
  have hr : r.take 4 ++ ((r.drop 4).take 4 ++ r.drop 8) = r := by
    have e : r.drop 8 = (r.drop 4).drop 4 := by rw [List.drop_drop]
    rw [e, List.take_append_drop, List.take_append_drop]
  have hpre : b <+: r.drop 8 := by
    have := List.take_prefix b.length (r.drop 8)
    rw [hbr] at this; exact this
  rw [Bool.eq_iff_iff, List.isPrefixOf_iff_prefix, beq_iff_eq, hp, h4]
  conv => lhs; rw [← hr]
  have hl1 : (r.take 4).length = 4 := by rw [List.length_take]; omega
  have hl2 : ((r.drop 4).take 4).length = 4 := by rw [List.length_take, List.length_drop]; omega
  rw [List.take_append_of_le_length (by omega), List.take_take]
  rw [prefix_split _ _ _ _ (by simp), prefix_split _ _ _ _ (by rw [hl2]; exact four_length _)]
  constructor
  · rintro ⟨_, h, _⟩; exact h.symm
  · intro h; exact ⟨by simp, h.symm, hpre⟩
end Fr

theorem refNext_some (s : ByteArray) (k n : Nat) (hh : k + 8 ≤ s.size) (hn : n = Fr.num (s.data.toList.drop k)) (h1 : n ≤ 65536) (h2 : k + 8 + n ≤ s.size) :
    Fr.next s.data.toList k = if ((s.extract (k + 4) (k + 8)).toList == Fr.four (Fr.sum (s.extract (k + 8) (k + 8 + n)).data.toList)) then some (s.extract (k + 8) (k + 8 + n)).data.toList else none := by
  rw [Next_some s k n hh hn h1 h2]
  have hl : s.data.toList.length = s.size := by simp
  have hb : (s.extract (k + 8) (k + 8 + n)).data.toList.length = n := by rw [Lib.extract_data]; simp; omega
  have hx : (s.extract k s.size).data.toList = s.data.toList.drop k := by rw [Lib.extract_data, List.take_of_length_le (by simp)]
  have hc := Fr.check_eq (s.data.toList.drop k) (s.extract (k + 8) (k + 8 + n)).data.toList (by omega) (by rw [hb, hn]) (by rw [hb]; simp; omega) (by
    rw [hb, Lib.extract_data, List.drop_drop, show k + 8 + n - (k + 8) = n from by omega])
  have e : (s.extract (k + 4) (k + 8)).toList = ((s.data.toList.drop k).drop 4).take 4 := by
    rw [Lib.toList_data, Lib.extract_data, List.drop_drop, show k + 8 - (k + 4) = 4 from by omega]
  unfold Lib.hasPrefix
  rw [hx, hc, e]

set_option maxHeartbeats 400000 in
theorem refNext_out (s : ByteArray) (i : Int) (w : World) (_hs : s.size ≤ maxLen) (hh : i < 0 ∨ (s.size : Int) - 8 < i) :
    Calls Try.prog 12 #[.string s, .int .i64 i] w fun e w' => e = .returned (.tuple #[.string ⟨#[]⟩, .int .i64 0, .bool false]) ∧ w = w' := by
  unfold maxLen at _hs
  by_cases h0 : i < 0
  · go_enter Try.func12, Try.ntmps12
    go_wp2
    go_ret3
    exact ⟨rfl, rfl⟩
  · have h1 : (s.size : Int) - 8 < i := by omega
    have h0' : 0 ≤ i := by omega
    clear hh h0
    by_cases h2 : (s.size : Int) < i
    · go_enter Try.func12, Try.ntmps12
      go_wp2
      go_ret3
      exact ⟨rfl, rfl⟩
    · have h3 : (s.size : Int) - i < 8 := by omega
      have h4 : i ≤ (s.size : Int) := by omega
      clear h2
      go_enter Try.func12, Try.ntmps12
      go_wp2
      go_ret3
      exact ⟨rfl, rfl⟩

set_option maxHeartbeats 1000000 in
theorem refNext_in (s : ByteArray) (k : Nat) (w : World) (hs : s.size ≤ maxLen) (hh : k + 8 ≤ s.size) :
    Calls Try.prog 12 #[.string s, .int .i64 (k : Int)] w fun e w' => e = .returned (NextRes (Fr.next s.data.toList k) k) ∧ Below w.heap.size w w' := by
  unfold maxLen at hs
  have c0 : s[k].toNat < 256 := s[k].toNat_lt
  have c1 : s[k + 1].toNat < 256 := s[k + 1].toNat_lt
  have c2 : s[k + 2].toNat < 256 := s[k + 2].toNat_lt
  have c3 : s[k + 3].toNat < 256 := s[k + 3].toNat_lt
  have hn : ((s[k].toNat * 256 + s[k + 1].toNat) * 256 + s[k + 2].toNat) * 256 + s[k + 3].toNat = Fr.num (s.data.toList.drop k) := by
    unfold Fr.num
    rw [at_take s k hh]
    simp
  have hN : ((((s[k].toNat : Int) * 256 + s[k + 1].toNat) * 256 + s[k + 2].toNat) * 256 + s[k + 3].toNat) = ((((s[k].toNat * 256 + s[k + 1].toNat) * 256 + s[k + 2].toNat) * 256 + s[k + 3].toNat : Nat) : Int) := by omega
  rw [hn] at hN
  have hb : ((s[k].toNat * 256 + s[k + 1].toNat) * 256 + s[k + 2].toNat) * 256 + s[k + 3].toNat ≤ 4294967295 := by omega
  rw [hn] at hb
  have HN := Lib.hid hN
  clear hn hN
  have hsome := refNext_some s k _ hh rfl
  have hnone := Next_none s k _ hh rfl
  have Hsome := Lib.hid hsome; clear hsome
  have Hnone := Lib.hid hnone; clear hnone
  generalize Fr.num (s.data.toList.drop k) = n at *
  have hk1 : (k : Int) ≤ (s.size : Int) := by omega
  have hk2 : 8 ≤ (s.size : Int) - (k : Int) := by omega
  go_enter Try.func12, Try.ntmps12
  go_wp2
  refine wp_loop_rounds 5 ?_
  iterate 4
    rw [rounds_succ]
    go_wp2
  rw [rounds_succ]
  go_upto_region 8 with fail
  rw [HN.out]
  clear HN c0 c1 c2 c3
  by_cases h1 : 65536 < n
  · go_wp2_with fail
    go_ret3
    exact ⟨by rw [Hnone.out (.inl h1)]; rfl, Below.refl _ _⟩
  by_cases h2 : s.size < k + 8 + n
  · have h1' : n ≤ 65536 := by omega
    have h2' : (s.size : Int) - (k : Int) - 8 < (n : Int) := by omega
    clear h1
    go_wp2_with fail
    go_ret3
    exact ⟨by rw [Hnone.out (.inr h2)]; rfl, Below.refl _ _⟩
  have h3 : n ≤ 65536 := by omega
  have h4 : k + 8 + n ≤ s.size := by omega
  have h5 : (n : Int) ≤ (s.size : Int) - (k : Int) - 8 := by omega
  clear h1 h2
  have hl : (s.extract (k + 8) (k + 8 + n)).data.toList.length = n := by rw [Lib.extract_data]; simp; omega
  have Hs := Lib.hid (Hsome.out h3 h4)
  have HL := Lib.hid hl
  have hbs : (s.extract (k + 8) (k + 8 + n)).size ≤ 65536 := by simp; omega
  clear hl Hsome Hnone
  go_upto_region 11 with fail
  generalize s.extract (k + 8) (k + 8 + n) = body at *
  have hsl := Fr.sum_lt body.data.toList
  have HS := Lib.hid (fun w => refSum_any body w (by unfold maxLen; omega))
  generalize Fr.sum body.data.toList = m at *
  have HF := Lib.hid (fun w => reffour_any m w hsl)
  generalize Fr.four m = f at *
  have g1 : (k : Int) + 4 ≤ (k : Int) + 8 := by omega
  have g2 : (k : Int) + 8 ≤ (s.size : Int) := by omega
  have t1 : ((k : Int) + 4).toNat = k + 4 := by omega
  have t2 : ((k : Int) + 8).toNat = k + 8 := by omega
  have g0 : (0 : Int) ≤ (k : Int) + 4 := by omega
  have g3 : (0 : Int) ≤ (k : Int) + 8 := by omega
  have W1 : IntKind.i64.wrap ((k : Int) + 4) = (k : Int) + 4 := IntWalk.i64_in _ (by omega)
  have W2 : IntKind.i64.wrap ((k : Int) + 8) = (k : Int) + 8 := IntWalk.i64_in _ (by omega)
  go_region_held3 (fun _ => True) (exact trivial) ((first | (go_at_call 17; ((with_reducible refine (HS.out _).mono ?_); rintro e w1 ⟨rfl, rfl⟩)) | (go_at_call 21; ((with_reducible refine (HF.out _).mono ?_); rintro e w2 ⟨rfl, hb2⟩))))
  have hb3 := below_of_drew hb2
  clear HS HF t1 t2 g0 g1 g2 g3 W1 W2 hsl
  cases hp : ((s.extract (k + 4) (k + 8)).toList == f) with
  | true =>
    have h1 := Hs.out
    rw [hp] at h1
    have HR := Lib.hid (next_hit k n h1 HL.out)
    clear h1
    go_wp2_with fail
    go_ret3
    exact ⟨by rw [HR.out]; rfl, hb3⟩
  | false =>
    have h1 := Hs.out
    rw [hp] at h1
    have HR := Lib.hid (next_miss k h1)
    clear h1
    go_wp2_with fail
    go_ret3
    exact ⟨by rw [HR.out]; rfl, hb3⟩

theorem refNext_any (s : ByteArray) (i : Int) (w : World) (hs : s.size ≤ maxLen) :
    Calls Try.prog 12 #[.string s, .int .i64 i] w fun e w' => e = .returned (NextAt s.data.toList i) ∧ Below w.heap.size w w' := by
  have h : s.data.toList.length = s.size := by simp
  by_cases hh : i < 0 ∨ (s.size : Int) - 8 < i
  · refine (refNext_out s i w hs hh).mono ?_
    rintro e w' ⟨rfl, rfl⟩
    refine ⟨?_, Below.refl _ _⟩
    unfold NextAt
    by_cases h0 : i < 0
    · rw [if_pos h0]; rfl
    · rw [if_neg h0]
      have : Fr.next s.data.toList i.toNat = none := by unfold Fr.next; rw [if_pos (by omega)]
      rw [this]; rfl
  · obtain ⟨k, rfl⟩ := Int.eq_ofNat_of_zero_le (show 0 ≤ i by omega)
    refine (refNext_in s k w hs (by omega)).mono ?_
    rintro e w' ⟨rfl, hb⟩
    refine ⟨?_, hb⟩
    unfold NextAt
    rw [if_neg (by omega), Int.toNat_natCast]

theorem refNext_yes (s : ByteArray) (k m : Nat) (b : List UInt8) (w : World) (hs : s.size ≤ maxLen) (h : Fr.next s.data.toList k = some b) (hm : k + 8 + b.length = m) :
    Calls Try.prog 12 #[.string s, .int .i64 (k : Int)] w fun e w' => e = .returned (.tuple #[.string ⟨b.toArray⟩, .int .i64 (m : Int), .bool true]) ∧ Below w.heap.size w w' := by
  subst hm
  refine (refNext_any s k w hs).mono ?_
  rintro e w' ⟨rfl, hb⟩
  refine ⟨?_, hb⟩
  unfold NextAt
  rw [if_neg (by omega), Int.toNat_natCast, h]; rfl

theorem refNext_no (s : ByteArray) (k : Nat) (w : World) (hs : s.size ≤ maxLen) (h : Fr.next s.data.toList k = none) :
    Calls Try.prog 12 #[.string s, .int .i64 (k : Int)] w fun e w' => e = .returned (.tuple #[.string ⟨#[]⟩, .int .i64 0, .bool false]) ∧ Below w.heap.size w w' := by
  refine (refNext_any s k w hs).mono ?_
  rintro e w' ⟨rfl, hb⟩
  refine ⟨?_, hb⟩
  unfold NextAt
  rw [if_neg (by omega), Int.toNat_natCast, h]; rfl

end Go.Proofs.Ythcikclkocbhpaa
