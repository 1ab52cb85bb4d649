/- The walk of demesneref08.All. -/
import Derived.Test.YthcikclkocbhpaaFrRefNext
namespace Go.Proofs.Ythcikclkocbhpaa
open Go.RowKit

theorem row_below2 {w w' : World} {base size n : Nat} {e : TypeId} {v : Value} {xs : List Value} (h : w.ownsRow base e size v n xs) (hb : Below w.heap.size w w') : w'.ownsRow base e size v n xs :=
  h.kept (grown_of_below hb) (by cases hv : v.ownBlock with
    | none => exact .inl rfl
    | some k => exact .inr (by simp))

theorem lastEnd_snoc (x : List UInt8 × Nat) : ∀ (l : List (List UInt8 × Nat)) (k : Nat), Fr.lastEnd k (l ++ [x]) = x.2
  | [], _ => rfl
  | y :: l, _ => lastEnd_snoc x l y.2

set_option maxRecDepth 100000 in
set_option maxHeartbeats 1000000 in
theorem refAll_any (s : ByteArray) (hs : s.size ≤ maxLen) (hbytes : (Fr.all s.data.toList 0).length * 16 ≤ 140737488355328) (w : World) :
    Calls Try.prog 14 #[.string s] w fun e W' => ∃ v, e = .returned (.tuple #[v, .int .i64 (Fr.lastEnd 0 (Fr.all s.data.toList 0) : Nat)]) ∧ W'.ownsRow w.heap.size 9 1 v (Fr.all s.data.toList 0).length ((Fr.all s.data.toList 0).map fun x => strOf x.1) ∧ Below w.heap.size w W' := by
  obtain ⟨i0, hi, hz0, hz1, hz2⟩ := info_parts Try.infoStr
  go_enter Try.func14, Try.ntmps14
  go_wp2
  go_loopw [2, 3, 4, 5, 6, 7, 8] (fun _ _ v i _ _ _ wr => ∃ (pre : List (List UInt8 × Nat)) (k : Nat), i = .int .i64 k ∧ k ≤ s.size ∧ Fr.all s.data.toList 0 = pre ++ Fr.all s.data.toList k ∧ Fr.lastEnd 0 pre = k ∧ wr.ownsRow w.heap.size 9 1 v pre.length (pre.map fun x => strOf x.1) ∧ Below w.heap.size w wr) (fun _ _ _ i _ _ _ _ => s.size - (intOf i).toNat)
  case atStart => exact ⟨[], 0, rfl, Nat.zero_le _, rfl, rfl, World.ownsRow_nil _ _ _ _, Below.refl _ _⟩
  case round =>
    obtain ⟨pre, k, rfl, hk, hall, hle, hrow, hB⟩ := hrel
    have hsz := hB.size
    cases hn : Fr.next s.data.toList k with
    | none =>
      have hnil := Fr.all_none hn
      have HN := Lib.hid (fun w => refNext_no s k w hs hn); clear hn
      have HA := Lib.hid hall; clear hall
      have HNL := Lib.hid hnil; clear hnil
      have HLE := Lib.hid hle; clear hle
      have HROW := Lib.hid hrow; clear hrow
      go_wp2_with fail
      refine (HN.out _).mono ?_
      rintro e w1 ⟨rfl, hb1⟩
      go_wp2_with fail
      go_ret2
      have hall := HA.out
      rw [HNL.out, List.append_nil] at hall
      rw [hall]
      refine ⟨u4, by rw [HLE.out]; rfl, row_below2 HROW.out hb1, hB.trans (hb1.mono hsz)⟩
    | some b =>
      have hb := Fr.next_some hn
      have hcons := Fr.all_some hn
      have hl : s.data.toList.length = s.size := by simp
      obtain ⟨m, hm⟩ : ∃ m, k + 8 + b.length = m := ⟨_, rfl⟩
      rw [hm] at hcons hb
      have hb1' := hb.1
      rw [hl] at hb1'
      have HN := Lib.hid (fun w => refNext_yes s k m b w hs hn hm); clear hn
      have hlt : pre.length < (Fr.all s.data.toList 0).length := by rw [hall, hcons]; simp
      have hkm : k + 8 ≤ m := by omega
      have HA := Lib.hid hall; clear hall
      have HC := Lib.hid hcons; clear hcons
      clear hb hl hm hle
      go_wp2_with fail
      refine (HN.out _).mono ?_
      rintro e w1 ⟨rfl, hb1⟩
      have hrow1 := row_below2 hrow hb1
      have hw1 := hb1.size
      go_wp2_with (at_builtin; refine wpList_append_own _ rfl _ _ 22 rfl w.heap.size 9 i0 (.string ⟨#[]⟩) 1 16 Try.underlying22 hi hz0 hz1 hz2 rfl (by decide) _ _ _ rfl (hrow1.alloc _) ⟨w1.heap.size, 0, none⟩ 1 1 [.string ⟨b.toArray⟩] rfl rfl (cell_one_new _ _ _) (by simp [Value.oneCell']) (by unfold maxLen; omega) (by omega) (by simp; omega) ?_; intro v' w2 hown' hgrow _)
      have hB2 : Below w.heap.size w w2 := ((hB.trans (hb1.mono hsz)).alloc (by omega) (.cells #[.string ⟨b.toArray⟩] 9)).grown hgrow (by simp; omega) (fun j e => (hrow1.lt j e).1)
      go_roundw
      case rel => exact ⟨pre ++ [(b, m)], m, rfl, hb1', by rw [HA.out, HC.out]; simp, lastEnd_snoc _ _ _, by simpa [strOf] using hown', hB2⟩
      case measure => simp [intOf]; omega

end Go.Proofs.Ythcikclkocbhpaa
