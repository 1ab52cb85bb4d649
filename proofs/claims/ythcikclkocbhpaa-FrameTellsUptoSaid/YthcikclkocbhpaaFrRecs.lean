/- The walk of frame.records and of the function that it hands back: the records of a text, one behind another, whatever a loop's body does with them. -/
import Derived.Test.YthcikclkocbhpaaFrNext
import Derived.RangeFuncBox
import Derived.RangeFuncLeaves
import Derived.RangeFuncNested
import Derived.Shelf.Abstract
import Derived.OwnWalkIn
import Derived.TacticsInMore
import Derived.LoopNIn
import Derived.LoopIn
import Derived.Maps.AppendAt
import Derived.Sort.CutIn
namespace Go.Proofs.Ythcikclkocbhpaa
open Go.RowKit Go.Shelf

attribute [local go_sem] Oper.semAt_some

theorem grown_of_below {a b : World} (h : Below a.heap.size a b) : a.grownBy b none := ⟨h.os, h.tape, h.output, h.size, fun k hk _ => h.block k hk⟩

/-- what the iterator asks of a round: the box of its text lies as it lay -/
def KeptAt (B : Nat) (W W' : World) : Prop := W'.heap[B]? = W.heap[B]?

/-- what a round is handed -/
def recVals (x : List UInt8 × Nat) : Array Value := #[.string ⟨x.1.toArray⟩, .int .i64 (x.2 : Int)]

set_option maxRecDepth 100000 in
set_option maxHeartbeats 1000000 in
theorem recs_in (l Bs : Nat) (s : ByteArray) (hs : s.size ≤ maxLen) (J Jx : List (List UInt8 × Nat) → World → Prop) (B : Nat) (hJ : AbidesFrom B J)
    (hY : ∀ pre x W, J pre W → pre.length < (Fr.all s.data.toList 0).length → YieldAt Fence.wide (1 - 1) Try.prog l (recVals x) W fun e W' =>
      (e = .returned (.bool true) ∧ J (pre ++ [x]) W' ∧ KeptAt Bs W W') ∨ (e = .returned (.bool false) ∧ Jx (pre ++ [x]) W'))
    (W : World) (hBs : Boxed W Bs 9 (.string s)) (h0 : J [] W) :
    CallsIn Fence.wide 1 Try.prog 26 #[.func (.yield l) #[] #[], .pointer (some ⟨Bs, 0, none⟩)] W fun e W' => (∃ v, e = .returned v) ∧
      ((∃ ys, ys = Fr.all s.data.toList 0 ∧ J ys W') ∨ (∃ pre, pre <+: Fr.all s.data.toList 0 ∧ Jx pre W')) := by
  refine callsIn_of_wp Try.func26 rfl trivial ?_ rfl
  simp only [Try.ntmps26, List.size_toArray, List.length_cons, List.length_nil, Nat.reduceAdd, Nat.reduceSub, Array.replicate_succ, Array.replicate_zero, List.push_toArray, List.append_toArray, List.nil_append, List.cons_append]
  gi_wp2
  gi_loopw [3] (fun i wr => ∃ (pre : List (List UInt8 × Nat)) (k : Nat), i = .int .i64 k ∧ k ≤ s.size ∧ Fr.all s.data.toList 0 = pre ++ Fr.all s.data.toList k ∧ Boxed wr Bs 9 (.string s) ∧ J pre wr)
    (fun i _ => s.size - (intOf i).toNat)
  case atStart => exact ⟨[], 0, rfl, Nat.zero_le _, rfl, hBs, h0⟩
  case round =>
    obtain ⟨pre, k, rfl, hk, hall, hBx, hJs⟩ := hrel
    have hc := hBx.cell
    have HBX := Lib.hid hBx; clear hBx hBs
    cases hn : Fr.next s.data.toList k with
    | none =>
      have hnil := Fr.all_none hn
      have HN := Lib.hid (fun w => Next_no s k w hs hn); clear hn
      have HA := Lib.hid hall; clear hall
      have HNL := Lib.hid hnil; clear hnil
      gi_upto_region 2 with (refine ⟨trivial, ?_⟩; gi_at_call 11; refine (callsIn_wide.2 (HN.out _)).mono ?_; rintro e w1 ⟨rfl, hb1⟩)
      gi_wp2_with fail
      refine ⟨fun _ h => (by cases h), ?_⟩
      gi_wp2
      refine bodyPost_ret (results_none rfl _ _ _) rfl ?_
      exact ⟨⟨_, rfl⟩, .inl ⟨pre, by rw [HA.out, HNL.out]; simp, hJ _ _ _ none hJs (grown_of_below hb1) (fun _ e => by cases e)⟩⟩
    | some b =>
      have hb := Fr.next_some hn
      have hcons := Fr.all_some hn
      have hl : s.data.toList.length = s.size := by simp
      obtain ⟨m, hm⟩ : ∃ m, k + 8 + b.length = m := ⟨_, rfl⟩
      rw [hm] at hcons hb
      have hb1' := hb.1
      rw [hl] at hb1'
      have HN := Lib.hid (fun w => Next_yes s k m b w hs hn hm); clear hn
      have hlt : pre.length < (Fr.all s.data.toList 0).length := by rw [hall, hcons]; simp
      have hkm : k + 8 ≤ m := by omega
      have HA := Lib.hid hall; clear hall
      have HC := Lib.hid hcons; clear hcons
      clear hb hl hm
      gi_wp2_with (refine ⟨trivial, ?_⟩; gi_at_call 11; refine (callsIn_wide.2 (HN.out _)).mono ?_; rintro e w1 ⟨rfl, hb1⟩; obtain ⟨fn, tmps, assign, body, hy, hR⟩ := hY pre (b, m) w1 (hJ _ _ _ none hJs (grown_of_below hb1) (fun _ e => by cases e)) hlt; dsimp only [recVals] at hy)
      refine hR.mono ?_
      rintro e W3 (⟨rfl, hJ3, hk3⟩ | ⟨rfl, hJx3⟩)
      · have HB3 : Hid (Boxed W3 Bs 9 (.string s)) := Lib.hid (show W3.heap[Bs]? = _ from hk3.trans ((hb1.block Bs HBX.out.lt).trans HBX.out))
        gi_wp2
        go_roundw
        case rel => exact ⟨pre ++ [(b, m)], m, rfl, hb1', by rw [HA.out, HC.out]; simp, HB3.out, hJ3⟩
        case measure => simp [intOf]; omega
      · gi_wp2
        refine bodyPost_ret (results_none rfl _ _ _) rfl ?_
        exact ⟨⟨_, rfl⟩, .inr ⟨pre ++ [(b, m)], by rw [HA.out, HC.out]; simp, hJx3⟩⟩

set_option maxHeartbeats 1000000 in
/-- frame.records: the text is boxed; the function value captures the box. -/
theorem records_in (s : ByteArray) (w : World) :
    Calls Try.prog 22 #[.string s] w fun e w' => e = .returned (.func (.func 26) #[] #[.pointer (some ⟨w.heap.size, 0, none⟩)]) ∧ w.alloc (.cells #[.string s] 9) = w' := by
  go_enter Try.func22, Try.ntmps22
  go_wp2
  go_ret
  exact ⟨rfl, rfl⟩

theorem recs_stops (Bs : Nat) (s : ByteArray) (hs : s.size ≤ maxLen) (w : World) (hc : Boxed w Bs 9 (.string s)) :
    SeqStopsK Fence.wide 1 Try.prog 26 #[.pointer (some ⟨Bs, 0, none⟩)] recVals (KeptAt Bs) (fun ys => ys = Fr.all s.data.toList 0) (fun pre => pre <+: Fr.all s.data.toList 0) (Fr.all s.data.toList 0).length w := fun l J Jx W hW hJ _ hY h0 =>
  recs_in l Bs s hs J Jx _ hJ hY W (show W.heap[Bs]? = _ from (hW.block Bs hc.lt).trans hc) h0

end Go.Proofs.Ythcikclkocbhpaa
