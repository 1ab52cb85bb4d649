/- The walk of FrameLong. -/
import Derived.Test.YthcikclkocbhpaaFrOnce
import Derived.Test.YthcikclkocbhpaaBytes
import Derived.Laws.MakeOwn
import Derived.OpenShut
namespace Go.Proofs.Ythcikclkocbhpaa
open Go.RowKit

theorem Try.infoU8 : (Try.prog.info? 5).map (fun i => (i.zero, i.size, i.bytes)) = some (some (.int .u8 0), 1, 1) := by kernel_rfl

theorem run_make_bytes (N : Nat) (hN : N ≤ 140737488355328) (u : World) : (Instr.makeSlice 26 (.int .i64 (N : Int)) (.int .i64 (N : Int))).run Try.prog u =
    .ok (.slice (some ⟨u.heap.size, 0, none⟩) N N) (u.alloc (.cells (madeCells #[.int .u8 0] N) 5)) := by
  obtain ⟨i0, hi, hz0, hz1, hz2⟩ := info_parts Try.infoU8
  have h := run_make (P := Try.prog) u 26 5 i0 (.int .u8 0) Try.underlying26 hi hz0 .i64 .i64 (N : Int) (N : Int) (by omega) (Int.le_refl _) (by rw [hz2]; omega) (by omega)
  rw [Int.toNat_natCast] at h
  simpa [hz1, Value.cells] using h

theorem madeCells_bytes (N : Nat) : madeCells #[.int .u8 0] N = ((List.replicate N (0 : UInt8)).map fun b => Value.int .u8 b.toNat).toArray := by
  apply Array.toList_inj.1
  rw [toList_madeCells_one]
  simp

theorem made_at (w : World) (N : Nat) : BytesAt (w.alloc (.cells (madeCells #[.int .u8 0] N) 5)) w.heap.size (List.replicate N 0) := by
  rw [madeCells_bytes]; exact bytes_new w _ _

/-- a row of N bytes, the first k of which are b -/
def filled (b : UInt8) (k N : Nat) : List UInt8 := List.replicate k b ++ List.replicate (N - k) 0
theorem filled_length (b : UInt8) {k N : Nat} (h : k ≤ N) : (filled b k N).length = N := by simp [filled]; omega
theorem filled_set (b : UInt8) {k N : Nat} (h : k < N) : (filled b k N).set k b = filled b (k + 1) N := by
  unfold filled
  rw [List.set_append_right _ _ (by simp), List.length_replicate, Nat.sub_self]
  obtain ⟨m, hm⟩ : ∃ m, N - k = m + 1 := ⟨N - k - 1, by omega⟩
  rw [hm, show N - (k + 1) = m from by omega, List.replicate_succ, List.set_cons_zero, List.replicate_succ', List.append_assoc]
  rfl
theorem filled_zero (b : UInt8) (N : Nat) : filled b 0 N = List.replicate N 0 := by simp [filled]
theorem filled_all (b : UInt8) (N : Nat) : filled b N N = List.replicate N b := by simp [filled]

set_option maxHeartbeats 1000000 in
theorem FrameLong_core (b : UInt8) (n : Nat) (hn : n < 256) (w : World) :
    Calls Try.prog 8 #[.int .u8 (b.toNat : Int), .int .u8 (n : Int)] w fun e w' => e = .returned (.bool true) ∧ Below w.heap.size w w' := by
  obtain ⟨N, hN⟩ : ∃ N, 65530 + n % 12 = N := ⟨_, rfl⟩
  have hN' : (65530 : Int) + (n : Int) % 12 = (N : Int) := by omega
  have hN1 : N ≤ 65541 := by omega
  have hN2 : 65530 ≤ N := by omega
  have hmk := run_make_bytes N (by omega)
  clear hN
  have hb := b.toNat_lt
  go_enter Try.func8, Try.ntmps8
  go_wp2_with fail
  refine (examples_any _).mono ?_
  rintro e w1 ⟨rfl, hb1⟩
  go_wp2_with fail
  have hB := made_at w1 N
  have hbel := (Below.refl w1.heap.size w1).alloc (Nat.le_refl _) (.cells (madeCells #[.int .u8 0] N) 5)
  clear hmk hN'
  generalize w1.alloc (.cells (madeCells #[.int .u8 0] N) 5) = w2 at *
  obtain ⟨g, hg⟩ : ∃ g, w1.heap.size = g := ⟨_, rfl⟩
  rw [hg] at hB hbel ⊢
  rw [← filled_zero b] at hB
  have HG := Lib.hid hg; clear hg
  have HB := Lib.hid hB; clear hB
  go_loopw [7] (fun i wr => ∃ k : Nat, k ≤ N ∧ i = .int .i64 k ∧ BytesAt wr g (filled b k N) ∧ Below g w1 wr) (fun i _ => N - (intOf i).toNat)
  case atStart => exact ⟨0, by omega, rfl, HB.out, hbel⟩
  case round =>
    obtain ⟨k, hk, rfl, hB, hbel⟩ := hrel
    by_cases hlt : k < N
    · have hc := hB.cell k (by rw [filled_length b hk]; exact hlt)
      have hf := hB.frozen k (by rw [filled_length b hk]; exact hlt)
      have hB2 := hB.set k b _ rfl (by rw [filled_length b hk]; exact hlt)
      rw [filled_set b hlt] at hB2
      have HB2 := Lib.hid hB2; clear hB2
      clear HB hB
      go_wp2
      go_roundw
      case rel => exact ⟨k + 1, by omega, by go_num, HB2.out, hbel.setCell (p := ⟨g, k, none⟩) (Nat.le_refl _) _⟩
      case measure => simp [intOf]; omega
    · obtain rfl : k = N := by omega
      rw [filled_all] at hB
      have hconv := hB.str k k (by simp)
      have hB' := hB
      clear HB hB
      by_cases h65 : 65536 < k
      · have hp : Fr.put (List.replicate k b) = [] := by unfold Fr.put; rw [if_pos (by simpa using h65)]
        have HP := Lib.hid (fun w => Put_lit ⟨(List.replicate k b).toArray⟩ [] w hp)
        clear hp
        generalize List.replicate k b = L at *
        go_wp2_with fail
        refine (HP.out _).mono ?_
        rintro e w3 ⟨rfl, hb3⟩
        go_wp2_with fail
        go_ret
        exact ⟨rfl, below4 hb1 (below_of_eq HG.out (hbel.trans (hb3.mono (Nat.le_trans (Nat.le_of_eq HG.out.symm) hbel.size))))⟩
      · have hlen : (List.replicate k b).length = k := by simp
        have hp := Fr.put_length (List.replicate k b) (by omega)
        rw [hlen] at hp
        have hn := Fr.next_put [] (List.replicate k b) [] (by omega)
        simp only [List.nil_append, List.append_nil, List.length_nil] at hn
        have hglt : g < wr.heap.size := hB'.lt (by simp; omega)
        have HB' := Lib.hid hB'; clear hB'
        generalize List.replicate k b = L at *
        have hpl : (⟨(Fr.put L).toArray⟩ : ByteArray).size = k + 8 := by show (Fr.put L).toArray.size = _; simpa using hp
        have HN := Lib.hid (fun w => Next_yes ⟨(Fr.put L).toArray⟩ 0 (k + 8) L w (by rw [hpl]; exact sz (by omega)) hn (by omega))
        have HPL := Lib.hid hp; clear hp hpl hn
        have HL := Lib.hid hlen; clear hlen
        go_wp2_with fail
        refine (Put_any _ _).mono ?_
        rintro e w3 ⟨rfl, hb3⟩
        go_wp2_with fail
        refine (HN.out _).mono ?_
        rintro e w4 ⟨rfl, hb4⟩
        have hconv2 := ((HB'.out.below hb3 hglt).below hb4 (Nat.lt_of_lt_of_le hglt hb3.size)).str k k HL.out
        have hp := HPL.out
        go_wp2_with fail
        go_ret
        have hbb := hbel.trans ((below4 hb3 hb4).mono (Nat.le_of_lt hglt))
        exact ⟨rfl, below4 hb1 (below_of_eq HG.out hbb)⟩

theorem FrameLong_walk (b n : Int) (w : World) (wb : (Lit.int .u8 b).wf = true) (wn : (Lit.int .u8 n).wf = true) :
    Calls Try.prog 8 #[.int .u8 b, .int .u8 n] w fun e w' => e = .returned (.bool true) ∧ Below w.heap.size w w' := by
  have h1 := bounds_u8 wb
  have h2 := bounds_u8 wn
  obtain ⟨m, rfl⟩ := Int.eq_ofNat_of_zero_le h2.1
  have e : b = ((UInt8.ofNat b.toNat).toNat : Int) := by
    rw [UInt8.toNat_ofNat']; omega
  rw [e]
  exact FrameLong_core _ m (by omega) w

end Go.Proofs.Ythcikclkocbhpaa
