/- The walk of FrameLinear. -/
import Derived.Test.YthcikclkocbhpaaFrLong
import Derived.Deep.QuietTactic
import Derived.BigQuiet
namespace Go.Proofs.Ythcikclkocbhpaa
open Go.RowKit

/-- the first k of some bytes, and noughts -/
def part (M : List UInt8) (k : Nat) : List UInt8 := M.take k ++ List.replicate (M.length - k) 0
theorem part_length (M : List UInt8) {k : Nat} (h : k ≤ M.length) : (part M k).length = M.length := by simp [part]; omega
theorem part_set (M : List UInt8) {k : Nat} (h : k < M.length) : (part M k).set k M[k] = part M (k + 1) := by
  unfold part
  rw [List.set_append_right _ _ (by simp; omega), List.length_take, Nat.min_eq_left (by omega), Nat.sub_self]
  obtain ⟨m, hm⟩ : ∃ m, M.length - k = m + 1 := ⟨M.length - k - 1, by omega⟩
  rw [hm, show M.length - (k + 1) = m from by omega, List.replicate_succ, List.set_cons_zero, List.take_succ_eq_append_getElem h, List.append_assoc]
  rfl
theorem part_zero (M : List UInt8) : part M 0 = List.replicate M.length 0 := by simp [part]
theorem part_all (M : List UInt8) : part M M.length = M := by simp [part]

theorem mix_getElem (a b : List UInt8) (k : Nat) (ha : k < a.length) (hb : k < b.length) (h : k < (Fr.mix a b).length) : (Fr.mix a b)[k] = a[k] ^^^ b[k] := by
  simp [Fr.mix]

theorem min_three (a b c : Nat) : ∃ n : Nat, n ≤ a ∧ n ≤ b ∧ n ≤ c ∧ (if (c : Int) < (if b < a then (b : Int) else (a : Int)) then (c : Int) else (if b < a then (b : Int) else (a : Int))) = (n : Int) := by
  by_cases h1 : b < a
  · simp only [if_pos h1]
    by_cases h2 : (c : Int) < b
    · exact ⟨c, by omega, by omega, by omega, by rw [if_pos h2]⟩
    · exact ⟨b, by omega, by omega, by omega, by rw [if_neg h2]⟩
  · simp only [if_neg h1]
    by_cases h2 : (c : Int) < a
    · exact ⟨c, by omega, by omega, by omega, by rw [if_pos h2]⟩
    · exact ⟨a, by omega, by omega, by omega, by rw [if_neg h2]⟩

theorem Sum_quiet (s : ByteArray) (w : World) (n : Nat) (hs : s.size ≤ maxLen) :
    Calls Try.prog 16 #[.string s] (w.drewN n) fun e w'' => e = .returned (.int .u32 (Fr.sum s.data.toList : Nat)) ∧ ∃ m, w'' = w.drewN m :=
  (Sum_any s _ hs).mono fun _ _ h => ⟨h.1, n, h.2.symm⟩

set_option maxHeartbeats 1000000 in
theorem FrameLinear_walk (a b c : ByteArray) (w : World) (ha : a.size ≤ 140737488351232) (_hb : b.size ≤ 140737488351232) (_hc : c.size ≤ 140737488351232) :
    Calls Try.prog 6 #[.string a, .string b, .string c] w fun e w' => e = .returned (.bool true) ∧ Below w.heap.size w w' := by
  obtain ⟨n, hna, hnb, hnc, hmin⟩ := min_three a.size b.size c.size
  have hmk := run_make_bytes n (by omega)
  obtain ⟨M, hM⟩ : ∃ M, Fr.mix (Fr.mix (a.data.toList.take n) (b.data.toList.take n)) (c.data.toList.take n) = M := ⟨_, rfl⟩
  have HMIN := Lib.hid hmin; clear hmin
  have la : a.data.toList.length = a.size := by simp
  have lb : b.data.toList.length = b.size := by simp
  have lc : c.data.toList.length = c.size := by simp
  have h12 : (a.data.toList.take n).length = (b.data.toList.take n).length := by simp; omega
  have h13 : (a.data.toList.take n).length = (c.data.toList.take n).length := by simp; omega
  have hsum := Fr.sum_mix _ _ _ h12 h13
  rw [hM] at hsum
  have hMl : M.length = n := by rw [← hM, Fr.mix_length _ _ (by rw [Fr.mix_length _ _ h12]; exact h13), Fr.mix_length _ _ h12]; simp; omega
  have hMk : ∀ k (h : k < n), ∃ (h1 : k < a.size) (h2 : k < b.size) (h3 : k < c.size) (h4 : k < M.length), M[k] = a[k] ^^^ b[k] ^^^ c[k] := by
    intro k h
    refine ⟨by omega, by omega, by omega, by omega, ?_⟩
    subst hM
    rw [mix_getElem _ _ k (by rw [Fr.mix_length _ _ h12]; simp; omega) (by simp; omega), mix_getElem _ _ k (by simp; omega) (by simp; omega)]
    simp only [List.getElem_take]
    rfl
  have HS := Lib.hid hsum
  have HML := Lib.hid hMl
  have HMK := Lib.hid hMk
  clear hsum hMl hMk h12 h13 la lb lc hM
  go_enter Try.func6, Try.ntmps6
  go_wp2_with fail
  refine (examples_any _).mono ?_
  rintro e w1 ⟨rfl, hb1⟩
  go_upto_region 5 with fail
  rw [HMIN.out]
  clear HMIN
  go_wp2_with fail
  have hB := made_at w1 n
  have hbel := (Below.refl w1.heap.size w1).alloc (Nat.le_refl _) (.cells (madeCells #[.int .u8 0] n) 5)
  clear hmk
  generalize w1.alloc (.cells (madeCells #[.int .u8 0] n) 5) = w2 at *
  obtain ⟨g, hg⟩ : ∃ g, w1.heap.size = g := ⟨_, rfl⟩
  rw [hg] at hB hbel ⊢
  rw [← HML.out, ← part_zero M] at hB
  have HG := Lib.hid hg; clear hg
  have HB := Lib.hid hB; clear hB
  go_loopw [10] (fun i wr => ∃ k : Nat, k ≤ n ∧ i = .int .i64 k ∧ BytesAt wr g (part M k) ∧ Below g w1 wr) (fun i _ => n - (intOf i).toNat)
  case atStart => exact ⟨0, by omega, rfl, HB.out, hbel⟩
  case round =>
    obtain ⟨k, hk, rfl, hB, hbel⟩ := hrel
    clear HB
    by_cases hlt : k < n
    · obtain ⟨h1, h2, h3, h4, hv⟩ := HMK.out k hlt
      have hlen : k < (part M k).length := by rw [part_length M (by omega)]; exact h4
      obtain ⟨old, hc⟩ : ∃ o : Int, wr.cell? ⟨g, k, none⟩ = some (.int .u8 o) := ⟨_, hB.cell k hlen⟩
      have hf := hB.frozen k hlen
      have x1 := u8_xor_nat a[k].toNat b[k].toNat a[k].toNat_lt b[k].toNat_lt
      have x2 := u8_xor_nat (a[k].toNat ^^^ b[k].toNat) c[k].toNat (Nat.xor_lt_two_pow (n := 8) a[k].toNat_lt b[k].toNat_lt) c[k].toNat_lt
      have hB2 := hB.set k M[k] (((a[k].toNat ^^^ b[k].toNat) ^^^ c[k].toNat : Nat) : Int) (by rw [hv, UInt8.toNat_xor, UInt8.toNat_xor]) hlen
      rw [part_set M h4] at hB2
      have HB2 := Lib.hid hB2; clear hB2
      clear hB hv h4 hlen
      go_wp2
      go_region
      all_goals
        go_wp2
        go_roundw
        case rel => exact ⟨k + 1, by omega, by go_num, HB2.out, (hbel.setCell (p := ⟨g, k, none⟩) (Nat.le_refl _) _).drew⟩
        case measure => simp [intOf]; omega
    · obtain rfl : k = n := by omega
      have hlen := HML.out
      have hBM := hB
      rw [← hlen, part_all] at hBM
      have HBM := Lib.hid hBM; clear hBM hB hlen
      have hconv : ∀ q, (convert 26 9 (.slice (some ⟨g, 0, none⟩) k k)).run Try.prog (wr.drewN q) = .ok (.string ⟨M.toArray⟩) (wr.drewN q) := fun q => BytesAt.str (w := wr.drewN q) HBM.out k k HML.out
      have hms : (⟨M.toArray⟩ : ByteArray).size ≤ maxLen := by
        show M.toArray.size ≤ maxLen
        unfold maxLen; rw [List.size_toArray, HML.out]; omega
      have hsa : (a.extract 0 k).size ≤ maxLen := by unfold maxLen; simp; omega
      have hsb : (b.extract 0 k).size ≤ maxLen := by unfold maxLen; simp; omega
      have hsc : (c.extract 0 k).size ≤ maxLen := by unfold maxLen; simp; omega
      have ea : (a.extract 0 k).data.toList = a.data.toList.take k := by rw [Lib.extract_data]; simp
      have eb : (b.extract 0 k).data.toList = b.data.toList.take k := by rw [Lib.extract_data]; simp
      have ec : (c.extract 0 k).data.toList = c.data.toList.take k := by rw [Lib.extract_data]; simp
      have q0 := Lib.hid (fun w n => Sum_quiet ⟨M.toArray⟩ w n hms)
      have q1 := Lib.hid (fun w n => Sum_quiet (a.extract 0 k) w n hsa)
      have q2 := Lib.hid (fun w n => Sum_quiet (b.extract 0 k) w n hsb)
      have q3 := Lib.hid (fun w n => Sum_quiet (c.extract 0 k) w n hsc)
      rw [ea] at q1; rw [eb] at q2; rw [ec] at q3
      have ha1 := Fr.sum_lt (a.data.toList.take k)
      have hb1' := Fr.sum_lt (b.data.toList.take k)
      have hc1 := Fr.sum_lt (c.data.toList.take k)
      have hsum := HS.out
      clear ea eb ec hms hsa hsb hsc HMK
      generalize Fr.sum (a.data.toList.take k) = A at *
      generalize Fr.sum (b.data.toList.take k) = B at *
      generalize Fr.sum (c.data.toList.take k) = C at *
      have q0' : Hid (∀ (w : World) (n : Nat), Calls Try.prog 16 #[.string ⟨M.toArray⟩] (w.drewN n) fun e w'' => e = .returned (.int .u32 (A ^^^ B ^^^ C : Nat)) ∧ ∃ m, w'' = w.drewN m) := by
        show _
        rw [← hsum]; exact q0.out
      have x1 := u32_xor_nat A B ha1 hb1'
      have x2 := u32_xor_nat (A ^^^ B) C (Nat.xor_lt_two_pow (n := 32) ha1 hb1') hc1
      clear hsum q0 HS
      go_wp2
      go_quiet ((first | (go_at_call 16; first | (with_reducible exact q0'.out _ _) | (with_reducible exact q1.out _ _) | (with_reducible exact q2.out _ _) | (with_reducible exact q3.out _ _))))
      go_wp2
      go_ret
      exact ⟨rfl, below4 hb1 (below_of_eq HG.out (hbel.trans ⟨rfl, rfl, rfl, Nat.le_refl _, fun _ _ => rfl⟩))⟩

end Go.Proofs.Ythcikclkocbhpaa
