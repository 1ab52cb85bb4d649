/- The walk of the statement MacAllows. -/
import Derived.Test.YtalncnblcfcmcaaDoorMcEx
namespace Go.Proofs.YtalncnblcfcmcaaDoor
open Go.RowKit

theorem any_snoc (p : Cav → Bool) (l : List Cav) {i : Nat} (h : i < l.length) : (!((l.take (i + 1)).any p)) = (!((l.take i).any p) && !(p l[i])) := by
  rw [List.take_add_one, List.getElem?_eq_getElem h, List.any_append]
  simp

set_option maxHeartbeats 8000000 in
theorem MacAllows_walk (v : Value) (l : List Cav) (r rd : Nat) (w : World) (hL : LaidM w) (hv : CavsAt w v l) (hz : l.length ≤ maxLen) (_hok : ∀ c ∈ l, c.n < 18446744073709551616) (_hr : r < 18446744073709551616) (_hrd : rd < 18446744073709551616) :
    Calls Tryd.prog 9 #[v, .int .u64 (r : Int), .int .u64 (rd : Int)] w fun e w' => e = .returned (.bool true) ∧ Below w.heap.size w w' := by
  have hbig : l.length ≤ 9223372036854775807 := by unfold maxLen at hz; omega
  have HEX := Lib.hid (macExamples_any w hL)
  obtain ⟨a, cap, rfl⟩ := hv.form
  have HV := Lib.hid hv
  clear hv hL
  have hbi : (l.length : Int) ≤ 9223372036854775807 := by omega
  go_enter Tryd.func9, Tryd.ntmps9
  go_wp2_with (go_at_call 10; refine HEX.out.mono ?_; rintro e w1 ⟨rfl, hb1⟩; have HB := Lib.hid hb1; clear hb1)
  go_loopw [8, 9] (fun s8 s9 wr => ∃ i : Nat, i ≤ l.length ∧ s9 = .int .i64 (i : Int) ∧ s8 = .bool (!((l.take i).any (Mc.stop r rd))) ∧ wr = w1) (fun _ s9 _ => l.length - (intOf s9).toNat)
  case atStart => exact ⟨0, by omega, rfl, rfl, rfl⟩
  case round =>
    obtain ⟨i, hi, rfl, rfl, rfl⟩ := hrel
    by_cases hlt : i < l.length
    · have hlt' : (i : Int) < (l.length : Int) := by omega
      have hi0 : (0 : Int) ≤ (i : Int) := by omega
      obtain ⟨b, off, cp, hfu, q0, q1⟩ := ((HV.out.below HB.out (Nat.le_refl _)).get).2 i hlt
      cases hfu
      have hsn := any_snoc (Mc.stop r rd) l hlt
      generalize l[i] = c at q0 q1 hsn
      obtain ⟨k, n⟩ := c
      simp only at q0 q1
      have hst : Mc.stop r rd ⟨k, n⟩ = ((k == 1 && !(decide (bits .andNot .u64 (r : Int) (n : Int) = 0))) || (k == 2 && decide ((n : Int) < (rd : Int)))) := rfl
      rw [hst] at hsn
      clear hst
      generalize hz : bits .andNot .u64 (r : Int) (n : Int) = z at hsn
      generalize (!((l.take i).any (Mc.stop r rd))) = mb at hsn ⊢
      have HSN := Lib.hid hsn
      clear hsn
      by_cases h1 : k = 1
      · subst h1
        by_cases hz0 : z = 0
        · subst hz0
          cases mb <;> (
            go_wp2_with fail
            refine ⟨⟨i + 1, by omega, by go_num, by rw [HSN.out]; simp, trivial⟩, by simp only [intOf]; omega⟩)
        · cases mb <;> (
            go_wp2_with fail
            refine ⟨⟨i + 1, by omega, by go_num, by rw [HSN.out]; simp [hz0], trivial⟩, by simp only [intOf]; omega⟩)
      · by_cases h2 : k = 2
        · subst h2
          by_cases h3 : (n : Int) < (rd : Int)
          · have h3' : ¬ (rd : Int) ≤ (n : Int) := by omega
            cases mb <;> (
              go_wp2_with fail
              refine ⟨⟨i + 1, by omega, by go_num, by rw [HSN.out]; simp [h3], trivial⟩, by simp only [intOf]; omega⟩)
          · have h3' : (rd : Int) ≤ (n : Int) := by omega
            cases mb <;> (
              go_wp2_with fail
              refine ⟨⟨i + 1, by omega, by go_num, by rw [HSN.out]; simp [h3], trivial⟩, by simp only [intOf]; omega⟩)
        · cases mb <;> (
            go_wp2_with fail
            refine ⟨⟨i + 1, by omega, by go_num, by rw [HSN.out]; simp [h1, h2], trivial⟩, by simp only [intOf]; omega⟩)
    · obtain rfl : i = l.length := by omega
      have hlt' : ¬ (l.length : Int) < (l.length : Int) := by omega
      rw [List.take_length]
      have HA := Lib.hid (Allows_any ⟨#[]⟩ (.slice a l.length cap) l ⟨#[]⟩ r rd wr (HV.out.below HB.out (Nat.le_refl _)) hbig)
      have hq : Mc.allows l r rd = !(l.any (Mc.stop r rd)) := rfl
      rw [hq] at HA
      unfold tokv at HA
      clear hq
      generalize (!(l.any (Mc.stop r rd))) = q at HA ⊢
      cases q <;> (
        go_wp2_with (go_at_call 23; refine HA.out.mono ?_; rintro e u ⟨rfl, hbu⟩)
        go_ret
        exact ⟨rfl, HB.out.trans (hbu.mono HB.out.size)⟩)

end Go.Proofs.YtalncnblcfcmcaaDoor
