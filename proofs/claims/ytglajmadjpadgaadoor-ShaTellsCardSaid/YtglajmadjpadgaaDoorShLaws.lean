/- What Parse and Hex do to one another: plain laws. -/
import Derived.Test.YtglajmadjpadgaaDoorShEx
namespace Go.Proofs.YtglajmadjpadgaaDoor
open Go.RowKit

namespace Sh
theorem val_digit_all : (List.range 16).all (fun n => val (digit n) == n) = true := by kernel_rfl
theorem val_digit {n : Nat} (h : n < 16) : val (digit n) = n := by
  have := List.all_eq_true.1 val_digit_all n (List.mem_range.2 h)
  simpa using this
theorem hex_nil : hex [] = [] := rfl
theorem hex_app (a b : List UInt8) : hex (a ++ b) = hex a ++ hex b := by unfold hex; simp
theorem hex_get (s : List UInt8) : ∀ (k : Nat), k < s.length → (hex s).getD (2 * k) 0 = digit ((s.getD k 0).toNat / 16) ∧ (hex s).getD (2 * k + 1) 0 = digit ((s.getD k 0).toNat % 16) := by
  induction s with
  | nil => intro k h; simp at h
  | cons a s ih =>
    intro k h
    have e : hex (a :: s) = digit (a.toNat / 16) :: digit (a.toNat % 16) :: hex s := by unfold hex; simp
    rw [e]
    cases k with
    | zero => exact ⟨rfl, rfl⟩
    | succ k =>
      have h2 := ih k (by simpa using h)
      rw [show 2 * (k + 1) = 2 * k + 1 + 1 by omega]
      exact h2
theorem outsN_hex (s : List UInt8) : ∀ k, k ≤ s.length → outsN (hex s) k = s.take k
  | 0, _ => by simp [outsN]
  | k + 1, h => by
    have hk : k < s.length := by omega
    obtain ⟨g1, g2⟩ := hex_get s k hk
    rw [outsN, outsN_hex s k (by omega), g1, g2, val_digit (by have := UInt8.toNat_lt (s.getD k 0); omega), val_digit (by omega), List.take_add_one, List.getElem?_eq_getElem hk]
    congr 1
    rw [List.getD_eq_getElem?_getD, List.getElem?_eq_getElem hk]
    simp only [Option.getD_some, Option.toList_some, List.cons.injEq, and_true]
    rw [show s[k].toNat / 16 * 16 + s[k].toNat % 16 = s[k].toNat by omega]
    simp
theorem parse_hex (s : List UInt8) : parse (hex s) = (s, true) := by
  have hl := hex_len s
  have h := outsN_hex s s.length (Nat.le_refl _)
  rw [List.take_length] at h
  unfold parse
  rw [hl, show 2 * s.length / 2 = s.length by omega, h, if_pos rfl]
theorem hex_inj {a b : List UInt8} (h : hex a = hex b) : a = b := by
  have h1 := parse_hex a
  rw [h, parse_hex b] at h1
  exact (Prod.mk.inj h1).1.symm
theorem parse_true {t : List UInt8} (h : (parse t).2 = true) : hex (parse t).1 = t := by
  unfold parse at *
  split at h
  · rename_i h2; rw [if_pos h2]; exact h2
  · cases h
theorem parse_false {t : List UInt8} (h : (parse t).2 = false) : (parse t).1 = [] := by
  unfold parse at *
  split at h
  · cases h
  · rename_i h2; rw [if_neg h2]
theorem parse_none {t : List UInt8} (h : ∀ s, hex s ≠ t) : parse t = ([], false) := by
  unfold parse
  rw [if_neg (h _)]
theorem hex_mem {c : UInt8} {s : List UInt8} (h : c ∈ hex s) : ∃ n : Nat, n < 16 ∧ c = digit n := by
  unfold hex at h
  obtain ⟨b, _, hb⟩ := List.mem_flatMap.1 h
  have hlt := UInt8.toNat_lt b
  simp only [List.mem_cons, List.not_mem_nil, or_false] at hb
  rcases hb with rfl | rfl
  · exact ⟨_, by omega, rfl⟩
  · exact ⟨_, by omega, rfl⟩
theorem digit_not_all : (List.range 16).all (fun n => digit n != 65 && digit n != 32 && digit n != 103) = true := by kernel_rfl
theorem hex_not {s : List UInt8} (c : UInt8) (hc : c = 65 ∨ c = 32 ∨ c = 103) (h : c ∈ hex s) : False := by
  obtain ⟨n, hn, e⟩ := hex_mem h
  have := List.all_eq_true.1 digit_not_all n (List.mem_range.2 hn)
  simp only [Bool.and_eq_true, bne_iff_ne] at this
  rcases hc with h1 | h1 | h1 <;> rw [h1] at e
  · exact this.1.1 e.symm
  · exact this.1.2 e.symm
  · exact this.2 e.symm
theorem parse_one (b : List UInt8) : parse (hex b ++ [48]) = ([], false) := parse_none fun s e => by
  have := congrArg List.length e
  rw [List.length_append, hex_len, hex_len] at this
  simp at this; omega
theorem parse_two (b : List UInt8) : parse (hex b ++ [48, 65]) = ([], false) := parse_none fun s e => hex_not (s := s) 65 (by simp) (by rw [e]; simp)
theorem parse_three (b : List UInt8) : parse (hex b ++ [32, 48]) = ([], false) := parse_none fun s e => hex_not (s := s) 32 (by simp) (by rw [e]; simp)
theorem parse_four (b : List UInt8) : parse (hex b ++ [48, 103]) = ([], false) := parse_none fun s e => hex_not (s := s) 103 (by simp) (by rw [e]; simp)
end Sh

end Go.Proofs.YtglajmadjpadgaaDoor
