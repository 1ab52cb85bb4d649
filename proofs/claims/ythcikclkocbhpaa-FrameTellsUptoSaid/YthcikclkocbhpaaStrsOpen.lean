/- Opening a slice of texts that came in. -/
import Derived.Test.YthcikclkocbhpaaFrSame
import Derived.ProofKit
import Derived.SliceStrings
namespace Go.Proofs.Ythcikclkocbhpaa
open Go.ChangeShapes Go.WideShapes Go.ChangeAt Go.RowKit

theorem strs_open {H : Type} {enc : TypeId × Value → H} {W : World} {v : Value} {d : DataW H} {p : List MemPlace}
    (h : DataW.Trod enc Try.prog W 0 (fun _ => true) true 22 v d p) (hv : ∃ a n c, v = .slice a n c) :
    ∃ (l : List ByteArray) (spare : List (DataW H)), (d = .nil ∧ l = [] ∨ d = .slice (strs l) spare) ∧ StrsAt W v l ∧ ∀ s ∈ l, s.size ≤ maxLen := by
  obtain ⟨a, n, c, rfl⟩ := hv
  obtain ⟨fuel, hf⟩ := h
  rcases open_strings Try.underlying22 Try.underlying9 (by kernel_rfl) hf with ⟨hcs, hx⟩ | ⟨x, len, cap, ss, hcs, _, hl, hm, hz, hx, hcell, hws⟩
  · simp [Value.cells] at hcs
    obtain ⟨rfl, rfl, rfl⟩ := hcs
    cases hx
    exact ⟨[], [], .inl ⟨rfl, rfl⟩, .inl ⟨none, 0, rfl, rfl⟩, by simp⟩
  · simp [Value.cells] at hcs
    obtain ⟨rfl, rfl, rfl⟩ := hcs
    cases hx
    have hz' : ss.length = c := by simpa using hz
    have hlen : (ss.take n).length = n := by simp; omega
    refine ⟨ss.take n, strs (ss.drop n), .inr rfl, ?_, fun s hs => hws s (List.mem_of_mem_take hs)⟩
    by_cases h0 : n = 0
    · subst h0
      exact .inl ⟨_, _, rfl, by simp⟩
    · obtain ⟨b, off, spot⟩ := x
      have hc0 := hcell 0 (by omega)
      have hspot : spot = none := by simpa [Addr.add] using World.cell?_spot hc0
      subst hspot
      refine .inr ⟨b, off, c, by rw [hlen], fun j hj => ?_⟩
      have hj' : j < n := by omega
      have := hcell j (by omega)
      have e : (⟨b, off, none⟩ : Addr).add j = ⟨b, off + j, none⟩ := by unfold Addr.add; split <;> simp_all
      rw [e] at this
      rw [this, List.getElem_take, List.getD_eq_getElem?_getD, List.getElem?_eq_getElem (by omega)]
      rfl

end Go.Proofs.Ythcikclkocbhpaa
