/- Opening a slice of bytes that came in. -/
import Derived.Test.YtpghhobbppkggaaKit
import Derived.ProofKit
import Derived.Deep.Slices
import Derived.OpenShut
namespace Go.Proofs.Ytpghhobbppkggaa
open Go.ChangeShapes Go.WideShapes Go.ChangeAt Go.RowKit Go.Deep

/-- a slice of bytes reads as this list -/
def U8sAt (w : World) (v : Value) (l : List Nat) : Prop :=
  (∃ a c, v = .slice a 0 c ∧ l = []) ∨ ∃ g off cap, v = .slice (some ⟨g, off, none⟩) l.length cap ∧ ∀ j (h : j < l.length), w.cell? ⟨g, off + j, none⟩ = some (.int .u8 (l[j] : Nat))

theorem U8sAt.form {w : World} {v : Value} {l : List Nat} (h : U8sAt w v l) : ∃ a cap, v = .slice a l.length cap ∧ ∀ k (hk : k < l.length), ∃ g off, a = some ⟨g, off, none⟩ ∧ w.cell? ⟨g, off + k, none⟩ = some (.int .u8 (l[k] : Nat)) := by
  rcases h with ⟨a, c, rfl, rfl⟩ | ⟨g, off, cap, rfl, hc⟩
  · exact ⟨a, c, rfl, fun k hk => absurd hk (by simp)⟩
  · exact ⟨_, cap, rfl, fun k hk => ⟨g, off, rfl, hc k hk⟩⟩
theorem U8sAt.below {w w' : World} {v : Value} {l : List Nat} (h : U8sAt w v l) (hb : Below w.heap.size w w') : U8sAt w' v l := by
  rcases h with h | ⟨g, off, cap, rfl, hc⟩
  · exact .inl h
  · exact .inr ⟨g, off, cap, rfl, fun j hj => (hb.cell (p := ⟨g, off + j, none⟩) (World.block_lt_of_cell? w _ (hc j hj))).trans (hc j hj)⟩

theorem u8s_open {H : Type} {enc : TypeId × Value → H} {W : World} {v : Value} {d : DataW H} {p : List MemPlace}
    (h : DataW.Trod enc Try.prog W 0 (fun _ => true) true 61 v d p) (hv : ∃ a n c, v = .slice a n c) :
    ∃ l : List Nat, U8sAt W v l ∧ (∀ a ∈ l, a < 256) ∧ (l = [] ∨ ∃ D sp, d = .slice D sp ∧ D.length = l.length) := by
  obtain ⟨a, n, c, rfl⟩ := hv
  obtain ⟨fuel, hf⟩ := h
  rcases open_slice Try.underlying61 hf with ⟨hcs, hx⟩ | ⟨x, len, cap, m, n', D, Pl, hcs, _, hl, hm, hmm, hx, hi⟩
  · simp [Value.cells] at hcs
    obtain ⟨rfl, rfl, rfl⟩ := hcs
    exact ⟨[], .inl ⟨none, 0, rfl, rfl⟩, by simp, .inl rfl⟩
  · simp [Value.cells] at hcs
    obtain ⟨rfl, rfl, rfl⟩ := hcs
    have hmc : m = c := by simpa using hmm
    have key : ∀ i, i < n → ∃ k : Nat, k < 256 ∧ W.cell? (x.add i) = some (.int .u8 (k : Int)) := by
      intro i hin
      obtain ⟨cs', hc, ht⟩ := hi i (by omega)
      rw [show Try.prog.cellsOf 5 = 1 from by kernel_rfl] at hc
      obtain ⟨_, hcl, hat⟩ := World.cells?_some hc
      have h0 := hat 0 (by omega)
      obtain ⟨k, hk, _, wk⟩ := DataW.trod_int (k := .u8) (by kernel_rfl) ht
      subst hk
      have b := bounds_u8 wk
      obtain ⟨k, rfl⟩ := Int.eq_ofNat_of_zero_le b.1
      refine ⟨k, by have := b.2; omega, ?_⟩
      have e : (x.add (i * 1)).add 0 = x.add i := by rw [Go.Deep.add_add, Nat.mul_one]; rfl
      rw [e] at h0; simpa using h0
    obtain ⟨A, hA⟩ := choose_lt key
    have hll : ((List.range n).map A).length = n := by simp
    refine ⟨(List.range n).map A, ?_, ?_, .inr ⟨(List.range n).map D, ((List.range (m - n)).map fun j => D (n + j)), (Prod.mk.inj hx).1, by simp⟩⟩
    · by_cases h0 : n = 0
      · subst h0
        exact .inl ⟨_, _, rfl, rfl⟩
      · obtain ⟨b, off, spot⟩ := x
        have hc0 := (hA 0 (by omega)).2
        have hspot : spot = none := by simpa [Addr.add] using World.cell?_spot hc0
        subst hspot
        refine .inr ⟨b, off, c, by rw [hll], fun j hj => ?_⟩
        have hj' : j < n := by omega
        have := (hA j hj').2
        have e : ∀ i, (⟨b, off, none⟩ : Addr).add i = ⟨b, off + i, none⟩ := fun i => by unfold Addr.add; split <;> simp_all
        rw [e] at this
        have ej : ((List.range n).map A)[j] = A j := by simp
        rw [ej]
        exact this
    · intro a ha
      obtain ⟨i, hi', rfl⟩ := List.mem_map.1 ha
      exact (hA i (List.mem_range.1 hi')).1

end Go.Proofs.Ytpghhobbppkggaa
