/- The walk of demesnelaw08.same at two slices that read alike. -/
import Derived.Test.YthcikclkocbhpaaFrEx
import Derived.Deep.QuietTactic
import Derived.BigQuiet
namespace Go.Proofs.Ythcikclkocbhpaa
open Go.RowKit

/-- a slice value reads as a list of texts -/
def StrsAt (w : World) (v : Value) (l : List ByteArray) : Prop :=
  (∃ a c, v = .slice a 0 c ∧ l = []) ∨ ∃ g off cap, v = .slice (some ⟨g, off, none⟩) l.length cap ∧ ∀ j (h : j < l.length), w.cell? ⟨g, off + j, none⟩ = some (.string l[j])

theorem StrsAt.below {w w' : World} {v : Value} {l : List ByteArray} (h : StrsAt w v l) (hb : Below w.heap.size w w') : StrsAt w' v l := by
  rcases h with h | ⟨g, off, cap, hv, hc⟩
  · exact .inl h
  · exact .inr ⟨g, off, cap, hv, fun j hj => (hb.cell (p := ⟨g, off + j, none⟩) (World.block_lt_of_cell? w _ (hc j hj))).trans (hc j hj)⟩

theorem StrsAt.row {w : World} {base n : Nat} {v : Value} {l : List ByteArray} (h : w.ownsRow base 9 1 v n (l.map Value.string)) : StrsAt w v l := by
  have hn : l.length = n := by have := h.1; simpa using this
  subst hn
  rcases h.2 with ⟨rfl, h0⟩ | ⟨g, cap, _, rfl, _⟩
  · exact .inl ⟨none, 0, by rw [h0] at *, by simpa using h0⟩
  · exact .inr ⟨g, 0, cap, rfl, fun j hj => by rw [Nat.zero_add, h.cellAt j (by omega)]; simp [hj]⟩

set_option maxHeartbeats 1000000 in
theorem same_any (va vb : Value) (l : List ByteArray) (w : World) (ha : StrsAt w va l) (hb : StrsAt w vb l) (hl : l.length ≤ 281474976710656) :
    Calls Try.prog 15 #[va, vb] w fun e w' => e = .returned (.bool true) ∧ Below w.heap.size w w' := by
  by_cases h0 : l = []
  · obtain ⟨a, c, rfl⟩ : ∃ a c, va = .slice a 0 c := by
      rcases ha with ⟨a, c, rfl, _⟩ | ⟨g, off, cap, rfl, _⟩
      · exact ⟨_, _, rfl⟩
      · exact ⟨_, _, by rw [h0]; rfl⟩
    obtain ⟨a', c', rfl⟩ : ∃ a c, vb = .slice a 0 c := by
      rcases hb with ⟨a, c, rfl, _⟩ | ⟨g, off, cap, rfl, _⟩
      · exact ⟨_, _, rfl⟩
      · exact ⟨_, _, by rw [h0]; rfl⟩
    clear ha hb hl h0
    go_enter Try.func15, Try.ntmps15
    go_wp2
    refine wp_loop_rounds 1 ?_
    rw [rounds_succ]
    go_wp2
    go_ret
    exact ⟨rfl, Below.refl _ _⟩
  · obtain ⟨g, off, cap, rfl, hc⟩ : ∃ g off cap, va = .slice (some ⟨g, off, none⟩) l.length cap ∧ ∀ j (h : j < l.length), w.cell? ⟨g, off + j, none⟩ = some (.string l[j]) := by
      rcases ha with ⟨_, _, _, h⟩ | h
      · exact absurd h h0
      · exact h
    obtain ⟨g', off', cap', rfl, hc'⟩ : ∃ g off cap, vb = .slice (some ⟨g, off, none⟩) l.length cap ∧ ∀ j (h : j < l.length), w.cell? ⟨g, off + j, none⟩ = some (.string l[j]) := by
      rcases hb with ⟨_, _, _, h⟩ | h
      · exact absurd h h0
      · exact h
    have HC := Lib.hid hc; clear hc
    have HC' := Lib.hid hc'; clear hc'
    clear ha hb h0
    go_enter Try.func15, Try.ntmps15
    go_wp2
    go_loopw [5] (fun i wr => ∃ k q : Nat, k ≤ l.length ∧ i = .int .i64 k ∧ wr = w.drewN q) (fun i _ => l.length - (intOf i).toNat)
    case atStart => exact ⟨0, 0, by omega, rfl, rfl⟩
    case round =>
      obtain ⟨k, q, hk, rfl, rfl⟩ := hrel
      by_cases hlt : k < l.length
      · have c1 := HC.out k hlt
        have c2 := HC'.out k hlt
        have hlt' : (k : Int) < (l.length : Int) := by omega
        have h0' : (0 : Int) ≤ (k : Int) := by omega
        go_wp2
        go_quiet (fail)
        go_wp2
        go_roundw
        case rel => exact ⟨k + 1, q + nq, by omega, by go_num, rfl⟩
        case measure => simp [intOf]; omega
      · go_wp2
        go_ret
        exact ⟨rfl, ⟨rfl, rfl, rfl, Nat.le_refl _, fun _ _ => rfl⟩⟩

end Go.Proofs.Ythcikclkocbhpaa
