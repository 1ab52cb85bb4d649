/- A block whose cells are known, and how stores turn it: what a walk knows of its own variables behind a call. -/
import Derived.Test.YtalncnblcfcmcaaDoorKit
namespace Go.Proofs.YtalncnblcfcmcaaDoor
open Go.RowKit

/-- the first cells of block b are these, and may be written -/
def Row (w : World) (b : Nat) (l : List Value) : Prop := ∀ j v, l[j]? = some v → w.cell? ⟨b, j, none⟩ = some v ∧ w.frozen? ⟨b, j, none⟩ = false

theorem Row.below {w w' : World} {b B : Nat} {l : List Value} (h : Row w b l) (hb : Below B w w') (hlt : b < B) : Row w' b l := fun j v e =>
  ⟨(hb.cell (p := ⟨b, j, none⟩) hlt).trans (h j v e).1, (hb.frozen (p := ⟨b, j, none⟩) hlt).trans (h j v e).2⟩
theorem Row.new (w : World) (l : List Value) (t : TypeId) : Row (w.alloc (.cells l.toArray t)) w.heap.size l := fun j v e => by
  refine ⟨?_, ?_⟩
  · rw [World.cell?_alloc_mark]; simpa using e
  · obtain ⟨hj, _⟩ := List.getElem?_eq_some_iff.1 e
    rw [World.frozen?_alloc_mark]; simp
theorem Row.at {w : World} {b : Nat} {arr : Array Value} {l : List Value} {t : TypeId} (hb : w.heap.size = b) (hl : arr.toList = l) : Row (w.alloc (.cells arr t)) b l := by
  subst hb; subst hl
  exact Row.new w arr.toList t
theorem Row.alloc {w : World} {b : Nat} {l : List Value} (h : Row w b l) (hlt : b < w.heap.size) (o : Obj) : Row (w.alloc o) b l := h.below ((Below.refl _ _).alloc (Nat.le_refl _) o) hlt
theorem Row.drew {w : World} {b : Nat} {l : List Value} (h : Row w b l) : Row w.drew b l := h
theorem Row.set {w : World} {b : Nat} {l : List Value} (h : Row w b l) (k : Nat) (v : Value) (hk : k < l.length) : Row (w.setCell ⟨b, k, none⟩ v) b (l.set k v) := fun j x e => by
  refine ⟨?_, ?_⟩
  · by_cases hkj : k = j
    · subst hkj
      rw [World.cell?_setCell_same' _ _ _ (by rw [(h k _ (List.getElem?_eq_getElem hk)).1]; rfl)]
      rw [List.getElem?_set_self hk] at e; exact e
    · rw [World.cell?_setCell_other _ _ _ _ (by intro e'; cases e'; exact hkj rfl)]
      rw [List.getElem?_set_ne hkj] at e
      exact (h j x e).1
  · rw [World.frozen?_setCell]
    obtain ⟨hj, _⟩ := List.getElem?_eq_some_iff.1 e
    rw [List.length_set] at hj
    exact (h j _ (List.getElem?_eq_getElem hj)).2
theorem Row.other {w : World} {b c k : Nat} {l : List Value} (h : Row w b l) (v : Value) (hne : c ≠ b) : Row (w.setCell ⟨c, k, none⟩ v) b l := fun j x e =>
  ⟨by rw [World.cell?_setCell_other _ _ _ _ (by intro e'; cases e'; exact hne rfl)]; exact (h j x e).1, by rw [World.frozen?_setCell]; exact (h j x e).2⟩
theorem Row.two {w : World} {b : Nat} {a0 a1 : Value} (h : Row w b [a0, a1]) :
    w.cell? ⟨b, 0, none⟩ = some a0 ∧ w.cell? ⟨b, 1, none⟩ = some a1 ∧ w.frozen? ⟨b, 0, none⟩ = false ∧ w.frozen? ⟨b, 1, none⟩ = false :=
  ⟨(h 0 _ rfl).1, (h 1 _ rfl).1, (h 0 _ rfl).2, (h 1 _ rfl).2⟩
theorem Row.eight {w : World} {b : Nat} {a0 a1 a2 a3 a4 a5 a6 a7 : Value} (h : Row w b [a0, a1, a2, a3, a4, a5, a6, a7]) :
    w.cell? ⟨b, 0, none⟩ = some a0 ∧ w.cell? ⟨b, 1, none⟩ = some a1 ∧ w.cell? ⟨b, 2, none⟩ = some a2 ∧ w.cell? ⟨b, 3, none⟩ = some a3 ∧ w.cell? ⟨b, 4, none⟩ = some a4 ∧ w.cell? ⟨b, 5, none⟩ = some a5 ∧ w.cell? ⟨b, 6, none⟩ = some a6 ∧ w.cell? ⟨b, 7, none⟩ = some a7 ∧
    w.frozen? ⟨b, 0, none⟩ = false ∧ w.frozen? ⟨b, 1, none⟩ = false ∧ w.frozen? ⟨b, 2, none⟩ = false ∧ w.frozen? ⟨b, 3, none⟩ = false ∧ w.frozen? ⟨b, 4, none⟩ = false ∧ w.frozen? ⟨b, 5, none⟩ = false ∧ w.frozen? ⟨b, 6, none⟩ = false ∧ w.frozen? ⟨b, 7, none⟩ = false :=
  ⟨(h 0 _ rfl).1, (h 1 _ rfl).1, (h 2 _ rfl).1, (h 3 _ rfl).1, (h 4 _ rfl).1, (h 5 _ rfl).1, (h 6 _ rfl).1, (h 7 _ rfl).1, (h 0 _ rfl).2, (h 1 _ rfl).2, (h 2 _ rfl).2, (h 3 _ rfl).2, (h 4 _ rfl).2, (h 5 _ rfl).2, (h 6 _ rfl).2, (h 7 _ rfl).2⟩

/-- eight stores into a block -/
def set8 (w : World) (b : Nat) (v0 v1 v2 v3 v4 v5 v6 v7 : Value) : World :=
  (((((((w.setCell ⟨b, 0, none⟩ v0).setCell ⟨b, 1, none⟩ v1).setCell ⟨b, 2, none⟩ v2).setCell ⟨b, 3, none⟩ v3).setCell ⟨b, 4, none⟩ v4).setCell ⟨b, 5, none⟩ v5).setCell ⟨b, 6, none⟩ v6).setCell ⟨b, 7, none⟩ v7
theorem Row.set8 {w : World} {b : Nat} {a0 a1 a2 a3 a4 a5 a6 a7 : Value} (h : Row w b [a0, a1, a2, a3, a4, a5, a6, a7]) (v0 v1 v2 v3 v4 v5 v6 v7 : Value) : Row (set8 w b v0 v1 v2 v3 v4 v5 v6 v7) b [v0, v1, v2, v3, v4, v5, v6, v7] :=
  (((((((h.set 0 v0 (by simp)).set 1 v1 (by simp)).set 2 v2 (by simp)).set 3 v3 (by simp)).set 4 v4 (by simp)).set 5 v5 (by simp)).set 6 v6 (by simp)).set 7 v7 (by simp)
theorem Row.other8 {w : World} {b c : Nat} {l : List Value} (h : Row w b l) (v0 v1 v2 v3 v4 v5 v6 v7 : Value) (hne : c ≠ b) : Row (Proofs.YtalncnblcfcmcaaDoor.set8 w c v0 v1 v2 v3 v4 v5 v6 v7) b l :=
  (((((((h.other v0 hne).other v1 hne).other v2 hne).other v3 hne).other v4 hne).other v5 hne).other v6 hne).other v7 hne
theorem Below.set8 {B : Nat} {w w' : World} {b : Nat} (h : Below B w w') (hb : B ≤ b) (v0 v1 v2 v3 v4 v5 v6 v7 : Value) : Below B w (Proofs.YtalncnblcfcmcaaDoor.set8 w' b v0 v1 v2 v3 v4 v5 v6 v7) :=
  (((((((h.setCell (p := ⟨b, 0, none⟩) hb v0).setCell (p := ⟨b, 1, none⟩) hb v1).setCell (p := ⟨b, 2, none⟩) hb v2).setCell (p := ⟨b, 3, none⟩) hb v3).setCell (p := ⟨b, 4, none⟩) hb v4).setCell (p := ⟨b, 5, none⟩) hb v5).setCell (p := ⟨b, 6, none⟩) hb v6).setCell (p := ⟨b, 7, none⟩) hb v7

end Go.Proofs.YtalncnblcfcmcaaDoor
