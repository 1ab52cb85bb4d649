/- A block of bytes: what a walk knows of a byte slice or a byte array that the call itself has made. -/
import Derived.Test.YtalncnblcfcmcaaDoorKit
import Derived.Lib.ConvBytes
import Derived.Laws.BytesArg
import Derived.Lib.Strings
namespace Go.Proofs.YtalncnblcfcmcaaDoor
open Go.RowKit

/-- the first cells of block g are these bytes, and may be written -/
def BytesAt (w : World) (g : Nat) (l : List UInt8) : Prop :=
  (∀ j (h : j < l.length), w.cell? ⟨g, j, none⟩ = some (.int .u8 (l[j].toNat : Int))) ∧ ∀ j, j < l.length → w.frozen? ⟨g, j, none⟩ = false

theorem BytesAt.cell {w : World} {g : Nat} {l : List UInt8} (h : BytesAt w g l) (j : Nat) (hj : j < l.length) : w.cell? ⟨g, j, none⟩ = some (.int .u8 (l[j].toNat : Int)) := h.1 j hj
theorem BytesAt.frozen {w : World} {g : Nat} {l : List UInt8} (h : BytesAt w g l) (j : Nat) (hj : j < l.length) : w.frozen? ⟨g, j, none⟩ = false := h.2 j hj
theorem BytesAt.drew {w : World} {g : Nat} {l : List UInt8} (h : BytesAt w g l) : BytesAt w.drew g l := h
theorem BytesAt.lt {w : World} {g : Nat} {l : List UInt8} (h : BytesAt w g l) (h0 : 0 < l.length) : g < w.heap.size := World.block_lt_of_cell? w _ (h.1 0 h0)
theorem BytesAt.nil (w : World) (g : Nat) : BytesAt w g [] := ⟨fun _ h => absurd h (Nat.not_lt_zero _), fun _ h => absurd h (Nat.not_lt_zero _)⟩
theorem BytesAt.below {w w' : World} {g B : Nat} {l : List UInt8} (h : BytesAt w g l) (hb : Below B w w') (hg : g < B) : BytesAt w' g l :=
  ⟨fun j hj => (hb.cell (p := ⟨g, j, none⟩) hg).trans (h.1 j hj), fun j hj => (hb.frozen (p := ⟨g, j, none⟩) hg).trans (h.2 j hj)⟩
theorem BytesAt.alloc {w : World} {g : Nat} {l : List UInt8} (h : BytesAt w g l) (o : Obj) : BytesAt (w.alloc o) g l := by
  by_cases h0 : 0 < l.length
  · exact h.below ((Below.refl w.heap.size w).alloc (Nat.le_refl _) o) (h.lt h0)
  · have : l = [] := by cases l with
      | nil => rfl
      | cons x l => exact absurd (by simp) h0
    subst this; exact BytesAt.nil _ _
theorem BytesAt.take {w : World} {g : Nat} {l : List UInt8} (h : BytesAt w g l) (n : Nat) : BytesAt w g (l.take n) :=
  ⟨fun j hj => by rw [h.1 j (by simp at hj; omega), List.getElem_take], fun j hj => h.2 j (by simp at hj; omega)⟩

theorem BytesAt.set {w : World} {g : Nat} {l : List UInt8} (h : BytesAt w g l) (k : Nat) (b : UInt8) (v : Int) (hv : v = (b.toNat : Int)) (hk : k < l.length) : BytesAt (w.setCell ⟨g, k, none⟩ (.int .u8 v)) g (l.set k b) := by
  subst hv
  refine ⟨fun j hj => ?_, fun j hj => by rw [World.frozen?_setCell]; exact h.2 j (by simpa using hj)⟩
  have hj' : j < l.length := by simpa using hj
  by_cases e : k = j
  · subst e
    rw [World.cell?_setCell_same' _ _ _ (by rw [h.1 k hk]; rfl)]
    simp
  · rw [World.cell?_setCell_other _ _ _ _ (by intro e'; cases e'; exact e rfl), h.1 j hj', List.getElem_set_ne e]

/-- 'string(x)' -/
theorem BytesAt.str {w : World} {g : Nat} {l : List UInt8} (h : BytesAt w g l) (n cap : Nat) (hn : l.length = n) :
    (convert 52 9 (.slice (some ⟨g, 0, none⟩) n cap)).run Tryd.prog w = .ok (.string ⟨l.toArray⟩) w := by
  subst hn
  have := run_convert_bytes_arg (P := Tryd.prog) w 52 5 Tryd.underlying52 Tryd.underlying5 g 0 l.length cap (l.map fun b => (b.toNat : Int)) (by simp) (fun i hi => by
    rw [Nat.zero_add, h.1 i hi]
    simp [List.getD, hi]) 9 Tryd.underlying9
  rw [this]
  have e2 : strOfNums (l.map fun b => (b.toNat : Int)) = ⟨l.toArray⟩ := by
    apply ByteArray.ext
    apply Array.toList_inj.1
    rw [strOfNums_data, List.map_map]
    simp [Function.comp_def]
  rw [e2]

/-- '[]byte(s)' -/
theorem run_bytes (s : ByteArray) (w : World) :
    (convert 9 52 (.string s)).run Tryd.prog w = .ok (.slice (some ⟨w.heap.size, 0, none⟩) s.size (grownCap w s.size 0 5)) (Lib.bytesWorld w 5 s) :=
  Lib.run_convert_string_bytes w 9 52 5 s Tryd.underlying9 Tryd.underlying52 Tryd.underlying5

theorem bytes_below (w : World) (s : ByteArray) : Below w.heap.size w (Lib.bytesWorld w 5 s) :=
  ⟨rfl, rfl, rfl, by rw [Lib.bytesWorld_size]; omega, fun k hk => Lib.bytesWorld_at_old w 5 s k hk⟩

theorem bytes_at (w : World) (s : ByteArray) : BytesAt (Lib.bytesWorld w 5 s) w.heap.size s.data.toList := by
  refine ⟨fun j hj => ?_, fun j hj => ?_⟩
  · rw [Lib.bytesWorld_cell w 5 s j (by simpa using hj)]
    rw [List.getD_eq_getElem?_getD, List.getElem?_eq_getElem hj]; rfl
  · have hs : j < s.size := by simpa using hj
    unfold World.frozen?
    rw [Lib.bytesWorld_at_new]
    have : s.size ≤ (Lib.bytesCells w 5 s).size := by simp [Lib.bytesCells]
    simp
    omega

/-- a new block of bytes -/
theorem bytes_new (w : World) (l : List UInt8) (t : TypeId) : BytesAt (w.alloc (.cells (l.map fun b => Value.int .u8 b.toNat).toArray t)) w.heap.size l := by
  refine ⟨fun j hj => ?_, fun j _ => ?_⟩
  · rw [World.cell?_alloc_mark]; simp [hj]
  · rw [World.frozen?_alloc_mark]; simp

end Go.Proofs.YtalncnblcfcmcaaDoor
