/- The walk of DiskTells. -/
import Derived.Test.YtpghhobbppkggaaDkRef3
import Derived.Test.YtpghhobbppkggaaDkEx
import Derived.Test.YtpghhobbppkggaaDkRoom
import Derived.OpenShut
namespace Go.Proofs.Ytpghhobbppkggaa
open Go.RowKit

theorem eq_rfiles (a b c d : ByteArray) (w : World) : (Op.equalIn 9999 29 (.agg #[.string a, .string b, .string c, .string d]) (.agg #[.string a, .string b, .string c, .string d])).run Try.prog w = .ok true w := by
  unfold Op.equalIn
  simp [go_sem, List.range', List.forIn_cons, List.forIn_nil]

/-- blocks whose cells are known -/
def Boxes (x : World) : List (Nat × List Value) → Prop
  | [] => True
  | p :: r => (p.1 < x.heap.size ∧ Row x p.1 p.2) ∧ Boxes x r
theorem Boxes.below {x y : World} : ∀ {l : List (Nat × List Value)}, Boxes x l → Below x.heap.size x y → Boxes y l
  | [], _, _ => trivial
  | _ :: _, h, hb => ⟨⟨Nat.lt_of_lt_of_le h.1.1 hb.size, h.1.2.below hb h.1.1⟩, Boxes.below h.2 hb⟩
theorem boxes_first {w x y : World} {g : Nat} {arr : Array Value} {l : List Value} {t : TypeId} (hg : x.heap.size = g) (hl : arr.toList = l) (h : Below w.heap.size w x) (hb : Below (x.alloc (.cells arr t)).heap.size (x.alloc (.cells arr t)) y) :
    Boxes y [(g, l)] ∧ Below w.heap.size w y := by
  subst hg
  refine ⟨⟨⟨Nat.lt_of_lt_of_le (by simp) hb.size, Row.below (Row.at rfl hl) hb (by simp)⟩, trivial⟩, ?_⟩
  exact (h.alloc h.size _).trans (hb.mono (by have := h.size; simp; omega))
theorem boxes_call {w x y : World} {g : Nat} {arr : Array Value} {l : List Value} {t : TypeId} {r : List (Nat × List Value)} (hg : x.heap.size = g) (hl : arr.toList = l) (h : Boxes x r ∧ Below w.heap.size w x) (hb : Below (x.alloc (.cells arr t)).heap.size (x.alloc (.cells arr t)) y) :
    Boxes y ((g, l) :: r) ∧ Below w.heap.size w y := by
  subst hg
  refine ⟨⟨⟨Nat.lt_of_lt_of_le (by simp) hb.size, Row.below (Row.at rfl hl) hb (by simp)⟩, ?_⟩, ?_⟩
  · exact h.1.below (((Below.refl _ _).alloc (Nat.le_refl _) _).trans (hb.mono (by simp)))
  · exact (h.2.alloc h.2.size _).trans (hb.mono (by have := h.2.size; simp; omega))
theorem boxes_alloc {w x : World} {g : Nat} {arr : Array Value} {l : List Value} {t : TypeId} {r : List (Nat × List Value)} (hg : x.heap.size = g) (hl : arr.toList = l) (h : Boxes x r ∧ Below w.heap.size w x) :
    Boxes (x.alloc (.cells arr t)) ((g, l) :: r) ∧ Below w.heap.size w (x.alloc (.cells arr t)) := by
  subst hg
  refine ⟨⟨⟨by simp, Row.at rfl hl⟩, ?_⟩, ?_⟩
  · exact h.1.below ((Below.refl _ _).alloc (Nat.le_refl _) _)
  · exact h.2.alloc h.2.size _
theorem Boxes.drew {x : World} : ∀ {l : List (Nat × List Value)}, Boxes x l → Boxes x.drew l
  | [], _ => trivial
  | _ :: _, h => ⟨h.1, Boxes.drew h.2⟩
theorem boxes_drew {w x : World} {r : List (Nat × List Value)} (h : Boxes x r ∧ Below w.heap.size w x) : Boxes x.drew r ∧ Below w.heap.size w x.drew := ⟨h.1.drew, h.2.drew⟩
theorem boxes_same {w x y : World} {r : List (Nat × List Value)} (h : Boxes x r ∧ Below w.heap.size w x) (hb : Below x.heap.size x y) : Boxes y r ∧ Below w.heap.size w y :=
  ⟨h.1.below hb, h.2.trans (hb.mono h.2.size)⟩

theorem c48_below {w w' : World} {b0 b1 b2 b3 b4 b5 : Nat} {v00 v01 v02 v03 v04 v05 v06 v07 v10 v11 v12 v13 v14 v15 v16 v17 v20 v21 v22 v23 v24 v25 v26 v27 v30 v31 v32 v33 v34 v35 v36 v37 v40 v41 v42 v43 v44 v45 v46 v47 v50 v51 v52 v53 v54 v55 v56 v57 : Value} (hb : Below w.heap.size w w') (h : w.cell? ⟨b0, 0, none⟩ = some v00 ∧ w.cell? ⟨b0, 1, none⟩ = some v01 ∧ w.cell? ⟨b0, 2, none⟩ = some v02 ∧ w.cell? ⟨b0, 3, none⟩ = some v03 ∧ w.cell? ⟨b0, 4, none⟩ = some v04 ∧ w.cell? ⟨b0, 5, none⟩ = some v05 ∧ w.cell? ⟨b0, 6, none⟩ = some v06 ∧ w.cell? ⟨b0, 7, none⟩ = some v07 ∧ w.cell? ⟨b1, 0, none⟩ = some v10 ∧ w.cell? ⟨b1, 1, none⟩ = some v11 ∧ w.cell? ⟨b1, 2, none⟩ = some v12 ∧ w.cell? ⟨b1, 3, none⟩ = some v13 ∧ w.cell? ⟨b1, 4, none⟩ = some v14 ∧ w.cell? ⟨b1, 5, none⟩ = some v15 ∧ w.cell? ⟨b1, 6, none⟩ = some v16 ∧ w.cell? ⟨b1, 7, none⟩ = some v17 ∧ w.cell? ⟨b2, 0, none⟩ = some v20 ∧ w.cell? ⟨b2, 1, none⟩ = some v21 ∧ w.cell? ⟨b2, 2, none⟩ = some v22 ∧ w.cell? ⟨b2, 3, none⟩ = some v23 ∧ w.cell? ⟨b2, 4, none⟩ = some v24 ∧ w.cell? ⟨b2, 5, none⟩ = some v25 ∧ w.cell? ⟨b2, 6, none⟩ = some v26 ∧ w.cell? ⟨b2, 7, none⟩ = some v27 ∧ w.cell? ⟨b3, 0, none⟩ = some v30 ∧ w.cell? ⟨b3, 1, none⟩ = some v31 ∧ w.cell? ⟨b3, 2, none⟩ = some v32 ∧ w.cell? ⟨b3, 3, none⟩ = some v33 ∧ w.cell? ⟨b3, 4, none⟩ = some v34 ∧ w.cell? ⟨b3, 5, none⟩ = some v35 ∧ w.cell? ⟨b3, 6, none⟩ = some v36 ∧ w.cell? ⟨b3, 7, none⟩ = some v37 ∧ w.cell? ⟨b4, 0, none⟩ = some v40 ∧ w.cell? ⟨b4, 1, none⟩ = some v41 ∧ w.cell? ⟨b4, 2, none⟩ = some v42 ∧ w.cell? ⟨b4, 3, none⟩ = some v43 ∧ w.cell? ⟨b4, 4, none⟩ = some v44 ∧ w.cell? ⟨b4, 5, none⟩ = some v45 ∧ w.cell? ⟨b4, 6, none⟩ = some v46 ∧ w.cell? ⟨b4, 7, none⟩ = some v47 ∧ w.cell? ⟨b5, 0, none⟩ = some v50 ∧ w.cell? ⟨b5, 1, none⟩ = some v51 ∧ w.cell? ⟨b5, 2, none⟩ = some v52 ∧ w.cell? ⟨b5, 3, none⟩ = some v53 ∧ w.cell? ⟨b5, 4, none⟩ = some v54 ∧ w.cell? ⟨b5, 5, none⟩ = some v55 ∧ w.cell? ⟨b5, 6, none⟩ = some v56 ∧ w.cell? ⟨b5, 7, none⟩ = some v57) : w'.cell? ⟨b0, 0, none⟩ = some v00 ∧ w'.cell? ⟨b0, 1, none⟩ = some v01 ∧ w'.cell? ⟨b0, 2, none⟩ = some v02 ∧ w'.cell? ⟨b0, 3, none⟩ = some v03 ∧ w'.cell? ⟨b0, 4, none⟩ = some v04 ∧ w'.cell? ⟨b0, 5, none⟩ = some v05 ∧ w'.cell? ⟨b0, 6, none⟩ = some v06 ∧ w'.cell? ⟨b0, 7, none⟩ = some v07 ∧ w'.cell? ⟨b1, 0, none⟩ = some v10 ∧ w'.cell? ⟨b1, 1, none⟩ = some v11 ∧ w'.cell? ⟨b1, 2, none⟩ = some v12 ∧ w'.cell? ⟨b1, 3, none⟩ = some v13 ∧ w'.cell? ⟨b1, 4, none⟩ = some v14 ∧ w'.cell? ⟨b1, 5, none⟩ = some v15 ∧ w'.cell? ⟨b1, 6, none⟩ = some v16 ∧ w'.cell? ⟨b1, 7, none⟩ = some v17 ∧ w'.cell? ⟨b2, 0, none⟩ = some v20 ∧ w'.cell? ⟨b2, 1, none⟩ = some v21 ∧ w'.cell? ⟨b2, 2, none⟩ = some v22 ∧ w'.cell? ⟨b2, 3, none⟩ = some v23 ∧ w'.cell? ⟨b2, 4, none⟩ = some v24 ∧ w'.cell? ⟨b2, 5, none⟩ = some v25 ∧ w'.cell? ⟨b2, 6, none⟩ = some v26 ∧ w'.cell? ⟨b2, 7, none⟩ = some v27 ∧ w'.cell? ⟨b3, 0, none⟩ = some v30 ∧ w'.cell? ⟨b3, 1, none⟩ = some v31 ∧ w'.cell? ⟨b3, 2, none⟩ = some v32 ∧ w'.cell? ⟨b3, 3, none⟩ = some v33 ∧ w'.cell? ⟨b3, 4, none⟩ = some v34 ∧ w'.cell? ⟨b3, 5, none⟩ = some v35 ∧ w'.cell? ⟨b3, 6, none⟩ = some v36 ∧ w'.cell? ⟨b3, 7, none⟩ = some v37 ∧ w'.cell? ⟨b4, 0, none⟩ = some v40 ∧ w'.cell? ⟨b4, 1, none⟩ = some v41 ∧ w'.cell? ⟨b4, 2, none⟩ = some v42 ∧ w'.cell? ⟨b4, 3, none⟩ = some v43 ∧ w'.cell? ⟨b4, 4, none⟩ = some v44 ∧ w'.cell? ⟨b4, 5, none⟩ = some v45 ∧ w'.cell? ⟨b4, 6, none⟩ = some v46 ∧ w'.cell? ⟨b4, 7, none⟩ = some v47 ∧ w'.cell? ⟨b5, 0, none⟩ = some v50 ∧ w'.cell? ⟨b5, 1, none⟩ = some v51 ∧ w'.cell? ⟨b5, 2, none⟩ = some v52 ∧ w'.cell? ⟨b5, 3, none⟩ = some v53 ∧ w'.cell? ⟨b5, 4, none⟩ = some v54 ∧ w'.cell? ⟨b5, 5, none⟩ = some v55 ∧ w'.cell? ⟨b5, 6, none⟩ = some v56 ∧ w'.cell? ⟨b5, 7, none⟩ = some v57 := by
  obtain ⟨h00, h01, h02, h03, h04, h05, h06, h07, h10, h11, h12, h13, h14, h15, h16, h17, h20, h21, h22, h23, h24, h25, h26, h27, h30, h31, h32, h33, h34, h35, h36, h37, h40, h41, h42, h43, h44, h45, h46, h47, h50, h51, h52, h53, h54, h55, h56, h57⟩ := h
  have l0 := World.block_lt_of_cell? w _ h00
  have l1 := World.block_lt_of_cell? w _ h10
  have l2 := World.block_lt_of_cell? w _ h20
  have l3 := World.block_lt_of_cell? w _ h30
  have l4 := World.block_lt_of_cell? w _ h40
  have l5 := World.block_lt_of_cell? w _ h50
  exact ⟨(hb.cell (p := ⟨b0, 0, none⟩) l0).trans h00, (hb.cell (p := ⟨b0, 1, none⟩) l0).trans h01, (hb.cell (p := ⟨b0, 2, none⟩) l0).trans h02, (hb.cell (p := ⟨b0, 3, none⟩) l0).trans h03, (hb.cell (p := ⟨b0, 4, none⟩) l0).trans h04, (hb.cell (p := ⟨b0, 5, none⟩) l0).trans h05, (hb.cell (p := ⟨b0, 6, none⟩) l0).trans h06, (hb.cell (p := ⟨b0, 7, none⟩) l0).trans h07, (hb.cell (p := ⟨b1, 0, none⟩) l1).trans h10, (hb.cell (p := ⟨b1, 1, none⟩) l1).trans h11, (hb.cell (p := ⟨b1, 2, none⟩) l1).trans h12, (hb.cell (p := ⟨b1, 3, none⟩) l1).trans h13, (hb.cell (p := ⟨b1, 4, none⟩) l1).trans h14, (hb.cell (p := ⟨b1, 5, none⟩) l1).trans h15, (hb.cell (p := ⟨b1, 6, none⟩) l1).trans h16, (hb.cell (p := ⟨b1, 7, none⟩) l1).trans h17, (hb.cell (p := ⟨b2, 0, none⟩) l2).trans h20, (hb.cell (p := ⟨b2, 1, none⟩) l2).trans h21, (hb.cell (p := ⟨b2, 2, none⟩) l2).trans h22, (hb.cell (p := ⟨b2, 3, none⟩) l2).trans h23, (hb.cell (p := ⟨b2, 4, none⟩) l2).trans h24, (hb.cell (p := ⟨b2, 5, none⟩) l2).trans h25, (hb.cell (p := ⟨b2, 6, none⟩) l2).trans h26, (hb.cell (p := ⟨b2, 7, none⟩) l2).trans h27, (hb.cell (p := ⟨b3, 0, none⟩) l3).trans h30, (hb.cell (p := ⟨b3, 1, none⟩) l3).trans h31, (hb.cell (p := ⟨b3, 2, none⟩) l3).trans h32, (hb.cell (p := ⟨b3, 3, none⟩) l3).trans h33, (hb.cell (p := ⟨b3, 4, none⟩) l3).trans h34, (hb.cell (p := ⟨b3, 5, none⟩) l3).trans h35, (hb.cell (p := ⟨b3, 6, none⟩) l3).trans h36, (hb.cell (p := ⟨b3, 7, none⟩) l3).trans h37, (hb.cell (p := ⟨b4, 0, none⟩) l4).trans h40, (hb.cell (p := ⟨b4, 1, none⟩) l4).trans h41, (hb.cell (p := ⟨b4, 2, none⟩) l4).trans h42, (hb.cell (p := ⟨b4, 3, none⟩) l4).trans h43, (hb.cell (p := ⟨b4, 4, none⟩) l4).trans h44, (hb.cell (p := ⟨b4, 5, none⟩) l4).trans h45, (hb.cell (p := ⟨b4, 6, none⟩) l4).trans h46, (hb.cell (p := ⟨b4, 7, none⟩) l4).trans h47, (hb.cell (p := ⟨b5, 0, none⟩) l5).trans h50, (hb.cell (p := ⟨b5, 1, none⟩) l5).trans h51, (hb.cell (p := ⟨b5, 2, none⟩) l5).trans h52, (hb.cell (p := ⟨b5, 3, none⟩) l5).trans h53, (hb.cell (p := ⟨b5, 4, none⟩) l5).trans h54, (hb.cell (p := ⟨b5, 5, none⟩) l5).trans h55, (hb.cell (p := ⟨b5, 6, none⟩) l5).trans h56, (hb.cell (p := ⟨b5, 7, none⟩) l5).trans h57⟩

theorem c16_below {w w' : World} {b0 b1 : Nat} {v00 v01 v02 v03 v04 v05 v06 v07 v10 v11 v12 v13 v14 v15 v16 v17 : Value} (hb : Below w.heap.size w w') (h : w.cell? ⟨b0, 0, none⟩ = some v00 ∧ w.cell? ⟨b0, 1, none⟩ = some v01 ∧ w.cell? ⟨b0, 2, none⟩ = some v02 ∧ w.cell? ⟨b0, 3, none⟩ = some v03 ∧ w.cell? ⟨b0, 4, none⟩ = some v04 ∧ w.cell? ⟨b0, 5, none⟩ = some v05 ∧ w.cell? ⟨b0, 6, none⟩ = some v06 ∧ w.cell? ⟨b0, 7, none⟩ = some v07 ∧ w.cell? ⟨b1, 0, none⟩ = some v10 ∧ w.cell? ⟨b1, 1, none⟩ = some v11 ∧ w.cell? ⟨b1, 2, none⟩ = some v12 ∧ w.cell? ⟨b1, 3, none⟩ = some v13 ∧ w.cell? ⟨b1, 4, none⟩ = some v14 ∧ w.cell? ⟨b1, 5, none⟩ = some v15 ∧ w.cell? ⟨b1, 6, none⟩ = some v16 ∧ w.cell? ⟨b1, 7, none⟩ = some v17) : w'.cell? ⟨b0, 0, none⟩ = some v00 ∧ w'.cell? ⟨b0, 1, none⟩ = some v01 ∧ w'.cell? ⟨b0, 2, none⟩ = some v02 ∧ w'.cell? ⟨b0, 3, none⟩ = some v03 ∧ w'.cell? ⟨b0, 4, none⟩ = some v04 ∧ w'.cell? ⟨b0, 5, none⟩ = some v05 ∧ w'.cell? ⟨b0, 6, none⟩ = some v06 ∧ w'.cell? ⟨b0, 7, none⟩ = some v07 ∧ w'.cell? ⟨b1, 0, none⟩ = some v10 ∧ w'.cell? ⟨b1, 1, none⟩ = some v11 ∧ w'.cell? ⟨b1, 2, none⟩ = some v12 ∧ w'.cell? ⟨b1, 3, none⟩ = some v13 ∧ w'.cell? ⟨b1, 4, none⟩ = some v14 ∧ w'.cell? ⟨b1, 5, none⟩ = some v15 ∧ w'.cell? ⟨b1, 6, none⟩ = some v16 ∧ w'.cell? ⟨b1, 7, none⟩ = some v17 := by
  obtain ⟨h00, h01, h02, h03, h04, h05, h06, h07, h10, h11, h12, h13, h14, h15, h16, h17⟩ := h
  have l0 := World.block_lt_of_cell? w _ h00
  have l1 := World.block_lt_of_cell? w _ h10
  exact ⟨(hb.cell (p := ⟨b0, 0, none⟩) l0).trans h00, (hb.cell (p := ⟨b0, 1, none⟩) l0).trans h01, (hb.cell (p := ⟨b0, 2, none⟩) l0).trans h02, (hb.cell (p := ⟨b0, 3, none⟩) l0).trans h03, (hb.cell (p := ⟨b0, 4, none⟩) l0).trans h04, (hb.cell (p := ⟨b0, 5, none⟩) l0).trans h05, (hb.cell (p := ⟨b0, 6, none⟩) l0).trans h06, (hb.cell (p := ⟨b0, 7, none⟩) l0).trans h07, (hb.cell (p := ⟨b1, 0, none⟩) l1).trans h10, (hb.cell (p := ⟨b1, 1, none⟩) l1).trans h11, (hb.cell (p := ⟨b1, 2, none⟩) l1).trans h12, (hb.cell (p := ⟨b1, 3, none⟩) l1).trans h13, (hb.cell (p := ⟨b1, 4, none⟩) l1).trans h14, (hb.cell (p := ⟨b1, 5, none⟩) l1).trans h15, (hb.cell (p := ⟨b1, 6, none⟩) l1).trans h16, (hb.cell (p := ⟨b1, 7, none⟩) l1).trans h17⟩

set_option maxRecDepth 100000 in
set_option maxHeartbeats 8000000 in
theorem DiskTells_core (d : Dk) (f : Int) (s : ByteArray) (n k : Int) (w : World) (hu : d.used ≤ 562949953421312) (hs : s.size ≤ 140737488355328) (ws : d.size < 9223372036854775808) (wf : d.fuse < 9223372036854775808) (wn : n < 9223372036854775808) :
    Calls Try.prog 3 #[d.val, .int .i64 f, .string s, .int .i64 n, .int .i64 k] w fun e w' => e = .returned (.bool true) ∧ Below w.heap.size w w' := by
  have HD := fun w => show Calls Try.prog 9 #[d.val] w fun e w' => e = .returned (d.val) ∧ Below w.heap.size w w' from refD_any d w
  have HW := fun w => show Calls Try.prog 10 #[d.val, .int .i64 f, .string s] w fun e w' => e = .returned (.tuple #[(d.write f s).1.val, .int .i64 (d.write f s).2]) ∧ Below w.heap.size w w' from write_any d f s w (by omega) wf ws
  have HRW := fun w => show Calls Try.prog 11 #[d.val, .int .i64 f, .string s] w fun e w' => e = .returned (.tuple #[(d.write f s).1.val, .int .i64 (d.write f s).2]) ∧ Below w.heap.size w w' from rwrite_any d f s w (by omega) wf ws
  generalize d.write f s = W2 at HW HRW
  obtain ⟨W, eW⟩ := W2
  simp only at HW HRW
  have HDW := fun w => show Calls Try.prog 9 #[W.val] w fun e w' => e = .returned (W.val) ∧ Below w.heap.size w w' from refD_any W w
  have HY := fun w => show Calls Try.prog 12 #[d.val, .int .i64 f] w fun e w' => e = .returned (.tuple #[(d.sync f).1.val, .int .i64 (d.sync f).2]) ∧ Below w.heap.size w w' from sync_any d f w (by omega) wf
  have HRY := fun w => show Calls Try.prog 13 #[d.val, .int .i64 f] w fun e w' => e = .returned (.tuple #[(d.sync f).1.val, .int .i64 (d.sync f).2]) ∧ Below w.heap.size w w' from rsync_any d f w (by omega) wf
  generalize d.sync f = Y2 at HY HRY
  obtain ⟨Y, eY⟩ := Y2
  simp only at HY HRY
  have HDY := fun w => show Calls Try.prog 9 #[Y.val] w fun e w' => e = .returned (Y.val) ∧ Below w.heap.size w w' from refD_any Y w
  have HC := fun w => show Calls Try.prog 14 #[d.val, .int .i64 f, .int .i64 n] w fun e w' => e = .returned (.tuple #[(d.cut f n).1.val, .int .i64 (d.cut f n).2]) ∧ Below w.heap.size w w' from cut_any d f n w (by omega) wf wn
  have HRC := fun w => show Calls Try.prog 15 #[d.val, .int .i64 f, .int .i64 n] w fun e w' => e = .returned (.tuple #[(d.cut f n).1.val, .int .i64 (d.cut f n).2]) ∧ Below w.heap.size w w' from rcut_any d f n w (by omega) wf wn
  generalize d.cut f n = C2 at HC HRC
  obtain ⟨C, eC⟩ := C2
  simp only at HC HRC
  have HDC := fun w => show Calls Try.prog 9 #[C.val] w fun e w' => e = .returned (C.val) ∧ Below w.heap.size w w' from refD_any C w
  have HQ := fun w => show Calls Try.prog 16 #[d.val, .int .i64 k] w fun e w' => e = .returned ((d.crash k).val) ∧ Below w.heap.size w w' from crash_any d k w (by omega)
  have HRQ := fun w => show Calls Try.prog 17 #[d.val, .int .i64 k] w fun e w' => e = .returned ((d.crash k).val) ∧ Below w.heap.size w w' from rcrash_any d k w (by omega)
  generalize d.crash k = Q at HQ HRQ
  have HDQ := fun w => show Calls Try.prog 9 #[Q.val] w fun e w' => e = .returned (Q.val) ∧ Below w.heap.size w w' from refD_any Q w
  have HA := fun w => show Calls Try.prog 18 #[d.val, .int .i64 n, .int .i64 k] w fun e w' => e = .returned ((d.arm n k).val) ∧ Below w.heap.size w w' from arm_any d n k w
  have HRA := fun w => show Calls Try.prog 19 #[d.val, .int .i64 n, .int .i64 k] w fun e w' => e = .returned ((d.arm n k).val) ∧ Below w.heap.size w w' from rarm_any d n k w
  generalize d.arm n k = A at HA HRA
  have HDA := fun w => show Calls Try.prog 9 #[A.val] w fun e w' => e = .returned (A.val) ∧ Below w.heap.size w w' from refD_any A w
  have HT := fun w => show Calls Try.prog 20 #[d.val] w fun e w' => e = .returned ((d.start).val) ∧ Below w.heap.size w w' from start_any d w
  have HRT := fun w => show Calls Try.prog 21 #[d.val] w fun e w' => e = .returned ((d.start).val) ∧ Below w.heap.size w w' from rstart_any d w
  generalize d.start = T at HT HRT
  have HDT := fun w => show Calls Try.prog 9 #[T.val] w fun e w' => e = .returned (T.val) ∧ Below w.heap.size w w' from refD_any T w
  have HN := fun w => show Calls Try.prog 26 #[.int .i64 n] w fun e w' => e = .returned ((Dk.new n).val) ∧ Below w.heap.size w w' from new_any n w
  have HRN := fun w => show Calls Try.prog 27 #[.int .i64 n] w fun e w' => e = .returned ((Dk.new n).val) ∧ Below w.heap.size w w' from rnew_any n w
  generalize Dk.new n = N at HN HRN
  have HDN := fun w => show Calls Try.prog 9 #[N.val] w fun e w' => e = .returned (N.val) ∧ Below w.heap.size w w' from refD_any N w
  have HU := fun w => show Calls Try.prog 22 #[d.val] w fun e w' => e = .returned (.int .i64 (d.used : Nat)) ∧ Below w.heap.size w w' from used_any d w (by omega)
  have HRU := fun w => show Calls Try.prog 23 #[d.val] w fun e w' => e = .returned (.int .i64 (d.used : Nat)) ∧ Below w.heap.size w w' from rused_any d w (by omega)
  have HE := fun w => show Calls Try.prog 24 #[d.val, .int .i64 f] w fun e w' => e = .returned (.string (d.read f)) ∧ Below w.heap.size w w' from read_any d f w (by omega)
  have HRE := fun w => show Calls Try.prog 25 #[d.val, .int .i64 f] w fun e w' => e = .returned (.string (d.read f)) ∧ Below w.heap.size w w' from rread_any d f w (by omega)
  generalize d.used = us at *
  generalize d.read f = rd at *
  clear hu hs ws wf wn
  unfold Dk.val at HD HW HRW HDW HY HRY HDY HC HRC HDC HQ HRQ HDQ HA HRA HDA HT HRT HDT HN HRN HDN HU HRU HE HRE ⊢
  have KHD := Lib.hid HD; clear HD
  have KHW := Lib.hid HW; clear HW
  have KHRW := Lib.hid HRW; clear HRW
  have KHDW := Lib.hid HDW; clear HDW
  have KHY := Lib.hid HY; clear HY
  have KHRY := Lib.hid HRY; clear HRY
  have KHDY := Lib.hid HDY; clear HDY
  have KHC := Lib.hid HC; clear HC
  have KHRC := Lib.hid HRC; clear HRC
  have KHDC := Lib.hid HDC; clear HDC
  have KHQ := Lib.hid HQ; clear HQ
  have KHRQ := Lib.hid HRQ; clear HRQ
  have KHDQ := Lib.hid HDQ; clear HDQ
  have KHA := Lib.hid HA; clear HA
  have KHRA := Lib.hid HRA; clear HRA
  have KHDA := Lib.hid HDA; clear HDA
  have KHT := Lib.hid HT; clear HT
  have KHRT := Lib.hid HRT; clear HRT
  have KHDT := Lib.hid HDT; clear HDT
  have KHN := Lib.hid HN; clear HN
  have KHRN := Lib.hid HRN; clear HRN
  have KHDN := Lib.hid HDN; clear HDN
  have KHU := Lib.hid HU; clear HU
  have KHRU := Lib.hid HRU; clear HRU
  have KHE := Lib.hid HE; clear HE
  have KHRE := Lib.hid HRE; clear HRE
  go_enter Try.func3, Try.ntmps3
  obtain ⟨g, hg⟩ : ∃ z, w.heap.size = z := ⟨_, rfl⟩
  go_wp2_with fail
  refine (examples_any _).mono ?_
  rintro e x0 ⟨rfl, hb⟩
  have HS := Lib.hid (boxes_first (l := d.cells) hg rfl (Below.refl _ _) hb); clear hb
  obtain ⟨c0, c1, c2, c3, c4, c5, c6, c7, _, _, _, _, _, _, _, _⟩ := Row.eight HS.out.1.1.2
  go_wp2_with fail
  refine (KHD.out _).mono ?_
  rintro e x1 ⟨rfl, hb⟩
  have HSn := Lib.hid (boxes_same HS.out hb); clear hb HS
  have HS := HSn; clear HSn
  clear c0 c1 c2 c3 c4 c5 c6 c7
  obtain ⟨gr, hgr⟩ : ∃ z, x1.heap.size = z := ⟨_, rfl⟩
  have lt_g_gr : g < gr := by have := HS.out.1.1.1; omega
  obtain ⟨c0, c1, c2, c3, c4, c5, c6, c7, _, _, _, _, _, _, _, _⟩ := Row.eight HS.out.1.1.2
  go_wp2_with fail
  refine (KHW.out _).mono ?_
  rintro e x2 ⟨rfl, hb⟩
  have HSn := Lib.hid (boxes_call (l := d.cells) hgr rfl HS.out hb); clear hb HS
  have HS := HSn; clear HSn
  clear c0 c1 c2 c3 c4 c5 c6 c7
  obtain ⟨ga, hga⟩ : ∃ z, x2.heap.size = z := ⟨_, rfl⟩
  have lt_gr_ga : gr < ga := by have := HS.out.1.1.1; omega
  have lt_g_ga : g < ga := by have := HS.out.1.2.1.1; omega
  obtain ⟨c0, c1, c2, c3, c4, c5, c6, c7, _, _, _, _, _, _, _, _⟩ := Row.eight HS.out.1.2.1.2
  obtain ⟨a0, a1, a2, a3, a4, a5, a6, a7, _, _, _, _, _, _, _, _⟩ := Row.eight HS.out.1.1.2
  go_wp2_with fail
  refine (KHRW.out _).mono ?_
  rintro e x3 ⟨rfl, hb⟩
  have HSn := Lib.hid (boxes_call (l := W.cells) hga rfl HS.out hb); clear hb HS
  have HS := HSn; clear HSn
  clear c0 c1 c2 c3 c4 c5 c6 c7 a0 a1 a2 a3 a4 a5 a6 a7
  obtain ⟨gc, hgc⟩ : ∃ z, x3.heap.size = z := ⟨_, rfl⟩
  have lt_ga_gc : ga < gc := by have := HS.out.1.1.1; omega
  have lt_gr_gc : gr < gc := by have := HS.out.1.2.1.1; omega
  have lt_g_gc : g < gc := by have := HS.out.1.2.2.1.1; omega
  obtain ⟨c0, c1, c2, c3, c4, c5, c6, c7, _, _, _, _, _, _, _, _⟩ := Row.eight HS.out.1.2.2.1.2
  obtain ⟨a0, a1, a2, a3, a4, a5, a6, a7, _, _, _, _, _, _, _, _⟩ := Row.eight HS.out.1.2.1.2
  go_wp2_with fail
  refine (KHY.out _).mono ?_
  rintro e x4 ⟨rfl, hb⟩
  have HSn := Lib.hid (boxes_call (l := W.cells) hgc rfl HS.out hb); clear hb HS
  have HS := HSn; clear HSn
  clear c0 c1 c2 c3 c4 c5 c6 c7 a0 a1 a2 a3 a4 a5 a6 a7
  obtain ⟨gg, hgg⟩ : ∃ z, x4.heap.size = z := ⟨_, rfl⟩
  have lt_gc_gg : gc < gg := by have := HS.out.1.1.1; omega
  have lt_ga_gg : ga < gg := by have := HS.out.1.2.1.1; omega
  have lt_gr_gg : gr < gg := by have := HS.out.1.2.2.1.1; omega
  have lt_g_gg : g < gg := by have := HS.out.1.2.2.2.1.1; omega
  obtain ⟨c0, c1, c2, c3, c4, c5, c6, c7, _, _, _, _, _, _, _, _⟩ := Row.eight HS.out.1.2.2.2.1.2
  obtain ⟨a0, a1, a2, a3, a4, a5, a6, a7, _, _, _, _, _, _, _, _⟩ := Row.eight HS.out.1.2.2.1.2
  go_wp2_with fail
  refine (KHRY.out _).mono ?_
  rintro e x5 ⟨rfl, hb⟩
  have HSn := Lib.hid (boxes_call (l := Y.cells) hgg rfl HS.out hb); clear hb HS
  have HS := HSn; clear HSn
  clear c0 c1 c2 c3 c4 c5 c6 c7 a0 a1 a2 a3 a4 a5 a6 a7
  obtain ⟨gi, hgi⟩ : ∃ z, x5.heap.size = z := ⟨_, rfl⟩
  have lt_gg_gi : gg < gi := by have := HS.out.1.1.1; omega
  have lt_gc_gi : gc < gi := by have := HS.out.1.2.1.1; omega
  have lt_ga_gi : ga < gi := by have := HS.out.1.2.2.1.1; omega
  have lt_gr_gi : gr < gi := by have := HS.out.1.2.2.2.1.1; omega
  have lt_g_gi : g < gi := by have := HS.out.1.2.2.2.2.1.1; omega
  obtain ⟨c0, c1, c2, c3, c4, c5, c6, c7, _, _, _, _, _, _, _, _⟩ := Row.eight HS.out.1.2.2.2.2.1.2
  obtain ⟨a0, a1, a2, a3, a4, a5, a6, a7, _, _, _, _, _, _, _, _⟩ := Row.eight HS.out.1.2.2.2.1.2
  go_wp2_with fail
  refine (KHC.out _).mono ?_
  rintro e x6 ⟨rfl, hb⟩
  have HSn := Lib.hid (boxes_call (l := Y.cells) hgi rfl HS.out hb); clear hb HS
  have HS := HSn; clear HSn
  clear c0 c1 c2 c3 c4 c5 c6 c7 a0 a1 a2 a3 a4 a5 a6 a7
  obtain ⟨gk, hgk⟩ : ∃ z, x6.heap.size = z := ⟨_, rfl⟩
  have lt_gi_gk : gi < gk := by have := HS.out.1.1.1; omega
  have lt_gg_gk : gg < gk := by have := HS.out.1.2.1.1; omega
  have lt_gc_gk : gc < gk := by have := HS.out.1.2.2.1.1; omega
  have lt_ga_gk : ga < gk := by have := HS.out.1.2.2.2.1.1; omega
  have lt_gr_gk : gr < gk := by have := HS.out.1.2.2.2.2.1.1; omega
  have lt_g_gk : g < gk := by have := HS.out.1.2.2.2.2.2.1.1; omega
  obtain ⟨c0, c1, c2, c3, c4, c5, c6, c7, _, _, _, _, _, _, _, _⟩ := Row.eight HS.out.1.2.2.2.2.2.1.2
  obtain ⟨a0, a1, a2, a3, a4, a5, a6, a7, _, _, _, _, _, _, _, _⟩ := Row.eight HS.out.1.2.2.2.2.1.2
  go_wp2_with fail
  refine (KHRC.out _).mono ?_
  rintro e x7 ⟨rfl, hb⟩
  have HSn := Lib.hid (boxes_call (l := C.cells) hgk rfl HS.out hb); clear hb HS
  have HS := HSn; clear HSn
  clear c0 c1 c2 c3 c4 c5 c6 c7 a0 a1 a2 a3 a4 a5 a6 a7
  obtain ⟨gm, hgm⟩ : ∃ z, x7.heap.size = z := ⟨_, rfl⟩
  have lt_gk_gm : gk < gm := by have := HS.out.1.1.1; omega
  have lt_gi_gm : gi < gm := by have := HS.out.1.2.1.1; omega
  have lt_gg_gm : gg < gm := by have := HS.out.1.2.2.1.1; omega
  have lt_gc_gm : gc < gm := by have := HS.out.1.2.2.2.1.1; omega
  have lt_ga_gm : ga < gm := by have := HS.out.1.2.2.2.2.1.1; omega
  have lt_gr_gm : gr < gm := by have := HS.out.1.2.2.2.2.2.1.1; omega
  have lt_g_gm : g < gm := by have := HS.out.1.2.2.2.2.2.2.1.1; omega
  obtain ⟨c0, c1, c2, c3, c4, c5, c6, c7, _, _, _, _, _, _, _, _⟩ := Row.eight HS.out.1.2.2.2.2.2.2.1.2
  obtain ⟨a0, a1, a2, a3, a4, a5, a6, a7, _, _, _, _, _, _, _, _⟩ := Row.eight HS.out.1.2.2.2.2.2.1.2
  go_upto_region 11 with fail
  have HSn := Lib.hid (boxes_alloc (l := C.cells) (arr := C.cells.toArray) (t := 31) hgm rfl HS.out)
  clear HS
  have HS := HSn; clear HSn
  unfold Dk.cells at HS
  change Hid (Boxes (x7.alloc (.cells #[.int .i64 C.size, .string C.h0, .string C.s0, .string C.h1, .string C.s1, .bool C.down, .int .i64 C.fuse, .int .i64 C.keep] 31)) _ ∧ Below _ _ (x7.alloc (.cells #[.int .i64 C.size, .string C.h0, .string C.s0, .string C.h1, .string C.s1, .bool C.down, .int .i64 C.fuse, .int .i64 C.keep] 31))) at HS
  generalize x7.alloc (.cells #[.int .i64 C.size, .string C.h0, .string C.s0, .string C.h1, .string C.s1, .bool C.down, .int .i64 C.fuse, .int .i64 C.keep] 31) = x8 at HS ⊢
  clear c0 c1 c2 c3 c4 c5 c6 c7 a0 a1 a2 a3 a4 a5 a6 a7
  have HS0 := HS
  go_cut [100] (fun q wx => q = .bool false ∧ Boxes wx [(gr, d.cells), (g, d.cells)] ∧ Below w.heap.size w wx)
  case first => as_aux_lemma =>
    obtain ⟨zgm0, zgm1, zgm2, zgm3, zgm4, zgm5, zgm6, zgm7, _, _, _, _, _, _, _, _⟩ := Row.eight HS.out.1.1.2
    obtain ⟨zgk0, zgk1, zgk2, zgk3, zgk4, zgk5, zgk6, zgk7, _, _, _, _, _, _, _, _⟩ := Row.eight HS.out.1.2.1.2
    obtain ⟨zgi0, zgi1, zgi2, zgi3, zgi4, zgi5, zgi6, zgi7, _, _, _, _, _, _, _, _⟩ := Row.eight HS.out.1.2.2.1.2
    obtain ⟨zgg0, zgg1, zgg2, zgg3, zgg4, zgg5, zgg6, zgg7, _, _, _, _, _, _, _, _⟩ := Row.eight HS.out.1.2.2.2.1.2
    obtain ⟨zgc0, zgc1, zgc2, zgc3, zgc4, zgc5, zgc6, zgc7, _, _, _, _, _, _, _, _⟩ := Row.eight HS.out.1.2.2.2.2.1.2
    obtain ⟨zga0, zga1, zga2, zga3, zga4, zga5, zga6, zga7, _, _, _, _, _, _, _, _⟩ := Row.eight HS.out.1.2.2.2.2.2.1.2
    clear HS0
    have HSn := Lib.hid (show Boxes x8 [(gr, d.cells), (g, d.cells)] ∧ Below w.heap.size w x8 from ⟨HS.out.1.2.2.2.2.2.2, HS.out.2⟩); clear HS
    have HS := HSn; clear HSn
    have heqW := fun w => eq_rfiles W.h0 W.s0 W.h1 W.s1 w
    have heqY := fun w => eq_rfiles Y.h0 Y.s0 Y.h1 Y.s1 w
    have heqC := fun w => eq_rfiles C.h0 C.s0 C.h1 C.s1 w
    go_region_held3 (fun w' => w'.cell? ⟨ga, 0, none⟩ = some (.int .i64 W.size) ∧ w'.cell? ⟨ga, 1, none⟩ = some (.string W.h0) ∧ w'.cell? ⟨ga, 2, none⟩ = some (.string W.s0) ∧ w'.cell? ⟨ga, 3, none⟩ = some (.string W.h1) ∧ w'.cell? ⟨ga, 4, none⟩ = some (.string W.s1) ∧ w'.cell? ⟨ga, 5, none⟩ = some (.bool W.down) ∧ w'.cell? ⟨ga, 6, none⟩ = some (.int .i64 W.fuse) ∧ w'.cell? ⟨ga, 7, none⟩ = some (.int .i64 W.keep) ∧ w'.cell? ⟨gc, 0, none⟩ = some (.int .i64 W.size) ∧ w'.cell? ⟨gc, 1, none⟩ = some (.string W.h0) ∧ w'.cell? ⟨gc, 2, none⟩ = some (.string W.s0) ∧ w'.cell? ⟨gc, 3, none⟩ = some (.string W.h1) ∧ w'.cell? ⟨gc, 4, none⟩ = some (.string W.s1) ∧ w'.cell? ⟨gc, 5, none⟩ = some (.bool W.down) ∧ w'.cell? ⟨gc, 6, none⟩ = some (.int .i64 W.fuse) ∧ w'.cell? ⟨gc, 7, none⟩ = some (.int .i64 W.keep) ∧ w'.cell? ⟨gg, 0, none⟩ = some (.int .i64 Y.size) ∧ w'.cell? ⟨gg, 1, none⟩ = some (.string Y.h0) ∧ w'.cell? ⟨gg, 2, none⟩ = some (.string Y.s0) ∧ w'.cell? ⟨gg, 3, none⟩ = some (.string Y.h1) ∧ w'.cell? ⟨gg, 4, none⟩ = some (.string Y.s1) ∧ w'.cell? ⟨gg, 5, none⟩ = some (.bool Y.down) ∧ w'.cell? ⟨gg, 6, none⟩ = some (.int .i64 Y.fuse) ∧ w'.cell? ⟨gg, 7, none⟩ = some (.int .i64 Y.keep) ∧ w'.cell? ⟨gi, 0, none⟩ = some (.int .i64 Y.size) ∧ w'.cell? ⟨gi, 1, none⟩ = some (.string Y.h0) ∧ w'.cell? ⟨gi, 2, none⟩ = some (.string Y.s0) ∧ w'.cell? ⟨gi, 3, none⟩ = some (.string Y.h1) ∧ w'.cell? ⟨gi, 4, none⟩ = some (.string Y.s1) ∧ w'.cell? ⟨gi, 5, none⟩ = some (.bool Y.down) ∧ w'.cell? ⟨gi, 6, none⟩ = some (.int .i64 Y.fuse) ∧ w'.cell? ⟨gi, 7, none⟩ = some (.int .i64 Y.keep) ∧ w'.cell? ⟨gk, 0, none⟩ = some (.int .i64 C.size) ∧ w'.cell? ⟨gk, 1, none⟩ = some (.string C.h0) ∧ w'.cell? ⟨gk, 2, none⟩ = some (.string C.s0) ∧ w'.cell? ⟨gk, 3, none⟩ = some (.string C.h1) ∧ w'.cell? ⟨gk, 4, none⟩ = some (.string C.s1) ∧ w'.cell? ⟨gk, 5, none⟩ = some (.bool C.down) ∧ w'.cell? ⟨gk, 6, none⟩ = some (.int .i64 C.fuse) ∧ w'.cell? ⟨gk, 7, none⟩ = some (.int .i64 C.keep) ∧ w'.cell? ⟨gm, 0, none⟩ = some (.int .i64 C.size) ∧ w'.cell? ⟨gm, 1, none⟩ = some (.string C.h0) ∧ w'.cell? ⟨gm, 2, none⟩ = some (.string C.s0) ∧ w'.cell? ⟨gm, 3, none⟩ = some (.string C.h1) ∧ w'.cell? ⟨gm, 4, none⟩ = some (.string C.s1) ∧ w'.cell? ⟨gm, 5, none⟩ = some (.bool C.down) ∧ w'.cell? ⟨gm, 6, none⟩ = some (.int .i64 C.fuse) ∧ w'.cell? ⟨gm, 7, none⟩ = some (.int .i64 C.keep)) (first | go_keep | (exact c48_below hq (by first | assumption | (simp [go_sem, *]; done)))) ((first | (go_at_call 9; ((with_reducible refine (KHDW.out _).mono ?_); rintro e u ⟨rfl, hq⟩; (first | (have HSn := Lib.hid (boxes_same HS.out hq)) | (have HSn := Lib.hid (boxes_same (boxes_drew HS.out) hq))); clear HS; have HS := HSn; clear HSn)) | (go_at_call 9; ((with_reducible refine (KHDY.out _).mono ?_); rintro e u ⟨rfl, hq⟩; (first | (have HSn := Lib.hid (boxes_same HS.out hq)) | (have HSn := Lib.hid (boxes_same (boxes_drew HS.out) hq))); clear HS; have HS := HSn; clear HSn)) | (go_at_call 9; ((with_reducible refine (KHDC.out _).mono ?_); rintro e u ⟨rfl, hq⟩; (first | (have HSn := Lib.hid (boxes_same HS.out hq)) | (have HSn := Lib.hid (boxes_same (boxes_drew HS.out) hq))); clear HS; have HS := HSn; clear HSn))))
    all_goals (go_wp2_with fail; go_meet; exact ⟨rfl, HS.out.1, HS.out.2⟩)
  case rest => as_aux_lemma =>
    obtain ⟨rfl, hbx, hbb⟩ := hcut
    clear HS HS0
    have HS := Lib.hid (show Boxes wc [(gr, d.cells), (g, d.cells)] ∧ Below w.heap.size w wc from ⟨hbx, hbb⟩); clear hbx hbb
    obtain ⟨a0, a1, a2, a3, a4, a5, a6, a7, _, _, _, _, _, _, _, _⟩ := Row.eight HS.out.1.1.2
    obtain ⟨c0, c1, c2, c3, c4, c5, c6, c7, _, _, _, _, _, _, _, _⟩ := Row.eight HS.out.1.2.1.2
    have heqQ := fun w => eq_rfiles Q.h0 Q.s0 Q.h1 Q.s1 w
    have heqA := fun w => eq_rfiles A.h0 A.s0 A.h1 A.s1 w
    have heqT := fun w => eq_rfiles T.h0 T.s0 T.h1 T.s1 w
    have heqN := fun w => eq_rfiles N.h0 N.s0 N.h1 N.s1 w
    go_upto_region 13 with fail
    go_region_held3 (fun w' => w'.cell? ⟨g, 0, none⟩ = some (.int .i64 d.size) ∧ w'.cell? ⟨g, 1, none⟩ = some (.string d.h0) ∧ w'.cell? ⟨g, 2, none⟩ = some (.string d.s0) ∧ w'.cell? ⟨g, 3, none⟩ = some (.string d.h1) ∧ w'.cell? ⟨g, 4, none⟩ = some (.string d.s1) ∧ w'.cell? ⟨g, 5, none⟩ = some (.bool d.down) ∧ w'.cell? ⟨g, 6, none⟩ = some (.int .i64 d.fuse) ∧ w'.cell? ⟨g, 7, none⟩ = some (.int .i64 d.keep) ∧ w'.cell? ⟨gr, 0, none⟩ = some (.int .i64 d.size) ∧ w'.cell? ⟨gr, 1, none⟩ = some (.string d.h0) ∧ w'.cell? ⟨gr, 2, none⟩ = some (.string d.s0) ∧ w'.cell? ⟨gr, 3, none⟩ = some (.string d.h1) ∧ w'.cell? ⟨gr, 4, none⟩ = some (.string d.s1) ∧ w'.cell? ⟨gr, 5, none⟩ = some (.bool d.down) ∧ w'.cell? ⟨gr, 6, none⟩ = some (.int .i64 d.fuse) ∧ w'.cell? ⟨gr, 7, none⟩ = some (.int .i64 d.keep)) (first | go_keep | (exact c16_below hq (by first | assumption | (simp [go_sem, *]; done)))) ((first | (go_at_call 16; ((with_reducible refine (KHQ.out _).mono ?_); rintro e u ⟨rfl, hq⟩; (first | (have HSn := Lib.hid (boxes_same HS.out hq)) | (have HSn := Lib.hid (boxes_same (boxes_drew HS.out) hq))); clear HS; have HS := HSn; clear HSn)) | (go_at_call 17; ((with_reducible refine (KHRQ.out _).mono ?_); rintro e u ⟨rfl, hq⟩; (first | (have HSn := Lib.hid (boxes_same HS.out hq)) | (have HSn := Lib.hid (boxes_same (boxes_drew HS.out) hq))); clear HS; have HS := HSn; clear HSn)) | (go_at_call 9; ((with_reducible refine (KHDQ.out _).mono ?_); rintro e u ⟨rfl, hq⟩; (first | (have HSn := Lib.hid (boxes_same HS.out hq)) | (have HSn := Lib.hid (boxes_same (boxes_drew HS.out) hq))); clear HS; have HS := HSn; clear HSn)) | (go_at_call 18; ((with_reducible refine (KHA.out _).mono ?_); rintro e u ⟨rfl, hq⟩; (first | (have HSn := Lib.hid (boxes_same HS.out hq)) | (have HSn := Lib.hid (boxes_same (boxes_drew HS.out) hq))); clear HS; have HS := HSn; clear HSn)) | (go_at_call 19; ((with_reducible refine (KHRA.out _).mono ?_); rintro e u ⟨rfl, hq⟩; (first | (have HSn := Lib.hid (boxes_same HS.out hq)) | (have HSn := Lib.hid (boxes_same (boxes_drew HS.out) hq))); clear HS; have HS := HSn; clear HSn)) | (go_at_call 9; ((with_reducible refine (KHDA.out _).mono ?_); rintro e u ⟨rfl, hq⟩; (first | (have HSn := Lib.hid (boxes_same HS.out hq)) | (have HSn := Lib.hid (boxes_same (boxes_drew HS.out) hq))); clear HS; have HS := HSn; clear HSn)) | (go_at_call 20; ((with_reducible refine (KHT.out _).mono ?_); rintro e u ⟨rfl, hq⟩; (first | (have HSn := Lib.hid (boxes_same HS.out hq)) | (have HSn := Lib.hid (boxes_same (boxes_drew HS.out) hq))); clear HS; have HS := HSn; clear HSn)) | (go_at_call 21; ((with_reducible refine (KHRT.out _).mono ?_); rintro e u ⟨rfl, hq⟩; (first | (have HSn := Lib.hid (boxes_same HS.out hq)) | (have HSn := Lib.hid (boxes_same (boxes_drew HS.out) hq))); clear HS; have HS := HSn; clear HSn)) | (go_at_call 9; ((with_reducible refine (KHDT.out _).mono ?_); rintro e u ⟨rfl, hq⟩; (first | (have HSn := Lib.hid (boxes_same HS.out hq)) | (have HSn := Lib.hid (boxes_same (boxes_drew HS.out) hq))); clear HS; have HS := HSn; clear HSn)) | (go_at_call 26; ((with_reducible refine (KHN.out _).mono ?_); rintro e u ⟨rfl, hq⟩; (first | (have HSn := Lib.hid (boxes_same HS.out hq)) | (have HSn := Lib.hid (boxes_same (boxes_drew HS.out) hq))); clear HS; have HS := HSn; clear HSn)) | (go_at_call 27; ((with_reducible refine (KHRN.out _).mono ?_); rintro e u ⟨rfl, hq⟩; (first | (have HSn := Lib.hid (boxes_same HS.out hq)) | (have HSn := Lib.hid (boxes_same (boxes_drew HS.out) hq))); clear HS; have HS := HSn; clear HSn)) | (go_at_call 9; ((with_reducible refine (KHDN.out _).mono ?_); rintro e u ⟨rfl, hq⟩; (first | (have HSn := Lib.hid (boxes_same HS.out hq)) | (have HSn := Lib.hid (boxes_same (boxes_drew HS.out) hq))); clear HS; have HS := HSn; clear HSn)) | (go_at_call 22; ((with_reducible refine (KHU.out _).mono ?_); rintro e u ⟨rfl, hq⟩; (first | (have HSn := Lib.hid (boxes_same HS.out hq)) | (have HSn := Lib.hid (boxes_same (boxes_drew HS.out) hq))); clear HS; have HS := HSn; clear HSn)) | (go_at_call 23; ((with_reducible refine (KHRU.out _).mono ?_); rintro e u ⟨rfl, hq⟩; (first | (have HSn := Lib.hid (boxes_same HS.out hq)) | (have HSn := Lib.hid (boxes_same (boxes_drew HS.out) hq))); clear HS; have HS := HSn; clear HSn)) | (go_at_call 24; ((with_reducible refine (KHE.out _).mono ?_); rintro e u ⟨rfl, hq⟩; (first | (have HSn := Lib.hid (boxes_same HS.out hq)) | (have HSn := Lib.hid (boxes_same (boxes_drew HS.out) hq))); clear HS; have HS := HSn; clear HSn)) | (go_at_call 25; ((with_reducible refine (KHRE.out _).mono ?_); rintro e u ⟨rfl, hq⟩; (first | (have HSn := Lib.hid (boxes_same HS.out hq)) | (have HSn := Lib.hid (boxes_same (boxes_drew HS.out) hq))); clear HS; have HS := HSn; clear HSn))))
    all_goals (go_wp2_with fail; go_ret; exact ⟨rfl, HS.out.2⟩)

theorem DiskTells_walk (d : Dk) (f : Int) (s : ByteArray) (n k : Int) (w : World) (hu : d.used ≤ 562949953421312) (wz : (Lit.int .i64 d.size).wf = true) (wu : (Lit.int .i64 d.fuse).wf = true) (_wf : (Lit.int .i64 f).wf = true) (hs : s.size ≤ 140737488351232) (wn : (Lit.int .i64 n).wf = true) (_wk : (Lit.int .i64 k).wf = true) :
    Calls Try.prog 3 #[d.val, .int .i64 f, .string s, .int .i64 n, .int .i64 k] w fun e w' => e = .returned (.bool true) ∧ Below w.heap.size w w' := by
  have h1 := bounds_i64 wz
  have h2 := bounds_i64 wu
  have h3 := bounds_i64 wn
  exact DiskTells_core d f s n k w hu (by omega) (by omega) (by omega) (by omega)

end Go.Proofs.Ytpghhobbppkggaa
