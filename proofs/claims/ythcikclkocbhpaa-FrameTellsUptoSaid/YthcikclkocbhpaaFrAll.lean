/- The walk of frame.All. -/
import Derived.Test.YthcikclkocbhpaaFrRecs
import Derived.Deep.Onto
import Derived.RegionIn
namespace Go.Proofs.Ythcikclkocbhpaa
open Go.RowKit Go.Shelf

attribute [local go_sem] Oper.semAt_some

theorem Try.infoStr : (Try.prog.info? 9).map (fun i => (i.zero, i.size, i.bytes)) = some (some (.string ⟨#[]⟩), 1, 16) := by kernel_rfl

/-- a text as a value -/
def strOf (l : List UInt8) : Value := .string ⟨l.toArray⟩
/-- where the last of some records ends -/
def endOf (l : List (List UInt8 × Nat)) : Nat := match l.getLast? with
  | none => 0
  | some x => x.2

set_option maxRecDepth 100000 in
set_option maxHeartbeats 2000000 in
theorem All_in (s : ByteArray) (hs : s.size ≤ maxLen) (hbytes : (Fr.all s.data.toList 0).length * 16 ≤ 140737488355328) (w : World) :
    CallsIn Fence.wide 2 Try.prog 13 #[.string s] w fun e W' => ∃ v, e = .returned (.tuple #[v, .int .i64 (endOf (Fr.all s.data.toList 0) : Nat)]) ∧ W'.ownsRow w.heap.size 9 1 v (Fr.all s.data.toList 0).length ((Fr.all s.data.toList 0).map fun x => strOf x.1) ∧ Below w.heap.size w W' := by
  obtain ⟨i0, hi, hz0, hz1, hz2⟩ := info_parts Try.infoStr
  refine callsIn_of_wp_marks Try.func13 rfl trivial ?_ rfl
  simp only [Try.ntmps13, List.size_toArray, List.length_cons, List.length_nil, Nat.reduceAdd, Nat.reduceSub, Array.replicate_succ, Array.replicate_zero, List.push_toArray, List.append_toArray, List.nil_append, List.cons_append]
  gi_wp2_with (refine ⟨trivial, ?_⟩; gi_at_call 22; refine (callsIn_wide.2 (records_in _ _)).mono ?_; rintro e w1 ⟨rfl, rfl⟩)
  have bO := Boxed.new w 22 (.slice none 0 0)
  have bE := Boxed.new (w.alloc (.cells #[.slice none 0 0] 22)) 3 (.int .i64 0)
  have bN := Boxed.new ((w.alloc (.cells #[.slice none 0 0] 22)).alloc (.cells #[.int .i64 0] 3)) 9 (.string s)
  rw [World.size_alloc] at bE
  rw [World.size_alloc, World.size_alloc] at bN
  have hB0 : Below w.heap.size w (((w.alloc (.cells #[.slice none 0 0] 22)).alloc (.cells #[.int .i64 0] 3)).alloc (.cells #[.string s] 9)) := (((Below.refl _ w).alloc (Nat.le_refl _) _).alloc (by simp) _).alloc (by simp; omega) _
  refine wpIn_rangeFunc_ownG rfl (by omega) (gf := 26) (lb := #[.pointer (some ⟨w.heap.size + 1 + 1, 0, none⟩)]) rfl trivial (enters_of Try.func26 (by kernel_rfl) rfl)
    (recs_stops (w.heap.size + 1 + 1) s hs _ bN) (fun h k => k.trans h) (fun W l o o' h1 h2 h3 h4 => World.putObj_heap_other (fun e => by simp at h1; omega)) (Below.refl _ _) (fun _ => rfl)
    (fun pre W => (((∃ v, Boxed W w.heap.size 22 v ∧ W.ownsRow (w.heap.size + 1 + 1 + 1) 9 1 v pre.length (pre.map fun x => strOf x.1) ∧ True) ∧ Boxed W (w.heap.size + 1) 3 (.int .i64 (endOf pre : Nat))) ∧ Boxed W (w.heap.size + 1 + 1) 9 (.string s)) ∧ Below w.heap.size w W)
    (fun _ _ _ => False)
    (OwnFrom.and (OwnFrom.and (OwnFrom.and (Own.from (holdsRow_own (w.heap.size + 1 + 1 + 1) w.heap.size 22 9 1 (fun pre : List (List UInt8 × Nat) => pre.length) (fun pre => pre.map fun x => strOf x.1) (fun _ _ => True)) _) (Own.from (boxed_own _ _ _) _)) (Own.from (boxed_own _ _ (fun _ => .string s)) _)) (ownFrom_below (Nat.le_refl _) (by simp; omega)))
    (fun _ _ _ _ _ hs _ _ => hs)
    ⟨⟨⟨⟨_, (bO.alloc _).alloc _, World.ownsRow_nil _ _ _ _, trivial⟩, bE.alloc _⟩, bN⟩, hB0⟩
    (fun x => { tmps := #[.string s, undef, .pointer (some ⟨w.heap.size, 0, none⟩), .pointer (some ⟨w.heap.size + 1, 0, none⟩), .string ⟨x.1.toArray⟩, .int .i64 (x.2 : Int), .string s, .func (.func 26) #[] #[.pointer (some ⟨w.heap.size + 1 + 1, 0, none⟩)], .string ⟨x.1.toArray⟩, .int .i64 (x.2 : Int), undef, undef, undef, undef, undef, undef, undef], defers := [] }) ?assign ?body ?done ?stop
  case assign =>
    intro l x W K hK
    dsimp only [recVals]
    gi_wp2
    exact hK
  case body =>
    rintro l pre x W ⟨⟨⟨⟨v, hv, hrow, -⟩, hE⟩, hS⟩, hB⟩ hlt
    have hc := hv.cell
    have hcE := hE.cell
    have hfE := hE.frozen
    have hlen : pre.length < (Fr.all s.data.toList 0).length := hlt
    have hsz := hB.size
    have hszS := hS.lt
    have hblk := hrow.lt
    have HBLK := Lib.hid hblk; clear hblk
    gi_wp2_with (gi_at_builtin; refine wpListIn_append_own _ rfl _ _ 22 rfl (w.heap.size + 1 + 1 + 1) 9 i0 (.string ⟨#[]⟩) 1 16 Try.underlying22 hi hz0 hz1 hz2 rfl (by decide) _ _ _ rfl (hrow.alloc _) ⟨W.heap.size, 0, none⟩ 1 1 [.string ⟨x.1.toArray⟩] rfl rfl (cell_one_new _ _ _) (by simp [Value.oneCell']) (by unfold maxLen; omega) (by omega) (by simp; omega) ?_; intro v' w1 hown' hgrow _; obtain ⟨g', cap', rfl⟩ := ownsRow_succ hown'; obtain ⟨hv1, hv2, hr2, hk2, hb2⟩ := hv.appended (by decide) (hrow.mono (by omega)) hB.size (Nat.le_refl _) (hown'.mono (by omega)) hgrow; have hr3 := hown'.kept (grownBy_setCell' w1 w.heap.size (.slice (some ⟨g', 0, none⟩) (pre.length + 1) cap')) (.inr (hv1.not_row (by decide) hown').symm); have hc1 := hv1.cell; have hf1 := hv1.frozen; have hE2 := ((hE.alloc (.cells #[.string ⟨x.1.toArray⟩] 9)).kept hgrow (hE.not_row (by decide) hrow)).other (show w.heap.size + 1 ≠ w.heap.size by omega) (.slice (some ⟨g', 0, none⟩) (pre.length + 1) cap'); have hS2 := ((hS.alloc (.cells #[.string ⟨x.1.toArray⟩] 9)).kept hgrow (fun e => by have := (HBLK.out _ e.symm).1; omega)).other (show w.heap.size + 1 + 1 ≠ w.heap.size by omega) (.slice (some ⟨g', 0, none⟩) (pre.length + 1) cap'); have hcE2 := hE2.cell; have hfE2 := hE2.frozen; have HGR := Lib.hid hgrow; clear hgrow)
    have hS3 := hS2.other (show w.heap.size + 1 + 1 ≠ w.heap.size + 1 by omega) (.int .i64 (x.2 : Int))
    have hr4 := hr3.kept (grownBy_setCell' _ (w.heap.size + 1) (.int .i64 (x.2 : Int))) (.inr (hE2.not_row (by decide) hr3).symm)
    refine ⟨((hk2.trans (KeepsOthers.setCell _ _ _)).from _), hS3.trans hS.symm, ⟨⟨⟨_, hv2.other (show w.heap.size ≠ w.heap.size + 1 by omega) _, ?_, trivial⟩, ?_⟩, hS3⟩, hB.trans (hb2.setCell (p := ⟨w.heap.size + 1, 0, none⟩) (by simp) _)⟩
    · simpa [strOf] using hr4
    · have := hE2.set (.int .i64 (x.2 : Int))
      simpa [endOf] using this
  case done =>
    rintro D ys W hD rfl ⟨⟨⟨⟨v, hv, hrow, -⟩, hE⟩, hS⟩, hB⟩ hK
    have hc := hv.cell
    have hcE := hE.cell
    have hfE := hE.frozen
    have hf := hv.frozen
    obtain ⟨a, n, c, rfl⟩ : ∃ a n c, v = .slice a n c := by
      rcases hrow.2 with ⟨rfl, _⟩ | ⟨g, cap, _, rfl, _⟩
      · exact ⟨_, _, _, rfl⟩
      · exact ⟨_, _, _, rfl⟩
    gi_wp2
    gi_region
    have hv2 := (hv.set (.slice a n c)).other (show w.heap.size ≠ w.heap.size + 1 by omega) (.int .i64 (endOf (Fr.all s.data.toList 0) : Nat))
    have hE2 := (hE.other (show w.heap.size + 1 ≠ w.heap.size by omega) (.slice a n c)).set (.int .i64 (endOf (Fr.all s.data.toList 0) : Nat))
    have hr2 := (hrow.kept (grownBy_setCell' W w.heap.size (.slice a n c)) (.inr (hv.not_row (by decide) hrow).symm)).kept (grownBy_setCell' _ (w.heap.size + 1) (.int .i64 (endOf (Fr.all s.data.toList 0) : Nat))) (.inr ((hE.other (show w.heap.size + 1 ≠ w.heap.size by omega) (.slice a n c)).not_row (by decide) (hrow.kept (grownBy_setCell' W w.heap.size (.slice a n c)) (.inr (hv.not_row (by decide) hrow).symm))).symm)
    have hK2 := ((KeepsOthers.setCell W ⟨w.heap.size, 0, none⟩ (.slice a n c)).trans (KeepsOthers.setCell _ ⟨w.heap.size + 1, 0, none⟩ (.int .i64 (endOf (Fr.all s.data.toList 0) : Nat)))).same D _ hK rfl
    have hB2 := (hB.setCell (p := ⟨w.heap.size, 0, none⟩) (Nat.le_refl _) (.slice a n c)).setCell (p := ⟨w.heap.size + 1, 0, none⟩) (by simp) (.int .i64 (endOf (Fr.all s.data.toList 0) : Nat))
    clear hv hE hrow hB hc hcE hfE hf hK
    generalize (W.setCell ⟨w.heap.size, 0, none⟩ (.slice a n c)).setCell ⟨w.heap.size + 1, 0, none⟩ (.int .i64 (endOf (Fr.all s.data.toList 0) : Nat)) = W2 at *
    gi_wp2
    refine ⟨by simp, .inl ⟨_, _, rfl, run_takeDeferred (w := W2.drew) hK2, ?_⟩⟩
    have hDlt : w.heap.size + 1 + 1 + 1 ≤ D := by simpa using hD
    have hv3 : Boxed (W2.drew.putObj D (.deferred none)) w.heap.size 22 (.slice a n c) := (show Boxed W2.drew _ _ _ from hv2).kept (grownBy_putObj' _ D _) (fun e => by cases e; omega)
    have hE3 : Boxed (W2.drew.putObj D (.deferred none)) (w.heap.size + 1) 3 (.int .i64 (endOf (Fr.all s.data.toList 0) : Nat)) := (show Boxed W2.drew _ _ _ from hE2).kept (grownBy_putObj' _ D _) (fun e => by cases e; omega)
    have hr3 := ownsRow_putObj (W := W2.drew) (hr2.mono (show w.heap.size ≤ w.heap.size + 1 + 1 + 1 by omega)).drew (.deferred none) hK2 rfl
    have hB3 := (hB2.drew).trans (belowK_b (w := w) (Nat.le_refl _) W2.drew D _ (.deferred none) (by omega) hK2 rfl rfl)
    clear hv2 hE2 hr2 hK2 hB2
    generalize W2.drew.putObj D (.deferred none) = W3 at *
    have hcv := hv3.cell
    have hce := hE3.cell
    refine ⟨.tuple #[.slice a n c, .int .i64 (endOf (Fr.all s.data.toList 0) : Nat)], ?_, _, rfl, hr3, hB3⟩
    simp [results, Try.results13, go_sem, hcv, hce]
  case stop =>
    rintro D c pre W _ _ h _
    exact h.elim

end Go.Proofs.Ythcikclkocbhpaa
