/- The four tables, out of what a row lists; and a world that holds them. -/
import Derived.Test.YtalncnblcfcmcaaDoorMcOpen
namespace Go.Proofs.YtalncnblcfcmcaaDoor
open Go.RowKit

theorem tabIs_of_reads {P : Program} {W : World} {name : String} {k : IntKind} {zs : List Int} {g : Nat} {t e : TypeId} {n : Nat}
    (hg : P.globalNamed name = some g) (hty : (P.globals[g]?).map (·.type) = some t) (ht : P.underlying t = some (.array n e)) (he : P.underlying e = some (.int k)) (hce : P.cellsOf e = 1) (hct : P.cellsOf t = n)
    (h : Lib.VarReads P W name (Lib.tabData k zs)) : Lib.TabIs P W name k zs := by
  obtain ⟨g', t', cs, fuel, p, hg', ht', hvar, hd⟩ := h
  obtain rfl := Option.some.inj (hg.symm.trans hg')
  obtain rfl := Option.some.inj (hty.symm.trans ht')
  unfold Lib.TabIs
  rw [hvar, ← Lib.cells_of_tab ht he hce hct hd]

def startL : List Int := [1779033703, 3144134277, 1013904242, 2773480762, 1359893119, 2600822924, 528734635, 1541459225]
def roundsL : List Int := Sh.K.map fun n => ((n : Nat) : Int)
theorem gStart : Tryd.prog.globalNamed "demesne/sha.start" = some 0 := by kernel_rfl
theorem gRounds : Tryd.prog.globalNamed "demesne/sha.rounds" = some 3 := by kernel_rfl
theorem gLetters : Tryd.prog.globalNamed "demesne/word.letters" = some 1 := by kernel_rfl
theorem gMarks : Tryd.prog.globalNamed "demesne/word.marks" = some 2 := by kernel_rfl
theorem startIs {W : World} (h : Lib.VarReads Tryd.prog W "demesne/sha.start" (Lib.tabData .u32 startL)) : Lib.TabIs Tryd.prog W "demesne/sha.start" .u32 startL :=
  tabIs_of_reads gStart (by kernel_rfl : (Tryd.prog.globals[0]?).map (·.type) = some 78) Tryd.underlying78 Tryd.underlying77 (by kernel_rfl) (by kernel_rfl) h
theorem roundsIs {W : World} (h : Lib.VarReads Tryd.prog W "demesne/sha.rounds" (Lib.tabData .u32 roundsL)) : Lib.TabIs Tryd.prog W "demesne/sha.rounds" .u32 roundsL :=
  tabIs_of_reads gRounds (by kernel_rfl : (Tryd.prog.globals[3]?).map (·.type) = some 96) Tryd.underlying96 Tryd.underlying77 (by kernel_rfl) (by kernel_rfl) h
theorem lt_of_cell {W : World} {g i : Nat} {v : Value} (h : W.cell? ⟨g, i, none⟩ = some v) : g < W.heap.size := by
  apply Decidable.byContradiction
  intro hn
  unfold World.cell? at h
  rw [Array.getElem?_eq_none (by show W.heap.size ≤ g; omega)] at h
  cases h
theorem roundsLen : roundsL.length = 64 := by kernel_rfl
/-- what a row of this chapter lists -/
def laidL : List (String × DataW Unit) := [("demesne/sha.start", Lib.tabData .u32 startL), ("demesne/sha.rounds", Lib.tabData .u32 roundsL), ("demesne/word.letters", spanD Wd.letters), ("demesne/word.marks", spanD Wd.marks)]
theorem laid_of {W : World} (h : laidMet Tryd.prog laidL W) : LaidM W := by
  have hs := startIs (Lib.laidMet.reads h (.head _))
  have hr := roundsIs (Lib.laidMet.reads h (.tail _ (.head _)))
  have hl := spans_of gLetters (by kernel_rfl : (Tryd.prog.globals[1]?).map (·.type) = some 89) Tryd.underlying89 rfl (Lib.laidMet.reads h (.tail _ (.tail _ (.head _))))
  have hm := spans_of gMarks (by kernel_rfl : (Tryd.prog.globals[2]?).map (·.type) = some 90) Tryd.underlying90 rfl (Lib.laidMet.reads h (.tail _ (.tail _ (.tail _ (.head _)))))
  have cs : ∀ i, i < 8 → W.cell? ⟨0, i, none⟩ = some (.int .u32 (startL.getD i 0)) := fun i hi => hs.cell gStart i hi
  have cr : ∀ i, i < 64 → W.cell? ⟨3, i, none⟩ = some (.int .u32 (roundsL.getD i 0)) := fun i hi => hr.cell gRounds i (by rw [roundsLen]; exact hi)
  refine ⟨⟨fun i hi => ?_, cs 0 (by decide), cs 1 (by decide), cs 2 (by decide), cs 3 (by decide), cs 4 (by decide), cs 5 (by decide), cs 6 (by decide), cs 7 (by decide), lt_of_cell (cr 0 (by decide)), lt_of_cell (cs 0 (by decide))⟩, hl, hm, lt_of_cell (hl 0 (by decide)).1, lt_of_cell (hm 0 (by decide)).1⟩
  rw [cr i hi]
  congr 2
  unfold roundsL
  rw [List.getD_eq_getElem?_getD, List.getD_eq_getElem?_getD, List.getElem?_map]
  cases Sh.K[i]? <;> rfl

theorem wf_u8 {n : Int} (h : (Lit.int .u8 n).wf = true) : 0 ≤ n ∧ n ≤ 255 := by
  simp only [Lit.wf, Bool.and_eq_true, decide_eq_true_eq] at h
  exact ⟨h.1, h.2⟩
theorem wf_u64 {n : Int} (h : (Lit.int .u64 n).wf = true) : 0 ≤ n ∧ n ≤ 18446744073709551615 := by
  simp only [Lit.wf, Bool.and_eq_true, decide_eq_true_eq] at h
  exact ⟨h.1, h.2⟩

/-- a block's cells are these -/
def layCells (l : List Value) (o : Obj) : Obj := match o with
  | .cells _ t frozen => .cells l.toArray t frozen
  | o => o
/-- a world that holds the tables -/
noncomputable def laidWorld (os : Os) : World :=
  { World.holding Tryd.prog os ⟨#[], #[], []⟩ with heap := ((((World.holding Tryd.prog os ⟨#[], #[], []⟩).heap.modify 0 (layCells (startL.map (Value.int .u32)))).modify 3 (layCells (roundsL.map (Value.int .u32)))).modify 1 (layCells (Wd.letters.flatMap Spn.cells))).modify 2 (layCells (Wd.marks.flatMap Spn.cells)) }

end Go.Proofs.YtalncnblcfcmcaaDoor
