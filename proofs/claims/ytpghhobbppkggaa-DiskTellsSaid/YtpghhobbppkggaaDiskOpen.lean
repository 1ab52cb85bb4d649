/- Opening a disk that came in by value; how long its texts may be. -/
import Derived.Test.YtpghhobbppkggaaDkWrite
import Derived.ProofKit
import Derived.OpenShut
import Derived.Deep.Slices
import Derived.SizedLaws
namespace Go.Proofs.Ytpghhobbppkggaa
open Go.ChangeShapes Go.WideShapes Go.ChangeAt Go.RowKit Go.Deep

theorem Try.diskStruct : Try.prog.underlying 26 = some (.struct (Try.prog.fieldsOf 26)) := by kernel_rfl
theorem Try.diskFields : (Try.prog.fieldsOf 26).toList.map (fun f => (f.type, f.offset)) = [(3, 0), (24, 1), (4, 5), (3, 6), (3, 7)] := by kernel_rfl
theorem Try.diskCells : Try.prog.cellsOf 26 = 8 := by kernel_rfl
theorem Try.fileStruct : Try.prog.underlying 23 = some (.struct (Try.prog.fieldsOf 23)) := by kernel_rfl
theorem Try.fileFields : (Try.prog.fieldsOf 23).toList.map (fun f => (f.type, f.offset)) = [(9, 0), (9, 1)] := by kernel_rfl
theorem Try.fileCells : Try.prog.cellsOf 23 = 2 := by kernel_rfl
theorem Try.filesArray : Try.prog.underlying 24 = some (.array 2 23) := by kernel_rfl

theorem field_of {fs : Array Field} {l : List (Nat × Nat)} (hl : fs.toList.map (fun f => (f.type, f.offset)) = l) (j : Nat) (t o : Nat) (h : l[j]? = some (t, o)) : ∃ f, fs[j]? = some f ∧ f.type = t ∧ f.offset = o := by
  rw [← hl, List.getElem?_map] at h
  cases hf : fs.toList[j]? with
  | none => rw [hf] at h; cases h
  | some f =>
    rw [hf] at h
    simp only [Option.map_some, Option.some.injEq, Prod.mk.injEq] at h
    exact ⟨f, by simpa using hf, h.1, h.2⟩

/-- a file, as a datum -/
def fileD {H : Type} (h s : ByteArray) : DataW H := .agg [.lit (.string h.data.toList), .lit (.string s.data.toList)]
/-- a disk, as a datum -/
def diskD {H : Type} (d : Dk) : DataW H := .agg [.lit (.int .i64 d.size), .agg [fileD d.h0 d.s0, fileD d.h1 d.s1], .lit (.bool d.down), .lit (.int .i64 d.fuse), .lit (.int .i64 d.keep)]

section
variable {H : Type} {enc : TypeId × Value → H} {w : World} {base : Nat} {spare : Nat → Bool} {held : Bool}

theorem file_cells {n : Nat} {cs : List Value} {x : DataW H × List MemPlace} (h : DataW.trod enc Try.prog w base spare held n 23 cs = some x) :
    ∃ h s : ByteArray, cs = [.string h, .string s] ∧ x.1 = fileD h s := by
  obtain ⟨xs, n', _, hx, hlen, hxl, hg⟩ := DataW.trod_struct Try.fileStruct h
  rw [Try.fileCells] at hlen
  have hsz : (Try.prog.fieldsOf 23).size = 2 := by
    have := congrArg List.length Try.fileFields
    simpa using this
  rw [hsz] at hxl
  match cs, hlen, xs, hxl with
  | [c0, c1], _, [y0, y1], _ =>
    obtain ⟨f0, e0, t0, o0⟩ := field_of Try.fileFields 0 _ _ rfl
    obtain ⟨f1, e1, t1, o1⟩ := field_of Try.fileFields 1 _ _ rfl
    have g0 := hg 0 f0 e0
    have g1 := hg 1 f1 e1
    rw [t0, o0, show Try.prog.cellsOf 9 = 1 from by kernel_rfl] at g0
    rw [t1, o1, show Try.prog.cellsOf 9 = 1 from by kernel_rfl] at g1
    simp at g0 g1
    obtain ⟨a, ha, rfl, _⟩ := DataW.trod_string (by kernel_rfl) g0
    obtain ⟨b, hb, rfl, _⟩ := DataW.trod_string (by kernel_rfl) g1
    cases ha; cases hb
    exact ⟨a, b, rfl, by rw [hx]; rfl⟩

theorem disk_open {W : World} {v : Value} {d : DataW H} {p : List MemPlace} (hv : Value.okWide Try.prog W .any base 26 v)
    (h : DataW.Trod enc Try.prog W 0 (fun _ => true) true 26 v d p) :
    ∃ D : Dk, v = D.val ∧ d = diskD D ∧ (Lit.int .i64 D.size).wf = true ∧ (Lit.int .i64 D.fuse).wf = true ∧ (Lit.int .i64 D.keep).wf = true := by
  obtain ⟨cs, rfl, hcs⟩ := okWide_struct Try.diskStruct hv
  rw [Try.diskCells] at hcs
  obtain ⟨fuel, hf⟩ := h
  obtain ⟨xs, n', _, hx, hlen, hxl, hg⟩ := DataW.trod_struct Try.diskStruct hf
  have hsz : (Try.prog.fieldsOf 26).size = 5 := by
    have := congrArg List.length Try.diskFields
    simpa using this
  rw [hsz] at hxl
  obtain ⟨l⟩ := cs
  simp [Value.cells] at hcs hf hg
  match l, hcs, xs, hxl with
  | [c0, c1, c2, c3, c4, c5, c6, c7], _, [y0, y1, y2, y3, y4], _ =>
    obtain ⟨f0, e0, t0, o0⟩ := field_of Try.diskFields 0 _ _ rfl
    obtain ⟨f1, e1, t1, o1⟩ := field_of Try.diskFields 1 _ _ rfl
    obtain ⟨f2, e2, t2, o2⟩ := field_of Try.diskFields 2 _ _ rfl
    obtain ⟨f3, e3, t3, o3⟩ := field_of Try.diskFields 3 _ _ rfl
    obtain ⟨f4, e4, t4, o4⟩ := field_of Try.diskFields 4 _ _ rfl
    have g0 := hg 0 f0 e0
    have g1 := hg 1 f1 e1
    have g2 := hg 2 f2 e2
    have g3 := hg 3 f3 e3
    have g4 := hg 4 f4 e4
    rw [t0, o0, show Try.prog.cellsOf 3 = 1 from by kernel_rfl] at g0
    rw [t1, o1, show Try.prog.cellsOf 24 = 4 from by kernel_rfl] at g1
    rw [t2, o2, show Try.prog.cellsOf 4 = 1 from by kernel_rfl] at g2
    rw [t3, o3, show Try.prog.cellsOf 3 = 1 from by kernel_rfl] at g3
    rw [t4, o4, show Try.prog.cellsOf 3 = 1 from by kernel_rfl] at g4
    simp at g0 g1 g2 g3 g4
    obtain ⟨sz, hs, rfl, ws⟩ := DataW.trod_int (k := .i64) (by kernel_rfl) g0
    obtain ⟨dn, hd, rfl⟩ := DataW.trod_bool (by kernel_rfl) g2
    obtain ⟨fu, hfu, rfl, wf⟩ := DataW.trod_int (k := .i64) (by kernel_rfl) g3
    obtain ⟨kp, hk, rfl, wk⟩ := DataW.trod_int (k := .i64) (by kernel_rfl) g4
    obtain ⟨zs, m, _, hz, _, hzl, hzg⟩ := DataW.trod_array Try.filesArray g1
    rw [Try.fileCells] at hzg
    match zs, hzl with
    | [z0, z1], _ =>
      have k0 := hzg 0 (by omega)
      have k1 := hzg 1 (by omega)
      simp at k0 k1
      obtain ⟨h0, s0, e0', d0⟩ := file_cells k0
      obtain ⟨h1, s1, e1', d1⟩ := file_cells k1
      cases hs; cases hd; cases hfu; cases hk; cases e0'; cases e1'
      refine ⟨⟨sz, h0, s0, h1, s1, dn, fu, kp⟩, rfl, ?_, ws, wf, wk⟩
      have hx1 : d = _ := (Prod.mk.inj hx).1
      rw [hx1, hz]
      simp only [List.map_cons, List.map_nil, d0, d1]
      rfl

end

theorem disk_sized {H : Type} {ts : List TypeId} {ds : List (DataW H)} {D : Dk} (h : (DataW.weightsEach Try.prog ts ds).all (· ≤ reachBytes) = true) (j : Nat) (ht : ts[j]? = some 26) (hd : ds[j]? = some (diskD D)) :
    D.used ≤ 562949953421312 := by
  have key : ∀ b : ByteArray, (b = D.h0 ∨ b = D.s0 ∨ b = D.h1 ∨ b = D.s1) → b.size ≤ 140737488355328 := by
    intro b hb
    have hm : b.data.toList.length ∈ (diskD D : DataW H).weights Try.prog 26 := by
      unfold diskD
      simp only [DataW.weights, Try.diskStruct]
      have e : (Try.prog.fieldsOf 26).toList.map (fun f => f.type) = [3, 24, 4, 3, 3] := by
        have := congrArg (List.map Prod.fst) Try.diskFields
        rw [List.map_map] at this
        exact this
      rw [e]
      unfold fileD
      simp [DataW.weightsEach, DataW.weightsAll, DataW.weights]
      rcases hb with rfl | rfl | rfl | rfl <;> simp
    have := List.all_eq_true.1 h _ (DataW.weights_mem_each ht hd _ hm)
    have e : b.data.toList.length = b.size := by simp
    rw [e] at this
    have := of_decide_eq_true this
    unfold reachBytes at this
    omega
  have a0 := key D.h0 (.inl rfl)
  have a1 := key D.s0 (.inr (.inl rfl))
  have a2 := key D.h1 (.inr (.inr (.inl rfl)))
  have a3 := key D.s1 (.inr (.inr (.inr rfl)))
  unfold Dk.used
  omega

end Go.Proofs.Ytpghhobbppkggaa
