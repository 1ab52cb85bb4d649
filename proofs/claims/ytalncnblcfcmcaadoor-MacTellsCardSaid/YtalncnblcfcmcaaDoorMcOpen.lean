/- Opening caveats, slices of caveats, tokens that came in; the four tables, out of what a row lists. -/
import Derived.Test.YtalncnblcfcmcaaDoorMcPut
import Derived.ProofKit
import Derived.OpenShut
import Derived.Deep.Slices
import Derived.SizedLaws
import Derived.Lib.LaidTab
import Derived.Lib.LaidU8
namespace Go.Proofs.YtalncnblcfcmcaaDoor
open Go.ChangeShapes Go.WideShapes Go.ChangeAt Go.RowKit Go.Deep
set_option maxRecDepth 100000

theorem Tryd.cavStruct : Tryd.prog.underlying 27 = some (.struct (Tryd.prog.fieldsOf 27)) := by kernel_rfl
theorem Tryd.cavFields : (Tryd.prog.fieldsOf 27).toList.map (fun f => (f.type, f.offset)) = [(3, 0), (25, 1)] := by kernel_rfl
theorem Tryd.cavCells2 : Tryd.prog.cellsOf 27 = 2 := by kernel_rfl
theorem Tryd.tokStruct : Tryd.prog.underlying 24 = some (.struct (Tryd.prog.fieldsOf 24)) := by kernel_rfl
theorem Tryd.tokFields : (Tryd.prog.fieldsOf 24).toList.map (fun f => (f.type, f.offset)) = [(9, 0), (22, 1), (9, 2)] := by kernel_rfl
theorem Tryd.tokCells : Tryd.prog.cellsOf 24 = 3 := by kernel_rfl
theorem Tryd.spanStruct : Tryd.prog.underlying 88 = some (.struct (Tryd.prog.fieldsOf 88)) := by kernel_rfl
theorem Tryd.spanFields : (Tryd.prog.fieldsOf 88).toList.map (fun f => (f.type, f.offset)) = [(21, 0), (21, 1)] := by kernel_rfl
theorem Tryd.spanCells : Tryd.prog.cellsOf 88 = 2 := by kernel_rfl

theorem field_at {fs : Array Field} {l : List (Nat × Nat)} (hl : fs.toList.map (fun f => (f.type, f.offset)) = l) (j : Nat) (t o : Nat) (h : l[j]? = some (t, o)) : ∃ f, fs[j]? = some f ∧ f.type = t ∧ f.offset = o := by
  rw [← hl, List.getElem?_map] at h
  cases hf : fs.toList[j]? with
  | none => rw [hf] at h; cases h
  | some f =>
    rw [hf] at h
    simp only [Option.map_some, Option.some.injEq, Prod.mk.injEq] at h
    exact ⟨f, by simpa using hf, h.1, h.2⟩

section
variable {H : Type} {enc : TypeId × Value → H} {w : World} {base : Nat} {spare : Nat → Bool} {held : Bool}

theorem cav_cells {n : Nat} {cs : List Value} {x : DataW H × List MemPlace} (h : DataW.trod enc Tryd.prog w base spare held n 27 cs = some x) :
    ∃ (k m : Int), cs = [.int .i64 k, .int .u64 m] ∧ (Lit.int .i64 k).wf = true ∧ (Lit.int .u64 m).wf = true := by
  obtain ⟨xs, n', _, hx, hlen, hxl, hg⟩ := DataW.trod_struct Tryd.cavStruct h
  rw [Tryd.cavCells2] at hlen
  have hsz : (Tryd.prog.fieldsOf 27).size = 2 := by
    have := congrArg List.length Tryd.cavFields
    simpa using this
  rw [hsz] at hxl
  match cs, hlen, xs, hxl with
  | [c0, c1], _, [y0, y1], _ =>
    obtain ⟨f0, e0, t0, o0⟩ := field_at Tryd.cavFields 0 _ _ rfl
    obtain ⟨f1, e1, t1, o1⟩ := field_at Tryd.cavFields 1 _ _ rfl
    have g0 := hg 0 f0 e0
    have g1 := hg 1 f1 e1
    rw [t0, o0, show Tryd.prog.cellsOf 3 = 1 from by kernel_rfl] at g0
    rw [t1, o1, show Tryd.prog.cellsOf 25 = 1 from by kernel_rfl] at g1
    simp at g0 g1
    obtain ⟨k, hk, rfl, wk⟩ := DataW.trod_int (k := .i64) (by kernel_rfl) g0
    obtain ⟨m, hm, rfl, wm⟩ := DataW.trod_int (k := .u64) (by kernel_rfl) g1
    cases hk; cases hm
    exact ⟨k, m, rfl, wk, wm⟩

theorem span_cells {n : Nat} {cs : List Value} {x : DataW H × List MemPlace} (h : DataW.trod enc Tryd.prog w base spare held n 88 cs = some x) :
    ∃ (a b : Int), cs = [.int .i32 a, .int .i32 b] ∧ x.1 = .agg [.lit (.int .i32 a), .lit (.int .i32 b)] := by
  obtain ⟨xs, n', _, hx, hlen, hxl, hg⟩ := DataW.trod_struct Tryd.spanStruct h
  rw [Tryd.spanCells] at hlen
  have hsz : (Tryd.prog.fieldsOf 88).size = 2 := by
    have := congrArg List.length Tryd.spanFields
    simpa using this
  rw [hsz] at hxl
  match cs, hlen, xs, hxl with
  | [c0, c1], _, [y0, y1], _ =>
    obtain ⟨f0, e0, t0, o0⟩ := field_at Tryd.spanFields 0 _ _ rfl
    obtain ⟨f1, e1, t1, o1⟩ := field_at Tryd.spanFields 1 _ _ rfl
    have g0 := hg 0 f0 e0
    have g1 := hg 1 f1 e1
    rw [t0, o0, show Tryd.prog.cellsOf 21 = 1 from by kernel_rfl] at g0
    rw [t1, o1, show Tryd.prog.cellsOf 21 = 1 from by kernel_rfl] at g1
    simp at g0 g1
    obtain ⟨k, hk, rfl, wk⟩ := DataW.trod_int (k := .i32) (by kernel_rfl) g0
    obtain ⟨m, hm, rfl, wm⟩ := DataW.trod_int (k := .i32) (by kernel_rfl) g1
    cases hk; cases hm
    exact ⟨k, m, rfl, by rw [hx]; rfl⟩

theorem cavs_trod {n : Nat} {v : Value} {x : DataW H × List MemPlace} (h : DataW.trod enc Tryd.prog w base spare held n 22 [v] = some x) :
    ∃ l : List Cav, CavsAt w v l ∧ (∀ c ∈ l, c.n < 18446744073709551616) ∧ l.length ≤ maxLen ∧ (∀ c ∈ l, -9223372036854775808 ≤ c.k ∧ c.k ≤ 9223372036854775807) ∧ ∀ a n c, v = .slice a n c → n ≤ c ∧ c ≤ maxLen := by
  rcases open_slice Tryd.underlying22 h with ⟨hcs, hx⟩ | ⟨a, len, cap, m, n', D, Pl, hcs, _, hl, hm, hmm, hx, hi⟩
  · cases hcs
    exact ⟨[], .inl ⟨rfl, rfl⟩, by simp, by simp, by simp, fun a n c e => by cases e; exact ⟨by omega, by omega⟩⟩
  · cases hcs
    have hmc : len ≤ m := by rw [hmm]; split <;> omega
    have key : ∀ i, i < len → ∃ c : Cav, c.n < 18446744073709551616 ∧ (-9223372036854775808 ≤ c.k ∧ c.k ≤ 9223372036854775807) ∧ w.cell? (a.add (i * 2)) = some (.int .i64 c.k) ∧ w.cell? ((a.add (i * 2)).add 1) = some (.int .u64 (c.n : Int)) := by
      intro i hin
      obtain ⟨cs', hc, ht⟩ := hi i (by omega)
      rw [Tryd.cavCells2] at hc
      obtain ⟨_, hcl, hat⟩ := World.cells?_some hc
      obtain ⟨k, q, rfl, wk, wq⟩ := cav_cells ht
      have b1 := bounds_i64 wk
      have b2 := bounds_u64 wq
      obtain ⟨q, rfl⟩ := Int.eq_ofNat_of_zero_le b2.1
      have h0 := hat 0 (by omega)
      have h1 := hat 1 (by omega)
      refine ⟨⟨k, q⟩, by show q < _; have := b2.2; omega, b1, ?_, ?_⟩
      · have e : (a.add (i * 2)).add 0 = a.add (i * 2) := by rw [Go.Deep.add_add]; rfl
        rw [e] at h0; simpa using h0
      · simpa using h1
    obtain ⟨A, hA⟩ := choose_lt key
    have hll : ((List.range len).map A).length = len := by simp
    refine ⟨(List.range len).map A, ?_, ?_, by rw [hll]; omega, ?_, fun a n c e => by cases e; exact ⟨hl, hm⟩⟩
    · by_cases h0 : len = 0
      · subst h0
        exact .inr (.inl ⟨_, _, rfl, rfl⟩)
      · obtain ⟨b, off, spot⟩ := a
        have hc0 := (hA 0 (by omega)).2.2.1
        have hspot : spot = none := by simpa [Addr.add] using World.cell?_spot hc0
        subst hspot
        have e : ∀ i, (⟨b, off, none⟩ : Addr).add i = ⟨b, off + i, none⟩ := fun i => by unfold Addr.add; split <;> simp_all
        have hlt : b < w.heap.size := by
          rw [e] at hc0
          apply Decidable.byContradiction
          intro hn
          unfold World.cell? at hc0
          rw [Array.getElem?_eq_none (by show w.heap.size ≤ b; omega)] at hc0
          cases hc0
        refine .inr (.inr ⟨b, off, cap, by rw [hll], hlt, fun j hj => ?_⟩)
        have hj' : j < len := by omega
        have h1 := hA j hj'
        rw [Go.Deep.add_add, e, e] at h1
        have ej : ((List.range len).map A)[j] = A j := by simp
        rw [ej]
        exact ⟨h1.2.2.1, h1.2.2.2⟩
    · intro c hc
      obtain ⟨i, hi', rfl⟩ := List.mem_map.1 hc
      exact (hA i (List.mem_range.1 hi')).1
    · intro c hc
      obtain ⟨i, hi', rfl⟩ := List.mem_map.1 hc
      exact (hA i (List.mem_range.1 hi')).2.1

theorem cavs_open {v : Value} {d : DataW H} {p : List MemPlace} (h : DataW.Trod enc Tryd.prog w base spare held 22 v d p) (hv : ∃ a n c, v = .slice a n c) :
    ∃ l : List Cav, CavsAt w v l ∧ (∀ c ∈ l, c.n < 18446744073709551616) ∧ l.length ≤ maxLen := by
  obtain ⟨a, n, c, rfl⟩ := hv
  obtain ⟨fuel, hf⟩ := h
  obtain ⟨l, h1, h2, h3, _⟩ := cavs_trod (v := .slice a n c) (by simpa [Value.cells] using hf)
  exact ⟨l, h1, h2, h3⟩

theorem cavs_open2 {v : Value} {d : DataW H} {p : List MemPlace} (h : DataW.Trod enc Tryd.prog w base spare held 22 v d p) (hv : ∃ a n c, v = .slice a n c) :
    ∃ l : List Cav, CavsAt w v l ∧ (∀ c ∈ l, c.n < 18446744073709551616) ∧ l.length ≤ maxLen ∧ ∀ a n c, v = .slice a n c → n ≤ c ∧ c ≤ maxLen := by
  obtain ⟨a, n, c, rfl⟩ := hv
  obtain ⟨fuel, hf⟩ := h
  obtain ⟨l, h1, h2, h3, _, h5⟩ := cavs_trod (v := .slice a n c) (by simpa [Value.cells] using hf)
  exact ⟨l, h1, h2, h3, h5⟩

theorem cav_open {W : World} {b0 : Nat} {v : Value} {d : DataW H} {p : List MemPlace} (hv : Value.okWide Tryd.prog W .any b0 27 v) (h : DataW.Trod enc Tryd.prog w base spare held 27 v d p) :
    ∃ c : Cav, v = c.val ∧ c.n < 18446744073709551616 := by
  obtain ⟨cs, rfl, hcs⟩ := okWide_struct Tryd.cavStruct hv
  obtain ⟨fuel, hf⟩ := h
  obtain ⟨cs⟩ := cs
  simp only [Value.cells] at hf
  obtain ⟨k, m, hc, wk, wm⟩ := cav_cells hf
  have b2 := bounds_u64 wm
  obtain ⟨m, rfl⟩ := Int.eq_ofNat_of_zero_le b2.1
  refine ⟨⟨k, m⟩, ?_, by show m < _; have := b2.2; omega⟩
  rw [hc]; rfl

theorem tok_open {W : World} {b0 : Nat} {v : Value} {d : DataW H} {p : List MemPlace} (hv : Value.okWide Tryd.prog W .any b0 24 v) (h : DataW.Trod enc Tryd.prog w base spare held 24 v d p) :
    ∃ (t : ByteArray) (u : Value) (s : ByteArray) (l : List Cav), v = tokv t u s ∧ t.size ≤ maxLen ∧ s.size ≤ maxLen ∧ CavsAt w u l ∧ (∀ c ∈ l, c.n < 18446744073709551616) ∧ l.length ≤ maxLen := by
  obtain ⟨cs, rfl, hcs⟩ := okWide_struct Tryd.tokStruct hv
  obtain ⟨fuel, hf⟩ := h
  obtain ⟨xs, n', _, hx, hlen, hxl, hg⟩ := DataW.trod_struct Tryd.tokStruct hf
  rw [Tryd.tokCells] at hcs
  have hsz : (Tryd.prog.fieldsOf 24).size = 3 := by
    have := congrArg List.length Tryd.tokFields
    simpa using this
  rw [hsz] at hxl
  obtain ⟨l⟩ := cs
  simp [Value.cells] at hcs hf hg
  match l, hcs, xs, hxl with
  | [c0, c1, c2], _, [y0, y1, y2], _ =>
    obtain ⟨f0, e0, t0, o0⟩ := field_at Tryd.tokFields 0 _ _ rfl
    obtain ⟨f1, e1, t1, o1⟩ := field_at Tryd.tokFields 1 _ _ rfl
    obtain ⟨f2, e2, t2, o2⟩ := field_at Tryd.tokFields 2 _ _ rfl
    have g0 := hg 0 f0 e0
    have g1 := hg 1 f1 e1
    have g2 := hg 2 f2 e2
    rw [t0, o0, show Tryd.prog.cellsOf 9 = 1 from by kernel_rfl] at g0
    rw [t1, o1, show Tryd.prog.cellsOf 22 = 1 from by kernel_rfl] at g1
    rw [t2, o2, show Tryd.prog.cellsOf 9 = 1 from by kernel_rfl] at g2
    simp at g0 g1 g2
    obtain ⟨t, ht, rfl, zt⟩ := DataW.trod_string (by kernel_rfl) g0
    obtain ⟨s, hs, rfl, zs⟩ := DataW.trod_string (by kernel_rfl) g2
    obtain ⟨k, hk, hok, hl, _⟩ := cavs_trod g1
    cases ht; cases hs
    exact ⟨t, c1, s, k, rfl, zt, zs, hk, hok, hl⟩

end

/-- the spans of a table, as a datum -/
def spanD {H : Type} (l : List Spn) : DataW H := .agg (l.map fun x => .agg [.lit (.int .i32 x.lo), .lit (.int .i32 x.hi)])
theorem spans_of {W : World} {name : String} {l : List Spn} {g n : Nat} {t : TypeId} (hg : Tryd.prog.globalNamed name = some g) (hty : (Tryd.prog.globals[g]?).map (·.type) = some t) (ht : Tryd.prog.underlying t = some (.array n 88)) (hl : l.length = n)
    (h : Lib.VarReads Tryd.prog W name (spanD l)) : SpansAt W g l := by
  obtain ⟨g', t', cs, fuel, p, hg', ht', hvar, hd⟩ := h
  obtain rfl := Option.some.inj (hg.symm.trans hg')
  obtain rfl := Option.some.inj (hty.symm.trans ht')
  obtain ⟨xs, m, _, hx, _, hxl, hxi⟩ := DataW.trod_array ht hd
  intro j hj
  have hj' : j < n := by omega
  have hi := hxi j hj'
  rw [Tryd.spanCells, List.getElem?_eq_getElem (by omega)] at hi
  obtain ⟨a, b, hc, hd1⟩ := span_cells hi
  have hmap := (Prod.mk.inj hx).1
  unfold spanD at hmap
  injection hmap with hmap
  have hj2 := congrArg (fun z => z[j]?) hmap
  simp only [List.getElem?_map, List.getElem?_eq_getElem hj, List.getElem?_eq_getElem (show j < xs.length by omega), Option.map_some, Option.some.injEq] at hj2
  rw [hd1] at hj2
  simp at hj2
  have c0 := World.var?_cell hg hvar (j * 2)
  have c1 := World.var?_cell hg hvar (j * 2 + 1)
  have k0 := congrArg (fun z => z[0]?) hc
  have k1 := congrArg (fun z => z[1]?) hc
  simp [List.getElem?_drop] at k0 k1
  rw [c0, c1, k0, k1, hj2.1, hj2.2]
  exact ⟨rfl, rfl⟩

end Go.Proofs.YtalncnblcfcmcaaDoor
