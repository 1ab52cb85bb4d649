/- Opening a slice of acts that came in: the acts, in their ranges; how long their texts may be. -/
import Derived.Test.YtpghhobbppkggaaDkRun
import Derived.ProofKit
import Derived.Deep.Slices
import Derived.SizedLaws
namespace Go.Proofs.Ytpghhobbppkggaa
open Go.ChangeShapes Go.WideShapes Go.ChangeAt Go.RowKit Go.Deep

theorem Try.actStruct : Try.prog.underlying 71 = some (.struct (Try.prog.fieldsOf 71)) := by kernel_rfl
theorem Try.actFields : (Try.prog.fieldsOf 71).toList.map (fun f => (f.type, f.offset)) = [(5, 0), (5, 1), (9, 2), (3, 3)] := by kernel_rfl
theorem Try.actCells : Try.prog.cellsOf 71 = 4 := by kernel_rfl

section
variable {H : Type} {enc : TypeId × Value → H} {w : World} {base : Nat} {spare : Nat → Bool} {held : Bool}

theorem act_field (j : Nat) (t o : Nat) (h : [(5, 0), (5, 1), (9, 2), (3, 3)][j]? = some (t, o)) : ∃ f, (Try.prog.fieldsOf 71)[j]? = some f ∧ f.type = t ∧ f.offset = o := by
  rw [← Try.actFields, List.getElem?_map] at h
  cases hf : (Try.prog.fieldsOf 71).toList[j]? with
  | none => rw [hf] at h; cases h
  | some f =>
    rw [hf] at h
    simp only [Option.map_some, Option.some.injEq, Prod.mk.injEq] at h
    exact ⟨f, by simpa using hf, h.1, h.2⟩

theorem act_cells {n : Nat} {cs : List Value} {x : DataW H × List MemPlace} (h : DataW.trod enc Try.prog w base spare held n 71 cs = some x) :
    ∃ (k f : Int) (s : ByteArray) (m : Int), cs = [.int .u8 k, .int .u8 f, .string s, .int .i64 m] ∧ x.1 = .agg [.lit (.int .u8 k), .lit (.int .u8 f), .lit (.string s.data.toList), .lit (.int .i64 m)] ∧
      (Lit.int .u8 k).wf = true ∧ (Lit.int .u8 f).wf = true ∧ s.size ≤ maxLen ∧ (Lit.int .i64 m).wf = true := by
  obtain ⟨xs, n', _, hx, hlen, hxl, hg⟩ := DataW.trod_struct Try.actStruct h
  rw [Try.actCells] at hlen
  have hsz : (Try.prog.fieldsOf 71).size = 4 := by
    have := congrArg List.length Try.actFields
    simpa using this
  rw [hsz] at hxl
  match cs, hlen, xs, hxl with
  | [c0, c1, c2, c3], _, [y0, y1, y2, y3], _ =>
    obtain ⟨f0, e0, t0, o0⟩ := act_field 0 _ _ rfl
    obtain ⟨f1, e1, t1, o1⟩ := act_field 1 _ _ rfl
    obtain ⟨f2, e2, t2, o2⟩ := act_field 2 _ _ rfl
    obtain ⟨f3, e3, t3, o3⟩ := act_field 3 _ _ rfl
    have g0 := hg 0 f0 e0
    have g1 := hg 1 f1 e1
    have g2 := hg 2 f2 e2
    have g3 := hg 3 f3 e3
    rw [t0, o0, show Try.prog.cellsOf 5 = 1 from by kernel_rfl] at g0
    rw [t1, o1, show Try.prog.cellsOf 5 = 1 from by kernel_rfl] at g1
    rw [t2, o2, show Try.prog.cellsOf 9 = 1 from by kernel_rfl] at g2
    rw [t3, o3, show Try.prog.cellsOf 3 = 1 from by kernel_rfl] at g3
    simp at g0 g1 g2 g3
    obtain ⟨k, hk, rfl, wk⟩ := DataW.trod_int (k := .u8) (by kernel_rfl) g0
    obtain ⟨f, hf, rfl, wf⟩ := DataW.trod_int (k := .u8) (by kernel_rfl) g1
    obtain ⟨s, hs, rfl, ws⟩ := DataW.trod_string (by kernel_rfl) g2
    obtain ⟨m, hm, rfl, wm⟩ := DataW.trod_int (k := .i64) (by kernel_rfl) g3
    cases hk; cases hf; cases hs; cases hm
    exact ⟨k, f, s, m, rfl, by rw [hx]; rfl, wk, wf, ws, wm⟩

end

instance : Inhabited Ac := ⟨⟨0, 0, ⟨#[]⟩, 0⟩⟩

/-- an act, as a datum -/
def actD {H : Type} (a : Ac) : DataW H := .agg [.lit (.int .u8 (a.kind : Int)), .lit (.int .u8 (a.f : Int)), .lit (.string a.s.data.toList), .lit (.int .i64 a.n)]

theorem acts_open {H : Type} {enc : TypeId × Value → H} {W : World} {v : Value} {d : DataW H} {p : List MemPlace}
    (h : DataW.Trod enc Try.prog W 0 (fun _ => true) true 55 v d p) (hv : ∃ a n c, v = .slice a n c) :
    ∃ l : List Ac, ActsAt W v l ∧ (∀ a ∈ l, a.kind < 256 ∧ a.f < 256 ∧ a.n < 9223372036854775808) ∧ (l = [] ∨ ∃ sp, d = .slice (l.map actD) sp) := by
  obtain ⟨a, n, c, rfl⟩ := hv
  obtain ⟨fuel, hf⟩ := h
  rcases open_slice Try.underlying55 hf with ⟨hcs, hx⟩ | ⟨x, len, cap, m, n', D, Pl, hcs, _, hl, hm, hmm, hx, hi⟩
  · simp [Value.cells] at hcs
    obtain ⟨rfl, rfl, rfl⟩ := hcs
    exact ⟨[], .inl ⟨none, 0, rfl, rfl⟩, by simp, .inl rfl⟩
  · simp [Value.cells] at hcs
    obtain ⟨rfl, rfl, rfl⟩ := hcs
    have hmc : m = c := by simpa using hmm
    have key : ∀ i, i < n → ∃ ac : Ac, D i = actD ac ∧ ac.kind < 256 ∧ ac.f < 256 ∧ ac.n < 9223372036854775808 ∧ W.cell? (x.add (i * 4)) = some (.int .u8 (ac.kind : Int)) ∧ W.cell? ((x.add (i * 4)).add 1) = some (.int .u8 (ac.f : Int)) ∧ W.cell? ((x.add (i * 4)).add 2) = some (.string ac.s) ∧ W.cell? ((x.add (i * 4)).add 3) = some (.int .i64 ac.n) := by
      intro i hin
      obtain ⟨cs', hc, ht⟩ := hi i (by omega)
      rw [Try.actCells] at hc
      obtain ⟨_, hcl, hat⟩ := World.cells?_some hc
      obtain ⟨k, f, s, q, rfl, hD, wk, wf, _, wq⟩ := act_cells ht
      have b1 := bounds_u8 wk
      have b2 := bounds_u8 wf
      have b3 := bounds_i64 wq
      obtain ⟨k, rfl⟩ := Int.eq_ofNat_of_zero_le b1.1
      obtain ⟨f, rfl⟩ := Int.eq_ofNat_of_zero_le b2.1
      have h0 := hat 0 (by omega)
      have h1 := hat 1 (by omega)
      have h2 := hat 2 (by omega)
      have h3 := hat 3 (by omega)
      refine ⟨⟨k, f, s, q⟩, hD, by show k < 256; have := b1.2; omega, by show f < 256; have := b2.2; omega, by show q < _; have := b3.2; omega, ?_, ?_, ?_, ?_⟩
      · have e : (x.add (i * 4)).add 0 = x.add (i * 4) := by rw [Go.Deep.add_add]; rfl
        rw [e] at h0; simpa using h0
      · simpa using h1
      · simpa using h2
      · simpa using h3
    obtain ⟨A, hA⟩ := choose_lt key
    have hll : ((List.range n).map A).length = n := by simp
    refine ⟨(List.range n).map A, ?_, ?_, .inr ⟨((List.range (m - n)).map fun j => D (n + j)), ?_⟩⟩
    · by_cases h0 : n = 0
      · subst h0
        exact .inl ⟨_, _, rfl, rfl⟩
      · obtain ⟨b, off, spot⟩ := x
        have hc0 := (hA 0 (by omega)).2.2.2.2.1
        have hspot : spot = none := by simpa [Addr.add] using World.cell?_spot hc0
        subst hspot
        refine .inr ⟨b, off, c, by rw [hll], fun j hj => ?_⟩
        have hj' : j < n := by omega
        have := hA j hj'
        have e : ∀ i, (⟨b, off, none⟩ : Addr).add i = ⟨b, off + i, none⟩ := fun i => by unfold Addr.add; split <;> simp_all
        rw [Go.Deep.add_add, Go.Deep.add_add, Go.Deep.add_add, e, e, e, e] at this
        have ej : ((List.range n).map A)[j] = A j := by simp
        rw [ej]
        exact ⟨this.2.2.2.2.1, this.2.2.2.2.2.1, this.2.2.2.2.2.2.1, this.2.2.2.2.2.2.2⟩
    · intro a ha
      obtain ⟨i, hi', rfl⟩ := List.mem_map.1 ha
      have := hA i (List.mem_range.1 hi')
      exact ⟨this.2.1, this.2.2.1, this.2.2.2.1⟩
    · have hx1 : d = .slice ((List.range n).map D) ((List.range (m - n)).map fun j => D (n + j)) := (Prod.mk.inj hx).1
      rw [hx1]
      congr 1
      rw [List.map_map]
      exact List.map_congr_left fun i hi' => (hA i (List.mem_range.1 hi')).1

theorem weights_mem_all {H : Type} {P : Program} {e : TypeId} {d : DataW H} {n : Nat} : ∀ {ds : List (DataW H)}, d ∈ ds → n ∈ d.weights P e → n ∈ DataW.weightsAll P e ds
  | [], h, _ => by cases h
  | x :: r, h, hn => by
    simp only [DataW.weightsAll, List.mem_append]
    rcases List.mem_cons.1 h with rfl | h
    · exact .inl hn
    · exact .inr (weights_mem_all h hn)

theorem acts_sized {H : Type} {ts : List TypeId} {ds : List (DataW H)} {d : DataW H} {l : List Ac} (h : (DataW.weightsEach Try.prog ts ds).all (· ≤ reachBytes) = true) (j : Nat) (ht : ts[j]? = some 55) (hd : ds[j]? = some d)
    (hr : ∀ a ∈ l, a.kind < 256 ∧ a.f < 256 ∧ a.n < 9223372036854775808) (hl : l = [] ∨ ∃ sp, d = .slice (l.map actD) sp) :
    l.length ≤ 140737488355328 ∧ ∀ a ∈ l, a.ok := by
  rcases hl with rfl | ⟨sp, rfl⟩
  · exact ⟨by simp, by simp⟩
  · refine ⟨?_, fun a ha => ⟨(hr a ha).1, (hr a ha).2.1, ?_, (hr a ha).2.2⟩⟩
    · have := sized_slice h ht hd Try.underlying55
      rw [show Try.prog.bytesOf 71 = 32 from by kernel_rfl] at this
      simp only [List.length_map, reachBytes] at this
      omega
    · have hm : a.s.data.toList.length ∈ (DataW.slice (l.map actD) sp : DataW H).weights Try.prog 55 := by
        simp only [DataW.weights, Try.underlying55]
        refine List.mem_cons_of_mem _ (List.mem_append.2 (.inl ?_))
        refine weights_mem_all (List.mem_map.2 ⟨a, ha, rfl⟩) ?_
        unfold actD
        simp only [DataW.weights, Try.actStruct]
        have e : (Try.prog.fieldsOf 71).toList.map (fun f => f.type) = [5, 5, 9, 3] := by
          have := congrArg (List.map Prod.fst) Try.actFields
          rw [List.map_map] at this
          exact this
        rw [e]
        simp [DataW.weightsEach, DataW.weights]
      have := List.all_eq_true.1 h _ (DataW.weights_mem_each ht hd _ hm)
      have e : a.s.data.toList.length = a.s.size := by simp
      rw [e] at this
      have := of_decide_eq_true this
      unfold reachBytes at this
      omega

end Go.Proofs.Ytpghhobbppkggaa
