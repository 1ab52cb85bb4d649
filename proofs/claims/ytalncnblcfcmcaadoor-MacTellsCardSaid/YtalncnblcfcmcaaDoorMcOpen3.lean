/- Opening a token that came in, with what it reads as, and how much its slice may hold. -/
import Derived.Test.YtalncnblcfcmcaaDoorMcOpen
namespace Go.Proofs.YtalncnblcfcmcaaDoor
open Go.ChangeShapes Go.WideShapes Go.ChangeAt Go.RowKit Go.Deep
set_option maxRecDepth 100000

section
variable {H : Type} {enc : TypeId × Value → H} {w : World} {base : Nat} {spare : Nat → Bool} {held : Bool}

theorem tok_open2 {W : World} {b0 : Nat} {v : Value} {d : DataW H} {p : List MemPlace} (hv : Value.okWide Tryd.prog W .any b0 24 v) (h : DataW.Trod enc Tryd.prog w base spare held 24 v d p) :
    ∃ (t : ByteArray) (u : Value) (s : ByteArray) (l : List Cav), v = tokv t u s ∧ t.size ≤ maxLen ∧ s.size ≤ maxLen ∧ CavsAt w u l ∧ (∀ c ∈ l, c.n < 18446744073709551616) ∧ l.length ≤ maxLen ∧ ∃ d1, d = .agg [.lit (.string t.data.toList), d1, .lit (.string s.data.toList)] := by
  obtain ⟨cs, rfl, hcs⟩ := okWide_struct Tryd.tokStruct hv
  obtain ⟨fuel, hf⟩ := h
  obtain ⟨xs, n', _, hx, hlen, hxl, hg⟩ := DataW.trod_struct Tryd.tokStruct hf
  rw [Tryd.tokCells] at hcs
  have hsz : (Tryd.prog.fieldsOf 24).size = 3 := by
    have := congrArg List.length Tryd.tokFields
    simpa using this
  rw [hsz] at hxl
  obtain ⟨l⟩ := cs
  simp [Value.cells] at hcs hf hg
  match l, hcs, xs, hxl with
  | [c0, c1, c2], _, [y0, y1, y2], _ =>
    obtain ⟨f0, e0, t0, o0⟩ := field_at Tryd.tokFields 0 _ _ rfl
    obtain ⟨f1, e1, t1, o1⟩ := field_at Tryd.tokFields 1 _ _ rfl
    obtain ⟨f2, e2, t2, o2⟩ := field_at Tryd.tokFields 2 _ _ rfl
    have g0 := hg 0 f0 e0
    have g1 := hg 1 f1 e1
    have g2 := hg 2 f2 e2
    rw [t0, o0, show Tryd.prog.cellsOf 9 = 1 from by kernel_rfl] at g0
    rw [t1, o1, show Tryd.prog.cellsOf 22 = 1 from by kernel_rfl] at g1
    rw [t2, o2, show Tryd.prog.cellsOf 9 = 1 from by kernel_rfl] at g2
    simp at g0 g1 g2
    obtain ⟨t, ht, rfl, zt⟩ := DataW.trod_string (by kernel_rfl) g0
    obtain ⟨s, hs, rfl, zs⟩ := DataW.trod_string (by kernel_rfl) g2
    obtain ⟨k, hk, hok, hl, _⟩ := cavs_trod g1
    cases ht; cases hs
    refine ⟨t, c1, s, k, rfl, zt, zs, hk, hok, hl, y1.1, ?_⟩
    have hx1 : d = _ := (Prod.mk.inj hx).1
    rw [hx1]
    rfl

end

theorem tok_sized {H : Type} {ts : List TypeId} {ds : List (DataW H)} {t s : ByteArray} {d1 : DataW H} (h : (DataW.weightsEach Tryd.prog ts ds).all (· ≤ reachBytes) = true) (j : Nat) (ht : ts[j]? = some 24) (hd : ds[j]? = some (.agg [.lit (.string t.data.toList), d1, .lit (.string s.data.toList)])) :
    t.size ≤ 140737488351232 ∧ s.size ≤ 140737488351232 := by
  have key : ∀ b : ByteArray, (b = t ∨ b = s) → b.size ≤ 140737488351232 := by
    intro b hb
    have hm : b.data.toList.length ∈ (.agg [.lit (.string t.data.toList), d1, .lit (.string s.data.toList)] : DataW H).weights Tryd.prog 24 := by
      simp only [DataW.weights, Tryd.tokStruct]
      have e : (Tryd.prog.fieldsOf 24).toList.map (fun f => f.type) = [9, 22, 9] := by
        have := congrArg (List.map Prod.fst) Tryd.tokFields
        rw [List.map_map] at this
        exact this
      rw [e]
      simp [DataW.weightsEach, DataW.weights]
      rcases hb with rfl | rfl <;> simp
    have := List.all_eq_true.1 h _ (DataW.weights_mem_each ht hd _ hm)
    have e : b.data.toList.length = b.size := by simp
    rw [e] at this
    have := of_decide_eq_true this
    unfold reachBytes at this
    omega
  exact ⟨key t (.inl rfl), key s (.inr rfl)⟩

end Go.Proofs.YtalncnblcfcmcaaDoor

namespace Go.Proofs.YtalncnblcfcmcaaDoor
open Go.ChangeShapes Go.WideShapes Go.ChangeAt Go.RowKit Go.Deep
set_option maxRecDepth 100000

section
variable {H : Type} {enc : TypeId × Value → H} {w : World} {base : Nat} {spare : Nat → Bool} {held : Bool}

theorem tok_open3 {W : World} {b0 : Nat} {v : Value} {d : DataW H} {p : List MemPlace} (hv : Value.okWide Tryd.prog W .any b0 24 v) (h : DataW.Trod enc Tryd.prog w base spare held 24 v d p) :
    ∃ (t : ByteArray) (u : Value) (s : ByteArray) (l : List Cav), v = tokv t u s ∧ t.size ≤ maxLen ∧ s.size ≤ maxLen ∧ CavsAt w u l ∧ (∀ c ∈ l, c.n < 18446744073709551616) ∧ l.length ≤ maxLen ∧ (∃ d1, d = .agg [.lit (.string t.data.toList), d1, .lit (.string s.data.toList)]) ∧ ∀ a n c, u = .slice a n c → n ≤ c ∧ c ≤ maxLen := by
  obtain ⟨cs, rfl, hcs⟩ := okWide_struct Tryd.tokStruct hv
  obtain ⟨fuel, hf⟩ := h
  obtain ⟨xs, n', _, hx, hlen, hxl, hg⟩ := DataW.trod_struct Tryd.tokStruct hf
  rw [Tryd.tokCells] at hcs
  have hsz : (Tryd.prog.fieldsOf 24).size = 3 := by
    have := congrArg List.length Tryd.tokFields
    simpa using this
  rw [hsz] at hxl
  obtain ⟨l⟩ := cs
  simp [Value.cells] at hcs hf hg
  match l, hcs, xs, hxl with
  | [c0, c1, c2], _, [y0, y1, y2], _ =>
    obtain ⟨f0, e0, t0, o0⟩ := field_at Tryd.tokFields 0 _ _ rfl
    obtain ⟨f1, e1, t1, o1⟩ := field_at Tryd.tokFields 1 _ _ rfl
    obtain ⟨f2, e2, t2, o2⟩ := field_at Tryd.tokFields 2 _ _ rfl
    have g0 := hg 0 f0 e0
    have g1 := hg 1 f1 e1
    have g2 := hg 2 f2 e2
    rw [t0, o0, show Tryd.prog.cellsOf 9 = 1 from by kernel_rfl] at g0
    rw [t1, o1, show Tryd.prog.cellsOf 22 = 1 from by kernel_rfl] at g1
    rw [t2, o2, show Tryd.prog.cellsOf 9 = 1 from by kernel_rfl] at g2
    simp at g0 g1 g2
    obtain ⟨t, ht, rfl, zt⟩ := DataW.trod_string (by kernel_rfl) g0
    obtain ⟨s, hs, rfl, zs⟩ := DataW.trod_string (by kernel_rfl) g2
    obtain ⟨k, hk, hok, hl, _, hcap⟩ := cavs_trod g1
    cases ht; cases hs
    refine ⟨t, c1, s, k, rfl, zt, zs, hk, hok, hl, ⟨y1.1, ?_⟩, hcap⟩
    have hx1 : d = _ := (Prod.mk.inj hx).1
    rw [hx1]
    rfl

end
end Go.Proofs.YtalncnblcfcmcaaDoor
