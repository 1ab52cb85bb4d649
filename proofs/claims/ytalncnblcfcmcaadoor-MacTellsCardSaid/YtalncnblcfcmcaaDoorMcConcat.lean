/- The walk of slices.Concat at caveats. -/
import Derived.Test.YtalncnblcfcmcaaDoorMcLib
import Derived.Test.YtalncnblcfcmcaaDoorOwnB
import Derived.Shelf.Spec.SlicesGrow
import Derived.Laws.AppendOwnNone
import Derived.Handy
namespace Go.Proofs.YtalncnblcfcmcaaDoor
open Go.Shelf Go.RowKit

def lgrow_ren : Go.Shelf.Ren := ⟨fun | 4 => 65 | n => n, fun | 0 => 0 | 3 => 3 | 4 => 4 | 9 => 9 | 20 => 20 | 22 => 22 | 25 => 27 | n => n, fun n => n⟩
theorem lgrow_lays : Lays8.n4 Tryd.prog lgrow_ren := {
  mixed := by kernel_rfl
  f4 := Exists.intro "slices.Grow[[]demesne/mac.Caveat,demesne/mac.Caveat]" ⟨by kernel_rfl, Tryd.func65.trans (congrArg some (by kernel_rfl))⟩
  t0 := Tryd.underlying0
  a0 := Tryd.isAgg0
  z0 := Tryd.sizeOf0
  v0 := Tryd.zeroValue0
  t3 := Tryd.underlying3
  a3 := Tryd.isAgg3
  z3 := Tryd.sizeOf3
  v3 := Tryd.zeroValue3
  t4 := Tryd.underlying4
  a4 := Tryd.isAgg4
  z4 := Tryd.sizeOf4
  v4 := Tryd.zeroValue4
  t9 := Tryd.underlying9
  a9 := Tryd.isAgg9
  z9 := Tryd.sizeOf9
  v9 := Tryd.zeroValue9
  t20 := Tryd.underlying20
  a20 := Tryd.isAgg20
  z20 := Tryd.sizeOf20
  v20 := Tryd.zeroValue20
  t22 := Tryd.underlying22
  a22 := Tryd.isAgg22
  z22 := Tryd.sizeOf22
  v22 := Tryd.zeroValue22
}

theorem Tryd.infoCav : (Tryd.prog.info? 27).map (fun i => (i.zero, i.size, i.bytes)) = some (some (.agg #[.int .i64 0, .int .u64 0]), 2, 16) := by kernel_rfl

/-- caveats as cells -/
def cavCells (l : List Cav) : List Value := l.flatMap Cav.cells
theorem cavCells_len (l : List Cav) : (cavCells l).length = l.length * 2 := by
  induction l with
  | nil => rfl
  | cons c l ih => unfold cavCells at *; simp only [List.flatMap_cons, List.length_append, ih, List.length_cons]; show 2 + _ = _; omega
theorem cavCells_app (a b : List Cav) : cavCells (a ++ b) = cavCells a ++ cavCells b := by unfold cavCells; simp
theorem cavCells_get (l : List Cav) : ∀ j (h : j < l.length), (cavCells l)[j * 2]? = some (.int .i64 l[j].k) ∧ (cavCells l)[j * 2 + 1]? = some (.int .u64 (l[j].n : Int)) := by
  induction l with
  | nil => intro j h; simp at h
  | cons c l ih =>
    intro j h
    have e : cavCells (c :: l) = .int .i64 c.k :: .int .u64 (c.n : Int) :: cavCells l := rfl
    rw [e]
    cases j with
    | zero => exact ⟨rfl, rfl⟩
    | succ j =>
      have h2 := ih j (by simpa using h)
      rw [show (j + 1) * 2 = j * 2 + 1 + 1 by omega]
      exact h2
theorem cavCells_one (l : List Cav) : ∀ u ∈ cavCells l, u.oneCell' = true := by
  intro u hu
  obtain ⟨c, _, hc⟩ := List.mem_flatMap.1 hu
  simp only [Cav.cells, List.mem_cons, List.not_mem_nil, or_false] at hc
  rcases hc with rfl | rfl <;> rfl
theorem cavCells_at {w : World} {b off : Nat} {l : List Cav} (h : ∀ j (h : j < l.length), CavAt w b (off + j * 2) l[j]) (j : Nat) (u : Value) (hj : (cavCells l)[j]? = some u) : w.cell? ((⟨b, off, none⟩ : Addr).add j) = some u := by
  have e : ((⟨b, off, none⟩ : Addr).add j) = ⟨b, off + j, none⟩ := by unfold Addr.add; split <;> simp_all
  rw [e]
  have hlt := (List.getElem?_eq_some_iff.1 hj).1
  rw [cavCells_len] at hlt
  have hc := h (j / 2) (by omega)
  have hg := cavCells_get l (j / 2) (by omega)
  rcases Nat.mod_two_eq_zero_or_one j with hm | hm
  · have ej : j / 2 * 2 = j := by omega
    rw [ej] at hc hg
    rw [hg.1] at hj; cases hj
    exact hc.1
  · have ej : j / 2 * 2 + 1 = j := by omega
    have ej2 : off + j / 2 * 2 + 1 = off + j := by omega
    rw [ej] at hg
    unfold CavAt at hc
    rw [ej2] at hc
    rw [hg.2] at hj; cases hj
    exact hc.2
/-- a row of caveats that a call owns is a slice of them -/
theorem CavsAt.own {w : World} {base : Nat} {v : Value} {l : List Cav} (h : w.ownsRow base 27 2 v l.length (cavCells l)) : CavsAt w v l := by
  rcases h.2 with ⟨rfl, h0⟩ | ⟨g, cap, cur, rfl, hb, hg, _⟩
  · exact .inl ⟨rfl, List.length_eq_zero_iff.1 h0⟩
  · refine .inr (.inr ⟨g, 0, cap, rfl, (Array.getElem?_eq_some_iff.1 hg).1, fun j hj => ?_⟩)
    have hc := cavCells_get l j hj
    exact ⟨by rw [Nat.zero_add, h.cellAt (j * 2) (by omega)]; exact hc.1, by rw [Nat.zero_add, h.cellAt (j * 2 + 1) (by omega)]; exact hc.2⟩

theorem wpList_append_cavs {w : World} {ops : Array Oper} {rest : List Oper} {o : Oper} {a : Act} {Q : Exit → Act → World → Prop} (hgd : o.guard = none) (s x : Operand)
    (ho : o.op = .call { callee := .builtin .append, args := #[s, x], argTypes := #[22, 22] })
    (base : Nat) (v : Value) (k : List Cav) (hs : a.eval s = v) (hown : w.ownsRow base 27 2 v k.length (cavCells k))
    (u : Value) (l : List Cav) (hx : a.eval x = u) (hu : CavsAt w u l) (hn : k.length + l.length ≤ 1000000) (hbase : base ≤ w.heap.size)
    (h : ∀ v' w', w'.ownsRow base 27 2 v' (k ++ l).length (cavCells (k ++ l)) → w.grownBy w' v.ownBlock → wpList Tryd.prog ops Q rest (a.put o.dst v') w') : wpList Tryd.prog ops Q (o :: rest) a w := by
  obtain ⟨i0, hi, hz0, hz1, hz2⟩ := info_parts Tryd.infoCav
  have hz : (Value.agg #[.int .i64 0, .int .u64 0]).cells.size = 2 := rfl
  rcases hu with ⟨rfl, rfl⟩ | ⟨ad, c, rfl, rfl⟩ | ⟨b, off, cap, rfl, hlt, hc⟩
  · refine wpList_append_own_none hgd s x 22 ho base 27 i0 2 Tryd.underlying22 hi v k.length (cavCells k) hs hown hx ?_
    exact h v w (by rw [List.append_nil]; exact hown) (World.grownBy.refl _ _)
  · refine wpList_append_own _ hgd s x 22 ho base 27 i0 _ 2 16 Tryd.underlying22 hi hz0 hz1 hz2 hz (by decide) v k.length (cavCells k) hs hown ad 0 c [] hx rfl (fun j u hj => by cases hj) (fun u hu => by cases hu) (by unfold maxLen; omega) (by omega) hbase ?_
    intro v' w' h1 h2 _
    exact h v' w' (by rw [List.append_nil]; simpa using h1) h2
  · refine wpList_append_own _ hgd s x 22 ho base 27 i0 _ 2 16 Tryd.underlying22 hi hz0 hz1 hz2 hz (by decide) v k.length (cavCells k) hs hown ⟨b, off, none⟩ l.length cap (cavCells l) hx (cavCells_len l) (fun j u hj => cavCells_at hc j u hj) (cavCells_one l) (by unfold maxLen; omega) (by omega) hbase ?_
    intro v' w' h1 h2 _
    exact h v' w' (by rw [List.length_append, cavCells_app]; exact h1) h2

/-- slices.Grow of nothing: a row of one's own -/
theorem grow_any (n : Nat) (w : World) (hn : n ≤ 1000000) :
    Calls Tryd.prog 65 #[.slice none 0 0, .int .i64 (n : Int)] w fun e w' => ∃ v, e = .returned v ∧ w'.ownsRow w.heap.size 27 2 v 0 [] ∧ Below w.heap.size w w' := by
  obtain ⟨i0, hi, hz0, hz1, hz2⟩ := info_parts Tryd.infoCav
  by_cases h0 : n = 0
  · subst h0
    refine (Any8.slices_Grow_room lgrow_lays none 0 0 0 w (by omega) (by omega) (by omega) (by omega)).mono ?_
    rintro e u ⟨rfl, rfl⟩
    exact ⟨_, rfl, World.ownsRow_nil _ _ _ _, Below.refl _ _⟩
  · refine (Any8.slices_Grow_grow lgrow_lays i0 _ hi hz0 (by omega) none 0 0 n [] w (by omega) (by omega) (by rw [hz2]; omega) (by omega) (by simp) (fun _ => rfl) (fun a h => by cases h)).mono ?_
    rintro e u ⟨rfl, rfl⟩
    have hge := grownCap_ge w (0 + n) 0 27
    have hle := grownCap_le_maxLen w (0 + n) 0 27 (by unfold maxLen; omega)
    have hc : (Value.agg #[.int .i64 0, .int .u64 0]).cells.size = 2 := rfl
    have hb : Below w.heap.size w w.drew := (Below.refl _ _).drew
    refine ⟨_, rfl, World.ownsRow_made w.drew _ _ (Nat.le_refl _) hle ?_, hb.alloc (Nat.le_refl _) _⟩
    have he : lgrow_ren.t 25 = 27 := rfl
    rw [he]
    simp only [Array.size_append, size_zeroCells, hc]
    show (0 : Nat) + _ + _ = _
    omega

/-- a slice that lies in blocks made since -/
def Fresh (b : Nat) (v : Value) : Prop := ∀ ad n c, v = .slice (some ad) n c → b ≤ ad.block
theorem Fresh.le {a b : Nat} {v : Value} (h : Fresh b v) (hab : a ≤ b) : Fresh a v := fun ad n c e => Nat.le_trans hab (h ad n c e)
theorem Fresh.nil (b n c : Nat) : Fresh b (.slice none n c) := fun _ _ _ e => by cases e
theorem Fresh.own {w : World} {base : Nat} {v : Value} {l : List Cav} (h : w.ownsRow base 27 2 v l.length (cavCells l)) : Fresh base v := by
  intro ad n c e
  rcases h.2 with ⟨rfl, h0⟩ | ⟨g, cap, cur, rfl, hb, hg, _⟩
  · cases e
  · cases e
    exact hb

set_option maxHeartbeats 4000000 in
theorem Concat_new (v1 v2 : Value) (l1 l2 : List Cav) (bs : Nat) (w : World) (c1 : w.cell? ⟨bs, 0, none⟩ = some v1) (c2 : w.cell? ⟨bs, 1, none⟩ = some v2) (lb : bs < w.heap.size)
    (h1 : CavsAt w v1 l1) (h2 : CavsAt w v2 l2) (hn1 : l1.length ≤ 1000) (hn2 : l2.length ≤ 1000) :
    Calls Tryd.prog 51 #[.slice (some ⟨bs, 0, none⟩) 2 2] w fun e w' => ∃ v, e = .returned v ∧ CavsAt w' v (l1 ++ l2) ∧ Below w.heap.size w w' ∧ Fresh w.heap.size v := by
  obtain ⟨n1, hl1⟩ : ∃ n, l1.length = n := ⟨_, rfl⟩
  obtain ⟨n2, hl2⟩ : ∃ n, l2.length = n := ⟨_, rfl⟩
  have HG := Lib.hid (fun u => grow_any (n1 + n2) u (by omega))
  have H1 := Lib.hid h1
  have H2 := Lib.hid h2
  have C1 := Lib.hid c1
  have C2 := Lib.hid c2
  obtain ⟨a1, p1, e1⟩ := h1.form
  obtain ⟨a2, p2, e2⟩ := h2.form
  rw [hl1] at e1
  rw [hl2] at e2
  subst e1 e2
  have s1 : IntKind.i64.wrap (n1 : Int) = (n1 : Int) := by rw [IntKind.wrap_i64]; omega
  have s2 : IntKind.i64.wrap ((n1 : Int) + (n2 : Int)) = ((n1 + n2 : Nat) : Int) := by rw [IntKind.wrap_i64]; omega
  have s3 : ¬ (n1 : Int) < 0 := by omega
  have s4 : ¬ (((n1 + n2 : Nat) : Int)) < 0 := by omega
  have HL := Lib.hid (⟨hl1, hl2⟩ : _ ∧ _)
  clear h1 h2 hl1 hl2
  go_enter Tryd.func51, Tryd.ntmps51
  go_wp2_with fail
  refine wp_loop_rounds 3 ?_
  repeat (rw [rounds_succ]; go_wp2_with (go_at_call 65; refine (HG.out _).mono ?_; rintro e u ⟨v, rfl, hown, hbu⟩))
  refine wp_loop_rounds 3 ?_
  rw [rounds_succ]
  have d1 := (hbu.cell (p := ⟨bs, 0, none⟩) lb).trans C1.out
  have K1 := Lib.hid (H1.out.below hbu (Nat.le_refl _))
  have HOWN := Lib.hid hown
  have HBU := Lib.hid hbu
  clear c1 c2 hown hbu
  have hlen := HL.out
  go_wp2_with (at_builtin; refine wpList_append_cavs rfl (Operand.tmp 31) (Operand.tmp 32) rfl w.heap.size v [] rfl HOWN.out _ l1 rfl K1.out (by simp; omega) HBU.out.size ?_; intro v' w2 hown2 hg2)
  rw [rounds_succ]
  have hb2 := HBU.out.grown hg2 HBU.out.size (fun j e => (HOWN.out.lt j e).1)
  have d2 := (hb2.cell (p := ⟨bs, 1, none⟩) lb).trans C2.out
  have K2 := Lib.hid (H2.out.below hb2 (Nat.le_refl _))
  have HOWN2 := Lib.hid hown2
  have HB2 := Lib.hid hb2
  clear hown2 hg2 hb2 d1 K1 HOWN HBU
  go_wp2_with (at_builtin; refine wpList_append_cavs rfl (Operand.tmp 31) (Operand.tmp 32) rfl w.heap.size v' ([] ++ l1) rfl HOWN2.out _ l2 rfl K2.out (by simp; omega) HB2.out.size ?_; intro v3 w3 hown3 hg3)
  rw [rounds_succ]
  have hb3 := HB2.out.grown hg3 HB2.out.size (fun j e => (HOWN2.out.lt j e).1)
  have HR := Lib.hid (CavsAt.own hown3)
  have HF := Lib.hid (Fresh.own hown3)
  have HB3 := Lib.hid hb3
  clear hown3 hg3 hb3 d2 K2 HOWN2 HB2
  go_wp2_with fail
  go_ret
  exact ⟨_, rfl, HR.out, HB3.out, HF.out⟩

theorem Concat_any (v1 v2 : Value) (l1 l2 : List Cav) (bs : Nat) (w : World) (c1 : w.cell? ⟨bs, 0, none⟩ = some v1) (c2 : w.cell? ⟨bs, 1, none⟩ = some v2) (lb : bs < w.heap.size)
    (h1 : CavsAt w v1 l1) (h2 : CavsAt w v2 l2) (hn1 : l1.length ≤ 1000) (hn2 : l2.length ≤ 1000) :
    Calls Tryd.prog 51 #[.slice (some ⟨bs, 0, none⟩) 2 2] w fun e w' => ∃ v, e = .returned v ∧ CavsAt w' v (l1 ++ l2) ∧ Below w.heap.size w w' := by
  refine (Concat_new v1 v2 l1 l2 bs w c1 c2 lb h1 h2 hn1 hn2).mono ?_
  rintro e w' ⟨v, h1, h2, h3, _⟩
  exact ⟨v, h1, h2, h3⟩

end Go.Proofs.YtalncnblcfcmcaaDoor
