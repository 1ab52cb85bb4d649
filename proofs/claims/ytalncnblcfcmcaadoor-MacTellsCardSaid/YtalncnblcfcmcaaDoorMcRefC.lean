/- The walk of the document's own Narrow. -/
import Derived.Test.YtalncnblcfcmcaaDoorMcRefB
import Derived.Maps.AppendAt
import Derived.Deep.AppendLies
import Derived.BigRegion
namespace Go.Proofs.YtalncnblcfcmcaaDoor
open Go.RowKit

theorem Tryd.infoRCav : (Tryd.prog.info? 41).map (fun i => (i.zero, i.size, i.bytes)) = some (some (.agg #[.int .i64 0, .int .u64 0]), 2, 16) := by kernel_rfl

theorem CavsAt.ownR {w : World} {base : Nat} {v : Value} {l : List Cav} (h : w.ownsRow base 41 2 v l.length (cavCells l)) : CavsAt w v l := by
  rcases h.2 with ⟨rfl, h0⟩ | ⟨g, cap, cur, rfl, hb, hg, _⟩
  · exact .inl ⟨rfl, List.length_eq_zero_iff.1 h0⟩
  · refine .inr (.inr ⟨g, 0, cap, rfl, (Array.getElem?_eq_some_iff.1 hg).1, fun j hj => ?_⟩)
    have hc := cavCells_get l j hj
    exact ⟨by rw [Nat.zero_add, h.cellAt (j * 2) (by omega)]; exact hc.1, by rw [Nat.zero_add, h.cellAt (j * 2 + 1) (by omega)]; exact hc.2⟩

theorem run_append_rcavs {w : World} (base : Nat) (ty : TypeId) (v : Value) (k : List Cav) (hown : w.ownsRow base 41 2 v k.length (cavCells k)) (u : Value) (l : List Cav) (hu : CavsAt w u l) (hn : k.length + l.length ≤ 1000000) (hbase : base ≤ w.heap.size) :
    ∃ v' w', (Builtin.append_ #[29, 29] ty #[v, u]).run Tryd.prog w = .ok v' w' ∧ w'.ownsRow base 41 2 v' (k ++ l).length (cavCells (k ++ l)) ∧ w.grownBy w' v.ownBlock := by
  obtain ⟨i0, hi, hz0, hz1, hz2⟩ := info_parts Tryd.infoRCav
  have hz : (Value.agg #[.int .i64 0, .int .u64 0]).cells.size = 2 := rfl
  rcases hu with ⟨rfl, rfl⟩ | ⟨ad, c, rfl, rfl⟩ | ⟨b, off, cap, rfl, hlt, hc⟩
  · refine ⟨v, w, run_append_owned_none (P := Tryd.prog) (w := w) base 29 ty 41 i0 2 Tryd.underlying29 hi v k.length (cavCells k) hown, ?_, World.grownBy.refl _ _⟩
    rw [List.append_nil]; exact hown
  · obtain ⟨v', w', h1, h2, h3, _, _⟩ := run_append_own_at (P := Tryd.prog) w base 29 ty 41 i0 _ 2 16 Tryd.underlying29 hi hz0 hz1 hz2 hz (by decide) v k.length (cavCells k) hown ad 0 c [] rfl (fun j u hj => by cases hj) (fun u hu => by cases hu) (by unfold maxLen; omega) (by omega) hbase
    exact ⟨v', w', h1, by rw [List.append_nil]; simpa using h2, h3⟩
  · obtain ⟨v', w', h1, h2, h3, _, _⟩ := run_append_own_at (P := Tryd.prog) w base 29 ty 41 i0 _ 2 16 Tryd.underlying29 hi hz0 hz1 hz2 hz (by decide) v k.length (cavCells k) hown ⟨b, off, none⟩ l.length cap (cavCells l) (cavCells_len l) (fun j u hj => cavCells_at hc j u hj) (cavCells_one l) (by unfold maxLen; omega) (by omega) hbase
    exact ⟨v', w', h1, by rw [List.length_append, cavCells_app]; exact h2, h3⟩

theorem step_append_rcavs {w : World} {ops : Array Oper} {o : Oper} {a : Act} {K : Act → World → Prop} {Q : Exit → Act → World → Prop} {E : Prop} (hgd : o.guard = none) (s x : Operand)
    (ho : o.op = .call { callee := .builtin .append, args := #[s, x], argTypes := #[29, 29] })
    (base : Nat) (v : Value) (k : List Cav) (hs : a.eval s = v) (hown : w.ownsRow base 41 2 v k.length (cavCells k))
    (u : Value) (l : List Cav) (hx : a.eval x = u) (hu : CavsAt w u l) (hn : k.length + l.length ≤ 1000000) (hbase : base ≤ w.heap.size)
    (h : ∀ v' w', w'.ownsRow base 41 2 v' (k ++ l).length (cavCells (k ++ l)) → w.grownBy w' v.ownBlock → K (a.put o.dst v') w') :
    if Region.wanted o (yielded ops a.tmps) = true then Oper.wp Tryd.prog o a w K Q else E := by
  have hw : Region.wanted o (yielded ops a.tmps) = true := by simp [Region.wanted, hgd]
  rw [if_pos hw]
  obtain ⟨v', w', hrun, h2, h3⟩ := run_append_rcavs base o.type v k hown u l hu hn hbase
  unfold Oper.wp
  simp [execOp, ho, resolve, invoke, builtin, hs, hx, hrun, Result.andThen]
  exact h _ _ h2 h3

theorem CavsAt.oneR (x : World) (k : Int) (n : Nat) : CavsAt (x.alloc (.cells #[.int .i64 k, .int .u64 (n : Int)] 41)) (.slice (some ⟨x.heap.size, 0, none⟩) 1 1) [⟨k, n⟩] := by
  refine .inr (.inr ⟨x.heap.size, 0, 1, rfl, by simp, fun j hj => ?_⟩)
  obtain rfl : j = 0 := by simpa using hj
  exact ⟨by rw [World.cell?_alloc_mark]; rfl, by rw [World.cell?_alloc_mark]; rfl⟩

/-- the variables of the document's Narrow -/
structure Rn (w x : World) (t : ByteArray) (v : Value) (sig : ByteArray) (k : List Cav) (ck : Int) (cn : Nat) : Prop where
  r0 : Row x w.heap.size [.string t, v, .string sig]
  r1 : Row x (w.heap.size + 1) [.int .i64 ck, .int .u64 (cn : Int)]
  r2 : Row x (w.heap.size + 1 + 1) [.string ⟨#[]⟩, .slice none 0 0, .string ⟨#[]⟩]
  cv : CavsAt x v k
  b : Below w.heap.size w x
  lt : w.heap.size + 2 < x.heap.size
theorem Rn.drew {w x : World} {t : ByteArray} {v : Value} {sig : ByteArray} {k : List Cav} {ck : Int} {cn : Nat} (h : Rn w x t v sig k ck cn) : Rn w x.drew t v sig k ck cn := ⟨h.r0, h.r1, h.r2, h.cv, h.b.drew, h.lt⟩
theorem Rn.below {w x y : World} {t : ByteArray} {v : Value} {sig : ByteArray} {k : List Cav} {ck : Int} {cn : Nat} (h : Rn w x t v sig k ck cn) (hb : Below x.heap.size x y) : Rn w y t v sig k ck cn :=
  have := h.lt
  ⟨h.r0.below hb (by omega), h.r1.below hb (by omega), h.r2.below hb (by omega), h.cv.below hb (Nat.le_refl _), h.b.trans (hb.mono h.b.size), Nat.lt_of_lt_of_le h.lt hb.size⟩
theorem Rn.alloc {w x : World} {t : ByteArray} {v : Value} {sig : ByteArray} {k : List Cav} {ck : Int} {cn : Nat} (h : Rn w x t v sig k ck cn) (o : Obj) : Rn w (x.alloc o) t v sig k ck cn := h.below ((Below.refl _ _).alloc (Nat.le_refl _) o)
theorem Rn.sig {w x : World} {t : ByteArray} {v : Value} {sig : ByteArray} {k : List Cav} {ck : Int} {cn : Nat} (h : Rn w x t v sig k ck cn) (g : ByteArray) : Rn w (x.setCell ⟨w.heap.size, 2, none⟩ (.string g)) t v g k ck cn :=
  ⟨h.r0.set 2 (.string g) (by simp), h.r1.other _ (by omega), h.r2.other _ (by omega), h.cv.setOther (Row.three h.r0).2.2.1 (fun _ _ e => by cases e) _, h.b.setCell (p := ⟨w.heap.size, 2, none⟩) (Nat.le_refl _) _, by have := h.lt; simpa using this⟩
theorem Rn.cavs {w x : World} {t : ByteArray} {v : Value} {sig : ByteArray} {k : List Cav} {ck : Int} {cn : Nat} (h : Rn w x t v sig k ck cn) (hv : ∀ i n, v ≠ .int i n) {v2 : Value} {k2 : List Cav} (h2 : CavsAt x v2 k2) : Rn w (x.setCell ⟨w.heap.size, 1, none⟩ v2) t v2 sig k2 ck cn :=
  ⟨h.r0.set 1 v2 (by simp), h.r1.other _ (by omega), h.r2.other _ (by omega), h2.setOther (Row.three h.r0).2.1 hv _, h.b.setCell (p := ⟨w.heap.size, 1, none⟩) (Nat.le_refl _) _, by have := h.lt; simpa using this⟩

theorem Rn.done {w x : World} {t : ByteArray} {v : Value} {sig : ByteArray} {k : List Cav} {ck : Int} {cn : Nat} (h : Rn w x t v sig k ck cn) :
    Row (set3 x (w.heap.size + 1 + 1) (.string t) v (.string sig)) (w.heap.size + 1 + 1) [.string t, v, .string sig] ∧ CavsAt (set3 x (w.heap.size + 1 + 1) (.string t) v (.string sig)) v k ∧ Below w.heap.size w (set3 x (w.heap.size + 1 + 1) (.string t) v (.string sig)) := by
  have r1 := h.r2.set 0 (.string t) (by simp)
  have r2 := r1.set 1 v (by simp)
  have r3 := r2.set 2 (.string sig) (by simp)
  have k1 := h.cv.setOther (Row.three h.r2).1 (fun _ _ e => by cases e) (.string t)
  have k2 := k1.setOther (Row.three r1).2.1 (fun _ _ e => by cases e) v
  have k3 := k2.setOther (Row.three r2).2.2.1 (fun _ _ e => by cases e) (.string sig)
  exact ⟨r3, k3, ((h.b.setCell (p := ⟨w.heap.size + 1 + 1, 0, none⟩) (by show w.heap.size ≤ w.heap.size + 1 + 1; omega) _).setCell (p := ⟨w.heap.size + 1 + 1, 1, none⟩) (by show w.heap.size ≤ w.heap.size + 1 + 1; omega) _).setCell (p := ⟨w.heap.size + 1 + 1, 2, none⟩) (by show w.heap.size ≤ w.heap.size + 1 + 1; omega) _⟩

set_option maxRecDepth 100000 in
set_option maxHeartbeats 8000000 in
theorem rNarrow_any (hS : SumC) (t : ByteArray) (v : Value) (l : List Cav) (s : ByteArray) (c : Cav) (w : World) (hv : CavsAt w v l) (hl : l.length ≤ 1000) (hs : s.size ≤ 281474976710656) (hc : c.n < 18446744073709551616) :
    Calls Tryd.prog 17 #[tokv t v s, c.val] w fun e w' => ∃ v', e = .returned (tokv t v' (Mc.signB s (Mc.putc c))) ∧ CavsAt w' v' (l ++ [c]) ∧ Below w.heap.size w w' := by
  have HPC := Lib.hid (fun y => rput_any c y hc)
  have hps := Mc.putc_size c
  have HSG := Lib.hid (fun y => rSign_any hS s (Mc.putc c) y hs (by omega))
  generalize Mc.putc c = pc at HPC HSG hps
  generalize Mc.signB s pc = sg at HSG ⊢
  obtain ⟨a, cap, rfl⟩ := hv.form
  obtain ⟨ck, cn⟩ := c
  obtain ⟨n, hn⟩ : ∃ n, l.length = n := ⟨_, rfl⟩
  rw [hn] at hv ⊢
  have HNL := Lib.hid hn
  have HV := Lib.hid hv
  unfold tokv Cav.val Cav.cells
  unfold Cav.val Cav.cells at HPC
  simp only at hc
  clear hv hn hps hS
  go_enter Tryd.func17, Tryd.ntmps17
  go_upto_region 1 with fail
  have hR : Rn w (((w.alloc (.cells #[.string t, .slice a n cap, .string s] 31)).alloc (.cells #[.int .i64 ck, .int .u64 (cn : Int)] 41)).alloc (.cells #[.string ⟨#[]⟩, .slice none 0 0, .string ⟨#[]⟩] 31)) t (.slice a n cap) s l ck cn :=
    ⟨Row.alloc (Row.alloc (Row.at rfl (by simp)) (by simp) _) (by simp <;> omega) _, Row.alloc (Row.at (by simp) (by simp)) (by simp) _, Row.at (by simp) (by simp), ((HV.out.alloc _).alloc _).alloc _, by go_grown, by simp⟩
  generalize (((w.alloc (.cells #[.string t, .slice a n cap, .string s] 31)).alloc (.cells #[.int .i64 ck, .int .u64 (cn : Int)] 41)).alloc (.cells #[.string ⟨#[]⟩, .slice none 0 0, .string ⟨#[]⟩] 31)) = x at hR ⊢
  obtain ⟨c0, c1, c2, f0, f1, f2⟩ := Row.three hR.r0
  obtain ⟨e0, e1, _⟩ := Row.two hR.r1
  have HR := Lib.hid hR
  clear hR
  obtain ⟨y0, y1, y2, _⟩ := Row.three (HR.out.alloc (.cells #[.int .i64 ck, .int .u64 (cn : Int)] 41)).r0
  go_region_law ((first
    | (refine step_append_rcavs (by rfl) _ _ (by rfl) x.heap.size (.slice none 0 0) [] (by rfl) (World.ownsRow_nil _ _ _ _) (.slice a n cap) l (by rfl) (by first | exact HR.out.drew.cv | exact (HR.out.drew.alloc _).cv | exact (HR.out.alloc _).drew.cv) (by simp; omega) (by first | exact Nat.le_refl _ | (show x.heap.size ≤ (x.alloc _).heap.size; simp; done)) ?_; intro v1 w1 hown1 hg1; (have hb1 : Below x.heap.size x w1 := (by first | exact ((Below.refl _ _).drew).grown hg1 (Nat.le_refl _) (fun j e => by cases e) | exact (((Below.refl _ _).alloc (Nat.le_refl _) _).drew).grown hg1 (by show x.heap.size ≤ (x.alloc _).heap.size; simp) (fun j e => by cases e))); have hR1 := HR.out.below hb1; obtain ⟨e2, e3, _⟩ := Row.two hR1.r1; (try (have HN1 := Lib.hid ((CavsAt.oneR x ck cn).below (((Below.refl _ _).drew).grown hg1 (Nat.le_refl _) (fun j e => by cases e)) (Nat.le_refl _)))))
    | (refine step_append_rcavs (by rfl) _ _ (by rfl) x.heap.size v1 ([] ++ l) (by rfl) (by first | exact hown1 | exact hown1.alloc _ | exact (hown1.alloc _).drew) _ [⟨ck, cn⟩] (by rfl) (by first | exact CavsAt.oneR _ ck cn | exact HN1.out) (by simp; omega) (by first | exact hb1.size | (have := hb1.size; simp; omega)) ?_; intro v3 w3 hown3 hg3; (have hb3 : Below x.heap.size x w3 := (by first | exact hb1.grown hg3 hb1.size (fun j e => (hown1.lt j e).1) | exact (hb1.alloc hb1.size _).grown hg3 (by have := hb1.size; simp; omega) (fun j e => (hown1.lt j e).1))); have hcv3 := CavsAt.ownR hown3; clear hown3 hg3; obtain ⟨a3, p3, rfl⟩ := hcv3.form; obtain ⟨n3, hn3⟩ : ∃ n3, ([] ++ l ++ [(⟨ck, cn⟩ : Cav)]).length = n3 := ⟨_, rfl⟩; rw [hn3] at hcv3 ⊢; clear hn3; have hR3 := HR.out.below hb3; obtain ⟨g0, g1, g2, k0, k1, k2⟩ := Row.three hR3.r0; clear hown1 hb1 hg1 hb3)))
  all_goals (
    have hR4 := (hR3.cavs (fun _ _ e => by cases e) hcv3).drew
    rw [List.nil_append] at hR4
    clear hR3 hcv3 g0 g1 g2 k0 k1 k2 y0 y1 y2 c0 c1 c2 f0 f1 f2 e0 e1 e2 e3 hR1 HR
    try clear HN1
    generalize World.setCell w3 _ _ = x4 at hR4 ⊢
    obtain ⟨c0, c1, c2, f0, f1, f2⟩ := Row.three hR4.r0
    obtain ⟨e0, e1, _⟩ := Row.two hR4.r1
    have HR := Lib.hid hR4
    clear hR4
    go_upto_region 2 with fail
    go_region_with ((first
      | (go_at_call 35; ((with_reducible refine (HPC.out _).mono ?_); rintro e y ⟨rfl, hby⟩; have hNy := HR.out.below hby; have d2 := (Row.three hNy.r0).2.2.1; have g2 := (Row.three hNy.r0).2.2.2.2.2; have HN2 := Lib.hid hNy; clear hby hNy))
      | (go_at_call 19; ((with_reducible refine (HSG.out _).mono ?_); rintro e z ⟨rfl, hbz⟩; have hNz := HN2.out.below hbz; have j2 := (Row.three hNz.r0).2.2.1; have k2 := (Row.three hNz.r0).2.2.2.2.2; have HN3 := Lib.hid hNz; clear hbz hNz))))
    all_goals (
      have hfin := HN3.out.sig sg
      clear c0 c1 c2 f0 f1 f2 e0 e1 d2 g2 j2 k2 HN2 HN3 HR
      generalize World.setCell _ _ _ = x6 at hfin ⊢
      obtain ⟨c0, c1, c2, f0, f1, f2⟩ := Row.three hfin.r0
      obtain ⟨d0, d1, d2, g0, g1, g2⟩ := Row.three hfin.r2
      have HF := Lib.hid hfin
      clear hfin
      go_wp2_with fail
      have hd := HF.out.done
      obtain ⟨o0, o1, o2, _⟩ := Row.three hd.1
      unfold set3 at hd o0 o1 o2
      clear c0 c1 c2 f0 f1 f2 d0 d1 d2 g0 g1 g2
      generalize World.setCell _ _ _ = wz at hd o0 o1 o2 ⊢
      refine bodyPost_ret (by simp [results, Tryd.results17, go_sem, o0, o1, o2]; try rfl) rfl ?_
      exact ⟨_, rfl, hd.2.1, hd.2.2⟩))

end Go.Proofs.YtalncnblcfcmcaaDoor
