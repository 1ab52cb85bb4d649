/- The walk of the document's own Get: it gives what the code gives. -/
import Derived.Test.YtalncnblcfcmcaaDoorMcRefC
import Derived.Test.YtalncnblcfcmcaaDoorMcRefE
import Derived.Test.YtalncnblcfcmcaaDoorMcGet2
namespace Go.Proofs.YtalncnblcfcmcaaDoor
open Go.RowKit

namespace Mc
theorem cavsN_pre {s : ByteArray} {a : Int} {n : Nat} {q : List Cav × Int} (h : cavsN s a n = some q) : ∀ m p, n ≤ m → cavsN s a m = some p → ∃ r, p.1 = q.1 ++ r
  | 0, p, hm, hp => by
    obtain rfl : n = 0 := by omega
    rw [h] at hp
    cases hp
    exact ⟨[], by simp⟩
  | m + 1, p, hm, hp => by
    by_cases e : n = m + 1
    · rw [← e, h] at hp
      cases hp
      exact ⟨[], by simp⟩
    · rw [cavsN] at hp
      cases hn : cavsN s a m with
      | none => rw [hn] at hp; cases hp
      | some p' =>
        rw [hn] at hp
        obtain ⟨r, hr⟩ := cavsN_pre h m p' (by omega) hn
        simp only at hp
        split at hp
        · cases hp
          exact ⟨r ++ [(cavAt s p'.2).1], by simp only; rw [hr, List.append_assoc]⟩
        · cases hp
theorem fits_bad {l : List Cav} {c : Cav} (h : c ∈ l) (hk : known c = false) : fits l = false := by
  unfold fits
  have : (l.any fun c => !known c) = true := List.any_eq_true.2 ⟨c, h, by rw [hk]; rfl⟩
  rw [this]; simp
theorem put_bad {t : ByteArray} {l : List Cav} {s : ByteArray} (h : fits l = false) : put t l s = ⟨#[]⟩ := by
  unfold put may
  rw [if_neg (by rw [h]; simp)]
theorem put_short {t : ByteArray} {l : List Cav} {s : ByteArray} (h : ¬ s.size = 32) : put t l s = ⟨#[]⟩ := by
  unfold put may
  rw [if_neg (by simp [h])]
end Mc

theorem wpList_append_rcavs {w : World} {ops : Array Oper} {rest : List Oper} {o : Oper} {a : Act} {Q : Exit → Act → World → Prop} (hgd : o.guard = none) (s x : Operand)
    (ho : o.op = .call { callee := .builtin .append, args := #[s, x], argTypes := #[29, 29] })
    (base : Nat) (v : Value) (k : List Cav) (hs : a.eval s = v) (hown : w.ownsRow base 41 2 v k.length (cavCells k))
    (u : Value) (l : List Cav) (hx : a.eval x = u) (hu : CavsAt w u l) (hn : k.length + l.length ≤ 1000000) (hbase : base ≤ w.heap.size)
    (h : ∀ v' w', w'.ownsRow base 41 2 v' (k ++ l).length (cavCells (k ++ l)) → w.grownBy w' v.ownBlock → wpList Tryd.prog ops Q rest (a.put o.dst v') w') : wpList Tryd.prog ops Q (o :: rest) a w := by
  obtain ⟨i0, hi, hz0, hz1, hz2⟩ := info_parts Tryd.infoRCav
  have hz : (Value.agg #[.int .i64 0, .int .u64 0]).cells.size = 2 := rfl
  rcases hu with ⟨rfl, rfl⟩ | ⟨ad, c, rfl, rfl⟩ | ⟨b, off, cap, rfl, hlt, hc⟩
  · refine wpList_append_own_none hgd s x 29 ho base 41 i0 2 Tryd.underlying29 hi v k.length (cavCells k) hs hown hx ?_
    exact h v w (by rw [List.append_nil]; exact hown) (World.grownBy.refl _ _)
  · refine wpList_append_own _ hgd s x 29 ho base 41 i0 _ 2 16 Tryd.underlying29 hi hz0 hz1 hz2 hz (by decide) v k.length (cavCells k) hs hown ad 0 c [] hx rfl (fun j u hj => by cases hj) (fun u hu => by cases hu) (by unfold maxLen; omega) (by omega) hbase ?_
    intro v' w' h1 h2 _
    exact h v' w' (by rw [List.append_nil]; simpa using h1) h2
  · refine wpList_append_own _ hgd s x 29 ho base 41 i0 _ 2 16 Tryd.underlying29 hi hz0 hz1 hz2 hz (by decide) v k.length (cavCells k) hs hown ⟨b, off, none⟩ l.length cap (cavCells l) hx (cavCells_len l) (fun j u hj => cavCells_at hc j u hj) (cavCells_one l) (by unfold maxLen; omega) (by omega) hbase ?_
    intro v' w' h1 h2 _
    exact h v' w' (by rw [List.length_append, cavCells_app]; exact h1) h2

/-- what the document's Get gives back, no token yet -/
structure Gz (w x : World) : Prop where
  z : Row x w.heap.size [.string ⟨#[]⟩, .slice none 0 0, .string ⟨#[]⟩]
  b : Below w.heap.size w x
  lt : w.heap.size < x.heap.size
theorem Gz.zero {w x : World} (h : Gz w x) : Row (set3 x w.heap.size (.string ⟨#[]⟩) (.slice none 0 0) (.string ⟨#[]⟩)) w.heap.size [.string ⟨#[]⟩, .slice none 0 0, .string ⟨#[]⟩] ∧ Below w.heap.size w (set3 x w.heap.size (.string ⟨#[]⟩) (.slice none 0 0) (.string ⟨#[]⟩)) :=
  ⟨((h.z.set 0 (.string ⟨#[]⟩) (by simp)).set 1 (.slice none 0 0) (by simp)).set 2 (.string ⟨#[]⟩) (by simp),
   ((h.b.setCell (p := ⟨w.heap.size, 0, none⟩) (Nat.le_refl _) _).setCell (p := ⟨w.heap.size, 1, none⟩) (Nat.le_refl _) _).setCell (p := ⟨w.heap.size, 2, none⟩) (Nat.le_refl _) _⟩
/-- the token that is being read -/
structure Gr (w x : World) (t : ByteArray) (v : Value) (s : ByteArray) (l : List Cav) : Prop where
  g : Gz w x
  r : Row x (w.heap.size + 1) [.string t, v, .string s]
  o : x.ownsRow (w.heap.size + 2) 41 2 v l.length (cavCells l)
  lt : w.heap.size + 1 < x.heap.size
theorem Gr.below {w x y : World} {t : ByteArray} {v : Value} {s : ByteArray} {l : List Cav} (h : Gr w x t v s l) (hb : Below x.heap.size x y) : Gr w y t v s l :=
  have := h.lt
  ⟨⟨h.g.z.below hb (by omega), h.g.b.trans (hb.mono h.g.b.size), Nat.lt_of_lt_of_le h.g.lt hb.size⟩, h.r.below hb (by omega), own_below2 h.o hb, Nat.lt_of_lt_of_le h.lt hb.size⟩
theorem Gr.alloc {w x : World} {t : ByteArray} {v : Value} {s : ByteArray} {l : List Cav} (h : Gr w x t v s l) (o : Obj) : Gr w (x.alloc o) t v s l := h.below ((Below.refl _ _).alloc (Nat.le_refl _) o)
theorem Gr.set2 {w x : World} {t : ByteArray} {v : Value} {s : ByteArray} {l : List Cav} (h : Gr w x t v s l) (u : ByteArray) : Gr w (x.setCell ⟨w.heap.size + 1, 2, none⟩ (.string u)) t v u l :=
  ⟨⟨h.g.z.other _ (by omega), h.g.b.setCell (p := ⟨w.heap.size + 1, 2, none⟩) (by show w.heap.size ≤ w.heap.size + 1; omega) _, by simpa using h.g.lt⟩, h.r.set 2 _ (by simp), ownsRow_setCell_below h.o (by show w.heap.size + 1 < w.heap.size + 2; omega) _, by simpa using h.lt⟩
theorem Gr.grown {w x y : World} {t : ByteArray} {v : Value} {s : ByteArray} {l : List Cav} (h : Gr w x t v s l) (hg : x.grownBy y v.ownBlock) : Below (w.heap.size + 2) x y :=
  (Below.refl _ _).grown hg (by have := h.lt; omega) (fun j e => (h.o.lt j e).1)
theorem Gr.row {w x y : World} {t : ByteArray} {v : Value} {s : ByteArray} {l : List Cav} (h : Gr w x t v s l) (hg : x.grownBy y v.ownBlock) : Row y (w.heap.size + 1) [.string t, v, .string s] := h.r.below (h.grown hg) (by omega)
theorem Gr.more {w x y : World} {t : ByteArray} {v v2 : Value} {s : ByteArray} {l l2 : List Cav} (h : Gr w x t v s l) (ho : y.ownsRow (w.heap.size + 2) 41 2 v2 l2.length (cavCells l2)) (hg : x.grownBy y v.ownBlock) :
    Gr w (y.setCell ⟨w.heap.size + 1, 1, none⟩ v2) t v2 s l2 := by
  have hb := h.grown hg
  have hl := h.lt
  exact ⟨⟨(h.g.z.below hb (by omega)).other _ (by omega), (h.g.b.trans (hb.mono (by omega))).setCell (p := ⟨w.heap.size + 1, 1, none⟩) (by show w.heap.size ≤ w.heap.size + 1; omega) _, by have := hb.size; simp; omega⟩,
    (h.row hg).set 1 v2 (by simp), ownsRow_setCell_below ho (by show w.heap.size + 1 < w.heap.size + 2; omega) _, by have := hb.size; simp; omega⟩
theorem Gr.done {w x : World} {t : ByteArray} {v : Value} {s : ByteArray} {l : List Cav} (h : Gr w x t v s l) :
    Row (set3 x w.heap.size (.string t) v (.string s)) w.heap.size [.string t, v, .string s] ∧ CavsAt (set3 x w.heap.size (.string t) v (.string s)) v l ∧ Below w.heap.size w (set3 x w.heap.size (.string t) v (.string s)) := by
  have r1 := h.g.z.set 0 (.string t) (by simp)
  have r2 := r1.set 1 v (by simp)
  have r3 := r2.set 2 (.string s) (by simp)
  have k1 := (CavsAt.ownR h.o).setOther (Row.three h.g.z).1 (fun _ _ e => by cases e) (.string t)
  have k2 := k1.setOther (Row.three r1).2.1 (fun _ _ e => by cases e) v
  have k3 := k2.setOther (Row.three r2).2.2.1 (fun _ _ e => by cases e) (.string s)
  exact ⟨r3, k3, ((h.g.b.setCell (p := ⟨w.heap.size, 0, none⟩) (Nat.le_refl _) _).setCell (p := ⟨w.heap.size, 1, none⟩) (Nat.le_refl _) _).setCell (p := ⟨w.heap.size, 2, none⟩) (Nat.le_refl _) _⟩

set_option maxRecDepth 100000 in
set_option maxHeartbeats 8000000 in
theorem rMacGet_any (s : ByteArray) (a : Int) (w : World) (hz : s.size ≤ 9007199254740000) :
    Calls Tryd.prog 15 #[.string s, .int .i64 a] w fun e w' => ∃ v, e = .returned (.tuple #[tokv (Mc.getR s a).1.t v (Mc.getR s a).1.s, .int .i64 (Mc.getR s a).1.next, .bool (Mc.getR s a).2]) ∧ CavsAt w' v (Mc.getR s a).1.l ∧ Below w.heap.size w w' := by
  have HGT := Lib.hid (fun y => rGetText_any s a 32 y (by omega) (by omega))
  have HGE := Lib.hid (fun y => rGet_any s (Wi.getText s a 32).2.1 y (by omega))
  have HG := Lib.hid (show Mc.get s a = if (Wi.getText s a 32).2.2 = true ∧ (Wi.get s (Wi.getText s a 32).2.1).2.2 = true ∧ (Wi.get s (Wi.getText s a 32).2.1).1 ≤ 8 then
    match Mc.cavsN s (Wi.get s (Wi.getText s a 32).2.1).2.1 (Wi.get s (Wi.getText s a 32).2.1).1 with
    | none => none
    | some p =>
      if (Mc.put (Wi.getText s a 32).1 p.1 (s.extract p.2.toNat (min (p.2 + 32) (s.size : Int)).toNat)).size = 0 then none
      else some ⟨(Wi.getText s a 32).1, p.1, s.extract p.2.toNat (min (p.2 + 32) (s.size : Int)).toNat, min (p.2 + 32) (s.size : Int)⟩
    else none from rfl)
  have hin := fun h => Mc.get_in (s := s) (a := (Wi.getText s a 32).2.1) h
  have hlt64 := Mc.get_lt s (Wi.getText s a 32).2.1
  have htt : (Wi.getText s a 32).1.size ≤ 32 := by
    unfold Wi.getText
    split
    · rename_i h; simp only; rw [ByteArray.size_extract]; omega
    · exact Nat.zero_le _
  have HR := Lib.hid (show Mc.getR s a = match Mc.get s a with
    | none => (⟨⟨#[]⟩, [], ⟨#[]⟩, 0⟩, false)
    | some k => (k, true) from rfl)
  generalize Mc.getR s a = R at HR ⊢
  generalize Mc.get s a = M at HR HG
  generalize Wi.get s (Wi.getText s a 32).2.1 = g2 at HGE HG hin hlt64
  generalize Wi.getText s a 32 = g1 at HGT HGE HG hin htt
  obtain ⟨tt, f1, b1⟩ := g1
  obtain ⟨n, f2, b2⟩ := g2
  unfold Wi.tval at HGT
  unfold Wi.val at HGE
  simp only at HGT HGE HG hin hlt64 htt
  go_enter Tryd.func15, Tryd.ntmps15
  go_upto_region 1 with fail
  have hG0 : Gz w (w.alloc (.cells #[.string ⟨#[]⟩, .slice none 0 0, .string ⟨#[]⟩] 31)) :=
    ⟨Row.at rfl (by simp), (Below.refl _ _).alloc (Nat.le_refl _) _, by simp⟩
  have hxs : (w.alloc (.cells #[.string ⟨#[]⟩, .slice none 0 0, .string ⟨#[]⟩] 31)).heap.size = w.heap.size + 1 := by simp
  generalize w.alloc (.cells #[.string ⟨#[]⟩, .slice none 0 0, .string ⟨#[]⟩] 31) = x at hG0 hxs ⊢
  have HG0 := Lib.hid hG0
  have HXS := Lib.hid hxs
  clear hG0 hxs
  obtain ⟨c0, c1, c2, q0, q1, q2⟩ := Row.three HG0.out.z
  cases b1 with
  | false =>
    obtain rfl : R = (⟨⟨#[]⟩, [], ⟨#[]⟩, 0⟩, false) := by rw [HR.out, HG.out, if_neg (by simp)]
    go_wp2_with (first
      | (go_at_call 33; (with_reducible refine (HGT.out _).mono ?_); rintro e u ⟨rfl, rfl⟩)
      | (go_at_call 34; (with_reducible refine (HGE.out _).mono ?_); rintro e u ⟨rfl, rfl⟩))
    have hzr := HG0.out.zero
    obtain ⟨o0, o1, o2, _⟩ := Row.three hzr.1
    unfold set3 at hzr o0 o1 o2
    generalize World.setCell _ _ _ = wz at hzr o0 o1 o2 ⊢
    refine bodyPost_ret (by simp [results, Tryd.results15, go_sem, o0, o1, o2]; try rfl) rfl ?_
    exact ⟨.slice none 0 0, rfl, CavsAt.nil _, hzr.2⟩
  | true =>
    cases b2 with
    | false =>
      obtain rfl : R = (⟨⟨#[]⟩, [], ⟨#[]⟩, 0⟩, false) := by rw [HR.out, HG.out, if_neg (by simp)]
      go_wp2_with (first
        | (go_at_call 33; (with_reducible refine (HGT.out _).mono ?_); rintro e u ⟨rfl, rfl⟩)
        | (go_at_call 34; (with_reducible refine (HGE.out _).mono ?_); rintro e u ⟨rfl, rfl⟩))
      have hzr := HG0.out.zero
      obtain ⟨o0, o1, o2, _⟩ := Row.three hzr.1
      unfold set3 at hzr o0 o1 o2
      generalize World.setCell _ _ _ = wz at hzr o0 o1 o2 ⊢
      refine bodyPost_ret (by simp [results, Tryd.results15, go_sem, o0, o1, o2]; try rfl) rfl ?_
      exact ⟨.slice none 0 0, rfl, CavsAt.nil _, hzr.2⟩
    | true =>
      by_cases h8 : n ≤ 8
      · have h8' : ¬ (8 : Int) < (n : Int) := by omega
        rw [if_pos ⟨rfl, rfl, h8⟩] at HG
        obtain ⟨hf0, hf2, hfs⟩ := hin rfl
        have hcn := fun m p h => Mc.cavsN_in hf2 hfs m p h
        have HCN := Lib.hid hcn
        clear hcn hin
        go_upto_region 6 with (first
          | (go_at_call 33; (with_reducible refine (HGT.out _).mono ?_); rintro e u ⟨rfl, rfl⟩)
          | (go_at_call 34; (with_reducible refine (HGE.out _).mono ?_); rintro e u ⟨rfl, rfl⟩))
        have hG1 : Gr w (x.alloc (.cells #[.string tt, .slice none 0 0, .string ⟨#[]⟩] 31)) tt (.slice none 0 0) ⟨#[]⟩ [] :=
          ⟨⟨HG0.out.z.alloc HG0.out.lt _, HG0.out.b.alloc HG0.out.b.size _, by have := HG0.out.lt; simp; omega⟩, Row.at HXS.out (by simp), World.ownsRow_nil _ _ _ _, by rw [World.size_alloc, HXS.out]; omega⟩
        rw [HXS.out]
        generalize x.alloc (.cells #[.string tt, .slice none 0 0, .string ⟨#[]⟩] 31) = x2 at hG1 ⊢
        have HG2 := Lib.hid hG1
        clear hG1 HG0 HXS c0 c1 c2 q0 q1 q2 HGT HGE
        go_wp2_with fail
        go_loopw [1, 13] (fun s1 s13 wr => ∃ (i : Nat) (l : List Cav) (b : Int) (v : Value), i ≤ n ∧ s13 = .int .i64 (i : Int) ∧ s1 = .int .i64 b ∧ Mc.cavsN s f2 i = some (l, b) ∧ Gr w wr tt v ⟨#[]⟩ l) (fun _ s13 _ => n - (intOf s13).toNat)
        case atStart => exact ⟨0, [], f2, _, by omega, rfl, rfl, rfl, HG2.out⟩
        case round =>
          clear HG2
          obtain ⟨i, l, b, v, hi, rfl, rfl, hc, hG⟩ := hrel
          obtain ⟨hb0, hbs, hll, hok⟩ := HCN.out i _ hc
          simp only at hb0 hbs hll hok
          have HLL := Lib.hid hll
          clear hll
          have hwn : IntKind.i64.wrap (n : Int) = (n : Int) := by rw [IntKind.wrap_i64]; omega
          obtain ⟨va, vc, rfl⟩ := (CavsAt.ownR hG.o).form
          by_cases hlt : i < n
          · have hlt' : (i : Int) < (n : Int) := by omega
            have hi0 : (0 : Int) ≤ (i : Int) := by omega
            have HC1 := Lib.hid (fun y => rGet_any s b y (by omega))
            have HC2 := Lib.hid (fun y => rGet_any s (Wi.get s b).2.1 y (by omega))
            have hnx : Mc.cavsN s f2 (i + 1) = if (Mc.cavAt s b).2.2 = true then some (l ++ [(Mc.cavAt s b).1], (Mc.cavAt s b).2.1) else none := by rw [Mc.cavsN, hc]
            have hca : Mc.cavAt s b = (⟨((min (Wi.get s b).1 3 : Nat) : Int), (Wi.get s (Wi.get s b).2.1).1⟩, (Wi.get s (Wi.get s b).2.1).2.1, (Wi.get s b).2.2 && (Wi.get s (Wi.get s b).2.1).2.2) := rfl
            rw [hca] at hnx
            have hl1 := Mc.get_lt s b
            have hl2 := Mc.get_lt s (Wi.get s b).2.1
            clear hca
            generalize Wi.get s (Wi.get s b).2.1 = g2 at HC2 hnx hl2
            generalize Wi.get s b = g1 at HC1 HC2 hnx hl1
            obtain ⟨u1, e1, k1⟩ := g1
            obtain ⟨u2, e2, k2⟩ := g2
            unfold Wi.val at HC1 HC2
            simp only at HC1 HC2 hnx hl1 hl2
            have HGa := Lib.hid hG
            obtain ⟨z0, z1, z2, zf0, zf1, zf2⟩ := Row.three hG.g.z
            clear hG hc
            by_cases hbad : (k1 && k2) = true ∧ u1 ≤ 2
            · obtain ⟨hkk, hu2⟩ := hbad
              rw [if_pos hkk] at hnx
              rw [Bool.and_eq_true] at hkk
              obtain ⟨rfl, rfl⟩ := hkk
              have hm : min u1 3 = u1 := by omega
              rw [hm] at hnx
              have HNX := Lib.hid hnx
              have hu2' : ¬ (2 : Int) < (u1 : Int) := by omega
              have hwu : IntKind.i64.wrap (u1 : Int) = (u1 : Int) := by rw [IntKind.wrap_i64]; omega
              have hcs : CavsAt (wr.alloc (.cells #[.int .i64 (u1 : Int), .int .u64 (u2 : Int)] 41)) (.slice (some ⟨wr.heap.size, 0, none⟩) 1 1) [⟨(u1 : Int), u2⟩] := CavsAt.oneR wr (u1 : Int) u2
              have HCS := Lib.hid hcs
              have HGn := Lib.hid (HGa.out.alloc (.cells #[.int .i64 (u1 : Int), .int .u64 (u2 : Int)] 41))
              obtain ⟨y0, y1, y2, yf0, yf1, yf2⟩ := Row.three HGa.out.r
              clear hnx hcs hm z0 z1 z2 zf0 zf1 zf2
              go_wp2_with (first
                | (go_at_call 34; (first | with_reducible refine (HC1.out _).mono ?_ | with_reducible refine (HC2.out _).mono ?_); rintro e u ⟨rfl, rfl⟩)
                | (at_builtin; refine wpList_append_rcavs rfl (Operand.tmp 79) (Operand.tmp 84) rfl (w.heap.size + 2) (.slice va l.length vc) l rfl HGn.out.o _ [⟨(u1 : Int), u2⟩] rfl HCS.out (by have := HLL.out; simp; omega) (by have := HGn.out.lt; omega) ?_; intro v2 x2 hown2 hg2; obtain ⟨a4, p4, hf4⟩ := (CavsAt.ownR hown2).form; obtain ⟨N, hN⟩ : ∃ N, (l ++ [(⟨(u1 : Int), u2⟩ : Cav)]).length = N := ⟨_, rfl⟩; rw [hN] at hf4; subst hf4; clear hN; have hr2 := HGn.out.row hg2; obtain ⟨k0, k1, k2, j0, j1, j2⟩ := Row.three hr2))
              have hfin := HGn.out.more hown2 hg2
              refine ⟨⟨i + 1, _, e2, _, by omega, by go_num, rfl, HNX.out, hfin⟩, by simp only [intOf]; omega⟩
            · have hM : M = none := by
                rw [HG.out]
                cases hcn : Mc.cavsN s f2 n with
                | none => rfl
                | some p =>
                  simp only
                  by_cases hkk : (k1 && k2) = true
                  · rw [if_pos hkk] at hnx
                    obtain ⟨r, hr⟩ := Mc.cavsN_pre hnx n p (by omega) hcn
                    have hf : Mc.fits p.1 = false := Mc.fits_bad (c := ⟨((min u1 3 : Nat) : Int), u2⟩) (by rw [hr]; simp) (by
                      have : min u1 3 = 3 := by
                        have : ¬ u1 ≤ 2 := fun h => hbad ⟨hkk, h⟩
                        omega
                      rw [this]; rfl)
                    rw [if_pos (by rw [Mc.put_bad hf]; rfl)]
                  · rw [if_neg hkk] at hnx
                    rw [Mc.cavsN_none hnx n (by omega)] at hcn
                    cases hcn
              obtain rfl : R = (⟨⟨#[]⟩, [], ⟨#[]⟩, 0⟩, false) := by rw [HR.out, hM]
              clear hnx HR hM
              have HBAD := Lib.hid hbad
              clear hbad
              cases k1 with
              | false =>
                go_wp2_with (go_at_call 34; (first | with_reducible refine (HC1.out _).mono ?_ | with_reducible refine (HC2.out _).mono ?_); rintro e u ⟨rfl, rfl⟩)
                have hzr := HGa.out.g.zero
                obtain ⟨o0, o1, o2, _⟩ := Row.three hzr.1
                unfold set3 at hzr o0 o1 o2
                clear z0 z1 z2 zf0 zf1 zf2
                generalize World.setCell _ _ _ = wz at hzr o0 o1 o2 ⊢
                refine bodyPost_ret (by simp [results, Tryd.results15, go_sem, o0, o1, o2]; try rfl) rfl ?_
                exact ⟨.slice none 0 0, rfl, CavsAt.nil _, hzr.2⟩
              | true =>
                cases k2 with
                | false =>
                  go_wp2_with (go_at_call 34; (first | with_reducible refine (HC1.out _).mono ?_ | with_reducible refine (HC2.out _).mono ?_); rintro e u ⟨rfl, rfl⟩)
                  have hzr := HGa.out.g.zero
                  obtain ⟨o0, o1, o2, _⟩ := Row.three hzr.1
                  unfold set3 at hzr o0 o1 o2
                  clear z0 z1 z2 zf0 zf1 zf2
                  generalize World.setCell _ _ _ = wz at hzr o0 o1 o2 ⊢
                  refine bodyPost_ret (by simp [results, Tryd.results15, go_sem, o0, o1, o2]; try rfl) rfl ?_
                  exact ⟨.slice none 0 0, rfl, CavsAt.nil _, hzr.2⟩
                | true =>
                  have hu2' : (2 : Int) < (u1 : Int) := by
                    have : ¬ u1 ≤ 2 := fun h => HBAD.out ⟨rfl, h⟩
                    omega
                  go_wp2_with (go_at_call 34; (first | with_reducible refine (HC1.out _).mono ?_ | with_reducible refine (HC2.out _).mono ?_); rintro e u ⟨rfl, rfl⟩)
                  have hzr := HGa.out.g.zero
                  obtain ⟨o0, o1, o2, _⟩ := Row.three hzr.1
                  unfold set3 at hzr o0 o1 o2
                  clear z0 z1 z2 zf0 zf1 zf2
                  generalize World.setCell _ _ _ = wz at hzr o0 o1 o2 ⊢
                  refine bodyPost_ret (by simp [results, Tryd.results15, go_sem, o0, o1, o2]; try rfl) rfl ?_
                  exact ⟨.slice none 0 0, rfl, CavsAt.nil _, hzr.2⟩
          · obtain rfl : i = n := by omega
            have hlt' : ¬ (i : Int) < (i : Int) := by omega
            rw [hc] at HG
            simp only at HG
            obtain ⟨b', rfl⟩ := Int.eq_ofNat_of_zero_le hb0
            obtain ⟨z0, z1, z2, zf0, zf1, zf2⟩ := Row.three hG.g.z
            by_cases h32 : s.size < b' + 32
            · have hsz : ¬ (s.extract b' (min ((b' : Int) + 32) (s.size : Int)).toNat).size = 32 := by rw [ByteArray.size_extract]; omega
              have hM : M = none := by
                rw [HG.out, Int.toNat_natCast, if_pos (by rw [Mc.put_short hsz]; rfl)]
              obtain rfl : R = (⟨⟨#[]⟩, [], ⟨#[]⟩, 0⟩, false) := by rw [HR.out, hM]
              have h32' : (s.size : Int) - (b' : Int) < 32 := by omega
              have hwb : IntKind.i64.wrap ((s.size : Int) - (b' : Int)) = (s.size : Int) - (b' : Int) := by rw [IntKind.wrap_i64]; omega
              have HGa := Lib.hid hG
              clear hM HR HG hsz h32 hG
              go_wp2_with fail
              have hzr := HGa.out.g.zero
              obtain ⟨o0, o1, o2, _⟩ := Row.three hzr.1
              unfold set3 at hzr o0 o1 o2
              clear z0 z1 z2 zf0 zf1 zf2
              generalize World.setCell _ _ _ = wz at hzr o0 o1 o2 ⊢
              refine bodyPost_ret (by simp [results, Tryd.results15, go_sem, o0, o1, o2]; try rfl) rfl ?_
              exact ⟨.slice none 0 0, rfl, CavsAt.nil _, hzr.2⟩
            · have h32' : ¬ (s.size : Int) - (b' : Int) < 32 := by omega
              have hwb : IntKind.i64.wrap ((s.size : Int) - (b' : Int)) = (s.size : Int) - (b' : Int) := by rw [IntKind.wrap_i64]; omega
              obtain ⟨e', he'⟩ : ∃ e', b' + 32 = e' := ⟨_, rfl⟩
              have hmin : min ((b' : Int) + 32) (s.size : Int) = (e' : Int) := by omega
              have hbe' : (b' : Int) + 32 = (e' : Int) := by omega
              have hbe : (b' : Int) ≤ (e' : Int) := by omega
              have hes : (e' : Int) ≤ (s.size : Int) := by omega
              rw [hmin] at HG
              simp only [Int.toNat_natCast] at HG
              generalize hsg : s.extract b' e' = sg at HG
              have HMP := Lib.hid (fun y (hv : CavsAt y (.slice va l.length vc) l) => rMacPut_any tt (.slice va l.length vc) l sg y hv (by omega) (by have := HLL.out; omega) hok)
              generalize Mc.put tt l sg = P at HG HMP
              have HGa := Lib.hid (hG.set2 sg)
              obtain ⟨c0, c1, c2, q0, q1, q2⟩ := Row.three hG.r
              clear hG hc hmin h32
              go_upto_region 18 with fail
              clear c0 c1 c2 q0 q1 q2 hsg he' z0 z1 z2 zf0 zf1 zf2
              generalize World.setCell wr _ _ = x1 at HGa ⊢
              obtain ⟨c0, c1, c2, q0, q1, q2⟩ := Row.three HGa.out.r
              have HCV := Lib.hid (CavsAt.ownR HGa.out.o)
              unfold tokv at HMP
              by_cases hP : P.size = 0
              · obtain rfl : R = (⟨⟨#[]⟩, [], ⟨#[]⟩, 0⟩, false) := by rw [HR.out, HG.out, if_pos hP]
                have hemp : P.toList.isEmpty = true := by
                  rw [ByteArray.toList_eq]
                  have h1 : P.data.toList.length = P.size := by simp
                  rw [List.length_eq_zero_iff.1 (by omega : P.data.toList.length = 0)]; rfl
                go_upto_region 19 with (go_at_call 26; (with_reducible refine (HMP.out _ HCV.out).mono ?_); rintro e y ⟨rfl, hby⟩; have HG3 := Lib.hid (HGa.out.below hby))
                clear c0 c1 c2 q0 q1 q2
                obtain ⟨c0, c1, c2, q0, q1, q2⟩ := Row.three HG3.out.g.z
                go_wp2_with fail
                have hzr := HG3.out.g.zero
                obtain ⟨o0, o1, o2, _⟩ := Row.three hzr.1
                unfold set3 at hzr o0 o1 o2
                generalize World.setCell _ _ _ = wz at hzr o0 o1 o2 ⊢
                refine bodyPost_ret (by simp [results, Tryd.results15, go_sem, o0, o1, o2]; try rfl) rfl ?_
                exact ⟨.slice none 0 0, rfl, CavsAt.nil _, hzr.2⟩
              · obtain rfl : R = (⟨tt, l, sg, (e' : Int)⟩, true) := by rw [HR.out, HG.out, if_neg hP]
                have hemp : P.toList.isEmpty = false := by
                  rw [ByteArray.toList_eq]
                  have h1 : P.data.toList.length = P.size := by simp
                  cases hq : P.data.toList with
                  | nil => rw [hq] at h1; simp at h1; omega
                  | cons a l => rfl
                go_upto_region 20 with (go_at_call 26; (with_reducible refine (HMP.out _ HCV.out).mono ?_); rintro e y ⟨rfl, hby⟩; have HG3 := Lib.hid (HGa.out.below hby))
                clear c0 c1 c2 q0 q1 q2
                obtain ⟨c0, c1, c2, q0, q1, q2⟩ := Row.three HG3.out.r
                obtain ⟨z0, z1, z2, zf0, zf1, zf2⟩ := Row.three HG3.out.g.z
                go_wp2_with fail
                have hd := HG3.out.done
                obtain ⟨o0, o1, o2, _⟩ := Row.three hd.1
                unfold set3 at hd o0 o1 o2
                clear c0 c1 c2 q0 q1 q2 z0 z1 z2 zf0 zf1 zf2
                generalize World.setCell _ _ _ = wz at hd o0 o1 o2 ⊢
                refine bodyPost_ret (by simp [results, Tryd.results15, go_sem, o0, o1, o2]; try rfl) rfl ?_
                exact ⟨_, rfl, hd.2.1, hd.2.2⟩
      · have h8' : (8 : Int) < (n : Int) := by omega
        obtain rfl : R = (⟨⟨#[]⟩, [], ⟨#[]⟩, 0⟩, false) := by rw [HR.out, HG.out, if_neg (by simp; omega)]
        go_wp2_with (first
          | (go_at_call 33; (with_reducible refine (HGT.out _).mono ?_); rintro e u ⟨rfl, rfl⟩)
          | (go_at_call 34; (with_reducible refine (HGE.out _).mono ?_); rintro e u ⟨rfl, rfl⟩))
        have hzr := HG0.out.zero
        obtain ⟨o0, o1, o2, _⟩ := Row.three hzr.1
        unfold set3 at hzr o0 o1 o2
        generalize World.setCell _ _ _ = wz at hzr o0 o1 o2 ⊢
        refine bodyPost_ret (by simp [results, Tryd.results15, go_sem, o0, o1, o2]; try rfl) rfl ?_
        exact ⟨.slice none 0 0, rfl, CavsAt.nil _, hzr.2⟩

end Go.Proofs.YtalncnblcfcmcaaDoor
