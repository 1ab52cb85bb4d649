/- The walk of mac.Get. -/
import Derived.Test.YtalncnblcfcmcaaDoorMcGet
namespace Go.Proofs.YtalncnblcfcmcaaDoor
open Go.RowKit

namespace Mc
def getR (s : ByteArray) (a : Int) : Tk × Bool := match get s a with
  | none => (⟨⟨#[]⟩, [], ⟨#[]⟩, 0⟩, false)
  | some k => (k, true)
end Mc

theorem own_below2 {a b : World} {base e n size : Nat} {v : Value} {xs : List Value} (h : a.ownsRow base e size v n xs) (hb : Below a.heap.size a b) : b.ownsRow base e size v n xs := by
  refine h.kept (row := Option.none) ⟨hb.os, hb.tape, hb.output, hb.size, fun k hk _ => hb.block k hk⟩ ?_
  cases hv : v.ownBlock with
  | none => exact .inl rfl
  | some g => exact .inr (by simp)

/-- the token that is being read -/
structure Gs (w x : World) (t : ByteArray) (v : Value) (s : ByteArray) (l : List Cav) : Prop where
  r : Row x w.heap.size [.string t, v, .string s]
  o : x.ownsRow (w.heap.size + 1) 27 2 v l.length (cavCells l)
  b : Below w.heap.size w x
  lt : w.heap.size < x.heap.size
theorem Gs.below {w x y : World} {t : ByteArray} {v : Value} {s : ByteArray} {l : List Cav} (h : Gs w x t v s l) (hb : Below x.heap.size x y) : Gs w y t v s l :=
  ⟨h.r.below hb h.lt, own_below2 h.o hb, h.b.trans (hb.mono h.b.size), Nat.lt_of_lt_of_le h.lt hb.size⟩
theorem Gs.alloc {w x : World} {t : ByteArray} {v : Value} {s : ByteArray} {l : List Cav} (h : Gs w x t v s l) (o : Obj) : Gs w (x.alloc o) t v s l := h.below ((Below.refl _ _).alloc (Nat.le_refl _) o)
theorem Gs.set0 {w x : World} {t : ByteArray} {v : Value} {s : ByteArray} {l : List Cav} (h : Gs w x t v s l) (u : ByteArray) : Gs w (x.setCell ⟨w.heap.size, 0, none⟩ (.string u)) u v s l :=
  ⟨h.r.set 0 _ (by simp), ownsRow_setCell_below h.o (by show w.heap.size < w.heap.size + 1; omega) _, h.b.setCell (p := ⟨w.heap.size, 0, none⟩) (Nat.le_refl _) _, by simpa using h.lt⟩
theorem Gs.set2 {w x : World} {t : ByteArray} {v : Value} {s : ByteArray} {l : List Cav} (h : Gs w x t v s l) (u : ByteArray) : Gs w (x.setCell ⟨w.heap.size, 2, none⟩ (.string u)) t v u l :=
  ⟨h.r.set 2 _ (by simp), ownsRow_setCell_below h.o (by show w.heap.size < w.heap.size + 1; omega) _, h.b.setCell (p := ⟨w.heap.size, 2, none⟩) (Nat.le_refl _) _, by simpa using h.lt⟩
theorem Gs.more {w x y : World} {t : ByteArray} {v v2 : Value} {s : ByteArray} {l l2 : List Cav} (h : Gs w x t v s l) (ho : y.ownsRow (w.heap.size + 1) 27 2 v2 l2.length (cavCells l2)) (hg : x.grownBy y v.ownBlock) :
    Gs w (y.setCell ⟨w.heap.size, 1, none⟩ v2) t v2 s l2 := by
  have hb1 : Below (w.heap.size + 1) x y := (Below.refl _ _).grown hg (by have := h.lt; omega) (fun j e => (h.o.lt j e).1)
  have hr := h.r.below hb1 (by omega)
  exact ⟨hr.set 1 v2 (by simp), ownsRow_setCell_below ho (by show w.heap.size < w.heap.size + 1; omega) _, (h.b.trans (hb1.mono (by omega))).setCell (p := ⟨w.heap.size, 1, none⟩) (Nat.le_refl _) _, by have := h.lt; have := hb1.size; simp; omega⟩
theorem Gs.kept {w x y : World} {t : ByteArray} {v : Value} {s : ByteArray} {l : List Cav} (h : Gs w x t v s l) (hg : x.grownBy y v.ownBlock) : Row y w.heap.size [.string t, v, .string s] := by
  have hb1 : Below (w.heap.size + 1) x y := (Below.refl _ _).grown hg (by have := h.lt; omega) (fun j e => (h.o.lt j e).1)
  exact h.r.below hb1 (by omega)
theorem Gs.same {w x : World} {t : ByteArray} {v : Value} {s : ByteArray} {l : List Cav} (h : Gs w x t v s l) (hv : ∀ k n, v ≠ .int k n) :
    Row (set3 x w.heap.size (.string t) v (.string s)) w.heap.size [.string t, v, .string s] ∧ CavsAt (set3 x w.heap.size (.string t) v (.string s)) v l ∧ Below w.heap.size w (set3 x w.heap.size (.string t) v (.string s)) := by
  have r1 := h.r.set 0 (.string t) (by simp)
  have r2 := r1.set 1 v (by simp)
  have r3 := r2.set 2 (.string s) (by simp)
  have k1 := (CavsAt.own h.o).setOther (Row.three h.r).1 (fun _ _ e => by cases e) (.string t)
  have k2 := k1.setOther (Row.three r1).2.1 hv v
  have k3 := k2.setOther (Row.three r2).2.2.1 (fun _ _ e => by cases e) (.string s)
  exact ⟨r3, k3, ((h.b.setCell (p := ⟨w.heap.size, 0, none⟩) (Nat.le_refl _) _).setCell (p := ⟨w.heap.size, 1, none⟩) (Nat.le_refl _) _).setCell (p := ⟨w.heap.size, 2, none⟩) (Nat.le_refl _) _⟩
theorem Gs.zero {w x : World} {t : ByteArray} {v : Value} {s : ByteArray} {l : List Cav} (h : Gs w x t v s l) : Row (set3 x w.heap.size (.string ⟨#[]⟩) (.slice none 0 0) (.string ⟨#[]⟩)) w.heap.size [.string ⟨#[]⟩, .slice none 0 0, .string ⟨#[]⟩] ∧ Below w.heap.size w (set3 x w.heap.size (.string ⟨#[]⟩) (.slice none 0 0) (.string ⟨#[]⟩)) :=
  ⟨((h.r.set 0 (.string ⟨#[]⟩) (by simp)).set 1 (.slice none 0 0) (by simp)).set 2 (.string ⟨#[]⟩) (by simp),
   ((h.b.setCell (p := ⟨w.heap.size, 0, none⟩) (Nat.le_refl _) _).setCell (p := ⟨w.heap.size, 1, none⟩) (Nat.le_refl _) _).setCell (p := ⟨w.heap.size, 2, none⟩) (Nat.le_refl _) _⟩

set_option maxRecDepth 100000 in
set_option maxHeartbeats 8000000 in
theorem macGet_any (s : ByteArray) (a : Int) (w : World) (hL : LaidM w) (hz : s.size ≤ 9007199254740992) :
    Calls Tryd.prog 14 #[.string s, .int .i64 a] w fun e w' => ∃ v, e = .returned (.tuple #[tokv (Mc.getR s a).1.t v (Mc.getR s a).1.s, .int .i64 (Mc.getR s a).1.next, .bool (Mc.getR s a).2]) ∧ CavsAt w' v (Mc.getR s a).1.l ∧ Below w.heap.size w w' := by
  have HGT := Lib.hid (fun y => GetText_any s a 32 y (by omega))
  have HGE := Lib.hid (fun y => Get_any s (Wi.getText s a 32).2.1 y (by omega))
  have HG := Lib.hid (show Mc.get s a = if (Wi.getText s a 32).2.2 = true ∧ (Wi.get s (Wi.getText s a 32).2.1).2.2 = true ∧ (Wi.get s (Wi.getText s a 32).2.1).1 ≤ 8 then
    match Mc.cavsN s (Wi.get s (Wi.getText s a 32).2.1).2.1 (Wi.get s (Wi.getText s a 32).2.1).1 with
    | none => none
    | some p =>
      if (Mc.put (Wi.getText s a 32).1 p.1 (s.extract p.2.toNat (min (p.2 + 32) (s.size : Int)).toNat)).size = 0 then none
      else some ⟨(Wi.getText s a 32).1, p.1, s.extract p.2.toNat (min (p.2 + 32) (s.size : Int)).toNat, min (p.2 + 32) (s.size : Int)⟩
    else none from rfl)
  have hin := fun h => Mc.get_in (s := s) (a := (Wi.getText s a 32).2.1) h
  have hlt64 := Mc.get_lt s (Wi.getText s a 32).2.1
  have htt : (Wi.getText s a 32).1.size ≤ 32 := by
    unfold Wi.getText
    split
    · rename_i h; simp only; rw [ByteArray.size_extract]; omega
    · exact Nat.zero_le _
  have HR := Lib.hid (show Mc.getR s a = match Mc.get s a with
    | none => (⟨⟨#[]⟩, [], ⟨#[]⟩, 0⟩, false)
    | some k => (k, true) from rfl)
  generalize Mc.getR s a = R at HR ⊢
  generalize Mc.get s a = M at HR HG
  generalize Wi.get s (Wi.getText s a 32).2.1 = g2 at HGE HG hin hlt64
  generalize Wi.getText s a 32 = g1 at HGT HGE HG hin htt
  obtain ⟨tt, f1, b1⟩ := g1
  obtain ⟨n, f2, b2⟩ := g2
  unfold Wi.tval at HGT
  unfold Wi.val at HGE
  simp only at HGT HGE HG hin hlt64 htt
  have HL := Lib.hid hL
  clear hL
  go_enter Tryd.func14, Tryd.ntmps14
  go_upto_region 1 with fail
  have hG0 : Gs w (w.alloc (.cells #[.string ⟨#[]⟩, .slice none 0 0, .string ⟨#[]⟩] 24)) ⟨#[]⟩ (.slice none 0 0) ⟨#[]⟩ [] :=
    ⟨Row.at rfl (by simp), World.ownsRow_nil _ _ _ _, (Below.refl _ _).alloc (Nat.le_refl _) _, by simp⟩
  generalize w.alloc (.cells #[.string ⟨#[]⟩, .slice none 0 0, .string ⟨#[]⟩] 24) = x at hG0 ⊢
  have HG0 := Lib.hid hG0
  clear hG0
  go_wp2_with fail
  refine (HGT.out _).mono ?_
  rintro e y ⟨rfl, hby⟩
  have HG1 := Lib.hid (HG0.out.below hby)
  obtain ⟨c0, c1, c2, q0, q1, q2⟩ := Row.three HG1.out.r
  go_wp2_with fail
  refine (HGE.out _).mono ?_
  rintro e z ⟨rfl, hbz⟩
  have HG2 := Lib.hid ((HG1.out.set0 tt).below hbz)
  clear HG0 HG1 c0 c1 c2 q0 q1 q2 hby hbz HGT HGE
  obtain ⟨c0, c1, c2, q0, q1, q2⟩ := Row.three HG2.out.r
  cases b1 with
  | false =>
    obtain rfl : R = (⟨⟨#[]⟩, [], ⟨#[]⟩, 0⟩, false) := by rw [HR.out, HG.out, if_neg (by simp)]
    go_wp2_with fail
    have hzr := HG2.out.zero
    obtain ⟨o0, o1, o2, _⟩ := Row.three hzr.1
    unfold set3 at hzr o0 o1 o2
    generalize World.setCell _ _ _ = wz at hzr o0 o1 o2 ⊢
    refine bodyPost_ret (by simp [results, Tryd.results14, go_sem, o0, o1, o2]; try rfl) rfl ?_
    exact ⟨.slice none 0 0, rfl, CavsAt.nil _, hzr.2⟩
  | true =>
    cases b2 with
    | false =>
      obtain rfl : R = (⟨⟨#[]⟩, [], ⟨#[]⟩, 0⟩, false) := by rw [HR.out, HG.out, if_neg (by simp)]
      go_wp2_with fail
      have hzr := HG2.out.zero
      obtain ⟨o0, o1, o2, _⟩ := Row.three hzr.1
      unfold set3 at hzr o0 o1 o2
      generalize World.setCell _ _ _ = wz at hzr o0 o1 o2 ⊢
      refine bodyPost_ret (by simp [results, Tryd.results14, go_sem, o0, o1, o2]; try rfl) rfl ?_
      exact ⟨.slice none 0 0, rfl, CavsAt.nil _, hzr.2⟩
    | true =>
      by_cases h8 : n ≤ 8
      · have h8' : ¬ (8 : Int) < (n : Int) := by omega
        rw [if_pos ⟨rfl, rfl, h8⟩] at HG
        obtain ⟨hf0, hf2, hfs⟩ := hin rfl
        have hcn := fun m p h => Mc.cavsN_in hf2 hfs m p h
        have HCN := Lib.hid hcn
        clear hcn hin
        go_wp2_with fail
        go_loopw [1, 39] (fun s1 s39 wr => ∃ (i : Nat) (l : List Cav) (b : Int) (v : Value), i ≤ n ∧ s39 = .int .u64 (i : Int) ∧ s1 = .int .i64 b ∧ Mc.cavsN s f2 i = some (l, b) ∧ Gs w wr tt v ⟨#[]⟩ l) (fun _ s39 _ => n - (intOf s39).toNat)
        case atStart => exact ⟨0, [], f2, _, by omega, rfl, rfl, rfl, HG2.out⟩
        case round =>
          clear HG2 c0 c1 c2 q0 q1 q2
          obtain ⟨i, l, b, v, hi, rfl, rfl, hc, hG⟩ := hrel
          obtain ⟨hb0, hbs, hll, hok⟩ := HCN.out i _ hc
          simp only at hb0 hbs hll hok
          have HLL := Lib.hid hll
          clear hll
          obtain ⟨va, vc, rfl⟩ := (CavsAt.own hG.o).form
          by_cases hlt : i < n
          · have hlt' : (i : Int) < (n : Int) := by omega
            have hi0 : (0 : Int) ≤ (i : Int) := by omega
            have HCV := Lib.hid (fun y => caveat_any s b y (by omega))
            have hnx : Mc.cavsN s f2 (i + 1) = if (Mc.cavAt s b).2.2 = true then some (l ++ [(Mc.cavAt s b).1], (Mc.cavAt s b).2.1) else none := by rw [Mc.cavsN, hc]
            have hcl := Mc.cavAt_lt s b
            generalize Mc.cavAt s b = r at HCV hnx hcl
            obtain ⟨c, f, bb⟩ := r
            obtain ⟨ck, cn⟩ := c
            unfold Cav.val Cav.cells at HCV
            simp only at HCV hnx hcl
            have HGa := Lib.hid hG
            clear hG hc
            cases bb with
            | false =>
              have hno := Mc.cavsN_none (show Mc.cavsN s f2 (i + 1) = none from by rw [hnx]; simp) n (by omega)
              obtain rfl : R = (⟨⟨#[]⟩, [], ⟨#[]⟩, 0⟩, false) := by rw [HR.out, HG.out, hno]
              go_wp2_with fail
              refine (HCV.out _).mono ?_
              rintro e y ⟨rfl, hby⟩
              have HG3 := Lib.hid ((HGa.out.below hby).alloc (.cells #[.int .i64 ck, .int .u64 (cn : Int)] 27))
              obtain ⟨c0, c1, c2, q0, q1, q2⟩ := Row.three HG3.out.r
              clear hby HGa hno hnx
              go_wp2_with fail
              have hzr := HG3.out.zero
              obtain ⟨o0, o1, o2, _⟩ := Row.three hzr.1
              unfold set3 at hzr o0 o1 o2
              generalize World.setCell _ _ _ = wz at hzr o0 o1 o2 ⊢
              refine bodyPost_ret (by simp [results, Tryd.results14, go_sem, o0, o1, o2]; try rfl) rfl ?_
              exact ⟨.slice none 0 0, rfl, CavsAt.nil _, hzr.2⟩
            | true =>
              have HNX := Lib.hid (show Mc.cavsN s f2 (i + 1) = some (l ++ [⟨ck, cn⟩], f) from by rw [hnx]; simp)
              clear hnx
              go_wp2_with fail
              refine (HCV.out _).mono ?_
              rintro e y ⟨rfl, hby⟩
              have hG3 := (HGa.out.below hby).alloc (.cells #[.int .i64 ck, .int .u64 (cn : Int)] 27)
              have e0 : (y.alloc (.cells #[.int .i64 ck, .int .u64 (cn : Int)] 27)).cell? ⟨y.heap.size, 0, none⟩ = some (.int .i64 ck) := by rw [World.cell?_alloc_mark]; rfl
              have e1 : (y.alloc (.cells #[.int .i64 ck, .int .u64 (cn : Int)] 27)).cell? ⟨y.heap.size, 1, none⟩ = some (.int .u64 (cn : Int)) := by rw [World.cell?_alloc_mark]; rfl
              have hsz1 : y.heap.size < (y.alloc (.cells #[.int .i64 ck, .int .u64 (cn : Int)] 27)).heap.size := by simp
              go_upto_region 8 with fail
              generalize y.alloc (.cells #[.int .i64 ck, .int .u64 (cn : Int)] 27) = x1 at hG3 e0 e1 hsz1 ⊢
              obtain ⟨c0, c1, c2, q0, q1, q2⟩ := Row.three hG3.r
              have HG3 := Lib.hid hG3
              have hcs : CavsAt (x1.alloc (.cells #[.int .i64 ck, .int .u64 (cn : Int)] 27)) (.slice (some ⟨x1.heap.size, 0, none⟩) 1 1) [⟨ck, cn⟩] := by
                refine .inr (.inr ⟨x1.heap.size, 0, 1, rfl, by simp, fun j hj => ?_⟩)
                obtain rfl : j = 0 := by simpa using hj
                exact ⟨by rw [World.cell?_alloc_mark]; rfl, by rw [World.cell?_alloc_mark]; rfl⟩
              have HCS := Lib.hid hcs
              have HOW := Lib.hid (hG3.o.alloc (.cells #[.int .i64 ck, .int .u64 (cn : Int)] 27))
              have HSZ := Lib.hid (show w.heap.size + 1 ≤ (x1.alloc (.cells #[.int .i64 ck, .int .u64 (cn : Int)] 27)).heap.size from by have := hG3.lt; simp; omega)
              clear hG3 hcs hby HGa
              go_wp2_with (at_builtin; refine wpList_append_cavs rfl (Operand.tmp 52) (Operand.tmp 54) rfl (w.heap.size + 1) (.slice va l.length vc) l rfl HOW.out _ [⟨ck, cn⟩] rfl HCS.out (by have := HLL.out; simp; omega) HSZ.out ?_; intro v2 x2 hown2 hg2; obtain ⟨a4, p4, hf4⟩ := (CavsAt.own hown2).form; obtain ⟨N, hN⟩ : ∃ N, (l ++ [(⟨ck, cn⟩ : Cav)]).length = N := ⟨_, rfl⟩; rw [hN] at hf4; subst hf4; clear hN; have hr2 := (HG3.out.alloc (.cells #[.int .i64 ck, .int .u64 (cn : Int)] 27)).kept hg2; obtain ⟨k0, k1, k2, f0, f1', f2'⟩ := Row.three hr2)
              have hfin := (HG3.out.alloc (.cells #[.int .i64 ck, .int .u64 (cn : Int)] 27)).more hown2 hg2
              refine ⟨⟨i + 1, _, f, _, by omega, by go_num, rfl, HNX.out, hfin⟩, by simp only [intOf]; omega⟩
          · obtain rfl : i = n := by omega
            have hlt' : ¬ (i : Int) < (i : Int) := by omega
            rw [hc] at HG
            simp only at HG
            obtain ⟨b', rfl⟩ := Int.eq_ofNat_of_zero_le hb0
            obtain ⟨e', he'⟩ : ∃ e', min (b' + 32) s.size = e' := ⟨_, rfl⟩
            have hmin : min ((b' : Int) + 32) (s.size : Int) = (e' : Int) := by omega
            have hw1 : IntKind.i64.wrap ((b' : Int) + 32) = (b' : Int) + 32 := by rw [IntKind.wrap_i64]; omega
            have hbe : (b' : Int) ≤ (e' : Int) := by omega
            have hes : (e' : Int) ≤ (s.size : Int) := by omega
            rw [hmin] at HG
            simp only [Int.toNat_natCast] at HG
            generalize hsg : s.extract b' e' = sg at HG
            have HMP := Lib.hid (fun y (h : LaidM y) (hv : CavsAt y (.slice va l.length vc) l) => macPut_any tt (.slice va l.length vc) l sg y h hv (by omega) (by have := HLL.out; omega) hok)
            generalize Mc.put tt l sg = P at HG HMP
            have HGa := Lib.hid (hG.set2 sg)
            have HSG := Lib.hid hsg
            obtain ⟨c0, c1, c2, q0, q1, q2⟩ := Row.three hG.r
            clear hG hc
            go_upto_region 14 with fail
            clear c0 c1 c2 q0 q1 q2 hsg he' hmin
            generalize World.setCell wr _ _ = x1 at HGa ⊢
            obtain ⟨c0, c1, c2, q0, q1, q2⟩ := Row.three HGa.out.r
            have HCV := Lib.hid (CavsAt.own HGa.out.o)
            unfold tokv at HMP
            by_cases hP : P.size = 0
            · obtain rfl : R = (⟨⟨#[]⟩, [], ⟨#[]⟩, 0⟩, false) := by rw [HR.out, HG.out, if_pos hP]
              have hemp : P.toList.isEmpty = true := by
                rw [ByteArray.toList_eq]
                have h1 : P.data.toList.length = P.size := by simp
                rw [List.length_eq_zero_iff.1 (by omega : P.data.toList.length = 0)]; rfl
              go_upto_region 15 with (go_at_call 25; (with_reducible refine (HMP.out _ (HL.out.below HGa.out.b (Nat.le_refl _)) HCV.out).mono ?_); rintro e y ⟨rfl, hby⟩; have HG3 := Lib.hid (HGa.out.below hby))
              clear c0 c1 c2 q0 q1 q2
              obtain ⟨c0, c1, c2, q0, q1, q2⟩ := Row.three HG3.out.r
              go_wp2_with fail
              have hzr := HG3.out.zero
              obtain ⟨o0, o1, o2, _⟩ := Row.three hzr.1
              unfold set3 at hzr o0 o1 o2
              generalize World.setCell _ _ _ = wz at hzr o0 o1 o2 ⊢
              refine bodyPost_ret (by simp [results, Tryd.results14, go_sem, o0, o1, o2]; try rfl) rfl ?_
              exact ⟨.slice none 0 0, rfl, CavsAt.nil _, hzr.2⟩
            · obtain rfl : R = (⟨tt, l, sg, (e' : Int)⟩, true) := by rw [HR.out, HG.out, if_neg hP]
              have hemp : P.toList.isEmpty = false := by
                rw [ByteArray.toList_eq]
                have h1 : P.data.toList.length = P.size := by simp
                cases hq : P.data.toList with
                | nil => rw [hq] at h1; simp at h1; omega
                | cons a l => rfl
              go_upto_region 16 with (go_at_call 25; (with_reducible refine (HMP.out _ (HL.out.below HGa.out.b (Nat.le_refl _)) HCV.out).mono ?_); rintro e y ⟨rfl, hby⟩; have HG3 := Lib.hid (HGa.out.below hby))
              clear c0 c1 c2 q0 q1 q2
              obtain ⟨c0, c1, c2, q0, q1, q2⟩ := Row.three HG3.out.r
              go_wp2_with fail
              have hd := HG3.out.same (fun _ _ e => by cases e)
              obtain ⟨o0, o1, o2, _⟩ := Row.three hd.1
              unfold set3 at hd o0 o1 o2
              clear c0 c1 c2 q0 q1 q2
              generalize World.setCell _ _ _ = wz at hd o0 o1 o2 ⊢
              refine bodyPost_ret (by simp [results, Tryd.results14, go_sem, o0, o1, o2]; try rfl) rfl ?_
              exact ⟨_, rfl, hd.2.1, hd.2.2⟩
      · have h8' : (8 : Int) < (n : Int) := by omega
        obtain rfl : R = (⟨⟨#[]⟩, [], ⟨#[]⟩, 0⟩, false) := by rw [HR.out, HG.out, if_neg (by simp; omega)]
        go_wp2_with fail
        have hzr := HG2.out.zero
        obtain ⟨o0, o1, o2, _⟩ := Row.three hzr.1
        unfold set3 at hzr o0 o1 o2
        generalize World.setCell _ _ _ = wz at hzr o0 o1 o2 ⊢
        refine bodyPost_ret (by simp [results, Tryd.results14, go_sem, o0, o1, o2]; try rfl) rfl ?_
        exact ⟨.slice none 0 0, rfl, CavsAt.nil _, hzr.2⟩

end Go.Proofs.YtalncnblcfcmcaaDoor
