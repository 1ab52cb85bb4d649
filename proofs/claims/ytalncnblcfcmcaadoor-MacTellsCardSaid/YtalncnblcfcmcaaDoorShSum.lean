/- The walk of sha.Sum. -/
import Derived.Test.YtalncnblcfcmcaaDoorShBlock2
import Derived.Test.YtalncnblcfcmcaaDoorShPad
import Derived.Lib.BufferWrite
namespace Go.Proofs.YtalncnblcfcmcaaDoor
open Go.RowKit

/-- the two tables as the program's start lays them -/
structure Laid (w : World) : Prop where
  tbl : Table w
  s0 : w.cell? ⟨0, 0, none⟩ = some (.int .u32 ((Sh.H0.a : Nat) : Int))
  s1 : w.cell? ⟨0, 1, none⟩ = some (.int .u32 ((Sh.H0.b : Nat) : Int))
  s2 : w.cell? ⟨0, 2, none⟩ = some (.int .u32 ((Sh.H0.c : Nat) : Int))
  s3 : w.cell? ⟨0, 3, none⟩ = some (.int .u32 ((Sh.H0.d : Nat) : Int))
  s4 : w.cell? ⟨0, 4, none⟩ = some (.int .u32 ((Sh.H0.e : Nat) : Int))
  s5 : w.cell? ⟨0, 5, none⟩ = some (.int .u32 ((Sh.H0.f : Nat) : Int))
  s6 : w.cell? ⟨0, 6, none⟩ = some (.int .u32 ((Sh.H0.g : Nat) : Int))
  s7 : w.cell? ⟨0, 7, none⟩ = some (.int .u32 ((Sh.H0.h : Nat) : Int))
  lt : 3 < w.heap.size
  lt' : 0 < w.heap.size
theorem Laid.below {w x : World} {B : Nat} (h : Laid w) (hb : Below B w x) (hB : w.heap.size ≤ B) : Laid x :=
  have h1 : 3 < B := Nat.lt_of_lt_of_le h.lt hB
  have h2 : 0 < B := Nat.lt_of_lt_of_le h.lt' hB
  have h3 := hb.size
  ⟨h.tbl.below hb h1, (hb.cell (p := ⟨_, 0, none⟩) h2).trans h.s0, (hb.cell (p := ⟨_, 1, none⟩) h2).trans h.s1, (hb.cell (p := ⟨_, 2, none⟩) h2).trans h.s2,
   (hb.cell (p := ⟨_, 3, none⟩) h2).trans h.s3, (hb.cell (p := ⟨_, 4, none⟩) h2).trans h.s4, (hb.cell (p := ⟨_, 5, none⟩) h2).trans h.s5,
   (hb.cell (p := ⟨_, 6, none⟩) h2).trans h.s6, (hb.cell (p := ⟨_, 7, none⟩) h2).trans h.s7, Nat.lt_of_lt_of_le h.lt h3, Nat.lt_of_lt_of_le h.lt' h3⟩

theorem bvals_one (l : List UInt8) : ∀ v ∈ bvals l, v.oneCell' = true := by
  intro v hv
  simp only [bvals, List.mem_map] at hv
  obtain ⟨b, _, rfl⟩ := hv
  rfl

/-- copy(b[:], t): the first 64 bytes of a longer text go over -/
theorem run_copy_text (w : World) (ty : TypeId) (g : Nat) (s : ByteArray) (hs : 64 ≤ s.size) (ht : w.there g 0 64) :
    (Builtin.copy_ #[52, 9] ty #[.slice (some ⟨g, 0, none⟩) 64 64, .string s]).run Tryd.prog w = .ok (goInt 64) (w.setCells g 0 (bvals (s.data.toList.take 64))) := by
  have hu := Tryd.underlying52
  obtain ⟨i, hi, hz0, hz1, hz2⟩ := info_parts Tryd.infoU8
  have hlen : (bvals (s.data.toList.take 64)).length = 64 := by
    unfold bvals; rw [List.length_map, List.length_take, show s.data.toList.length = s.size from rfl]; omega
  have hst := run_storeCells_cells (P := Tryd.prog) g 0 (bvals (s.data.toList.take 64)) 0 w (fun j hj => by simpa using (ht j (by omega)).1) (fun j hj => by simpa using (ht j (by omega)).2) (bvals_one _)
  have hmin : Nat.min s.size 64 = 64 := Nat.min_eq_right hs
  have htk : List.take 64 (List.map (fun b : UInt8 => Value.int IntKind.u8 (b.toNat : Int)) s.data.toList) = bvals (s.data.toList.take 64) := by
    unfold bvals; rw [List.map_take]
  simp [Builtin.copy_, run_underlying hu, Builtin.lenOf, Builtin.firstCells, sizeOf, typeInfo, hi, hmin]
  rw [htk, hst]
  simp [Result.andThen]

theorem wpList_copy_text {w : World} {ops : Array Oper} {rest : List Oper} {o : Oper} {a : Act} {Q : Exit → Act → World → Prop} (hgd : o.guard = none) (d x : Operand)
    (ho : o.op = .call { callee := .builtin .copy, args := #[d, x], argTypes := #[52, 9] }) (g : Nat) (s : ByteArray)
    (hd : a.eval d = .slice (some ⟨g, 0, none⟩) 64 64) (hx : a.eval x = .string s) (hs : 64 ≤ s.size) (ht : w.there g 0 64)
    (h : wpList Tryd.prog ops Q rest (a.put o.dst (goInt 64)) (w.setCells g 0 (bvals (s.data.toList.take 64)))) : wpList Tryd.prog ops Q (o :: rest) a w := by
  refine wpList_plain hgd fun K hK => ?_
  have hrun := run_copy_text w o.type g s hs ht
  unfold Oper.wp
  simp [execOp, ho, resolve, invoke, builtin, hd, hx, hrun, Result.andThen]
  exact hK _ _ h

theorem text_some (q : ByteArray) (h : 0 < q.size) : q.toList.isEmpty = false := by
  rw [Lib.toList_data]
  have : 0 < q.data.toList.length := h
  cases hq : q.data.toList with
  | nil => rw [hq] at this; simp at this
  | cons a l => rfl
def strLen : Value → Nat
  | .string q => q.size
  | _ => 0

theorem Row.cells {x : World} {g b : Nat} {l : List Value} (h : Row x g l) (hne : b ≠ g) (o : Nat) (cs : List Value) : Row (x.setCells b o cs) g l := fun j v e =>
  ⟨by rw [World.cell?_setCells_out b cs o x _ (fun e' => absurd e' (by simpa using Ne.symm hne))]; exact (h j v e).1, by rw [World.frozen?_setCells]; exact (h j v e).2⟩
theorem vcells_len (v : Sh.V) : (vcells v).length = 8 := rfl
theorem vcells_size (v : Sh.V) : (vcells v).toArray.size = 8 := rfl
theorem vval_cells (v : Sh.V) : vval v = .agg (vcells v).toArray := rfl
theorem vcells_one (v : Sh.V) : ∀ x ∈ vcells v, x.oneCell' = true := by
  intro x hx
  obtain ⟨y, _, rfl⟩ := List.mem_map.1 hx
  rfl

/-- what Sum's loop knows -/
structure Ss (w x : World) (v : Sh.V) : Prop where
  r : Row x w.heap.size (vcells v)
  b : Below w.heap.size w x
  lt : w.heap.size < x.heap.size
theorem Ss.drew {w x : World} {v : Sh.V} (h : Ss w x v) : Ss w x.drew v := ⟨h.r.drew, h.b.drew, h.lt⟩
theorem Ss.below {w x y : World} {v : Sh.V} (h : Ss w x v) (hb : Below x.heap.size x y) : Ss w y v := ⟨h.r.below hb h.lt, h.b.trans (hb.mono h.b.size), Nat.lt_of_lt_of_le h.lt hb.size⟩
theorem Ss.alloc {w x : World} {v : Sh.V} (h : Ss w x v) (o : Obj) : Ss w (x.alloc o) v := h.below ((Below.refl _ _).alloc (Nat.le_refl _) o)
theorem Ss.lay {w x : World} {v : Sh.V} (h : Ss w x v) (u : Sh.V) : Ss w (x.setCells w.heap.size 0 (vcells u)) u :=
  ⟨Row.set8 h.r _ _ _ _ _ _ _ _, Below.set8 h.b (Nat.le_refl _) _ _ _ _ _ _ _ _, by have := h.lt; rw [show (x.setCells w.heap.size 0 (vcells u)) = set8 x w.heap.size (.int .u32 (u.a : Int)) (.int .u32 (u.b : Int)) (.int .u32 (u.c : Int)) (.int .u32 (u.d : Int)) (.int .u32 (u.e : Int)) (.int .u32 (u.f : Int)) (.int .u32 (u.g : Int)) (.int .u32 (u.h : Int)) from rfl]; simpa [set8] using this⟩

theorem out4_cells (l : List UInt8) (x : Nat) : bcells l ++ [.int .u8 ((x : Int) / 16777216 % 256), .int .u8 ((x : Int) / 65536 % 256), .int .u8 ((x : Int) / 256 % 256), .int .u8 ((x : Int) % 256)] = bcells (l ++ Sh.out4 x) := by
  unfold bcells Sh.out4
  rw [List.map_append]
  congr 1
  simp
theorem vcells_L8 (v : Sh.V) : vcells v = wvals (Sh.L8 v) := rfl

theorem index_eight (L : List Nat) (hL : L.length = 8) (i : Nat) (hi : i < 8) (w : World) : (Instr.index 78 (.agg (wvals L).toArray) (.int .i64 (i : Int))).run Tryd.prog w = .ok (.int .u32 ((L.getD i 0 : Nat) : Int)) w := by
  have h := wvals_get (l := L) (j := i) (by omega)
  unfold Instr.index
  simp only [List.getD_eq_getElem?_getD] at h
  simp [go_sem, hi, h]

namespace Sh
def outN (l : List Nat) : Nat → List UInt8
  | 0 => []
  | j + 1 => outN l j ++ out4 (l.getD j 0)
theorem outN_len (l : List Nat) : ∀ j, (outN l j).length = 4 * j
  | 0 => rfl
  | j + 1 => by rw [outN, List.length_append, outN_len l j]; show 4 * j + 4 = _; omega
theorem out_eq (v : V) : out v = outN (L8 v) 8 := rfl
theorem L8_len (v : V) : (L8 v).length = 8 := rfl
def rest (P : List UInt8) (k : Nat) : ByteArray := ⟨(P.drop (64 * k)).toArray⟩
theorem rest_size (P : List UInt8) (k : Nat) : (rest P k).size = P.length - 64 * k := by
  show (P.drop (64 * k)).toArray.size = _; simp
theorem rest_next (P : List UInt8) (k : Nat) : (rest P k).extract 64 (rest P k).size = rest P (k + 1) := by
  apply ByteArray.ext
  rw [rest_size]
  simp [rest, List.drop_drop]
  rw [show 64 * (k + 1) = 64 * k + 64 by omega]
  rw [List.take_of_length_le (by simp; omega)]
theorem zeros_mod (n : Nat) : (n + 1 + zeros n + 8) % 64 = 0 := by unfold zeros; omega
theorem padded_mod (s : List UInt8) : (padded s).length % 64 = 0 := by
  unfold padded
  have : (len8 (s.length * 8 % 18446744073709551616)).length = 8 := by unfold len8; simp
  simp only [List.length_append, List.length_replicate, this, List.length_singleton]
  exact zeros_mod _
theorem blocks_ok (t : List UInt8) {h : V} (hh : h.ok) : ∀ k, (blocks t h k).ok
  | 0 => hh
  | _ + 1 => block_ok _ _
theorem blocks_succ (t : List UInt8) (h : V) (k : Nat) : blocks t h (k + 1) = block (blocks t h k) ((t.drop (64 * k)).take 64) := rfl
theorem H0_ok : H0.ok := ⟨by decide, by decide, by decide, by decide, by decide, by decide, by decide, by decide⟩
end Sh

set_option maxRecDepth 100000 in
set_option maxHeartbeats 4000000 in
theorem Sum_any (s : ByteArray) (w : World) (hL : Laid w) (hs : s.size ≤ 281474976710656) :
    Calls Tryd.prog 36 #[.string s] w fun e w' => e = .returned (.string ⟨(Sh.sum s.data.toList).toArray⟩) ∧ Below w.heap.size w w' := by
  have HPAD := Lib.hid (fun w => padded_any s w hs)
  have hmod := Sh.padded_mod s.data.toList
  have HSUM := Lib.hid (show Sh.sum s.data.toList = Sh.out (Sh.blocks (Sh.padded s.data.toList) Sh.H0 ((Sh.padded s.data.toList).length / 64)) from rfl)
  generalize Sh.padded s.data.toList = P at HPAD hmod HSUM
  obtain ⟨m, hm⟩ : ∃ m, P.length = 64 * m := ⟨P.length / 64, by omega⟩
  rw [show P.length / 64 = m by omega] at HSUM
  obtain ⟨pt, hpt⟩ : ∃ q : ByteArray, ⟨P.toArray⟩ = q := ⟨_, rfl⟩
  rw [hpt] at HPAD
  have HPT := Lib.hid (show pt = Sh.rest P 0 from hpt ▸ rfl)
  have HLA := Lib.hid hL
  have HOK0 := Lib.hid Sh.H0_ok
  obtain ⟨_, s0, s1, s2, s3, s4, s5, s6, s7, lt1, lt2⟩ := hL
  generalize Sh.H0 = st at s0 s1 s2 s3 s4 s5 s6 s7 HSUM HOK0
  clear hpt hmod
  go_enter Tryd.func36, Tryd.ntmps36
  go_wp2_with (go_at_call 53; refine (HPAD.out _).mono ?_; rintro e x1 ⟨rfl, hb1⟩)
  have HS := Lib.hid (Ss.below (show Ss w (w.alloc (.cells (vcells st).toArray 78)) st from ⟨Row.at rfl (by simp), (Below.refl _ _).alloc (Nat.le_refl _) _, by simp⟩) hb1)
  clear hb1 s0 s1 s2 s3 s4 s5 s6 s7 HPAD
  go_loopw [4] (fun s4 wr => ∃ k : Nat, k ≤ m ∧ s4 = .string (Sh.rest P k) ∧ Ss w wr (Sh.blocks P st k)) (fun s4 _ => strLen s4)
  case atStart => exact ⟨0, by omega, by rw [HPT.out], HS.out⟩
  case round =>
    clear HS HPT
    obtain ⟨k, hk, rfl, hS⟩ := hrel
    by_cases hkm : k < m
    · have hsz := Sh.rest_size P k
      have hnx := Sh.rest_next P k
      have HTK := Lib.hid (show (Sh.rest P k).data.toList.take 64 = (P.drop (64 * k)).take 64 from by simp [Sh.rest])
      have HBL := Lib.hid (Sh.blocks_succ P st k)
      have HOK := Lib.hid (Sh.blocks_ok P HOK0.out k)
      have HS := Lib.hid hS
      have hl2 : (Sh.rest P (k + 1)).size < (Sh.rest P k).size := by rw [Sh.rest_size, Sh.rest_size]; omega
      have HB64 := Lib.hid (show ((P.drop (64 * k)).take 64).length = 64 from by simp; omega)
      generalize (P.drop (64 * k)).take 64 = B at HTK HBL HB64
      generalize hq2 : Sh.rest P (k + 1) = q2 at hnx hl2
      have HQ2 := Lib.hid hq2; clear hq2
      generalize Sh.rest P k = q at hsz hnx HTK hl2
      have hq64 : 64 ≤ q.size := by omega
      have hq64' : (64 : Int) ≤ (q.size : Int) := by omega
      have hemp : q.toList.isEmpty = false := text_some q (by omega)
      clear hsz
      go_upto_region 6 with fail
      have HT64 := Lib.hid (show World.there _ wr.heap.size 0 64 from (Row.at (w := wr) (t := 79) (l := List.replicate 64 (.int .u8 0)) rfl (by rfl)).there)
      have HS2 := Lib.hid (HS.out.alloc (.cells (List.replicate 64 (.int .u8 0)).toArray 79))
      have HLT := Lib.hid (show wr.heap.size < (wr.alloc (.cells (List.replicate 64 (.int .u8 0)).toArray 79)).heap.size from by simp)
      have HWB := Lib.hid (show w.heap.size < wr.heap.size from HS.out.lt)
      simp only [List.replicate] at HT64 HS2 HLT
      generalize hgb : wr.heap.size = gb at HT64 HLT HWB ⊢
      generalize World.alloc _ (Obj.cells _ _) = x2 at HT64 HS2 HLT ⊢
      clear hgb HS
      go_upto_region 7 with (refine wpList_copy_text rfl (Operand.tmp 16) (Operand.tmp 17) rfl gb q rfl rfl hq64 HT64.out ?_)
      rw [HTK.out]
      simp only [Act.put, List.setIfInBounds_toArray, List.set_cons_zero, List.set_cons_succ]
      have hone := bvals_one B
      have hbl : (bvals B).length = 64 := by unfold bvals; rw [List.length_map]; exact HB64.out
      have hne : gb ≠ w.heap.size := by have := HWB.out; omega
      have hS3 : Ss w (x2.setCells gb 0 (bvals B)) (Sh.blocks P st k) :=
        ⟨HS2.out.r.cells hne 0 _, below_setCells (bvals B) 0 (by have := HWB.out; omega) HS2.out.b, by have := HS2.out.lt; have h2 := (below_setCells (B := 0) (b := gb) (bvals B) 0 (Nat.zero_le gb) (Below.refl 0 x2)).size; exact Nat.lt_of_lt_of_le this h2⟩
      have HRG := Lib.hid (World.rangeAt_setCells_same x2 gb 0 (bvals B) (by rw [hbl]; exact HT64.out))
      have HLA3 := Lib.hid (HLA.out.below hS3.b (Nat.le_refl _))
      have HS3 := Lib.hid hS3
      have HBK := Lib.hid (fun y (h : Laid y) => block_any (Sh.blocks P st k) B y HB64.out HOK.out h.tbl h.lt)
      rw [← HBL.out] at HBK
      have HSZ := Lib.hid (show (Tryd.prog.info? 79).map (·.size) = some (bvals B).length from by rw [hbl]; kernel_rfl)
      generalize x2.setCells gb 0 (bvals B) = x3 at HRG HLA3 HS3 ⊢
      clear hS3 hone hbl hne HT64 HS2 HLT
      have hvl : (vcells (Sh.blocks P st k)).length = 8 := vcells_len _
      have HVR := Lib.hid HS3.out.r.range
      have HS36 := Lib.hid (show (Tryd.prog.info? 78).map (·.size) = some (vcells (Sh.blocks P st k)).length from by rw [hvl]; kernel_rfl)
      have HS37 := Lib.hid (show (Tryd.prog.info? 78).map (·.size) = some (vcells (Sh.blocks P st (k + 1))).toArray.size from by rw [vcells_size]; kernel_rfl)
      have HUA := Lib.hid (all_oneCell_toArray (vcells_one (Sh.blocks P st (k + 1))))
      have HUT := Lib.hid (fun y (h : Ss w y (Sh.blocks P st k)) => show y.there w.heap.size 0 (vcells (Sh.blocks P st (k + 1))).toArray.size from by rw [vcells_size, ← hvl]; exact h.r.there)
      have HLAY := Lib.hid (fun y (h : Ss w y (Sh.blocks P st k)) => h.lay (Sh.blocks P st (k + 1)))
      simp only [vval_cells] at HBK
      clear hvl HOK HBL HB64
      generalize vcells (Sh.blocks P st (k + 1)) = UC at HBK HS37 HUA HUT HLAY
      generalize vcells (Sh.blocks P st k) = VC at HBK HVR HS36
      generalize bvals B = BC at HRG HSZ HBK
      go_upto_region 4 with (first
        | (refine wpList_load_mid rfl 78 (Operand.tmp 3) rfl w.heap.size 0 rfl VC _ HVR.out Tryd.underlying78 rfl HS36.out ?_)
        | (refine wpList_load_mid rfl 79 (Operand.tmp 5) rfl gb 0 rfl BC _ HRG.out Tryd.underlying79 rfl HSZ.out ?_)
        | (go_at_call 54; (refine (HBK.out _ HLA3.out).mono ?_); rintro e x4 ⟨rfl, hb4⟩; have HS4 := Lib.hid (HS3.out.below hb4); clear hb4)
        | (refine wpList_store_mid rfl 78 (Operand.tmp 3) (Operand.tmp 21) rfl w.heap.size 0 UC.toArray rfl rfl (HUT.out _ HS4.out) HS37.out HUA.out ?_))
      simp only [Act.put]
      have HS5 := Lib.hid (HLAY.out _ HS4.out)
      clear HS37 HUA HUT HVR HS36 HRG HSZ HBK HLA3 HS3
      generalize x4.setCells w.heap.size 0 UC = x5 at HS5 ⊢
      clear HLAY HS4
      go_wp2_with fail
      refine ⟨⟨k + 1, by omega, ?_, HS5.out⟩, ?_⟩
      · rw [HQ2.out]
      · simp only [strLen]; omega
    · obtain rfl : k = m := by omega
      have hemp : (Sh.rest P k).toList.isEmpty = true := by
        rw [Lib.toList_data]
        have h := Sh.rest_size P k
        rw [hm, Nat.sub_self] at h
        have h2 : (Sh.rest P k).data.toList.length = 0 := h
        rw [List.length_eq_zero_iff.1 h2]; rfl
      generalize Sh.rest P k = q at hemp
      obtain ⟨V, hV⟩ : ∃ V, Sh.blocks P st k = V := ⟨_, rfl⟩
      rw [hV] at hS HSUM
      have HS := Lib.hid hS
      have hvl : (vcells V).length = 8 := vcells_len _
      have HVR := Lib.hid hS.r.range
      have HS36 := Lib.hid (show (Tryd.prog.info? 78).map (·.size) = some (vcells V).length from by rw [hvl]; kernel_rfl)
      clear hS hvl hV
      have HIX := Lib.hid (fun i hi w => index_eight (Sh.L8 V) (Sh.L8_len V) i hi w)
      rw [← vcells_L8] at HIX
      have HOUT := Lib.hid (HSUM.out.trans (Sh.out_eq V))
      generalize Sh.L8 V = LV at HIX HOUT
      obtain ⟨VC, hVC⟩ : ∃ VC, vcells V = VC := ⟨_, rfl⟩
      rw [hVC] at HVR HS36 HIX
      clear hVC HSUM
      obtain ⟨i0, hi, hz0, hz1, hz2⟩ := info_parts Tryd.infoU8
      clear hkm hk hm
      go_wp2_with (refine wpList_load_mid rfl 78 (Operand.tmp 3) rfl w.heap.size 0 rfl VC _ HVR.out Tryd.underlying78 rfl HS36.out ?_)
      go_loopw [6, 23] (fun s6 s23 wy => ∃ j : Nat, j ≤ 8 ∧ s23 = .int .i64 (j : Int) ∧ wy.ownsRow w.heap.size 5 1 s6 (Sh.outN LV j).length (bcells (Sh.outN LV j)) ∧ Below w.heap.size w wy) (fun _ s23 _ => 8 - (intOf s23).toNat)
      case atStart => exact ⟨0, by omega, rfl, World.ownsRow_nil _ _ _ _, HS.out.b⟩
      case round =>
        clear HS HVR HS36
        obtain ⟨j, hj, rfl, hown, hbel⟩ := hrel
        have hle := Sh.outN_len LV j
        by_cases h8 : j < 8
        · have h8' : (j : Int) < 8 := by omega
          have hj0 : (0 : Int) ≤ (j : Int) := by omega
          have hidx := fun w => HIX.out j h8 w
          have HNX := Lib.hid (show Sh.outN LV (j + 1) = Sh.outN LV j ++ Sh.out4 (LV.getD j 0) from rfl)
          generalize LV.getD j 0 = x at hidx HNX
          generalize hl2 : Sh.outN LV (j + 1) = l2 at HNX
          have HL2 := Lib.hid hl2; clear hl2
          generalize Sh.outN LV j = l at hown hle HNX
          have hws := hbel.size
          go_wp2_with (at_builtin; refine wpList_append_own _ rfl _ _ 52 rfl w.heap.size 5 i0 (.int .u8 0) 1 1 Tryd.underlying52 hi hz0 hz1 hz2 rfl (by decide) _ _ _ rfl (hown.alloc _) ⟨wr.heap.size, 0, none⟩ 4 4 [.int .u8 ((x : Int) / 16777216 % 256), .int .u8 ((x : Int) / 65536 % 256), .int .u8 ((x : Int) / 256 % 256), .int .u8 ((x : Int) % 256)] rfl rfl ?c1 ?c2 ?c3 ?c4 ?c5 ?_)
          case c1 =>
            intro j u hj
            match j, hj with
            | 0, hj => simp at hj; subst hj; simp [Addr.add]
            | 1, hj => simp at hj; subst hj; simp [Addr.add]
            | 2, hj => simp at hj; subst hj; simp [Addr.add]
            | 3, hj => simp at hj; subst hj; simp [Addr.add]
          case c2 => intro u hu; simp at hu; rcases hu with rfl | rfl | rfl | rfl <;> rfl
          case c3 => unfold maxLen; omega
          case c4 => omega
          case c5 => simp; omega
          · intro v' w1 hown' hgrow _
            have hb1 : Below w.heap.size w w1 := (hbel.alloc hws (.cells #[.int .u8 ((x : Int) / 16777216 % 256), .int .u8 ((x : Int) / 65536 % 256), .int .u8 ((x : Int) / 256 % 256), .int .u8 ((x : Int) % 256)] 5)).grown hgrow (by simp; omega) (fun j e => (hown.lt j e).1)
            rw [out4_cells, ← HNX.out] at hown'
            have e : l2.length = 4 * j + 4 := by rw [HNX.out, List.length_append, hle]; rfl
            have HO := Lib.hid (show w1.ownsRow w.heap.size 5 1 v' l2.length (bcells l2) from by rw [e]; exact hown')
            clear e
            have HB := Lib.hid hb1
            clear hown' hgrow hb1 hown hbel hws
            go_wp2_with fail
            refine ⟨⟨j + 1, by omega, by go_num, by rw [HL2.out]; exact HO.out, HB.out⟩, by simp only [intOf]; omega⟩
        · obtain rfl : j = 8 := by omega
          have h8' : ¬ ((8 : Nat) : Int) < 8 := by omega
          rw [← HOUT.out] at hown hle
          have kc := own_string hown (by omega)
          have HB := Lib.hid hbel
          clear hown hbel HOUT hle
          go_wp2_with fail
          go_ret
          exact ⟨ret_str rfl, HB.out⟩

end Go.Proofs.YtalncnblcfcmcaaDoor
