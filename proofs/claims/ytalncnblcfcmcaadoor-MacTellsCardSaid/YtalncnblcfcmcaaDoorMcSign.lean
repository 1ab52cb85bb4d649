/- The walks of mac.mixed, mac.Sign. -/
import Derived.Test.YtalncnblcfcmcaaDoorShSum
namespace Go.Proofs.YtalncnblcfcmcaaDoor
open Go.RowKit

namespace Mc
/-- a key of sixty-four bytes -/
def padk (k : List UInt8) : List UInt8 := (List.range 64).map fun i => k.getD i 0
def mixed (k : List UInt8) (x : UInt8) : List UInt8 := (List.range 64).map fun i => k.getD i 0 ^^^ x
def key (k : List UInt8) : List UInt8 := if 64 < k.length then Sh.sum k else k
def sign (k s : List UInt8) : List UInt8 := Sh.sum (mixed (key k) 92 ++ Sh.sum (mixed (key k) 54 ++ s))
/-- so many bytes of it turned -/
def mixN (k : List UInt8) (x : UInt8) : Nat → List UInt8
  | 0 => padk k
  | i + 1 => (mixN k x i).set i ((mixN k x i).getD i 0 ^^^ x)
theorem mixN_len (k : List UInt8) (x : UInt8) : ∀ i, (mixN k x i).length = 64
  | 0 => by simp [mixN, padk]
  | i + 1 => by rw [mixN, List.length_set, mixN_len k x i]
theorem padk_get (k : List UInt8) {j : Nat} (hj : j < 64) : (padk k).getD j 0 = k.getD j 0 := by
  rw [List.getD_eq_getElem?_getD, padk, List.getElem?_map, List.getElem?_range hj]; rfl
theorem mixN_get (k : List UInt8) (x : UInt8) : ∀ i, i ≤ 64 → ∀ j, j < 64 → (mixN k x i).getD j 0 = if j < i then k.getD j 0 ^^^ x else k.getD j 0
  | 0, _, j, hj => by rw [mixN, padk_get k hj, if_neg (by omega)]
  | i + 1, hi, j, hj => by
    have ih := mixN_get k x i (by omega)
    rw [mixN]
    by_cases e : i = j
    · subst e
      rw [if_pos (by omega), List.getD_eq_getElem?_getD, List.getElem?_set_self (by rw [mixN_len]; omega), Option.getD_some, ih i hj, if_neg (by omega)]
    · rw [List.getD_eq_getElem?_getD, List.getElem?_set_ne e, ← List.getD_eq_getElem?_getD, ih j hj]
      by_cases h : j < i
      · rw [if_pos h, if_pos (by omega)]
      · rw [if_neg h, if_neg (by omega)]
theorem mixN_all (k : List UInt8) (x : UInt8) : mixN k x 64 = mixed k x := by
  apply List.ext_getElem
  · rw [mixN_len]; simp [mixed]
  · intro j h1 h2
    have hj : j < 64 := by rw [mixN_len] at h1; exact h1
    have h := mixN_get k x 64 (Nat.le_refl _) j hj
    rw [if_pos hj, List.getD_eq_getElem?_getD, List.getElem?_eq_getElem h1, Option.getD_some] at h
    rw [h]
    simp [mixed]
theorem mixed_len (k : List UInt8) (x : UInt8) : (mixed k x).length = 64 := by simp [mixed]
theorem sign_len (k s : List UInt8) : (sign k s).length = 32 := rfl
theorem key_len (k : List UInt8) : (key k).length ≤ 64 := by
  unfold key
  split
  · show 32 ≤ 64; omega
  · omega
end Mc

theorem Row.lay : ∀ (cs : List Value) (o : Nat) {x : World} {g : Nat} {l : List Value}, Row x g l → o + cs.length ≤ l.length → Row (x.setCells g o cs) g (l.take o ++ cs ++ l.drop (o + cs.length))
  | [], o, x, g, l, h, _ => by
    rw [List.append_nil, List.length_nil, Nat.add_zero, List.take_append_drop]
    exact h
  | v :: cs, o, x, g, l, h, hl => by
    simp only [List.length_cons] at hl
    have h2 := Row.lay cs (o + 1) (h.set o v (by omega)) (by rw [List.length_set]; omega)
    have e : (l.set o v).take (o + 1) ++ cs ++ (l.set o v).drop (o + 1 + cs.length) = l.take o ++ v :: cs ++ l.drop (o + (v :: cs).length) := by
      rw [List.take_add_one, List.getElem?_set_self (by omega), List.take_set_of_le (Nat.le_refl _), List.drop_set_of_lt (by omega)]
      simp only [Option.toList_some, List.length_cons, List.append_assoc, List.cons_append, List.nil_append]
      rw [show o + 1 + cs.length = o + (cs.length + 1) by omega]
    rw [e] at h2
    exact h2

/-- copy(b[:], key): a shorter text goes over whole -/
theorem run_copy_short (w : World) (ty : TypeId) (g : Nat) (s : ByteArray) (hs : s.size ≤ 64) (ht : w.there g 0 64) :
    (Builtin.copy_ #[52, 9] ty #[.slice (some ⟨g, 0, none⟩) 64 64, .string s]).run Tryd.prog w = .ok (goInt s.size) (w.setCells g 0 (bvals s.data.toList)) := by
  have hu := Tryd.underlying52
  obtain ⟨i, hi, hz0, hz1, hz2⟩ := info_parts Tryd.infoU8
  have hlen : (bvals s.data.toList).length = s.size := by unfold bvals; rw [List.length_map]; rfl
  have hst := run_storeCells_cells (P := Tryd.prog) g 0 (bvals s.data.toList) 0 w (fun j hj => by simpa using (ht j (by omega)).1) (fun j hj => by simpa using (ht j (by omega)).2) (bvals_one _)
  have hmin : Nat.min s.size 64 = s.size := Nat.min_eq_left hs
  have htk : List.take s.size (List.map (fun b : UInt8 => Value.int IntKind.u8 (b.toNat : Int)) s.data.toList) = bvals s.data.toList := by
    unfold bvals; exact List.take_of_length_le (by rw [List.length_map]; exact Nat.le_refl _)
  simp [Builtin.copy_, run_underlying hu, Builtin.lenOf, Builtin.firstCells, sizeOf, typeInfo, hi, hmin]
  rw [htk, hst]
  simp [Result.andThen]

theorem wpList_copy_short {w : World} {ops : Array Oper} {rest : List Oper} {o : Oper} {a : Act} {Q : Exit → Act → World → Prop} (hgd : o.guard = none) (d x : Operand)
    (ho : o.op = .call { callee := .builtin .copy, args := #[d, x], argTypes := #[52, 9] }) (g : Nat) (s : ByteArray)
    (hd : a.eval d = .slice (some ⟨g, 0, none⟩) 64 64) (hx : a.eval x = .string s) (hs : s.size ≤ 64) (ht : w.there g 0 64)
    (h : wpList Tryd.prog ops Q rest (a.put o.dst (goInt s.size)) (w.setCells g 0 (bvals s.data.toList))) : wpList Tryd.prog ops Q (o :: rest) a w := by
  refine wpList_plain hgd fun K hK => ?_
  have hrun := run_copy_short w o.type g s hs ht
  unfold Oper.wp
  simp [execOp, ho, resolve, invoke, builtin, hd, hx, hrun, Result.andThen]
  exact hK _ _ h

theorem padk_eq (k : List UInt8) (h : k.length ≤ 64) : (List.replicate 64 (Value.int .u8 0)).take 0 ++ bvals k ++ (List.replicate 64 (Value.int .u8 0)).drop (0 + (bvals k).length) = bvals (Mc.padk k) := by
  have hl : (bvals k).length = k.length := by unfold bvals; rw [List.length_map]
  rw [List.take_zero, List.nil_append, Nat.zero_add, hl]
  have hp : (Mc.padk k).length = 64 := by simp [Mc.padk]
  apply List.ext_getElem?
  intro j
  by_cases hj : j < 64
  · rw [bvals_get (by rw [hp]; exact hj), Mc.padk_get k hj]
    by_cases e : j < k.length
    · rw [List.getElem?_append_left (by rw [hl]; exact e), bvals_get e]
    · rw [List.getElem?_append_right (by rw [hl]; omega), List.getElem?_drop, hl, List.getElem?_replicate, if_pos (by omega), List.getD_eq_getElem?_getD, List.getElem?_eq_none (Nat.le_of_not_lt e)]
      rfl
  · rw [List.getElem?_eq_none (by rw [List.length_append, hl, List.length_drop, List.length_replicate]; omega), List.getElem?_eq_none (by unfold bvals; rw [List.length_map, hp]; omega)]

theorem bvals_set (l : List UInt8) (j : Nat) (x : UInt8) : (bvals l).set j (.int .u8 (x.toNat : Int)) = bvals (l.set j x) := by unfold bvals; rw [List.map_set]
theorem xor_u8 (a : UInt8) (x : Nat) (hx : x < 256) : bits .xor .u8 (a.toNat : Int) (x : Int) = ((a ^^^ UInt8.ofNat x).toNat : Int) := by
  rw [u8_xor_nat _ _ (UInt8.toNat_lt a) hx]
  simp
  rw [Nat.mod_eq_of_lt hx]

/-- the array and what is around it -/
structure Xs (w x : World) (l : List UInt8) : Prop where
  r : Row x w.heap.size (bvals l)
  b : Below w.heap.size w x

set_option maxRecDepth 100000 in
set_option maxHeartbeats 4000000 in
theorem mixed_any (k : ByteArray) (x : Nat) (w : World) (hk : k.size ≤ 64) (hx : x < 256) :
    Calls Tryd.prog 37 #[.string k, .int .u8 (x : Int)] w fun e w' => e = .returned (.string ⟨(Mc.mixed k.data.toList (UInt8.ofNat x)).toArray⟩) ∧ Below w.heap.size w w' := by
  have HX := Lib.hid (fun a => xor_u8 a x hx)
  go_enter Tryd.func37, Tryd.ntmps37
  go_upto_region 2 with fail
  have hR := Row.at (w := w) (t := 79) (l := List.replicate 64 (.int .u8 0)) (arr := (List.replicate 64 (.int .u8 0)).toArray) rfl (by rfl)
  have hb0 : Below w.heap.size w (w.alloc (.cells (List.replicate 64 (.int .u8 0)).toArray 79)) := (Below.refl _ _).alloc (Nat.le_refl _) _
  have HTH := Lib.hid hR.there
  have hR2 := Row.lay (bvals k.data.toList) 0 hR (by unfold bvals; rw [List.length_map, List.length_replicate]; show 0 + k.size ≤ 64; omega)
  rw [padk_eq _ hk] at hR2
  have HS := Lib.hid (Xs.mk hR2 (below_setCells (bvals k.data.toList) 0 (Nat.le_refl _) hb0))
  clear hR hR2 hb0
  simp only [List.replicate] at HTH HS
  generalize World.alloc _ (Obj.cells _ _) = x1 at HTH HS ⊢
  go_wp2_with (refine wpList_copy_short rfl (Operand.tmp 7) (Operand.tmp 8) rfl w.heap.size k rfl rfl hk HTH.out ?_)
  clear HTH
  generalize World.setCells x1 w.heap.size 0 (bvals k.data.toList) = x2 at HS ⊢
  go_loopw [10] (fun s10 wr => ∃ i : Nat, i ≤ 64 ∧ s10 = .int .i64 (i : Int) ∧ Xs w wr (Mc.mixN k.data.toList (UInt8.ofNat x) i)) (fun s10 _ => 64 - (intOf s10).toNat)
  case atStart => exact ⟨0, by omega, rfl, HS.out⟩
  case round =>
    clear HS
    obtain ⟨i, hi, rfl, hX⟩ := hrel
    have hl := Mc.mixN_len k.data.toList (UInt8.ofNat x) i
    by_cases h64 : i < 64
    · have h64' : (i : Int) < 64 := by omega
      have hi0 : (0 : Int) ≤ (i : Int) := by omega
      obtain ⟨c0, f0⟩ := hX.r i _ (bvals_get (by rw [hl]; exact h64))
      have hx0 := HX.out ((Mc.mixN k.data.toList (UInt8.ofNat x) i).getD i 0)
      have hn : Xs w (wr.setCell ⟨w.heap.size, i, none⟩ (.int .u8 (((Mc.mixN k.data.toList (UInt8.ofNat x) i).getD i 0 ^^^ UInt8.ofNat x).toNat : Int))) (Mc.mixN k.data.toList (UInt8.ofNat x) (i + 1)) :=
        ⟨by rw [Mc.mixN, ← bvals_set]; exact hX.r.set i _ (by unfold bvals; rw [List.length_map, hl]; exact h64), hX.b.setCell (p := ⟨w.heap.size, i, none⟩) (Nat.le_refl _) _⟩
      have HN := Lib.hid hn
      generalize (Mc.mixN k.data.toList (UInt8.ofNat x) i).getD i 0 ^^^ UInt8.ofNat x = d at hx0 HN
      generalize (Mc.mixN k.data.toList (UInt8.ofNat x) i).getD i 0 = c at hx0 c0
      clear hn hX hl
      go_wp2_with fail
      refine ⟨⟨i + 1, by omega, by go_num, HN.out⟩, by simp only [intOf]; omega⟩
    · obtain rfl : i = 64 := by omega
      have h64' : ¬ ((64 : Nat) : Int) < 64 := by omega
      rw [Mc.mixN_all] at hX
      have kc := row_string (cap := 64) hX.r (Mc.mixed_len k.data.toList (UInt8.ofNat x))
      have HB := Lib.hid hX.b
      obtain ⟨m, hm⟩ : ∃ m, Mc.mixed k.data.toList (UInt8.ofNat x) = m := ⟨_, rfl⟩
      rw [hm] at kc
      have HM := Lib.hid hm
      clear hX hl hm
      go_wp2_with fail
      go_ret
      exact ⟨by rw [HM.out]; rfl, HB.out⟩

namespace Mc
def signB (k s : ByteArray) : ByteArray := ⟨(sign k.data.toList s.data.toList).toArray⟩
theorem signB_size (k s : ByteArray) : (signB k s).size = 32 := rfl
end Mc

set_option maxHeartbeats 4000000 in
theorem Sign_any (k s : ByteArray) (w : World) (hL : Laid w) (hk : k.size ≤ 281474976710656) (hs : s.size ≤ 281474976710000) :
    Calls Tryd.prog 18 #[.string k, .string s] w fun e w' => e = .returned (.string (Mc.signB k s)) ∧ Below w.heap.size w w' := by
  obtain ⟨key, hkey⟩ : ∃ q : ByteArray, ⟨(Mc.key k.data.toList).toArray⟩ = q := ⟨_, rfl⟩
  have hkd : key.data.toList = Mc.key k.data.toList := by rw [← hkey]
  have hks : key.size ≤ 64 := by have := Mc.key_len k.data.toList; rw [← hkd] at this; exact this
  obtain ⟨mo, hmo⟩ : ∃ q : ByteArray, ⟨(Mc.mixed key.data.toList 92).toArray⟩ = q := ⟨_, rfl⟩
  obtain ⟨mi, hmi⟩ : ∃ q : ByteArray, ⟨(Mc.mixed key.data.toList 54).toArray⟩ = q := ⟨_, rfl⟩
  have smo : mo.size = 64 := by rw [← hmo]; exact Mc.mixed_len _ _
  have smi : mi.size = 64 := by rw [← hmi]; exact Mc.mixed_len _ _
  obtain ⟨si, hsi⟩ : ∃ q : ByteArray, ⟨(Sh.sum (mi ++ s).data.toList).toArray⟩ = q := ⟨_, rfl⟩
  have ssi : si.size = 32 := by rw [← hsi]; rfl
  have HR := Lib.hid (show (⟨(Sh.sum (mo ++ si).data.toList).toArray⟩ : ByteArray) = Mc.signB k s from by
    unfold Mc.signB Mc.sign
    rw [← hkd]
    congr 3
    simp only [ByteArray.toList_data_append, ← hmo, ← hsi, ← hmi])
  have HMO := Lib.hid (fun w => show Calls Tryd.prog 37 #[.string key, .int .u8 92] w fun e w' => e = .returned (.string mo) ∧ Below w.heap.size w w' from hmo ▸ mixed_any key 92 w hks (by omega))
  have HMI := Lib.hid (fun w => show Calls Tryd.prog 37 #[.string key, .int .u8 54] w fun e w' => e = .returned (.string mi) ∧ Below w.heap.size w w' from hmi ▸ mixed_any key 54 w hks (by omega))
  have HS1 := Lib.hid (fun w (h : Laid w) => show Calls Tryd.prog 36 #[.string (mi ++ s)] w fun e w' => e = .returned (.string si) ∧ Below w.heap.size w w' from hsi ▸ Sum_any (mi ++ s) w h (by rw [ByteArray.size_append]; omega))
  have HS2 := Lib.hid (fun w (h : Laid w) => show Calls Tryd.prog 36 #[.string (mo ++ si)] w fun e w' => e = .returned (.string (Mc.signB k s)) ∧ Below w.heap.size w w' from HR.out ▸ Sum_any (mo ++ si) w h (by rw [ByteArray.size_append]; omega))
  have hc1 : ¬ (9223372036854775807 < mi.size + s.size) := by omega
  have hc2 : ¬ (9223372036854775807 < mo.size + si.size) := by omega
  have HL := Lib.hid hL
  have HB := Lib.hid (Below.refl w.heap.size w)
  clear hL hmo hmi hsi HR hkd
  by_cases h64 : 64 < k.size
  · have h64' : (64 : Int) < (k.size : Int) := by omega
    have HK := Lib.hid (fun w (h : Laid w) => show Calls Tryd.prog 36 #[.string k] w fun e w' => e = .returned (.string key) ∧ Below w.heap.size w w' from by
      have h2 := Sum_any k w h hk
      have e : (⟨(Sh.sum k.data.toList).toArray⟩ : ByteArray) = key := by rw [← hkey]; unfold Mc.key; rw [if_pos (show 64 < k.data.toList.length from h64)]
      rw [e] at h2
      exact h2)
    clear hkey
    go_enter Tryd.func18, Tryd.ntmps18
    go_wp2_with (first
      | (go_at_call 36; (first | with_reducible refine (HK.out _ (HL.out.below HB.out (Nat.le_refl _))).mono ?_ | with_reducible refine (HS1.out _ (HL.out.below HB.out (Nat.le_refl _))).mono ?_ | with_reducible refine (HS2.out _ (HL.out.below HB.out (Nat.le_refl _))).mono ?_); rintro e u ⟨rfl, hbu⟩; have HBn := Lib.hid (HB.out.trans (hbu.mono HB.out.size)); clear HB hbu; have HB := HBn; clear HBn)
      | (go_at_call 37; (first | with_reducible refine (HMO.out _).mono ?_ | with_reducible refine (HMI.out _).mono ?_); rintro e u ⟨rfl, hbu⟩; have HBn := Lib.hid (HB.out.trans (hbu.mono HB.out.size)); clear HB hbu; have HB := HBn; clear HBn))
    all_goals (go_ret; exact ⟨rfl, HB.out⟩)
  · have h64' : ¬ (64 : Int) < (k.size : Int) := by omega
    have e : key = k := by rw [← hkey]; unfold Mc.key; rw [if_neg (show ¬ 64 < k.data.toList.length from h64)]
    subst e
    clear hkey
    go_enter Tryd.func18, Tryd.ntmps18
    go_wp2_with (first
      | (go_at_call 36; (first | with_reducible refine (HS1.out _ (HL.out.below HB.out (Nat.le_refl _))).mono ?_ | with_reducible refine (HS2.out _ (HL.out.below HB.out (Nat.le_refl _))).mono ?_); rintro e u ⟨rfl, hbu⟩; have HBn := Lib.hid (HB.out.trans (hbu.mono HB.out.size)); clear HB hbu; have HB := HBn; clear HBn)
      | (go_at_call 37; (first | with_reducible refine (HMO.out _).mono ?_ | with_reducible refine (HMI.out _).mono ?_); rintro e u ⟨rfl, hbu⟩; have HBn := Lib.hid (HB.out.trans (hbu.mono HB.out.size)); clear HB hbu; have HB := HBn; clear HBn))
    all_goals (go_ret; exact ⟨rfl, HB.out⟩)

end Go.Proofs.YtalncnblcfcmcaaDoor
