/- The walk of sha.words. -/
import Derived.Test.YtalncnblcfcmcaaDoorShTurn
import Derived.Test.YtalncnblcfcmcaaDoorRow
import Derived.Deep.RegionHeld3
import Derived.Deep.DeepCutAuto
import Derived.Handy
import Derived.Deep.MidRow
namespace Go.Proofs.YtalncnblcfcmcaaDoor
open Go.RowKit

/-- bytes, words as cells -/
def bvals (b : List UInt8) : List Value := b.map fun x => .int .u8 (x.toNat : Int)
def wvals (l : List Nat) : List Value := l.map fun x : Nat => .int .u32 (x : Int)

namespace Sh
theorem wordsN_len (b : List UInt8) : ∀ k, (wordsN b k).length = k
  | 0 => rfl
  | k + 1 => by rw [wordsN, wstep, List.length_append, wordsN_len b k]; rfl
/-- the words so far, and noughts behind them -/
def padw (b : List UInt8) (i : Nat) : List Nat := wordsN b i ++ List.replicate (64 - i) 0
theorem padw_len (b : List UInt8) {i : Nat} (h : i ≤ 64) : (padw b i).length = 64 := by
  unfold padw; rw [List.length_append, wordsN_len, List.length_replicate]; omega
theorem padw_next (b : List UInt8) {i : Nat} (h : i < 64) (x : Nat) (hx : x = if i < 16 then word b i else made (wordsN b i) i) : (padw b i).set i x = padw b (i + 1) := by
  unfold padw
  rw [List.set_append_right _ _ (by rw [wordsN_len]; omega), wordsN_len, Nat.sub_self, wordsN, wstep, wordsN_len, ← hx]
  obtain ⟨m, hm⟩ : ∃ m, 64 - i = m + 1 := ⟨63 - i, by omega⟩
  rw [hm, show 64 - (i + 1) = m by omega, List.replicate_succ, List.set_cons_zero, List.append_assoc]
  rfl
theorem padw_get (b : List UInt8) {i j : Nat} (h : j < i) : (padw b i).getD j 0 = (wordsN b i).getD j 0 := by
  unfold padw
  rw [List.getD_eq_getElem?_getD, List.getD_eq_getElem?_getD, List.getElem?_append_left (by rw [wordsN_len]; exact h)]
theorem add_lt (a b : Nat) : add a b < 4294967296 := Nat.mod_lt _ (by decide)
theorem four_lt {a b c d : Nat} (ha : a < 256) (hb : b < 256) (hc : c < 256) (hd : d < 256) : four a b c d < 4294967296 := by
  unfold four
  exact Nat.or_lt_two_pow (n := 32) (Nat.or_lt_two_pow (n := 32) (Nat.or_lt_two_pow (n := 32) (by omega) (by omega)) (by omega)) (by omega)
theorem wordsN_lt (b : List UInt8) : ∀ k, ∀ x ∈ wordsN b k, x < 4294967296
  | 0 => by simp [wordsN]
  | k + 1 => by
    intro x hx
    rw [wordsN, wstep] at hx
    rcases List.mem_append.1 hx with h | h
    · exact wordsN_lt b k x h
    · simp only [List.mem_singleton] at h
      subst h
      split
      · exact four_lt (UInt8.toNat_lt _) (UInt8.toNat_lt _) (UInt8.toNat_lt _) (UInt8.toNat_lt _)
      · exact add_lt _ _
theorem padw_lt (b : List UInt8) (i j : Nat) : (padw b i).getD j 0 < 4294967296 := by
  rw [List.getD_eq_getElem?_getD]
  cases h : (padw b i)[j]? with
  | none => simp
  | some x =>
    have hm : x ∈ padw b i := List.mem_of_getElem? h
    unfold padw at hm
    rcases List.mem_append.1 hm with h1 | h1
    · exact wordsN_lt b i x h1
    · have := List.eq_of_mem_replicate h1
      subst this; simp
end Sh

theorem bvals_get {b : List UInt8} {j : Nat} (h : j < b.length) : (bvals b)[j]? = some (.int .u8 ((b.getD j 0).toNat : Int)) := by
  unfold bvals
  rw [List.getElem?_map, List.getElem?_eq_getElem h, List.getD_eq_getElem?_getD, List.getElem?_eq_getElem h]
  rfl
theorem wvals_get {l : List Nat} {j : Nat} (h : j < l.length) : (wvals l)[j]? = some (.int .u32 ((l.getD j 0 : Nat) : Int)) := by
  unfold wvals
  rw [List.getElem?_map, List.getElem?_eq_getElem h, List.getD_eq_getElem?_getD, List.getElem?_eq_getElem h]
  rfl
theorem wvals_set (l : List Nat) (j x : Nat) : (wvals l).set j (.int .u32 (x : Int)) = wvals (l.set j x) := by
  unfold wvals; rw [List.map_set]
theorem wvals_len (l : List Nat) : (wvals l).length = l.length := by simp [wvals]

theorem Row.range {w : World} {b : Nat} {l : List Value} (h : Row w b l) : w.rangeAt b 0 l := fun j v e => by rw [Nat.zero_add]; exact (h j v e).1
theorem Row.there {w : World} {b : Nat} {l : List Value} (h : Row w b l) : w.there b 0 l.length := fun j hj => by
  rw [Nat.zero_add]
  have := h j _ (List.getElem?_eq_getElem hj)
  exact ⟨by rw [this.1]; rfl, this.2⟩

theorem below_setCells {B b : Nat} {w : World} : ∀ {x : World} (l : List Value) (o : Nat), B ≤ b → Below B w x → Below B w (x.setCells b o l)
  | _, [], _, _, h => h
  | _, v :: l, o, hb, h => below_setCells l (o + 1) hb (h.setCell (p := ⟨b, o, none⟩) hb v)

theorem results_cell {fn : Func} {p : Tmp} {ty : TypeId} (h : fn.results = #[.cell p ty]) (tmps : Array Value) (P : Program) (w : World) (a : Addr) (v : Value) (ha : tmps.getD p undef = .pointer (some a)) (hl : (loadVar ty a).run P w = .ok v w) :
    (results fn tmps).run P w = .ok v w := by
  simp only [results, h]
  have ha' : tmps[p]?.getD undef = .pointer (some a) := by simpa using ha
  simp [ha', asAddr, hl]

/-- the variables of 'words' -/
structure Ws (w x : World) (b : List UInt8) (l : List Nat) : Prop where
  r0 : Row x w.heap.size (bvals b)
  r1 : Row x (w.heap.size + 1) (List.replicate 64 (.int .u32 0))
  r2 : Row x (w.heap.size + 1 + 1) (wvals l)
  b : Below w.heap.size w x
  lt : w.heap.size + 1 + 1 < x.heap.size
theorem Ws.drew {w x : World} {b : List UInt8} {l : List Nat} (h : Ws w x b l) : Ws w x.drew b l := ⟨h.r0, h.r1, h.r2, h.b.drew, h.lt⟩
theorem Ws.set {w x : World} {b : List UInt8} {l : List Nat} (h : Ws w x b l) (i v : Nat) (hi : i < l.length) : Ws w (x.setCell ⟨w.heap.size + 1 + 1, i, none⟩ (.int .u32 (v : Int))) b (l.set i v) :=
  ⟨h.r0.other _ (by omega), h.r1.other _ (by omega), by rw [← wvals_set]; exact h.r2.set i _ (by rw [wvals_len]; exact hi), h.b.setCell (p := ⟨w.heap.size + 1 + 1, i, none⟩) (by show w.heap.size ≤ w.heap.size + 1 + 1; omega) _, by simpa using h.lt⟩

theorem four_cells {w : World} {b0 b1 b2 b3 b o0 o1 o2 o3 o : Nat} {a0 a1 a2 a3 v : Value} (h0 : b ≠ b0) (h1 : b ≠ b1) (h2 : b ≠ b2) (h3 : b ≠ b3) (h : w.cell? ⟨b0, o0, none⟩ = some a0 ∧ w.cell? ⟨b1, o1, none⟩ = some a1 ∧ w.cell? ⟨b2, o2, none⟩ = some a2 ∧ w.cell? ⟨b3, o3, none⟩ = some a3) :
    (w.setCell ⟨b, o, none⟩ v).cell? ⟨b0, o0, none⟩ = some a0 ∧ (w.setCell ⟨b, o, none⟩ v).cell? ⟨b1, o1, none⟩ = some a1 ∧ (w.setCell ⟨b, o, none⟩ v).cell? ⟨b2, o2, none⟩ = some a2 ∧ (w.setCell ⟨b, o, none⟩ v).cell? ⟨b3, o3, none⟩ = some a3 :=
  ⟨(World.cell?_setCell_other _ _ _ _ (by intro e; cases e; exact h0 rfl)).trans h.1, (World.cell?_setCell_other _ _ _ _ (by intro e; cases e; exact h1 rfl)).trans h.2.1, (World.cell?_setCell_other _ _ _ _ (by intro e; cases e; exact h2 rfl)).trans h.2.2.1, (World.cell?_setCell_other _ _ _ _ (by intro e; cases e; exact h3 rfl)).trans h.2.2.2⟩

theorem four_cells_drew {w : World} {b0 b1 b2 b3 b o0 o1 o2 o3 o : Nat} {a0 a1 a2 a3 v : Value} (h0 : b ≠ b0) (h1 : b ≠ b1) (h2 : b ≠ b2) (h3 : b ≠ b3) (h : w.cell? ⟨b0, o0, none⟩ = some a0 ∧ w.cell? ⟨b1, o1, none⟩ = some a1 ∧ w.cell? ⟨b2, o2, none⟩ = some a2 ∧ w.cell? ⟨b3, o3, none⟩ = some a3) :
    (w.setCell ⟨b, o, none⟩ v).drew.cell? ⟨b0, o0, none⟩ = some a0 ∧ (w.setCell ⟨b, o, none⟩ v).drew.cell? ⟨b1, o1, none⟩ = some a1 ∧ (w.setCell ⟨b, o, none⟩ v).drew.cell? ⟨b2, o2, none⟩ = some a2 ∧ (w.setCell ⟨b, o, none⟩ v).drew.cell? ⟨b3, o3, none⟩ = some a3 := four_cells h0 h1 h2 h3 h

theorem four_int {a b c d : Nat} (ha : a < 256) (hb : b < 256) (hc : c < 256) (hd : d < 256) :
    bits .or .u32 (bits .or .u32 (bits .or .u32 ((a : Int) * 16777216) ((b : Int) * 65536)) ((c : Int) * 256)) (d : Int) = ((Sh.four a b c d : Nat) : Int) := by
  have h1 : a * 16777216 ||| b * 65536 < 2 ^ 32 := Nat.or_lt_two_pow (by omega) (by omega)
  have h2 : a * 16777216 ||| b * 65536 ||| c * 256 < 2 ^ 32 := Nat.or_lt_two_pow h1 (by omega)
  rw [show (a : Int) * 16777216 = ((a * 16777216 : Nat) : Int) by omega, show (b : Int) * 65536 = ((b * 65536 : Nat) : Int) by omega, show (c : Int) * 256 = ((c * 256 : Nat) : Int) by omega,
    u32_or_nat _ _ (by omega) (by omega), u32_or_nat _ _ (by omega) (by omega), u32_or_nat _ _ (by omega) (by omega)]
  rfl

theorem two_keep {w : World} {b o0 o1 o : Nat} {a0 a1 v : Value} (h0 : o0 ≠ o) (h1 : o1 ≠ o) (h : w.cell? ⟨b, o0, none⟩ = some a0 ∧ w.cell? ⟨b, o1, none⟩ = some a1) :
    (w.setCell ⟨b, o, none⟩ v).drew.drew.cell? ⟨b, o0, none⟩ = some a0 ∧ (w.setCell ⟨b, o, none⟩ v).drew.drew.cell? ⟨b, o1, none⟩ = some a1 :=
  ⟨(World.cell?_setCell_other _ _ _ _ (by intro e; cases e; exact h0 rfl)).trans h.1, (World.cell?_setCell_other _ _ _ _ (by intro e; cases e; exact h1 rfl)).trans h.2⟩

theorem add_int (a b : Nat) : IntKind.u32.wrap ((a : Int) + (b : Int)) = ((Sh.add a b : Nat) : Int) := by
  unfold Sh.add; rw [IntKind.wrap_u32]; omega
theorem Sh.rotr_lt (x n : Nat) (hx : x < 4294967296) : Sh.rotr x n < 4294967296 := by
  unfold Sh.rotr
  have h3 : x / 2 ^ n ≤ x := Nat.div_le_self _ _
  exact Nat.or_lt_two_pow (n := 32) (Nat.mod_lt _ (by decide)) (by omega)
theorem xor3_int {a b c : Nat} (ha : a < 4294967296) (hb : b < 4294967296) (hc : c < 4294967296) : bits .xor .u32 (bits .xor .u32 (a : Int) (b : Int)) (c : Int) = ((a ^^^ b ^^^ c : Nat) : Int) := by
  rw [u32_xor_nat _ _ ha hb, u32_xor_nat _ _ (Nat.xor_lt_two_pow (n := 32) ha hb) hc]
theorem made_int (p q x y r7 r18 r17 r19 : Nat) (lx : x < 4294967296) (ly : y < 4294967296) (h7 : Sh.rotr x 7 = r7) (h18 : Sh.rotr x 18 = r18) (h17 : Sh.rotr y 17 = r17) (h19 : Sh.rotr y 19 = r19) :
    IntKind.u32.wrap (IntKind.u32.wrap (IntKind.u32.wrap ((p : Int) + bits .xor .u32 (bits .xor .u32 (r7 : Int) (r18 : Int)) ((x : Int) / 8)) + (q : Int)) + bits .xor .u32 (bits .xor .u32 (r17 : Int) (r19 : Int)) ((y : Int) / 1024)) =
      ((Sh.add (Sh.add (Sh.add p (Sh.sig0 x)) q) (Sh.sig1 y) : Nat) : Int) := by
  rw [show (x : Int) / 8 = ((x / 8 : Nat) : Int) by omega, show (y : Int) / 1024 = ((y / 1024 : Nat) : Int) by omega,
    xor3_int (by rw [← h7]; exact Sh.rotr_lt _ _ lx) (by rw [← h18]; exact Sh.rotr_lt _ _ lx) (by omega),
    xor3_int (by rw [← h17]; exact Sh.rotr_lt _ _ ly) (by rw [← h19]; exact Sh.rotr_lt _ _ ly) (by omega), add_int, add_int, add_int]
  unfold Sh.sig0 Sh.sig1
  rw [h7, h18, h17, h19]

set_option maxRecDepth 100000 in
set_option maxHeartbeats 8000000 in
theorem words_any (b : List UInt8) (w : World) (hb : b.length = 64) :
    Calls Tryd.prog 67 #[.agg (bvals b).toArray] w fun e w' => e = .returned (.agg (wvals (Sh.words b)).toArray) ∧ Below w.heap.size w w' := by
  have HBL := Lib.hid hb; clear hb
  go_enter Tryd.func67, Tryd.ntmps67
  go_wp2_with fail
  go_loopw [7] (fun v wr => ∃ i : Nat, i ≤ 64 ∧ v = .int .i64 (i : Int) ∧ Ws w wr b (Sh.padw b i)) (fun v _ => 64 - (intOf v).toNat)
  case atStart =>
    refine ⟨0, by omega, rfl, ?_, ?_, ?_, ?_, ?_⟩
    · exact Row.alloc (Row.alloc (Row.at rfl (by simp)) (by simp) _) (by simp <;> omega) _
    · exact Row.alloc (Row.at (by simp) rfl) (by simp) _
    · exact Row.at (by simp) rfl
    · go_grown
    · simp
  case round =>
    obtain ⟨i, hi, rfl, hW⟩ := hrel
    have HW := Lib.hid hW; clear hW
    by_cases h64 : i < 64
    · have h64' : (i : Int) < 64 := by omega
      have hi0 : (0 : Int) ≤ (i : Int) := by omega
      have hl := Sh.padw_len b hi
      by_cases h16 : i < 16
      · have h16' : (i : Int) < 16 := by omega
        obtain ⟨c0, _⟩ := HW.out.r0 (4 * i) _ (bvals_get (by rw [HBL.out]; omega))
        obtain ⟨c1, _⟩ := HW.out.r0 (4 * i + 1) _ (bvals_get (by rw [HBL.out]; omega))
        obtain ⟨c2, _⟩ := HW.out.r0 (4 * i + 2) _ (bvals_get (by rw [HBL.out]; omega))
        obtain ⟨c3, _⟩ := HW.out.r0 (4 * i + 3) _ (bvals_get (by rw [HBL.out]; omega))
        obtain ⟨d0, f0⟩ := HW.out.r2 i _ (wvals_get (by rw [hl]; exact h64))
        obtain ⟨p0, hp0⟩ : ∃ p, 4 * i = p := ⟨_, rfl⟩
        obtain ⟨p1, hp1⟩ : ∃ p, 4 * i + 1 = p := ⟨_, rfl⟩
        obtain ⟨p2, hp2⟩ : ∃ p, 4 * i + 2 = p := ⟨_, rfl⟩
        obtain ⟨p3, hp3⟩ : ∃ p, 4 * i + 3 = p := ⟨_, rfl⟩
        rw [hp0] at c0
        rw [hp1] at c1
        rw [hp2] at c2
        rw [hp3] at c3
        have q0 : IntKind.i64.wrap (4 * (i : Int)) = (p0 : Int) := by rw [IntKind.wrap_i64]; omega
        have q1 : IntKind.i64.wrap ((p0 : Int) + 1) = (p1 : Int) := by rw [IntKind.wrap_i64]; omega
        have q2 : IntKind.i64.wrap ((p0 : Int) + 2) = (p2 : Int) := by rw [IntKind.wrap_i64]; omega
        have q3 : IntKind.i64.wrap ((p0 : Int) + 3) = (p3 : Int) := by rw [IntKind.wrap_i64]; omega
        have b0 : (0 : Int) ≤ (p0 : Int) ∧ (p0 : Int) < 64 := by omega
        have b1 : (0 : Int) ≤ (p1 : Int) ∧ (p1 : Int) < 64 := by omega
        have b2 : (0 : Int) ≤ (p2 : Int) ∧ (p2 : Int) < 64 := by omega
        have b3 : (0 : Int) ≤ (p3 : Int) ∧ (p3 : Int) < 64 := by omega
        obtain ⟨b0, b0'⟩ := b0
        obtain ⟨b1, b1'⟩ := b1
        obtain ⟨b2, b2'⟩ := b2
        obtain ⟨b3, b3'⟩ := b3
        have HP := Lib.hid (⟨hp0, hp1, hp2, hp3⟩ : _ ∧ _ ∧ _ ∧ _)
        clear hp0 hp1 hp2 hp3
        have hword : Sh.word b i = Sh.four (b.getD p0 0).toNat (b.getD p1 0).toNat (b.getD p2 0).toNat (b.getD p3 0).toNat := by
          unfold Sh.word; rw [HP.out.2.1, HP.out.2.2.1, HP.out.2.2.2, HP.out.1]
        have y0 := UInt8.toNat_lt (b.getD p0 0)
        have y1 := UInt8.toNat_lt (b.getD p1 0)
        have y2 := UInt8.toNat_lt (b.getD p2 0)
        have y3 := UInt8.toNat_lt (b.getD p3 0)
        generalize (b.getD p0 0).toNat = x0 at c0 hword y0
        generalize (b.getD p1 0).toNat = x1 at c1 hword y1
        generalize (b.getD p2 0).toNat = x2 at c2 hword y2
        generalize (b.getD p3 0).toNat = x3 at c3 hword y3
        have e0 : IntKind.u32.wrap (x0 : Int) = (x0 : Int) := by rw [IntKind.wrap_u32]; omega
        have e1 : IntKind.u32.wrap (x1 : Int) = (x1 : Int) := by rw [IntKind.wrap_u32]; omega
        have e2 : IntKind.u32.wrap (x2 : Int) = (x2 : Int) := by rw [IntKind.wrap_u32]; omega
        have e3 : IntKind.u32.wrap (x3 : Int) = (x3 : Int) := by rw [IntKind.wrap_u32]; omega
        have k0 : IntKind.u32.wrap ((x0 : Int) * 16777216) = (x0 : Int) * 16777216 := by rw [IntKind.wrap_u32]; omega
        have k1 : IntKind.u32.wrap ((x1 : Int) * 65536) = (x1 : Int) * 65536 := by rw [IntKind.wrap_u32]; omega
        have k2 : IntKind.u32.wrap ((x2 : Int) * 256) = (x2 : Int) * 256 := by rw [IntKind.wrap_u32]; omega
        have HV := Lib.hid (four_int y0 y1 y2 y3)
        have HN := Lib.hid (Sh.padw_next b h64 (Sh.four x0 x1 x2 x3) (by rw [if_pos h16, hword]))
        clear y0 y1 y2 y3 hword
        go_upto_region 6 with fail
        go_cut [41] (fun _ wx => Ws w wx b (Sh.padw b (i + 1)))
        case first =>
          go_region_held3 (fun w' => w'.cell? ⟨w.heap.size, p0, none⟩ = some (.int .u8 (x0 : Int)) ∧ w'.cell? ⟨w.heap.size, p1, none⟩ = some (.int .u8 (x1 : Int)) ∧ w'.cell? ⟨w.heap.size, p2, none⟩ = some (.int .u8 (x2 : Int)) ∧ w'.cell? ⟨w.heap.size, p3, none⟩ = some (.int .u8 (x3 : Int)))
            (first | (exact ⟨c0, c1, c2, c3⟩) | (exact four_cells_drew (show w.heap.size + 1 + 1 ≠ w.heap.size by omega) (show w.heap.size + 1 + 1 ≠ w.heap.size by omega) (show w.heap.size + 1 + 1 ≠ w.heap.size by omega) (show w.heap.size + 1 + 1 ≠ w.heap.size by omega) ⟨c0, c1, c2, c3⟩)) (fail)
          all_goals (go_wp2_with fail; go_meet; rw [HV.out, ← HN.out]; exact (HW.out.set i _ (by rw [hl]; exact h64)).drew)
        case rest =>
          have HW2 := Lib.hid hcut; clear hcut
          clear HW HP HV HN c0 c1 c2 c3 d0 f0 q0 q1 q2 q3 b0 b0' b1 b1' b2 b2' b3 b3' e0 e1 e2 e3 k0 k1 k2
          go_wp2_with fail
          go_roundw
          case rel => exact ⟨i + 1, by omega, by go_num, HW2.out⟩
          case measure => simp [intOf]; omega
      · have h16' : ¬ (i : Int) < 16 := by omega
        obtain ⟨d0, f0⟩ := HW.out.r2 i _ (wvals_get (by rw [hl]; exact h64))
        obtain ⟨n15, m15⟩ : ∃ n, i - 15 = n := ⟨_, rfl⟩
        obtain ⟨n2, m2⟩ : ∃ n, i - 2 = n := ⟨_, rfl⟩
        obtain ⟨n16, m16⟩ : ∃ n, i - 16 = n := ⟨_, rfl⟩
        obtain ⟨n7, m7⟩ : ∃ n, i - 7 = n := ⟨_, rfl⟩
        obtain ⟨c15, _⟩ := HW.out.r2 n15 _ (wvals_get (by rw [hl]; omega))
        obtain ⟨c2, _⟩ := HW.out.r2 n2 _ (wvals_get (by rw [hl]; omega))
        obtain ⟨c16, _⟩ := HW.out.r2 n16 _ (wvals_get (by rw [hl]; omega))
        obtain ⟨c7, _⟩ := HW.out.r2 n7 _ (wvals_get (by rw [hl]; omega))
        have hmade : Sh.made (Sh.wordsN b i) i = Sh.add (Sh.add (Sh.add ((Sh.padw b i).getD n16 0) (Sh.sig0 ((Sh.padw b i).getD n15 0))) ((Sh.padw b i).getD n7 0)) (Sh.sig1 ((Sh.padw b i).getD n2 0)) := by
          unfold Sh.made
          rw [m15, m2, m16, m7, Sh.padw_get b (by omega), Sh.padw_get b (by omega), Sh.padw_get b (by omega), Sh.padw_get b (by omega)]
        have l15 := Sh.padw_lt b i n15
        have l2 := Sh.padw_lt b i n2
        have l16 := Sh.padw_lt b i n16
        have l7 := Sh.padw_lt b i n7
        generalize (Sh.padw b i).getD n15 0 = x at c15 hmade l15
        generalize (Sh.padw b i).getD n2 0 = y at c2 hmade l2
        generalize (Sh.padw b i).getD n16 0 = p at c16 hmade l16
        generalize (Sh.padw b i).getD n7 0 = q at c7 hmade l7
        have q15 : IntKind.i64.wrap ((i : Int) - 15) = (n15 : Int) := by rw [IntKind.wrap_i64]; omega
        have q2 : IntKind.i64.wrap ((i : Int) - 2) = (n2 : Int) := by rw [IntKind.wrap_i64]; omega
        have q16 : IntKind.i64.wrap ((i : Int) - 16) = (n16 : Int) := by rw [IntKind.wrap_i64]; omega
        have q7 : IntKind.i64.wrap ((i : Int) - 7) = (n7 : Int) := by rw [IntKind.wrap_i64]; omega
        have b15 : (0 : Int) ≤ (n15 : Int) := by omega
        have b15' : (n15 : Int) < 64 := by omega
        have b2 : (0 : Int) ≤ (n2 : Int) := by omega
        have b2' : (n2 : Int) < 64 := by omega
        have b16 : (0 : Int) ≤ (n16 : Int) := by omega
        have b16' : (n16 : Int) < 64 := by omega
        have b7 : (0 : Int) ≤ (n7 : Int) := by omega
        have b7' : (n7 : Int) < 64 := by omega
        have hne16 : n16 ≠ i := by omega
        have hne7 : n7 ≠ i := by omega
        obtain ⟨r7, hr7⟩ : ∃ r, Sh.rotr x 7 = r := ⟨_, rfl⟩
        have T7 := Lib.hid (fun w => show Calls Tryd.prog 68 #[.int .u32 (x : Int), .int .i64 7] w fun e w' => e = .returned (.int .u32 (r7 : Int)) ∧ w = w' from by have := turn_any x 7 w l15 (by omega) (by omega); rw [hr7] at this; exact this)
        obtain ⟨r18, hr18⟩ : ∃ r, Sh.rotr x 18 = r := ⟨_, rfl⟩
        have T18 := Lib.hid (fun w => show Calls Tryd.prog 68 #[.int .u32 (x : Int), .int .i64 18] w fun e w' => e = .returned (.int .u32 (r18 : Int)) ∧ w = w' from by have := turn_any x 18 w l15 (by omega) (by omega); rw [hr18] at this; exact this)
        obtain ⟨r17, hr17⟩ : ∃ r, Sh.rotr y 17 = r := ⟨_, rfl⟩
        have T17 := Lib.hid (fun w => show Calls Tryd.prog 68 #[.int .u32 (y : Int), .int .i64 17] w fun e w' => e = .returned (.int .u32 (r17 : Int)) ∧ w = w' from by have := turn_any y 17 w l2 (by omega) (by omega); rw [hr17] at this; exact this)
        obtain ⟨r19, hr19⟩ : ∃ r, Sh.rotr y 19 = r := ⟨_, rfl⟩
        have T19 := Lib.hid (fun w => show Calls Tryd.prog 68 #[.int .u32 (y : Int), .int .i64 19] w fun e w' => e = .returned (.int .u32 (r19 : Int)) ∧ w = w' from by have := turn_any y 19 w l2 (by omega) (by omega); rw [hr19] at this; exact this)
        have HV := Lib.hid (made_int p q x y r7 r18 r17 r19 l15 l2 hr7 hr18 hr17 hr19)
        have HN := Lib.hid (Sh.padw_next b h64 _ (by rw [if_neg h16, hmade]))
        clear hmade l15 l2 l16 l7
        clear m15 m2 m16 m7 h16 hr7 hr18 hr17 hr19
        go_upto_region 7 with fail
        go_region_held3 (fun w' => w'.cell? ⟨w.heap.size + 1 + 1, n15, none⟩ = some (.int .u32 (x : Int)) ∧ w'.cell? ⟨w.heap.size + 1 + 1, n2, none⟩ = some (.int .u32 (y : Int))) (exact ⟨c15, c2⟩) (fail)
        go_upto_region 8 with fail
        go_region_held3 (fun w' => w'.cell? ⟨w.heap.size + 1 + 1, n16, none⟩ = some (.int .u32 (p : Int)) ∧ w'.cell? ⟨w.heap.size + 1 + 1, n7, none⟩ = some (.int .u32 (q : Int)))
          (first | (exact ⟨c16, c7⟩) | (exact two_keep hne16 hne7 ⟨c16, c7⟩))
          ((first | (go_at_call 68; ((with_reducible refine (T7.out _).mono ?_); rintro e u ⟨rfl, rfl⟩)) | (go_at_call 68; ((with_reducible refine (T18.out _).mono ?_); rintro e u ⟨rfl, rfl⟩)) | (go_at_call 68; ((with_reducible refine (T17.out _).mono ?_); rintro e u ⟨rfl, rfl⟩)) | (go_at_call 68; ((with_reducible refine (T19.out _).mono ?_); rintro e u ⟨rfl, rfl⟩))))
        clear c15 c2 c16 c7 q15 q2 q16 q7 b15 b15' b2 b2' b16 b16' b7 b7' d0 f0
        rw [HV.out]
        have hW2 := ((HW.out.set i (Sh.add (Sh.add (Sh.add p (Sh.sig0 x)) q) (Sh.sig1 y)) (by rw [hl]; exact h64)).drew).drew
        rw [HN.out] at hW2
        have HW2 := Lib.hid hW2; clear hW2
        go_wp2_with fail
        go_roundw
        case rel => exact ⟨i + 1, by omega, by go_num, HW2.out⟩
        case measure => simp [intOf]; omega
    · obtain rfl : i = 64 := by omega
      have h64' : ¬ ((64 : Nat) : Int) < 64 := by omega
      have hp : Sh.padw b 64 = Sh.words b := by unfold Sh.padw Sh.words; simp
      have hW := HW.out
      rw [hp] at hW
      have hlw : (wvals (Sh.words b)).length = 64 := by rw [wvals_len]; exact Sh.wordsN_len b 64
      have hone : ∀ v ∈ wvals (Sh.words b), v.oneCell' = true := by
        intro v hv
        obtain ⟨x, _, rfl⟩ := List.mem_map.1 hv
        rfl
      have hrange : wr.rangeAt (w.heap.size + 1 + 1) 0 (wvals (Sh.words b)) := hW.r2.range
      have hthere : wr.there (w.heap.size + 1) 0 (wvals (Sh.words b)).toArray.size := by
        have hs64 : (wvals (Sh.words b)).toArray.size = 64 := by simp [hlw]
        rw [hs64]; simpa using hW.r1.there
      have hB := hW.b
      have hlt := hW.lt
      clear HW hp
      obtain ⟨L, hLe⟩ : ∃ L, wvals (Sh.words b) = L := ⟨_, rfl⟩
      rw [hLe] at hlw hone hrange hthere
      have HLE := Lib.hid hLe; clear hLe
      have hall := all_oneCell_toArray hone
      have hsz : (Tryd.prog.info? 96).map (·.size) = some L.length := by rw [hlw]; kernel_rfl
      have hsz2 : (Tryd.prog.info? 96).map (·.size) = some L.toArray.size := by rw [List.size_toArray]; exact hsz
      have HX := Lib.hid (⟨hlw, hone, hrange, hthere⟩ : _ ∧ _ ∧ _ ∧ _)
      have HB := Lib.hid hB
      have HSZ := Lib.hid hsz
      have HSZ2 := Lib.hid hsz2
      have HALL := Lib.hid hall
      clear hlw hone hrange hthere hB hsz hsz2 hall hW
      go_upto_region 10 with fail
      go_wp2_with (first
        | (refine wpList_load_mid rfl 96 _ rfl (w.heap.size + 1 + 1) 0 rfl L _ HX.out.2.2.1 Tryd.underlying96 rfl HSZ.out ?_)
        | (refine wpList_store_mid rfl 96 _ _ rfl (w.heap.size + 1) 0 L.toArray rfl rfl HX.out.2.2.2 HSZ2.out HALL.out ?_))
      have hth : wr.there (w.heap.size + 1) 0 L.length := by have := HX.out.2.2.2; rwa [List.size_toArray] at this
      have hload := run_loadVar_mid (P := Tryd.prog) (wr.setCells (w.heap.size + 1) 0 L) (w.heap.size + 1) 0 96 L _ (World.rangeAt_setCells_same wr (w.heap.size + 1) 0 L hth) Tryd.underlying96 rfl HSZ.out
      have hbel := below_setCells L 0 (show w.heap.size ≤ w.heap.size + 1 by omega) HB.out
      generalize wr.setCells (w.heap.size + 1) 0 L = wz at hload hbel ⊢
      refine bodyPost_ret (results_cell Tryd.results67 _ _ _ _ _ rfl hload) rfl ?_
      exact ⟨by rw [HLE.out], hbel⟩

end Go.Proofs.YtalncnblcfcmcaaDoor
