/- The walk of wire.GetText. -/
import Derived.Test.YtalncnblcfcmcaaDoorWiPut
import Derived.Test.YtalncnblcfcmcaaDoorRow
import Derived.Defers
import Derived.Deep.RegionHeld3
import Derived.Deep.DeepCutAuto
import Derived.Test.YtalncnblcfcmcaaDoorWiScan
import Derived.Lib.MinMax
namespace Go.Proofs.YtalncnblcfcmcaaDoor
open Go.RowKit

/-- the variables of Get -/
structure Gv (w x : World) (s : ByteArray) (a : Int) (u : Nat) (n : Int) (o : Bool) : Prop where
  cs : Row x w.heap.size [.string s]
  ca : Row x (w.heap.size + 1) [.int .i64 a]
  cu : Row x (w.heap.size + 1 + 1) [.int .u64 (u : Int)]
  cn : Row x (w.heap.size + 1 + 1 + 1) [.int .i64 n]
  co : Row x (w.heap.size + 1 + 1 + 1 + 1) [.bool o]
  b : Below w.heap.size w x
  lt : w.heap.size + 1 + 1 + 1 + 1 < x.heap.size

theorem Row.one {w : World} {b : Nat} {a0 : Value} (h : Row w b [a0]) : w.cell? ⟨b, 0, none⟩ = some a0 ∧ w.frozen? ⟨b, 0, none⟩ = false := h 0 _ rfl

namespace Gv
variable {w x y : World} {s : ByteArray} {a n : Int} {u : Nat} {o : Bool}
theorem below (h : Gv w x s a u n o) (hb : Below x.heap.size x y) : Gv w y s a u n o :=
  have := h.lt
  ⟨h.cs.below hb (by omega), h.ca.below hb (by omega), h.cu.below hb (by omega), h.cn.below hb (by omega), h.co.below hb (by omega), h.b.trans (hb.mono h.b.size), Nat.lt_of_lt_of_le h.lt hb.size⟩
theorem drew (h : Gv w x s a u n o) : Gv w x.drew s a u n o := ⟨h.cs, h.ca, h.cu, h.cn, h.co, h.b.drew, h.lt⟩
theorem setU (h : Gv w x s a u n o) (v : Nat) : Gv w (x.setCell ⟨w.heap.size + 1 + 1, 0, none⟩ (.int .u64 (v : Int))) s a v n o :=
  ⟨h.cs.other _ (by omega), h.ca.other _ (by omega), h.cu.set 0 _ (by simp), h.cn.other _ (by omega), h.co.other _ (by omega), h.b.setCell (p := ⟨w.heap.size + 1 + 1, 0, none⟩) (by show w.heap.size ≤ w.heap.size + 1 + 1; omega) _, by simpa using h.lt⟩
theorem setN (h : Gv w x s a u n o) (v : Int) : Gv w (x.setCell ⟨w.heap.size + 1 + 1 + 1, 0, none⟩ (.int .i64 v)) s a u v o :=
  ⟨h.cs.other _ (by omega), h.ca.other _ (by omega), h.cu.other _ (by omega), h.cn.set 0 _ (by simp), h.co.other _ (by omega), h.b.setCell (p := ⟨w.heap.size + 1 + 1 + 1, 0, none⟩) (by show w.heap.size ≤ w.heap.size + 1 + 1 + 1; omega) _, by simpa using h.lt⟩
theorem setO (h : Gv w x s a u n o) (v : Bool) : Gv w (x.setCell ⟨w.heap.size + 1 + 1 + 1 + 1, 0, none⟩ (.bool v)) s a u n v :=
  ⟨h.cs.other _ (by omega), h.ca.other _ (by omega), h.cu.other _ (by omega), h.cn.other _ (by omega), h.co.set 0 _ (by simp), h.b.setCell (p := ⟨w.heap.size + 1 + 1 + 1 + 1, 0, none⟩) (by show w.heap.size ≤ w.heap.size + 1 + 1 + 1 + 1; omega) _, by simpa using h.lt⟩
theorem cells (h : Gv w x s a u n o) : x.cell? ⟨w.heap.size, 0, none⟩ = some (.string s) ∧ x.cell? ⟨w.heap.size + 1, 0, none⟩ = some (.int .i64 a) ∧ x.cell? ⟨w.heap.size + 1 + 1, 0, none⟩ = some (.int .u64 (u : Int)) ∧ x.cell? ⟨w.heap.size + 1 + 1 + 1, 0, none⟩ = some (.int .i64 n) ∧ x.cell? ⟨w.heap.size + 1 + 1 + 1 + 1, 0, none⟩ = some (.bool o) ∧
    x.frozen? ⟨w.heap.size + 1 + 1, 0, none⟩ = false ∧ x.frozen? ⟨w.heap.size + 1 + 1 + 1, 0, none⟩ = false ∧ x.frozen? ⟨w.heap.size + 1 + 1 + 1 + 1, 0, none⟩ = false :=
  ⟨h.cs.one.1, h.ca.one.1, h.cu.one.1, h.cn.one.1, h.co.one.1, h.cu.one.2, h.cn.one.2, h.co.one.2⟩
end Gv

set_option maxHeartbeats 1000000 in
theorem close_zero (w x : World) (s : ByteArray) (a : Int) (u : Nat) (o : Bool) (h : Gv w x s a u 0 o) :
    CallsD Tryd.prog 52 #[.pointer (some ⟨w.heap.size + 1 + 1 + 1, 0, none⟩), .pointer (some ⟨w.heap.size + 1 + 1, 0, none⟩), .pointer (some ⟨w.heap.size, 0, none⟩), .pointer (some ⟨w.heap.size + 1, 0, none⟩), .pointer (some ⟨w.heap.size + 1 + 1 + 1 + 1, 0, none⟩)] .returning x
      fun e u' x' => u' = .returning ∧ (e = .returned (.tuple #[]) ∧ Gv w x' s a 0 0 false) := by
  obtain ⟨c0, c1, c2, c3, c4, f2, f3, f4⟩ := h.cells
  have HG := Lib.hid h; clear h
  go_enter_d Tryd.func52, Tryd.ntmps52
  go_upto_region 0 with fail
  go_cut [5] (fun _ wx => Gv w wx s a u 0 false)
  case first =>
    go_region
    all_goals (go_wp2_with fail; go_meet; exact (HG.out.drew).setO false)
  case rest =>
    clear HG c0 c1 c2 c3 c4 f2 f3 f4
    obtain ⟨c0, c1, c2, c3, c4, f2, f3, f4⟩ := hcut.cells
    have HG := Lib.hid hcut; clear hcut
    go_wp2_with fail
    have hG := (HG.out.setU 0).setN 0
    exact ⟨rfl, _, results_none rfl _ _ _, rfl, hG⟩

theorem four_below {w w' : World} {b0 b1 b2 b3 : Nat} {a0 a1 a2 a3 : Value} (hb : Below w.heap.size w w') (h : w.cell? ⟨b0, 0, none⟩ = some a0 ∧ w.cell? ⟨b1, 0, none⟩ = some a1 ∧ w.cell? ⟨b2, 0, none⟩ = some a2 ∧ w.cell? ⟨b3, 0, none⟩ = some a3) :
    w'.cell? ⟨b0, 0, none⟩ = some a0 ∧ w'.cell? ⟨b1, 0, none⟩ = some a1 ∧ w'.cell? ⟨b2, 0, none⟩ = some a2 ∧ w'.cell? ⟨b3, 0, none⟩ = some a3 :=
  ⟨(hb.cell (p := ⟨b0, 0, none⟩) (World.block_lt_of_cell? w _ h.1)).trans h.1, (hb.cell (p := ⟨b1, 0, none⟩) (World.block_lt_of_cell? w _ h.2.1)).trans h.2.1, (hb.cell (p := ⟨b2, 0, none⟩) (World.block_lt_of_cell? w _ h.2.2.1)).trans h.2.2.1, (hb.cell (p := ⟨b3, 0, none⟩) (World.block_lt_of_cell? w _ h.2.2.2)).trans h.2.2.2⟩

theorem four_set {w : World} {b0 b1 b2 b3 b : Nat} {a0 a1 a2 a3 v : Value} (h0 : b ≠ b0) (h1 : b ≠ b1) (h2 : b ≠ b2) (h3 : b ≠ b3) (h : w.cell? ⟨b0, 0, none⟩ = some a0 ∧ w.cell? ⟨b1, 0, none⟩ = some a1 ∧ w.cell? ⟨b2, 0, none⟩ = some a2 ∧ w.cell? ⟨b3, 0, none⟩ = some a3) :
    (w.setCell ⟨b, 0, none⟩ v).cell? ⟨b0, 0, none⟩ = some a0 ∧ (w.setCell ⟨b, 0, none⟩ v).cell? ⟨b1, 0, none⟩ = some a1 ∧ (w.setCell ⟨b, 0, none⟩ v).cell? ⟨b2, 0, none⟩ = some a2 ∧ (w.setCell ⟨b, 0, none⟩ v).cell? ⟨b3, 0, none⟩ = some a3 :=
  ⟨(World.cell?_setCell_other _ _ _ _ (by intro e; cases e; exact h0 rfl)).trans h.1, (World.cell?_setCell_other _ _ _ _ (by intro e; cases e; exact h1 rfl)).trans h.2.1, (World.cell?_setCell_other _ _ _ _ (by intro e; cases e; exact h2 rfl)).trans h.2.2.1, (World.cell?_setCell_other _ _ _ _ (by intro e; cases e; exact h3 rfl)).trans h.2.2.2⟩

set_option maxHeartbeats 4000000 in
theorem close_pos (w x : World) (s : ByteArray) (a n u : Nat) (o r : Bool) (h : Gv w x s a u n o) (hu : u < 18446744073709551616) (hn : 0 < n) (han : a ≤ n) (hns : n ≤ s.size) (hr : ((⟨(Wi.put u).toArray⟩ : ByteArray).toList == (s.extract a n).toList) = r) :
    CallsD Tryd.prog 52 #[.pointer (some ⟨w.heap.size + 1 + 1 + 1, 0, none⟩), .pointer (some ⟨w.heap.size + 1 + 1, 0, none⟩), .pointer (some ⟨w.heap.size, 0, none⟩), .pointer (some ⟨w.heap.size + 1, 0, none⟩), .pointer (some ⟨w.heap.size + 1 + 1 + 1 + 1, 0, none⟩)] .returning x
      fun e u' x' => u' = .returning ∧ (e = .returned (.tuple #[]) ∧ Gv w x' s a (if r then u else 0) (if r then n else 0) r) := by
  obtain ⟨c0, c1, c2, c3, c4, f2, f3, f4⟩ := h.cells
  have HG := Lib.hid h; clear h
  have HP := Lib.hid (fun w => Put_any u w hu); clear hu
  obtain ⟨q, hq⟩ : ∃ q, (⟨(Wi.put u).toArray⟩ : ByteArray) = q := ⟨_, rfl⟩
  rw [hq] at HP hr
  clear hq
  have hn' : (0 : Int) < (n : Int) := by omega
  have hn0 : (0 : Int) ≤ (n : Int) := by omega
  have ha' : (0 : Int) ≤ (a : Int) := by omega
  have han' : (a : Int) ≤ (n : Int) := by omega
  have hns' : (n : Int) ≤ (s.size : Int) := by omega
  have hnd : decide (0 < n) = true := by simpa using hn
  go_enter_d Tryd.func52, Tryd.ntmps52
  go_upto_region 0 with fail
  go_cut [5] (fun _ wx => Gv w wx s a u n r)
  case first =>
    go_region_held3 (fun w' => w'.cell? ⟨w.heap.size, 0, none⟩ = some (.string s) ∧ w'.cell? ⟨w.heap.size + 1, 0, none⟩ = some (.int .i64 (a : Int)) ∧ w'.cell? ⟨w.heap.size + 1 + 1, 0, none⟩ = some (.int .u64 (u : Int)) ∧ w'.cell? ⟨w.heap.size + 1 + 1 + 1, 0, none⟩ = some (.int .i64 (n : Int))) (first | (exact four_set (by omega) (by omega) (by omega) (by omega) ⟨d0, d1, d2, d3⟩) | go_keep | (exact four_below hq (by first | assumption | (simp [go_sem, *]; done))))
      ((first | (go_at_call 46; ((with_reducible refine (HP.out _).mono ?_); rintro e y ⟨rfl, hq⟩); have hG := (HG.out.drew).below hq; obtain ⟨d0, d1, d2, d3, d4, g2, g3, g4⟩ := hG.cells)))
    all_goals (go_wp2_with fail; go_meet; exact hG.setO r)
  case rest =>
    clear HG c0 c1 c2 c3 c4 f2 f3 f4
    obtain ⟨c0, c1, c2, c3, c4, f2, f3, f4⟩ := hcut.cells
    have HG := Lib.hid hcut; clear hcut
    cases r
    · go_wp2_with fail
      have hG := (HG.out.setU 0).setN 0
      exact ⟨rfl, _, results_none rfl _ _ _, rfl, hG⟩
    · go_wp2_with fail
      exact ⟨rfl, _, results_none rfl _ _ _, rfl, HG.out⟩

end Go.Proofs.YtalncnblcfcmcaaDoor

namespace Go.Proofs.YtalncnblcfcmcaaDoor
open Go.RowKit

theorem Gv.new (w : World) (s : ByteArray) (a : Int) : Gv w (((((w.alloc (.cells #[.string s] 9)).alloc (.cells #[.int .i64 a] 3)).alloc (.cells #[.int .u64 0] 25)).alloc (.cells #[.int .i64 0] 3)).alloc (.cells #[.bool false] 4)) s a 0 0 false :=
  ⟨Row.alloc (Row.alloc (Row.alloc (Row.alloc (Row.at rfl rfl) (by simp) _) (by simp <;> omega) _) (by simp <;> omega) _) (by simp <;> omega) _,
   Row.alloc (Row.alloc (Row.alloc (Row.at (by simp) rfl) (by simp) _) (by simp <;> omega) _) (by simp <;> omega) _,
   Row.alloc (Row.alloc (Row.at (by simp) rfl) (by simp) _) (by simp <;> omega) _,
   Row.alloc (Row.at (by simp) rfl) (by simp) _, Row.at (by simp) rfl,
   ((((((Below.refl _ _).alloc (Nat.le_refl _) _).alloc (by simp) _).alloc (by simp <;> omega) _).alloc (by simp <;> omega) _).alloc (by simp <;> omega) _), by simp⟩

theorem data_at {s : ByteArray} {a p : Nat} (hap : a ≤ p) (hp : p < s.size) : ∃ h : p - a < (s.data.toList.drop a).length, (s.data.toList.drop a)[p - a] = s[p] := by
  have hl : s.data.toList.length = s.size := by simp
  refine ⟨by simp; omega, ?_⟩
  rw [List.getElem_drop]
  have : a + (p - a) = p := by omega
  simp [this]
  rfl

theorem extract_list (s : ByteArray) (a n : Nat) : (s.extract a n).toList = (s.data.toList.drop a).take (n - a) := by
  rw [Lib.toList_data, Lib.extract_data]

/-- what stands there, as the code hands it back -/
def Wi.val (r : Nat × Int × Bool) : Value := .tuple #[.int .u64 (r.1 : Int), .int .i64 r.2.1, .bool r.2.2]

theorem bytes_list (l : List UInt8) : (⟨l.toArray⟩ : ByteArray).toList = l := by rw [Lib.toList_data]

theorem get_never {s : ByteArray} {a : Nat} (h : Wi.at0 (s.data.toList.drop a) = none) : Wi.get s a = (0, 0, false) := by
  unfold Wi.get
  rw [if_neg (by omega), Int.toNat_natCast, h]
theorem get_found {s : ByteArray} {a c u : Nat} (h : Wi.at0 (s.data.toList.drop a) = some (u, c)) : Wi.get s a = (u, (a : Int) + (c : Int), true) := by
  unfold Wi.get
  rw [if_neg (by omega), Int.toNat_natCast, h]

theorem get_door {s : ByteArray} {a p V : Nat} {r : Bool} (hap : a ≤ p) (hd : Wi.at0 (s.data.toList.drop a) = if Wi.put V = (s.data.toList.drop a).take (p - a + 1) then some (V, p - a + 1) else none)
    (hr : ((⟨(Wi.put V).toArray⟩ : ByteArray).toList == (s.extract a (p + 1)).toList) = r) : Wi.get s a = (if r then V else 0, if r then ((p + 1 : Nat) : Int) else 0, r) := by
  rw [bytes_list, extract_list, show p + 1 - a = p - a + 1 by omega] at hr
  by_cases h : Wi.put V = (s.data.toList.drop a).take (p - a + 1)
  · rw [if_pos h] at hd
    have : r = true := by rw [← hr, h]; simp
    subst this
    rw [get_found hd]
    simp; omega
  · rw [if_neg h] at hd
    have : r = false := by rw [← hr]; simpa using h
    subst this
    rw [get_never hd]
    simp

set_option maxHeartbeats 8000000 in
theorem Get_in (s : ByteArray) (a : Nat) (w : World) (hs : a < s.size) (hz : s.size ≤ 9007199254740992) :
    Calls Tryd.prog 31 #[.string s, .int .i64 (a : Int)] w fun e w' => e = .returned (Wi.val (Wi.get s a)) ∧ Below w.heap.size w w' := by
  have hmf : ∀ (fn : Fn) (first cap : Array Value) (w : World), (Instr.makeFunc fn first cap).run Tryd.prog w = .ok (.func fn first cap) w := fun _ _ _ _ => rfl
  obtain ⟨r, hr⟩ : ∃ r, Wi.get s a = r := ⟨_, rfl⟩
  rw [hr]
  have HR := Lib.hid hr; clear hr
  have ha1 : ¬ ((a : Int) < 0) := by omega
  have ha2 : (a : Int) < (s.size : Int) := by omega
  have ha3 : ¬ ((s.size : Int) ≤ (a : Int)) := by omega
  go_enter_defers Tryd.func31, Tryd.ntmps31
  have HG0 := Lib.hid (Gv.new w s a)
  go_wp2_with fail
  go_loopw [7] (fun v wr => ∃ (p U : Nat), a ≤ p ∧ p ≤ s.size ∧ p ≤ a + 10 ∧ v = .int .i64 (p : Int) ∧ Gv w wr s a U 0 false ∧ Wi.Scan (s.data.toList.drop a) (p - a) U) (fun v _ => s.size - (intOf v).toNat)
  case atStart => exact ⟨a, 0, by omega, by omega, by omega, rfl, HG0.out, by rw [Nat.sub_self]; exact Wi.Scan.start _⟩
  case round =>
    clear HG0
    obtain ⟨p, U, h1, h2, h3, rfl, hG, hS⟩ := hrel
    obtain ⟨c0, c1, c2, c3, c4, f2, f3, f4⟩ := hG.cells
    have HG := Lib.hid hG; clear hG hmf
    have HS := Lib.hid hS; clear hS
    have hlen : (s.data.toList.drop a).length = s.size - a := by simp
    have HL := Lib.hid hlen; clear hlen
    by_cases hp : p < s.size ∧ p < a + 10
    · obtain ⟨hp1, hp2⟩ := hp
      have hp1' : (p : Int) < (s.size : Int) := by omega
      have hp2' : (p : Int) < (a : Int) + 10 := by omega
      have hp0 : (0 : Int) ≤ (p : Int) := by omega
      have hw1 : IntKind.i64.wrap ((a : Int) + 10) = (a : Int) + 10 := by rw [IntKind.wrap_i64]; omega
      obtain ⟨hj, hje⟩ := data_at h1 hp1
      obtain ⟨x, hx⟩ : ∃ x, s[p].toNat = x := ⟨_, rfl⟩
      have hx256 : x < 256 := by have := UInt8.toNat_lt s[p]; omega
      have HOR := Lib.hid (Wi.or_step U x (p - a) HS.out.lt hx256)
      have hVlt := Wi.nx_lt U x (p - a) HS.out.lt
      have HN := Lib.hid (fun (hb : 128 ≤ (s.data.toList.drop a)[p - a].toNat) => HS.out.next hj (by omega) hb)
      have HD := Lib.hid (fun (hb : (s.data.toList.drop a)[p - a].toNat < 128) => HS.out.done hj (by omega) hb)
      rw [hje, hx] at HN HD
      have HX := Lib.hid hx; clear hx hje hj
      generalize Wi.nx U x (p - a) = V at HOR HN HD hVlt
      have HV := Lib.hid hVlt; clear hVlt
      go_upto_region 6 with fail
      go_cut [41] from 30 to 41 (fun _ wx => Gv w wx s a V 0 false)
      case first =>
        go_region
        all_goals (go_wp2_with fail; go_meet; rw [HX.out, HOR.out]; exact (HG.out.setU V).drew)
      case rest =>
        clear HOR HG c0 c1 c2 c3 c4 f2 f3 f4
        obtain ⟨c0, c1, c2, c3, c4, f2, f3, f4⟩ := hcut.cells
        have HG := Lib.hid hcut; clear hcut
        go_upto_region 7 with fail
        by_cases hb : x < 128
        · have hb1 : (x : Int) < 128 := by omega
          have hx := HX.out
          have hd := HD.out hb
          clear HD HN HX
          have HDD := Lib.hid hd; clear hd
          have hb2 : (s[p].toNat : Int) < 128 := by omega
          clear hx
          go_wp2_with fail
          have hG := HG.out.setN ((p : Int) + 1)
          rw [show (p : Int) + 1 = ((p + 1 : Nat) : Int) from by omega] at hG ⊢
          generalize World.setCell _ _ _ = wz at hG ⊢
          refine leaves_cons (f := 52) (args := #[.pointer (some ⟨w.heap.size + 1 + 1 + 1, 0, none⟩), .pointer (some ⟨w.heap.size + 1 + 1, 0, none⟩), .pointer (some ⟨w.heap.size, 0, none⟩), .pointer (some ⟨w.heap.size + 1, 0, none⟩), .pointer (some ⟨w.heap.size + 1 + 1 + 1 + 1, 0, none⟩)]) (by simp) (by simp [go_sem]) ?_
          obtain ⟨rr, hrr⟩ : ∃ rr, ((⟨(Wi.put V).toArray⟩ : ByteArray).toList == (s.extract a (p + 1)).toList) = rr := ⟨_, rfl⟩
          have hget := get_door h1 HDD.out hrr
          rw [HR.out] at hget
          refine (close_pos w wz s a (p + 1) V false rr hG HV.out (by omega) (by omega) (by omega) hrr).mono ?_
          rintro e u' x' ⟨rfl, rfl, hG'⟩
          obtain ⟨_, _, d2, d3, d4, _, _, _⟩ := hG'.cells
          refine ⟨Wi.val (if rr then V else 0, if rr then ((p + 1 : Nat) : Int) else 0, rr), ?_, ?_, hG'.b⟩
          · clear hget hrr
            cases rr <;> simp [results, Tryd.results31, go_sem, d2, d3, d4, Wi.val]
          · rw [hget]
        · have hb1 : ¬ ((x : Int) < 128) := by omega
          have hx := HX.out
          have hd := HN.out (by omega)
          clear HD HN HX
          have HDD := Lib.hid hd; clear hd
          have hb2 : ¬ ((s[p].toNat : Int) < 128) := by omega
          clear hx
          go_wp2_with fail
          go_roundw
          case rel => exact ⟨p + 1, V, by omega, by omega, by omega, by go_num, HG.out, by rw [show p + 1 - a = p - a + 1 by omega]; exact HDD.out⟩
          case measure => simp [intOf]; omega
    · have HZ := Lib.hid (get_never (HS.out.never (by rw [HL.out]; omega) (by rw [HL.out]; omega)))
      clear HS HL
      by_cases hp1 : p < s.size
      · have hp1' : (p : Int) < (s.size : Int) := by omega
        have hp2' : ¬ ((p : Int) < (a : Int) + 10) := by omega
        have hw1 : IntKind.i64.wrap ((a : Int) + 10) = (a : Int) + 10 := by rw [IntKind.wrap_i64]; omega
        go_wp2_with fail
        refine leaves_cons (f := 52) (args := #[.pointer (some ⟨w.heap.size + 1 + 1 + 1, 0, none⟩), .pointer (some ⟨w.heap.size + 1 + 1, 0, none⟩), .pointer (some ⟨w.heap.size, 0, none⟩), .pointer (some ⟨w.heap.size + 1, 0, none⟩), .pointer (some ⟨w.heap.size + 1 + 1 + 1 + 1, 0, none⟩)]) (by simp) (by simp [go_sem]) ?_
        refine (close_zero w _ s a U false HG.out).mono ?_
        rintro e u' x' ⟨rfl, rfl, hG'⟩
        obtain ⟨_, _, d2, d3, d4, _, _, _⟩ := hG'.cells
        refine ⟨Wi.val (0, 0, false), ?_, ?_, hG'.b⟩
        · simp [results, Tryd.results31, go_sem, d2, d3, d4]; try rfl
        · rw [← HR.out, HZ.out]
      · have hp1' : ¬ ((p : Int) < (s.size : Int)) := by omega
        go_wp2_with fail
        refine leaves_cons (f := 52) (args := #[.pointer (some ⟨w.heap.size + 1 + 1 + 1, 0, none⟩), .pointer (some ⟨w.heap.size + 1 + 1, 0, none⟩), .pointer (some ⟨w.heap.size, 0, none⟩), .pointer (some ⟨w.heap.size + 1, 0, none⟩), .pointer (some ⟨w.heap.size + 1 + 1 + 1 + 1, 0, none⟩)]) (by simp) (by simp [go_sem]) ?_
        refine (close_zero w _ s a U false HG.out).mono ?_
        rintro e u' x' ⟨rfl, rfl, hG'⟩
        obtain ⟨_, _, d2, d3, d4, _, _, _⟩ := hG'.cells
        refine ⟨Wi.val (0, 0, false), ?_, ?_, hG'.b⟩
        · simp [results, Tryd.results31, go_sem, d2, d3, d4]; try rfl
        · rw [← HR.out, HZ.out]

theorem get_out {s : ByteArray} {a : Int} (h : a < 0 ∨ (s.size : Int) ≤ a) : Wi.get s a = (0, 0, false) := by
  unfold Wi.get
  by_cases h1 : a < 0
  · rw [if_pos h1]
  · rw [if_neg h1, List.drop_eq_nil_of_le (by simp; omega)]
    rfl

set_option maxHeartbeats 4000000 in
theorem Get_out (s : ByteArray) (a : Int) (w : World) (h : a < 0 ∨ (s.size : Int) ≤ a) :
    Calls Tryd.prog 31 #[.string s, .int .i64 a] w fun e w' => e = .returned (Wi.val (Wi.get s a)) ∧ Below w.heap.size w w' := by
  have hmf : ∀ (fn : Fn) (first cap : Array Value) (w : World), (Instr.makeFunc fn first cap).run Tryd.prog w = .ok (.func fn first cap) w := fun _ _ _ _ => rfl
  obtain ⟨r, hr⟩ : ∃ r, Wi.get s a = r := ⟨_, rfl⟩
  rw [hr]
  have hz := get_out h
  rw [hr] at hz
  have HR := Lib.hid hz; clear hz hr
  have HG0 := Lib.hid (Gv.new w s a)
  by_cases ha : a < 0
  case' neg =>
    have ha2 : ¬ (a < (s.size : Int)) := by omega
    have ha3 : (s.size : Int) ≤ a := by omega
  all_goals
    clear h
    go_enter_defers Tryd.func31, Tryd.ntmps31
    go_wp2_with fail
    refine leaves_cons (f := 52) (args := #[.pointer (some ⟨w.heap.size + 1 + 1 + 1, 0, none⟩), .pointer (some ⟨w.heap.size + 1 + 1, 0, none⟩), .pointer (some ⟨w.heap.size, 0, none⟩), .pointer (some ⟨w.heap.size + 1, 0, none⟩), .pointer (some ⟨w.heap.size + 1 + 1 + 1 + 1, 0, none⟩)]) (by simp) (by simp [go_sem]) ?_
    refine (close_zero w _ s a 0 false HG0.out).mono ?_
    rintro e u' x' ⟨rfl, rfl, hG'⟩
    obtain ⟨_, _, d2, d3, d4, _, _, _⟩ := hG'.cells
    refine ⟨Wi.val (0, 0, false), ?_, ?_, hG'.b⟩
    · simp [results, Tryd.results31, go_sem, d2, d3, d4]; try rfl
    · rw [HR.out]

theorem Get_any (s : ByteArray) (a : Int) (w : World) (hz : s.size ≤ 9007199254740992) :
    Calls Tryd.prog 31 #[.string s, .int .i64 a] w fun e w' => e = .returned (Wi.val (Wi.get s a)) ∧ Below w.heap.size w w' := by
  by_cases h : a < 0 ∨ (s.size : Int) ≤ a
  · exact Get_out s a w h
  · obtain ⟨n, rfl⟩ := Int.eq_ofNat_of_zero_le (show 0 ≤ a by omega)
    exact Get_in s n w (by omega) hz

end Go.Proofs.YtalncnblcfcmcaaDoor

namespace Go.Proofs.YtalncnblcfcmcaaDoor
open Go.RowKit

theorem get_true {s : ByteArray} {a : Int} {n : Nat} {f : Int} (h : Wi.get s a = (n, f, true)) :
    ∃ a' : Nat, a = (a' : Int) ∧ f = ((a' + (Wi.put n).length : Nat) : Int) ∧ a' + (Wi.put n).length ≤ s.size ∧ n < 18446744073709551616 ∧ (s.data.toList.drop a').take (Wi.put n).length = Wi.put n := by
  unfold Wi.get at h
  split at h
  · simp at h
  · rename_i h0
    obtain ⟨a', rfl⟩ := Int.eq_ofNat_of_zero_le (show 0 ≤ a by omega)
    rw [Int.toNat_natCast] at h
    split at h
    · simp at h
    · rename_i u c hc
      obtain ⟨e1, e2⟩ := Prod.mk.inj h
      obtain ⟨e2, _⟩ := Prod.mk.inj e2
      subst e1; subst e2
      obtain ⟨h1, h2, h3, h4⟩ := Wi.at0_some hc
      subst h2
      refine ⟨a', rfl, by omega, ?_, h1, h4⟩
      have hl := congrArg List.length h4
      rw [List.length_take, List.length_drop] at hl
      have := (Wi.put_len u).1
      have e : s.data.toList.length = s.size := by simp
      omega
theorem get_false {s : ByteArray} {a : Int} {n : Nat} {f : Int} (h : Wi.get s a = (n, f, false)) : n = 0 ∧ f = 0 := by
  unfold Wi.get at h
  split at h
  · simp at h; omega
  · split at h
    · simp at h; omega
    · simp at h

namespace Wi
/-- the text that stands at a place -/
def getText (s : ByteArray) (a m : Int) : ByteArray × Int × Bool :=
  if (get s a).2.2 = true ∧ 0 ≤ m ∧ ((get s a).1 : Int) ≤ m ∧ ((get s a).1 : Int) ≤ (s.size : Int) - (get s a).2.1
  then (s.extract (get s a).2.1.toNat ((get s a).2.1.toNat + (get s a).1), (get s a).2.1 + ((get s a).1 : Int), true) else (⟨#[]⟩, 0, false)
def tval (r : ByteArray × Int × Bool) : Value := .tuple #[.string r.1, .int .i64 r.2.1, .bool r.2.2]
end Wi

set_option maxHeartbeats 4000000 in
theorem GetText_any (s : ByteArray) (a m : Int) (w : World) (hz : s.size ≤ 9007199254740992) :
    Calls Tryd.prog 30 #[.string s, .int .i64 a, .int .i64 m] w fun e w' => e = .returned (Wi.tval (Wi.getText s a m)) ∧ Below w.heap.size w w' := by
  have HGET := fun w => Get_any s a w hz
  obtain ⟨R, hR⟩ : ∃ R, Wi.getText s a m = R := ⟨_, rfl⟩
  rw [hR]
  unfold Wi.getText at hR
  obtain ⟨r, hr⟩ : ∃ r, Wi.get s a = r := ⟨_, rfl⟩
  rw [hr] at HGET hR
  obtain ⟨n, f, ok⟩ := r
  unfold Wi.val at HGET
  simp only at HGET hR
  have HGET := Lib.hid HGET
  cases ok
  case false =>
    obtain ⟨rfl, rfl⟩ := get_false hr
    have HRR := Lib.hid (show (⟨#[]⟩, 0, false) = R by rw [← hR, if_neg (by simp)])
    clear hR hr
    go_enter Tryd.func30, Tryd.ntmps30
    go_wp2_with fail
    refine (HGET.out _).mono ?_
    rintro e w1 ⟨rfl, hb⟩
    go_wp2_with fail
    go_ret3
    exact ⟨by rw [← HRR.out]; rfl, hb⟩
  case true =>
    obtain ⟨a', rfl, rfl, hfs, hn, -⟩ := get_true hr
    clear hr
    obtain ⟨F, hF⟩ : ∃ F, a' + (Wi.put n).length = F := ⟨_, rfl⟩
    rw [hF] at hfs HGET hR
    clear hF
    by_cases hm : m < 0
    · have HRR := Lib.hid (show (⟨#[]⟩, 0, false) = R by rw [← hR, if_neg (by omega)])
      clear hR hn
      go_enter Tryd.func30, Tryd.ntmps30
      go_wp2_with fail
      refine (HGET.out _).mono ?_
      rintro e w1 ⟨rfl, hb⟩
      go_wp2_with fail
      go_ret3
      exact ⟨by rw [← HRR.out]; rfl, hb⟩
    · obtain ⟨M, rfl⟩ := Int.eq_ofNat_of_zero_le (show 0 ≤ m by omega)
      obtain ⟨K, hK⟩ : ∃ K, min M (s.size - F) = K := ⟨_, rfl⟩
      have hMn : min (M : Int) ((s.size : Int) - (F : Int)) = (K : Int) := by omega
      have hKs : K ≤ 9007199254740992 := by omega
      have hKw : IntKind.u64.wrap (K : Int) = (K : Int) := by rw [IntKind.wrap_u64]; omega
      have hm0 : ¬ ((M : Int) < 0) := by omega
      by_cases hle : n ≤ K
      · have hnw : IntKind.i64.wrap (n : Int) = (n : Int) := by rw [IntKind.wrap_i64]; omega
        have HRR := Lib.hid (show (s.extract F (F + n), ((F + n : Nat) : Int), true) = R by rw [← hR, if_pos ⟨rfl, by omega, by omega, by omega⟩]; simp)
        have h1 : ¬ ((K : Int) < (n : Int)) := by omega
        have h2 : (0 : Int) ≤ (F : Int) := by omega
        have h3 : (F : Int) ≤ ((F + n : Nat) : Int) := by omega
        have h4 : ((F + n : Nat) : Int) ≤ (s.size : Int) := by omega
        have h5 : (F : Int) + (n : Int) = ((F + n : Nat) : Int) := by omega
        have h6 : (n : Int) ≤ 9007199254740992 := by omega
        have h7 : (0 : Int) ≤ (n : Int) := by omega
        have hs0 : (F : Int) ≤ (s.size : Int) := by omega
        generalize F + n = G at HRR h3 h4 h5
        clear hR hn hK hm hle
        go_enter Tryd.func30, Tryd.ntmps30
        go_wp2_with fail
        refine (HGET.out _).mono ?_
        rintro e w1 ⟨rfl, hb⟩
        go_wp2_with fail
        go_ret3
        exact ⟨by rw [← HRR.out]; rfl, hb⟩
      · have HRR := Lib.hid (show (⟨#[]⟩, 0, false) = R by rw [← hR, if_neg (by omega)])
        have h1 : (K : Int) < (n : Int) := by omega
        have hs0 : (F : Int) ≤ (s.size : Int) := by omega
        clear hR hn hK hm hle
        go_enter Tryd.func30, Tryd.ntmps30
        go_wp2_with fail
        refine (HGET.out _).mono ?_
        rintro e w1 ⟨rfl, hb⟩
        go_wp2_with fail
        go_ret3
        exact ⟨by rw [← HRR.out]; rfl, hb⟩

end Go.Proofs.YtalncnblcfcmcaaDoor
