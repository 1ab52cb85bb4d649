/- The walks of word.among, Count, Right. -/
import Derived.Test.YtalncnblcfcmcaaDoorMcLib
import Derived.Test.YtalncnblcfcmcaaDoorShRowS
import Derived.Lib.RuneCount
import Derived.Lib.OthersKept
import Derived.Laws.RangeAny
import Derived.Handy
namespace Go.Proofs.YtalncnblcfcmcaaDoor
open Go.Shelf Go.RowKit

/-- a run of runes -/
structure Spn where
  lo : Int
  hi : Int
instance : Inhabited Spn := ⟨⟨0, 0⟩⟩
def Spn.cells (x : Spn) : List Value := [.int .i32 x.lo, .int .i32 x.hi]
def Spn.val (x : Spn) : Value := .agg x.cells.toArray
def SpansAt (w : World) (g : Nat) (l : List Spn) : Prop := ∀ j (h : j < l.length), w.cell? ⟨g, j * 2, none⟩ = some (.int .i32 l[j].lo) ∧ w.cell? ⟨g, j * 2 + 1, none⟩ = some (.int .i32 l[j].hi)
theorem SpansAt.below {w x : World} {B g : Nat} {l : List Spn} (h : SpansAt w g l) (hb : Below B w x) (hg : g < B) : SpansAt x g l := fun j hj =>
  ⟨(hb.cell (p := ⟨g, j * 2, none⟩) hg).trans (h j hj).1, (hb.cell (p := ⟨g, j * 2 + 1, none⟩) hg).trans (h j hj).2⟩

namespace Wd
def inSpan (r : Int) (x : Spn) : Bool := decide (x.lo ≤ r) && decide (r ≤ x.hi)
def among (r : Int) (l : List Spn) : Bool := l.any (inSpan r)
def letters : List Spn := [⟨97, 122⟩, ⟨945, 969⟩, ⟨1072, 1103⟩]
def marks : List Spn := [⟨48, 57⟩, ⟨45, 45⟩]
def runesOk (s : ByteArray) : Nat → Nat → Bool
  | 0, _ => true
  | f + 1, pos => if pos < s.size then (if !(among ((Utf8.decode s pos).1 : Int) letters) && (decide (pos = 0) || !(among ((Utf8.decode s pos).1 : Int) marks)) then false else runesOk s f (pos + (Utf8.decode s pos).2)) else true
def right (s : ByteArray) : Bool := runesOk s s.size 0 && (decide (0 < s.size) && decide (Lib.runeCount s ≤ 16))
end Wd

theorem enters_among1 : ∀ args w, (callFunc 71 args).run Tryd.prog w = .ok (.enter 71 args) w := by
  intro args w
  exact enters_of Tryd.func71 (by kernel_rfl) rfl args w

set_option maxHeartbeats 1000000 in
theorem among1_any (x : Spn) (r : Int) (g : Nat) (w : World) (hr : w.cell? ⟨g, 0, none⟩ = some (.int .i32 r)) (hg : g < w.heap.size) :
    Calls Tryd.prog 71 #[x.val, .pointer (some ⟨g, 0, none⟩)] w fun e w' => e = .returned (.bool (Wd.inSpan r x)) ∧ Below w.heap.size w w' := by
  obtain ⟨lo, hi⟩ := x
  have HI := Lib.hid (show Wd.inSpan r ⟨lo, hi⟩ = (decide (lo ≤ r) && decide (r ≤ hi)) from rfl)
  generalize Wd.inSpan r ⟨lo, hi⟩ = q at HI ⊢
  unfold Spn.val Spn.cells
  go_enter Tryd.func71, Tryd.ntmps71
  go_upto_region 1 with fail
  have hb0 : Below w.heap.size w (w.alloc (.cells #[.int .i32 lo, .int .i32 hi] 88)) := (Below.refl _ _).alloc (Nat.le_refl _) _
  have c0 : (w.alloc (.cells #[.int .i32 lo, .int .i32 hi] 88)).cell? ⟨w.heap.size, 0, none⟩ = some (.int .i32 lo) := by rw [World.cell?_alloc_mark]; rfl
  have c1 : (w.alloc (.cells #[.int .i32 lo, .int .i32 hi] 88)).cell? ⟨w.heap.size, 1, none⟩ = some (.int .i32 hi) := by rw [World.cell?_alloc_mark]; rfl
  have hr' := (hb0.cell (p := ⟨g, 0, none⟩) hg).trans hr
  generalize w.alloc (.cells #[.int .i32 lo, .int .i32 hi] 88) = x at hb0 c0 c1 hr' ⊢
  clear hr hg
  by_cases h1 : lo ≤ r
  · have hd1 : decide (lo ≤ r) = true := decide_eq_true h1
    by_cases h2 : r ≤ hi
    · have hd2 : decide (r ≤ hi) = true := decide_eq_true h2
      go_wp2_with fail
      go_ret
      exact ⟨ret_bool (by rw [HI.out]; simp [h1, h2]), hb0⟩
    · have hd2 : decide (r ≤ hi) = false := decide_eq_false h2
      go_wp2_with fail
      go_ret
      exact ⟨ret_bool (by rw [HI.out]; simp [h1, h2]), hb0⟩
  · have hd1 : decide (lo ≤ r) = false := decide_eq_false h1
    go_wp2_with fail
    go_ret
    exact ⟨ret_bool (by rw [HI.out]; simp; omega), hb0⟩

set_option maxHeartbeats 1000000 in
theorem among_any (r : Int) (g n : Nat) (l : List Spn) (w : World) (hl : l.length = n) (hn : n ≤ 100) (hs : SpansAt w g l) (hg : g < w.heap.size) :
    Calls Tryd.prog 60 #[.int .i32 r, .slice (some ⟨g, 0, none⟩) n n] w fun e w' => e = .returned (.bool (Wd.among r l)) ∧ Below w.heap.size w w' := by
  have hmf : ∀ (fn : Fn) (first cap : Array Value) (w : World), (Instr.makeFunc fn first cap).run Tryd.prog w = .ok (.func fn first cap) w := fun _ _ _ _ => rfl
  have HA := Lib.hid (show Wd.among r l = l.any (Wd.inSpan r) from rfl)
  go_enter Tryd.func60, Tryd.ntmps60
  go_upto_region 1 with fail
  have hb0 : Below w.heap.size w (w.alloc (.cells #[.int .i32 r] 21)) := (Below.refl _ _).alloc (Nat.le_refl _) _
  have c0 : (w.alloc (.cells #[.int .i32 r] 21)).cell? ⟨w.heap.size, 0, none⟩ = some (.int .i32 r) := by rw [World.cell?_alloc_mark]; rfl
  have hlt : w.heap.size < (w.alloc (.cells #[.int .i32 r] 21)).heap.size := by simp
  generalize w.alloc (.cells #[.int .i32 r] 21) = x at hb0 c0 hlt ⊢
  have hs2 := hs.below hb0 hg
  have HC := Lib.hid (AnyQ.slices_ContainsFunc lspan_lays 2 Tryd.isAgg88 Tryd.sizeOf88 Spn.cells (fun _ => rfl) (Wd.inSpan r) 71 #[.pointer (some ⟨w.heap.size, 0, none⟩)] enters_among1 g 0 n n l x
    (fun W y hb => (among1_any y r w.heap.size W ((hb.cell (p := ⟨w.heap.size, 0, none⟩) hlt).trans c0) (Nat.lt_of_lt_of_le hlt hb.size)).mono fun e w' h => ⟨h.1, hb.trans (h.2.mono hb.size)⟩)
    (by omega) (by omega) (by have := hb0.size; omega)
    (fun j hj i u hu => by
      have h := hs2 j hj
      rw [getElem!_pos l j hj] at hu
      rw [Nat.zero_add]
      match i, hu with
      | 0, hu => cases hu; exact h.1
      | 1, hu => cases hu; exact h.2
      | i + 2, hu => cases hu))
  rw [List.take_of_length_le (by omega)] at HC
  have HB := Lib.hid hb0
  clear hs2 hs c0 hb0
  generalize l.any (Wd.inSpan r) = q at HC HA
  go_wp2_with (go_at_call 70; refine HC.out.mono ?_; rintro e u ⟨rfl, hbu⟩)
  go_ret
  exact ⟨ret_bool HA.out.symm, HB.out.trans (hbu.mono HB.out.size)⟩

set_option maxHeartbeats 4000000 in
set_option maxRecDepth 1000000 in
theorem runeCount_any (s : ByteArray) (w : World) (hs : s.size < 9223372036854775807) :
    Calls Tryd.prog 72 #[.string s] w fun e w' => e = .returned (.int .i64 (Lib.runeCount s)) ∧ Below w.heap.size w w' := by
  go_enter Tryd.func72, Tryd.ntmps72
  go_wp2
  go_loopw [2] (fun n w' => ∃ (pos b acc : Nat), w' = w.iter s pos ∧ n = .int .i64 acc ∧ acc + Lib.runeCountFrom s b pos = Lib.runeCount s ∧ s.size ≤ pos + b ∧ acc ≤ pos) (fun _ w' => s.size - w'.iterPos w.heap.size)
  case atStart => exact ⟨0, s.size, 0, rfl, rfl, by simp [Lib.runeCount], by omega, Nat.le_refl _⟩
  case round =>
    obtain ⟨pos, b, acc, rfl, rfl, hc, hb, ha⟩ := hrel
    by_cases hp : pos < s.size
    · have hnx : ∀ ty, (Instr.next (.pointer (some ⟨w.heap.size, 0, none⟩)) true ty).run Tryd.prog (w.iter s pos) = _ := fun ty => run_next_any w s pos ty hp
      have hwd := Lib.decode_width_pos s pos hp
      go_wp2
      go_roundw
      case rel =>
        cases b with
        | zero => omega
        | succ b =>
          refine ⟨pos + (Utf8.decode s pos).2, b, acc + 1, rfl, by go_num, ?_, by omega, by omega⟩
          rw [← hc]
          simp [Lib.runeCountFrom, hp]
          omega
      case measure =>
        simp
        omega
    · have hnx : ∀ ty, (Instr.next (.pointer (some ⟨w.heap.size, 0, none⟩)) true ty).run Tryd.prog (w.iter s pos) = _ := fun ty => run_next_end w s pos ty hp
      go_wp2
      go_ret
      rw [Lib.runeCountFrom_end s b pos hp, Nat.add_zero] at hc
      subst hc
      exact ⟨rfl, (Below.refl _ _).alloc (Nat.le_refl _) _⟩

theorem count_any (s : ByteArray) (w : World) (hs : s.size < 9223372036854775807) :
    Calls Tryd.prog 61 #[.string s] w fun e w' => e = .returned (.int .i64 (Lib.runeCount s)) ∧ Below w.heap.size w w' := by
  have H := Lib.hid (fun y => runeCount_any s y hs)
  go_enter Tryd.func61, Tryd.ntmps61
  go_wp2_with (go_at_call 72; refine (H.out _).mono ?_; rintro e u ⟨rfl, hbu⟩)
  go_ret
  exact ⟨rfl, hbu⟩

/-- the walk over a text's runes -/
structure Rr (w x : World) (s : ByteArray) (pos : Nat) : Prop where
  it : x.heap[w.heap.size]? = some (.stringIter s pos)
  b : Below w.heap.size w x
theorem Rr.lt {w x : World} {s : ByteArray} {pos : Nat} (h : Rr w x s pos) : w.heap.size < x.heap.size := (Array.getElem?_eq_some_iff.1 h.it).1
theorem Rr.below {w x y : World} {s : ByteArray} {pos : Nat} (h : Rr w x s pos) (hb : Below x.heap.size x y) : Rr w y s pos := ⟨(hb.block _ h.lt).trans h.it, h.b.trans (hb.mono h.b.size)⟩
theorem Rr.next {w x : World} {s : ByteArray} {pos : Nat} (h : Rr w x s pos) (q : Nat) : Rr w (x.iterAt w.heap.size s q) s q := ⟨Lib.iterAt_heap _ _ _ _ _ h.it, Lib.below_iterAt h.b (Nat.le_refl _) s q⟩
theorem Rr.pos {w x : World} {s : ByteArray} {pos : Nat} (h : Rr w x s pos) : x.iterPos w.heap.size = pos := by simp [World.iterPos, h.it]

set_option maxHeartbeats 4000000 in
set_option maxRecDepth 100000 in
theorem Right_any (s : ByteArray) (w : World) (hs : s.size < 9223372036854775807) (hA : SpansAt w 1 Wd.letters) (hB : SpansAt w 2 Wd.marks) (lA : 1 < w.heap.size) (lB : 2 < w.heap.size) :
    Calls Tryd.prog 44 #[.string s] w fun e w' => e = .returned (.bool (Wd.right s)) ∧ Below w.heap.size w w' := by
  have HAL := Lib.hid (fun r y (hb : Below w.heap.size w y) => among_any r 1 3 Wd.letters y rfl (by omega) (hA.below hb lA) (Nat.lt_of_lt_of_le lA hb.size))
  have HAM := Lib.hid (fun r y (hb : Below w.heap.size w y) => among_any r 2 2 Wd.marks y rfl (by omega) (hB.below hb lB) (Nat.lt_of_lt_of_le lB hb.size))
  have HCT := Lib.hid (fun y => count_any s y hs)
  have HRG := Lib.hid (show Wd.right s = (Wd.runesOk s s.size 0 && (decide (0 < s.size) && decide (Lib.runeCount s ≤ 16))) from rfl)
  generalize Wd.right s = q at HRG ⊢
  have hrc := Lib.runeCount_le s
  generalize Lib.runeCount s = rc at HCT HRG hrc
  clear hA hB
  go_enter Tryd.func44, Tryd.ntmps44
  go_wp2_with fail
  go_loopw [4] (fun _ wr => ∃ (pos f : Nat), Rr w wr s pos ∧ Wd.runesOk s s.size 0 = Wd.runesOk s f pos ∧ s.size ≤ pos + f) (fun _ wr => s.size - wr.iterPos w.heap.size)
  case atStart => exact ⟨0, s.size, ⟨World.iter_heap w s 0, (Below.refl _ _).alloc (Nat.le_refl _) _⟩, rfl, by omega⟩
  case round =>
    obtain ⟨pos, f, hR, hok, hf⟩ := hrel
    have hpos := hR.pos
    by_cases hp : pos < s.size
    · have hnx : ∀ ty, (Instr.next (.pointer (some ⟨w.heap.size, 0, none⟩)) true ty).run Tryd.prog wr = _ := fun ty => Lib.run_next_any_at wr w.heap.size s pos ty hR.it hp
      have hwd := Lib.decode_width_pos s pos hp
      have hR2 := hR.next (pos + (Utf8.decode s pos).2)
      have hok2 : Wd.runesOk s f pos = (if !(Wd.among ((Utf8.decode s pos).1 : Int) Wd.letters) && (decide (pos = 0) || !(Wd.among ((Utf8.decode s pos).1 : Int) Wd.marks)) then false else Wd.runesOk s (f - 1) (pos + (Utf8.decode s pos).2)) := by
        cases f with
        | zero => omega
        | succ f => rw [Wd.runesOk, if_pos hp]; rfl
      generalize (Utf8.decode s pos).1 = rn at hnx hok2
      generalize (Utf8.decode s pos).2 = wd at hnx hok2 hR2 hwd
      obtain ⟨np, hnp⟩ : ∃ np, pos + wd = np := ⟨_, rfl⟩
      rw [hnp] at hok2 hR2
      simp only [hnp] at hnx
      have L1 := Lib.hid (HAL.out (rn : Int))
      have M1 := Lib.hid (HAM.out (rn : Int))
      generalize Wd.among (rn : Int) Wd.letters = bl at L1 hok2
      generalize Wd.among (rn : Int) Wd.marks = bm at M1 hok2
      have HR2 := Lib.hid hR2
      have HOK := Lib.hid (hok.trans hok2)
      clear hok hok2 hR2 hR
      cases bl with
      | true =>
        go_wp2_with (first
          | (go_at_call 60; (with_reducible refine (L1.out _ HR2.out.b).mono ?_); rintro e y ⟨rfl, hby⟩))
        have h3 := HR2.out.below hby
        refine ⟨⟨np, f - 1, h3, by rw [HOK.out]; simp, by omega⟩, by rw [h3.pos, hpos]; omega⟩
      | false =>
        by_cases h0 : pos = 0
        · subst h0
          go_wp2_with (first
            | (go_at_call 60; (with_reducible refine (L1.out _ HR2.out.b).mono ?_); rintro e y ⟨rfl, hby⟩))
          go_ret
          exact ⟨ret_bool (by rw [HRG.out, HOK.out]; simp), (HR2.out.below hby).b⟩
        · have h0' : ¬ (pos : Int) = 0 := by omega
          cases bm with
          | true =>
            go_wp2_with (first
              | (go_at_call 60; (with_reducible refine (L1.out _ HR2.out.b).mono ?_); rintro e y ⟨rfl, hby⟩; have HR3 := Lib.hid (HR2.out.below hby))
              | (go_at_call 60; (with_reducible refine (M1.out _ HR3.out.b).mono ?_); rintro e z ⟨rfl, hbz⟩))
            have h3 := HR3.out.below hbz
            refine ⟨⟨np, f - 1, h3, by rw [HOK.out]; simp [h0], by omega⟩, by rw [h3.pos, hpos]; omega⟩
          | false =>
            go_wp2_with (first
              | (go_at_call 60; (with_reducible refine (L1.out _ HR2.out.b).mono ?_); rintro e y ⟨rfl, hby⟩; have HR3 := Lib.hid (HR2.out.below hby))
              | (go_at_call 60; (with_reducible refine (M1.out _ HR3.out.b).mono ?_); rintro e z ⟨rfl, hbz⟩))
            go_ret
            exact ⟨ret_bool (by rw [HRG.out, HOK.out]; simp), (HR3.out.below hbz).b⟩
    · have hnx : ∀ ty, (Instr.next (.pointer (some ⟨w.heap.size, 0, none⟩)) true ty).run Tryd.prog wr = _ := fun ty => Lib.run_next_end_at wr w.heap.size s pos ty hR.it hp
      have hok2 : Wd.runesOk s f pos = true := by
        cases f with
        | zero => rfl
        | succ f => rw [Wd.runesOk, if_neg hp]
      have HB := Lib.hid hR.b
      rw [hok, hok2] at HRG
      clear hok hok2 hR
      by_cases h0 : 0 < s.size
      · have hemp : s.toList.isEmpty = false := by
          rw [ByteArray.toList_eq]
          have : 0 < s.data.toList.length := h0
          cases hq : s.data.toList with
          | nil => rw [hq] at this; simp at this
          | cons a l => rfl
        go_wp2_with (go_at_call 61; (with_reducible refine (HCT.out _).mono ?_); rintro e y ⟨rfl, hby⟩)
        go_ret
        exact ⟨ret_bool (by rw [HRG.out]; simp [h0]; omega), HB.out.trans (hby.mono HB.out.size)⟩
      · have hemp : s.toList.isEmpty = true := by
          rw [ByteArray.toList_eq]
          have : s.data.toList.length = 0 := by have h1 : s.data.toList.length = s.size := by simp
                                                omega
          rw [List.length_eq_zero_iff.1 this]; rfl
        go_wp2_with fail
        go_ret
        exact ⟨ret_bool (by rw [HRG.out]; simp [h0]), HB.out⟩

end Go.Proofs.YtalncnblcfcmcaaDoor
