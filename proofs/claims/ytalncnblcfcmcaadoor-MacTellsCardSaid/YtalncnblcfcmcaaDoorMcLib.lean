/- slices.ContainsFunc at caveats and at spans of runes: the shelf's contract, laid for this program. -/
import Derived.Test.YtalncnblcfcmcaaDoorRow
import Derived.Shelf.SlicesQ.IndexFunc
import Derived.Shelf.Abstract
namespace Go.Proofs.YtalncnblcfcmcaaDoor
open Go.Shelf Go.RowKit

def lcav_ren : Go.Shelf.Ren := ⟨fun | 6 => 59 | 8 => 42 | n => n, fun | 0 => 0 | 3 => 3 | 4 => 4 | 22 => 22 | 23 => 27 | 25 => 71 | n => n, fun n => n⟩
theorem lcav_lays : SlLaysH0.n8 Tryd.prog lcav_ren := {
  mixed := by kernel_rfl
  f6 := Exists.intro "slices.IndexFunc[[]demesne/mac.Caveat,demesne/mac.Caveat]" ⟨by kernel_rfl, Tryd.func59.trans (congrArg some (by kernel_rfl))⟩
  f8 := Exists.intro "slices.ContainsFunc[[]demesne/mac.Caveat,demesne/mac.Caveat]" ⟨by kernel_rfl, Tryd.func42.trans (congrArg some (by kernel_rfl))⟩
  t0 := Tryd.underlying0
  a0 := Tryd.isAgg0
  z0 := Tryd.sizeOf0
  v0 := Tryd.zeroValue0
  t3 := Tryd.underlying3
  a3 := Tryd.isAgg3
  z3 := Tryd.sizeOf3
  v3 := Tryd.zeroValue3
  t4 := Tryd.underlying4
  a4 := Tryd.isAgg4
  z4 := Tryd.sizeOf4
  v4 := Tryd.zeroValue4
  t22 := Tryd.underlying22
  a22 := Tryd.isAgg22
  z22 := Tryd.sizeOf22
  v22 := Tryd.zeroValue22
  t25 := Tryd.underlying71
  a25 := Tryd.isAgg71
  z25 := Tryd.sizeOf71
  v25 := Tryd.zeroValue71
}
def lspan_ren : Go.Shelf.Ren := ⟨fun | 6 => 80 | 8 => 70 | n => n, fun | 0 => 0 | 3 => 3 | 4 => 4 | 22 => 86 | 23 => 88 | 25 => 100 | n => n, fun n => n⟩
theorem lspan_lays : SlLaysH0.n8 Tryd.prog lspan_ren := {
  mixed := by kernel_rfl
  f6 := Exists.intro "slices.IndexFunc[[]demesne/word.span,demesne/word.span]" ⟨by kernel_rfl, Tryd.func80.trans (congrArg some (by kernel_rfl))⟩
  f8 := Exists.intro "slices.ContainsFunc[[]demesne/word.span,demesne/word.span]" ⟨by kernel_rfl, Tryd.func70.trans (congrArg some (by kernel_rfl))⟩
  t0 := Tryd.underlying0
  a0 := Tryd.isAgg0
  z0 := Tryd.sizeOf0
  v0 := Tryd.zeroValue0
  t3 := Tryd.underlying3
  a3 := Tryd.isAgg3
  z3 := Tryd.sizeOf3
  v3 := Tryd.zeroValue3
  t4 := Tryd.underlying4
  a4 := Tryd.isAgg4
  z4 := Tryd.sizeOf4
  v4 := Tryd.zeroValue4
  t22 := Tryd.underlying86
  a22 := Tryd.isAgg86
  z22 := Tryd.sizeOf86
  v22 := Tryd.zeroValue86
  t25 := Tryd.underlying100
  a25 := Tryd.isAgg100
  z25 := Tryd.sizeOf100
  v25 := Tryd.zeroValue100
}

/-- a caveat: its kind, its number -/
structure Cav where
  k : Int
  n : Nat

instance : Inhabited Cav := ⟨⟨0, 0⟩⟩
def Cav.cells (c : Cav) : List Value := [.int .i64 c.k, .int .u64 (c.n : Int)]
def Cav.val (c : Cav) : Value := .agg c.cells.toArray

theorem contains_cav (p : Cav → Bool) (g : Nat) (lb : Array Value) (eg : ∀ args w, (callFunc g args).run Tryd.prog w = .ok (.enter g args) w) (b off n c : Nat) (zs : List Cav) (w : World)
    (hp : PredBelow Tryd.prog g lb Cav.val p w) (hz : zs.length = n) (hbig : n ≤ 9223372036854775807) (hb : b < w.heap.size)
    (hc : ∀ j, j < zs.length → ∀ i v, (Cav.cells zs[j]!)[i]? = some v → w.cell? ⟨b, off + j * 2 + i, none⟩ = some v) :
    Calls Tryd.prog 42 #[.slice (some ⟨b, off, none⟩) n c, .func (.func g) #[] lb] w fun e w' => e = .returned (.bool (zs.any p)) ∧ Below w.heap.size w w' := by
  have h := AnyQ.slices_ContainsFunc lcav_lays 2 Tryd.isAgg27 Tryd.sizeOf27 Cav.cells (fun _ => rfl) p g lb eg b off n c zs w hp (by omega) hbig hb hc
  rw [List.take_of_length_le (by omega)] at h
  exact h

/-- no caveat at all -/
theorem index_none (a : Option Addr) (c : Nat) (f : Value) (w : World) :
    Calls Tryd.prog 59 #[.slice a 0 c, f] w fun e w' => e = .returned (.int .i64 (-1)) ∧ Below w.heap.size w w' := by
  go_enter Tryd.func59, Tryd.ntmps59
  go_wp2_with fail
  go_loopw [8] (fun s8 wr => s8 = .int .i64 0 ∧ wr = w) (fun _ _ => 0)
  case atStart => exact ⟨rfl, rfl⟩
  case round =>
    obtain ⟨rfl, rfl⟩ := hrel
    go_wp2_with fail
    go_ret
    exact ⟨rfl, Below.refl _ _⟩
theorem contains_none (a : Option Addr) (c : Nat) (f : Value) (w : World) :
    Calls Tryd.prog 42 #[.slice a 0 c, f] w fun e w' => e = .returned (.bool false) ∧ Below w.heap.size w w' := by
  have H := Lib.hid (index_none a c f)
  go_enter Tryd.func42, Tryd.ntmps42
  go_wp2_with (go_at_call 59; refine (H.out _).mono ?_; rintro e u ⟨rfl, hbu⟩)
  go_ret
  exact ⟨rfl, hbu⟩

/-- a caveat in its two cells; a slice of caveats -/
def CavAt (w : World) (b o : Nat) (c : Cav) : Prop := w.cell? ⟨b, o, none⟩ = some (.int .i64 c.k) ∧ w.cell? ⟨b, o + 1, none⟩ = some (.int .u64 (c.n : Int))
def CavsAt (w : World) (v : Value) (l : List Cav) : Prop :=
  (v = .slice none 0 0 ∧ l = []) ∨ (∃ ad c, v = .slice (some ad) 0 c ∧ l = []) ∨ ∃ b off cap, v = .slice (some ⟨b, off, none⟩) l.length cap ∧ b < w.heap.size ∧ ∀ j (h : j < l.length), CavAt w b (off + j * 2) l[j]
theorem CavsAt.below {w w' : World} {B : Nat} {v : Value} {l : List Cav} (h : CavsAt w v l) (hb : Below B w w') (hB : w.heap.size ≤ B) : CavsAt w' v l := by
  rcases h with h | h | ⟨b, off, cap, e, hlt, hc⟩
  · exact .inl h
  · exact .inr (.inl h)
  · exact .inr (.inr ⟨b, off, cap, e, Nat.lt_of_lt_of_le hlt hb.size, fun j hj => ⟨(hb.cell (p := ⟨b, off + j * 2, none⟩) (Nat.lt_of_lt_of_le hlt hB)).trans (hc j hj).1, (hb.cell (p := ⟨b, off + j * 2 + 1, none⟩) (Nat.lt_of_lt_of_le hlt hB)).trans (hc j hj).2⟩⟩)
theorem CavsAt.form {w : World} {v : Value} {l : List Cav} (h : CavsAt w v l) : ∃ a cap, v = .slice a l.length cap := by
  rcases h with ⟨rfl, rfl⟩ | ⟨a, c, rfl, rfl⟩ | ⟨b, off, cap, rfl, _⟩
  · exact ⟨_, _, rfl⟩
  · exact ⟨_, _, rfl⟩
  · exact ⟨_, _, rfl⟩
theorem CavsAt.nil (w : World) : CavsAt w (.slice none 0 0) [] := .inl ⟨rfl, rfl⟩

/-- whether one of them is so -/
theorem contains_any (p : Cav → Bool) (g : Nat) (lb : Array Value) (eg : ∀ args w, (callFunc g args).run Tryd.prog w = .ok (.enter g args) w) (v : Value) (zs : List Cav) (w : World)
    (hv : CavsAt w v zs) (hp : PredBelow Tryd.prog g lb Cav.val p w) (hbig : zs.length ≤ 9223372036854775807) :
    Calls Tryd.prog 42 #[v, .func (.func g) #[] lb] w fun e w' => e = .returned (.bool (zs.any p)) ∧ Below w.heap.size w w' := by
  rcases hv with ⟨rfl, rfl⟩ | ⟨a, c, rfl, rfl⟩ | ⟨b, off, cap, rfl, hlt, hc⟩
  · exact contains_none _ _ _ w
  · exact contains_none _ _ _ w
  · refine contains_cav p g lb eg b off _ cap zs w hp rfl hbig hlt fun j hj i u hu => ?_
    have h := hc j hj
    rw [getElem!_pos zs j hj] at hu
    match i, hu with
    | 0, hu => cases hu; exact h.1
    | 1, hu => cases hu; exact h.2
    | i + 2, hu => cases hu

end Go.Proofs.YtalncnblcfcmcaaDoor
