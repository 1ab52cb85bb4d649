/- The walks of a caveat: known, put; what a token allows; whether it fits. -/
import Derived.Test.YtalncnblcfcmcaaDoorMcLib
import Derived.Test.YtalncnblcfcmcaaDoorMcSign
import Derived.Test.YtalncnblcfcmcaaDoorWiGetText
import Derived.Handy
import Derived.Deep.RegionHeld3
import Derived.Shelf.Abstract
namespace Go.Proofs.YtalncnblcfcmcaaDoor
open Go.RowKit

namespace Mc
def known (c : Cav) : Bool := c.k == 1 || c.k == 2
def u64 (k : Int) : Nat := (k % 18446744073709551616).toNat
def putc (c : Cav) : ByteArray := ⟨(Wi.put (u64 c.k)).toArray⟩ ++ ⟨(Wi.put c.n).toArray⟩
theorem u64_lt (k : Int) : u64 k < 18446744073709551616 := by unfold u64; omega
theorem putc_size (c : Cav) : (putc c).size ≤ 20 := by
  unfold putc
  have h1 := (Wi.put_len (u64 c.k)).2
  have h2 := (Wi.put_len c.n).2
  rw [ByteArray.size_append]
  show (Wi.put (u64 c.k)).toArray.size + (Wi.put c.n).toArray.size ≤ 20
  simp only [List.size_toArray]
  omega
end Mc

set_option maxHeartbeats 1000000 in
theorem known_any (c : Cav) (w : World) :
    Calls Tryd.prog 58 #[c.val] w fun e w' => e = .returned (.bool (Mc.known c)) ∧ Below w.heap.size w w' := by
  obtain ⟨k, n⟩ := c
  by_cases h1 : k = 1
  · have e : Mc.known ⟨k, n⟩ = true := by simp [Mc.known, h1]
    unfold Cav.val Cav.cells
    rw [e]
    clear e
    go_enter Tryd.func58, Tryd.ntmps58
    go_wp2
    all_goals go_ret
    all_goals exact ⟨rfl, by go_grown⟩
  · by_cases h2 : k = 2
    · have e : Mc.known ⟨k, n⟩ = true := by simp [Mc.known, h2]
      unfold Cav.val Cav.cells
      rw [e]
      clear e
      go_enter Tryd.func58, Tryd.ntmps58
      go_wp2
      all_goals go_ret
      all_goals exact ⟨rfl, by go_grown⟩
    · have e : Mc.known ⟨k, n⟩ = false := by simp [Mc.known, h1, h2]
      unfold Cav.val Cav.cells
      rw [e]
      clear e
      go_enter Tryd.func58, Tryd.ntmps58
      go_wp2
      all_goals go_ret
      all_goals exact ⟨ret_bool (by simp [h1, h2]), by go_grown⟩

set_option maxHeartbeats 1000000 in
theorem fits1_any (c : Cav) (w : World) :
    Calls Tryd.prog 57 #[c.val] w fun e w' => e = .returned (.bool (!Mc.known c)) ∧ Below w.heap.size w w' := by
  have HK := Lib.hid (known_any c)
  generalize Mc.known c = b at HK ⊢
  obtain ⟨k, n⟩ := c
  unfold Cav.val Cav.cells at HK ⊢
  go_enter Tryd.func57, Tryd.ntmps57
  go_wp2_with (go_at_call 58; refine (HK.out _).mono ?_; rintro e u ⟨rfl, hbu⟩)
  go_ret
  exact ⟨rfl, ((Below.refl _ _).alloc (Nat.le_refl _) _).trans (hbu.mono (by simp))⟩

/-- a boxed caveat behind calls -/
structure Cs2 (w y : World) (k : Int) (n : Nat) : Prop where
  c0 : y.cell? ⟨w.heap.size, 0, none⟩ = some (.int .i64 k)
  c1 : y.cell? ⟨w.heap.size, 1, none⟩ = some (.int .u64 (n : Int))
  lt : w.heap.size < y.heap.size
  b : Below w.heap.size w y
theorem Cs2.below {w y z : World} {k : Int} {n : Nat} (h : Cs2 w y k n) (hb : Below y.heap.size y z) : Cs2 w z k n :=
  ⟨(hb.cell (p := ⟨w.heap.size, 0, none⟩) h.lt).trans h.c0, (hb.cell (p := ⟨w.heap.size, 1, none⟩) h.lt).trans h.c1, Nat.lt_of_lt_of_le h.lt hb.size, h.b.trans (hb.mono h.b.size)⟩

set_option maxHeartbeats 4000000 in
theorem putc_any (c : Cav) (w : World) (hn : c.n < 18446744073709551616) :
    Calls Tryd.prog 47 #[c.val] w fun e w' => e = .returned (.string (Mc.putc c)) ∧ Below w.heap.size w w' := by
  have H1 := Lib.hid (fun w => Put_any (Mc.u64 c.k) w (Mc.u64_lt c.k))
  have H2 := Lib.hid (fun w => Put_any c.n w hn)
  have h1 := (Wi.put_len (Mc.u64 c.k)).2
  have h2 := (Wi.put_len c.n).2
  have hw : IntKind.u64.wrap c.k = (Mc.u64 c.k : Int) := by rw [IntKind.wrap_u64]; unfold Mc.u64; omega
  obtain ⟨p, hp⟩ : ∃ q : ByteArray, ⟨(Wi.put (Mc.u64 c.k)).toArray⟩ = q := ⟨_, rfl⟩
  obtain ⟨q, hq⟩ : ∃ q : ByteArray, ⟨(Wi.put c.n).toArray⟩ = q := ⟨_, rfl⟩
  have sp : p.size ≤ 10 := by rw [← hp]; show (Wi.put (Mc.u64 c.k)).toArray.size ≤ 10; simpa using h1
  have sq : q.size ≤ 10 := by rw [← hq]; show (Wi.put c.n).toArray.size ≤ 10; simpa using h2
  have hc : ¬ (9223372036854775807 < p.size + q.size) := by omega
  rw [hp] at H1
  rw [hq] at H2
  have HE := Lib.hid (show Mc.putc c = p ++ q from by unfold Mc.putc; rw [hp, hq])
  generalize Mc.putc c = z at HE ⊢
  generalize Mc.u64 c.k = kk at hw H1 h1
  obtain ⟨k, n⟩ := c
  unfold Cav.val Cav.cells
  simp only at hw H2
  clear hp hq h1 h2
  go_enter Tryd.func47, Tryd.ntmps47
  go_upto_region 1 with fail
  have c0 : (w.alloc (.cells #[.int .i64 k, .int .u64 (n : Int)] 27)).cell? ⟨w.heap.size, 0, none⟩ = some (.int .i64 k) := by rw [World.cell?_alloc_mark]; rfl
  have c1 : (w.alloc (.cells #[.int .i64 k, .int .u64 (n : Int)] 27)).cell? ⟨w.heap.size, 1, none⟩ = some (.int .u64 (n : Int)) := by rw [World.cell?_alloc_mark]; rfl
  have hb0 : Below w.heap.size w (w.alloc (.cells #[.int .i64 k, .int .u64 (n : Int)] 27)).drew := ((Below.refl _ _).alloc (Nat.le_refl _) _).drew
  have hlt : w.heap.size < (w.alloc (.cells #[.int .i64 k, .int .u64 (n : Int)] 27)).heap.size := by simp
  have hK : Cs2 w (w.alloc (.cells #[.int .i64 k, .int .u64 (n : Int)] 27)).drew k n := ⟨c0, c1, hlt, hb0⟩
  clear c0 c1 hb0 hlt
  generalize w.alloc (.cells #[.int .i64 k, .int .u64 (n : Int)] 27) = x at hK ⊢
  have HK := Lib.hid hK
  clear hK
  go_region_held3 (fun y => y.cell? ⟨w.heap.size, 0, none⟩ = some (.int .i64 k) ∧ y.cell? ⟨w.heap.size, 1, none⟩ = some (.int .u64 (n : Int))) (exact ⟨HK.out.c0, HK.out.c1⟩)
    ((first
      | (go_at_call 46; ((with_reducible refine (H1.out _).mono ?_); rintro e u ⟨rfl, hbu⟩; have HKn := Lib.hid (HK.out.below hbu); clear HK hbu; have HK := HKn; clear HKn))
      | (go_at_call 46; ((with_reducible refine (H2.out _).mono ?_); rintro e u ⟨rfl, hbu⟩; have HKn := Lib.hid (HK.out.below hbu); clear HK hbu; have HK := HKn; clear HKn))))
  all_goals (go_wp2_with fail; go_ret; exact ⟨ret_str HE.out.symm, HK.out.b⟩)

end Go.Proofs.YtalncnblcfcmcaaDoor
