/- The walks of fits and of Allows. -/
import Derived.Test.YtalncnblcfcmcaaDoorMcCav
import Derived.BigQuiet
namespace Go.Proofs.YtalncnblcfcmcaaDoor
open Go.RowKit

/-- a token's value -/
def tokv (t : ByteArray) (v : Value) (s : ByteArray) : Value := .agg #[.string t, v, .string s]

namespace Mc
def fits (l : List Cav) : Bool := decide (l.length ≤ 8) && !(l.any fun c => !known c)
/-- is a right, a round, barred by a caveat? -/
def stop (r rd : Nat) (c : Cav) : Bool := (c.k == 1 && !(decide (bits .andNot .u64 (r : Int) (c.n : Int) = 0))) || (c.k == 2 && decide ((c.n : Int) < (rd : Int)))
def allows (l : List Cav) (r rd : Nat) : Bool := !(l.any (stop r rd))
end Mc

theorem enters_fits1 : ∀ args w, (callFunc 57 args).run Tryd.prog w = .ok (.enter 57 args) w := by
  intro args w
  exact enters_of Tryd.func57 (by kernel_rfl) rfl args w
theorem enters_allows1 : ∀ args w, (callFunc 43 args).run Tryd.prog w = .ok (.enter 43 args) w := by
  intro args w
  exact enters_of Tryd.func43 (by kernel_rfl) rfl args w

set_option maxHeartbeats 4000000 in
theorem fits_any (t : ByteArray) (v : Value) (l : List Cav) (s : ByteArray) (w : World) (hv : CavsAt w v l) (hbig : l.length ≤ 9223372036854775807) :
    Calls Tryd.prog 40 #[tokv t v s] w fun e w' => e = .returned (.bool (Mc.fits l)) ∧ Below w.heap.size w w' := by
  have HC := Lib.hid (fun u (h : CavsAt u v l) => contains_any (fun c => !Mc.known c) 57 #[] enters_fits1 v l u h (fun W x hb => (fits1_any x W).mono fun e w' h => ⟨h.1, hb.trans (h.2.mono hb.size)⟩) hbig)
  have HF := Lib.hid (show Mc.fits l = (decide (l.length ≤ 8) && !(l.any fun c => !Mc.known c)) from rfl)
  generalize (l.any fun c => !Mc.known c) = q at HC HF
  have hv2 : CavsAt (w.alloc (.cells #[.string t, v, .string s] 24)) v l := hv.below ((Below.refl w.heap.size w).alloc (Nat.le_refl _) _) (Nat.le_refl _)
  have HV := Lib.hid hv2
  obtain ⟨a, cap, rfl⟩ := hv.form
  clear hv hv2
  unfold tokv
  by_cases h8 : l.length ≤ 8
  · have h8' : (l.length : Int) ≤ 8 := by omega
    have hd : decide ((l.length : Int) ≤ 8) = true := decide_eq_true h8'
    go_enter Tryd.func40, Tryd.ntmps40
    go_wp2_with (go_at_call 42; refine (HC.out _ HV.out).mono ?_; rintro e u ⟨rfl, hbu⟩)
    go_ret
    exact ⟨ret_bool (by rw [HF.out, decide_eq_true h8]; simp), ((Below.refl _ _).alloc (Nat.le_refl _) _).trans (hbu.mono (by simp))⟩
  · have h8' : ¬ (l.length : Int) ≤ 8 := by omega
    have hd : decide ((l.length : Int) ≤ 8) = false := decide_eq_false h8'
    go_enter Tryd.func40, Tryd.ntmps40
    go_wp2_with fail
    go_ret
    exact ⟨ret_bool (by rw [HF.out, decide_eq_false h8]; simp), by go_grown⟩

set_option maxHeartbeats 4000000 in
theorem allows1_any (c : Cav) (r rd : Nat) (g4 g5 : Nat) (w : World) (h4 : w.cell? ⟨g4, 0, none⟩ = some (.int .u64 (r : Int))) (h5 : w.cell? ⟨g5, 0, none⟩ = some (.int .u64 (rd : Int))) (l4 : g4 < w.heap.size) (l5 : g5 < w.heap.size) :
    Calls Tryd.prog 43 #[c.val, .pointer (some ⟨g4, 0, none⟩), .pointer (some ⟨g5, 0, none⟩)] w fun e w' => e = .returned (.bool (Mc.stop r rd c)) ∧ Below w.heap.size w w' := by
  obtain ⟨k, n⟩ := c
  have HS := Lib.hid (show Mc.stop r rd ⟨k, n⟩ = ((k == 1 && !(decide (bits .andNot .u64 (r : Int) (n : Int) = 0))) || (k == 2 && decide ((n : Int) < (rd : Int)))) from rfl)
  generalize hz : bits .andNot .u64 (r : Int) (n : Int) = z at HS
  generalize Mc.stop r rd ⟨k, n⟩ = b at HS ⊢
  unfold Cav.val Cav.cells
  go_enter Tryd.func43, Tryd.ntmps43
  go_upto_region 1 with fail
  have hb0 : Below w.heap.size w (w.alloc (.cells #[.int .i64 k, .int .u64 (n : Int)] 27)) := (Below.refl _ _).alloc (Nat.le_refl _) _
  have c0 : (w.alloc (.cells #[.int .i64 k, .int .u64 (n : Int)] 27)).cell? ⟨w.heap.size, 0, none⟩ = some (.int .i64 k) := by rw [World.cell?_alloc_mark]; rfl
  have c1 : (w.alloc (.cells #[.int .i64 k, .int .u64 (n : Int)] 27)).cell? ⟨w.heap.size, 1, none⟩ = some (.int .u64 (n : Int)) := by rw [World.cell?_alloc_mark]; rfl
  have h4' := (hb0.cell (p := ⟨g4, 0, none⟩) l4).trans h4
  have h5' := (hb0.cell (p := ⟨g5, 0, none⟩) l5).trans h5
  generalize w.alloc (.cells #[.int .i64 k, .int .u64 (n : Int)] 27) = x at hb0 c0 c1 h4' h5' ⊢
  clear h4 h5 l4 l5
  by_cases h1 : k = 1
  · subst h1
    by_cases hz0 : z = 0
    · subst hz0
      go_wp2_with fail
      go_ret
      exact ⟨ret_bool (by rw [HS.out]; simp), hb0⟩
    · go_wp2_with fail
      go_ret
      exact ⟨ret_bool (by rw [HS.out]; simp [hz0]), hb0⟩
  · by_cases h2 : k = 2
    · subst h2
      by_cases h3 : (n : Int) < (rd : Int)
      · go_wp2_with fail
        go_ret
        exact ⟨ret_bool (by rw [HS.out]; simp; omega), hb0⟩
      · go_wp2_with fail
        go_ret
        exact ⟨ret_bool (by rw [HS.out]; simp; omega), hb0⟩
    · go_wp2_with fail
      go_ret
      exact ⟨ret_bool (by rw [HS.out]; simp [h1, h2]), hb0⟩

set_option maxHeartbeats 4000000 in
theorem Allows_any (t : ByteArray) (v : Value) (l : List Cav) (s : ByteArray) (r rd : Nat) (w : World) (hv : CavsAt w v l) (hbig : l.length ≤ 9223372036854775807) :
    Calls Tryd.prog 23 #[tokv t v s, .int .u64 (r : Int), .int .u64 (rd : Int)] w fun e w' => e = .returned (.bool (Mc.allows l r rd)) ∧ Below w.heap.size w w' := by
  have hmf : ∀ (fn : Fn) (first cap : Array Value) (w : World), (Instr.makeFunc fn first cap).run Tryd.prog w = .ok (.func fn first cap) w := fun _ _ _ _ => rfl
  have HF := Lib.hid (show Mc.allows l r rd = !(l.any (Mc.stop r rd)) from rfl)
  obtain ⟨a, cap, rfl⟩ := hv.form
  have HV := Lib.hid hv
  clear hv
  unfold tokv
  go_enter Tryd.func23, Tryd.ntmps23
  go_upto_region 1 with fail
  have hx1 : ((((w.alloc (.cells #[.string t, .slice a l.length cap, .string s] 24)).alloc (.cells #[.int .u64 (r : Int)] 25)).alloc (.cells #[.int .u64 (rd : Int)] 25))).cell? ⟨w.heap.size, 1, none⟩ = some (.slice a l.length cap) := by
    rw [((Below.refl (w.heap.size + 1) _).alloc (by simp) _ |>.alloc (by simp) _).cell (p := ⟨w.heap.size, 1, none⟩) (by show w.heap.size < w.heap.size + 1; omega), World.cell?_alloc_mark]; rfl
  have hx4 : ((((w.alloc (.cells #[.string t, .slice a l.length cap, .string s] 24)).alloc (.cells #[.int .u64 (r : Int)] 25)).alloc (.cells #[.int .u64 (rd : Int)] 25))).cell? ⟨w.heap.size + 1, 0, none⟩ = some (.int .u64 (r : Int)) := by
    rw [((Below.refl (w.heap.size + 1 + 1) _).alloc (by simp) _).cell (p := ⟨w.heap.size + 1, 0, none⟩) (by show w.heap.size + 1 < w.heap.size + 1 + 1; omega), show w.heap.size + 1 = (w.alloc (.cells #[.string t, .slice a l.length cap, .string s] 24)).heap.size from by simp, World.cell?_alloc_mark]; rfl
  have hx5 : ((((w.alloc (.cells #[.string t, .slice a l.length cap, .string s] 24)).alloc (.cells #[.int .u64 (r : Int)] 25)).alloc (.cells #[.int .u64 (rd : Int)] 25))).cell? ⟨w.heap.size + 1 + 1, 0, none⟩ = some (.int .u64 (rd : Int)) := by
    rw [show w.heap.size + 1 + 1 = ((w.alloc (.cells #[.string t, .slice a l.length cap, .string s] 24)).alloc (.cells #[.int .u64 (r : Int)] 25)).heap.size from by simp, World.cell?_alloc_mark]; rfl
  have hb0 : Below w.heap.size w ((((w.alloc (.cells #[.string t, .slice a l.length cap, .string s] 24)).alloc (.cells #[.int .u64 (r : Int)] 25)).alloc (.cells #[.int .u64 (rd : Int)] 25))) := by go_grown
  have hsz : ((((w.alloc (.cells #[.string t, .slice a l.length cap, .string s] 24)).alloc (.cells #[.int .u64 (r : Int)] 25)).alloc (.cells #[.int .u64 (rd : Int)] 25))).heap.size = w.heap.size + 3 := by simp
  generalize ((w.alloc (.cells #[.string t, .slice a l.length cap, .string s] 24)).alloc (.cells #[.int .u64 (r : Int)] 25)).alloc (.cells #[.int .u64 (rd : Int)] 25) = x at hx1 hx4 hx5 hb0 hsz ⊢
  have HC := Lib.hid (contains_any (Mc.stop r rd) 43 #[.pointer (some ⟨w.heap.size + 1, 0, none⟩), .pointer (some ⟨w.heap.size + 1 + 1, 0, none⟩)] enters_allows1 _ l x (HV.out.below hb0 (Nat.le_refl _))
    (fun W c hb => (allows1_any c r rd _ _ W ((hb.cell (p := ⟨w.heap.size + 1, 0, none⟩) (by show w.heap.size + 1 < _; omega)).trans hx4) ((hb.cell (p := ⟨w.heap.size + 1 + 1, 0, none⟩) (by show w.heap.size + 1 + 1 < _; omega)).trans hx5) (by have := hb.size; omega) (by have := hb.size; omega)).mono fun e w' h => ⟨h.1, hb.trans (h.2.mono hb.size)⟩) hbig)
  have HB := Lib.hid hb0
  clear hx4 hx5 hb0 hsz
  generalize (l.any (Mc.stop r rd)) = q at HC HF
  go_wp2_with (go_at_call 42; refine HC.out.mono ?_; rintro e u ⟨rfl, hbu⟩)
  go_ret
  exact ⟨ret_bool (by rw [HF.out]), HB.out.trans (hbu.mono HB.out.size)⟩

end Go.Proofs.YtalncnblcfcmcaaDoor
