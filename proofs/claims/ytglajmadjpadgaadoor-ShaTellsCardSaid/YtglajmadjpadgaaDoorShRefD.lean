/- The walk of the document's own Sum. -/
import Derived.Test.YtglajmadjpadgaaDoorShRefB
import Derived.BigRegion
import Derived.Test.YtglajmadjpadgaaDoorShSum
namespace Go.Proofs.YtglajmadjpadgaaDoor
open Go.RowKit

set_option maxRecDepth 100000 in
set_option maxHeartbeats 4000000 in
theorem refrounds_any (w : World) :
    Calls Tryd.prog 19 #[] w fun e w' => e = .returned (.slice (some ⟨w.heap.size, 0, none⟩) 64 64) ∧ Row w' w.heap.size (wvals Sh.K) ∧ Below w.heap.size w w' ∧ w.heap.size < w'.heap.size := by
  go_enter Tryd.func19, Tryd.ntmps19
  go_wp2_with fail
  go_ret
  exact ⟨rfl, Row.at rfl (by rfl), (Below.refl _ _).alloc (Nat.le_refl _) _, by simp⟩

namespace Sh
theorem len8_len (n : Nat) : (len8 n).length = 8 := by unfold len8; simp
theorem len8_next (n j : Nat) (h : j < 8) : (len8 n).take (j + 1) = (len8 n).take j ++ [UInt8.ofNat (n / 2 ^ (8 * (7 - j)) % 256)] := by
  rw [List.take_add_one, List.getElem?_eq_getElem (by rw [len8_len]; exact h)]
  simp [len8]
theorem zeros_yes (n j : Nat) (h : j = zeros n) : (n + 1 + j) % 64 = 56 := by unfold zeros at h; omega
theorem zeros_not (n j : Nat) (h : j < zeros n) : ¬ (n + 1 + j) % 64 = 56 := by unfold zeros at h; omega
theorem zeros_lt (n : Nat) : zeros n < 64 := by unfold zeros; omega
end Sh

theorem conv_four (y : World) (a b c d : Nat) (ha : a < 256) (hb : b < 256) (hc : c < 256) (hd : d < 256) :
    (convert 27 9 (.slice (some ⟨y.heap.size, 0, none⟩) 4 4)).run Tryd.prog (y.alloc (.cells #[.int .u8 (a : Int), .int .u8 (b : Int), .int .u8 (c : Int), .int .u8 (d : Int)] 5)).drew = .ok (.string ⟨#[UInt8.ofNat a, UInt8.ofNat b, UInt8.ofNat c, UInt8.ofNat d]⟩) (y.alloc (.cells #[.int .u8 (a : Int), .int .u8 (b : Int), .int .u8 (c : Int), .int .u8 (d : Int)] 5)).drew :=
  row_string (l := [UInt8.ofNat a, UInt8.ofNat b, UInt8.ofNat c, UInt8.ofNat d]) (Row.at (b := y.heap.size) (w := y) rfl (by simp [bcells]; omega)).drew rfl

/-- the words so far and the table -/
structure Us (w x : World) (gk g : Nat) (v : Sh.V) : Prop where
  k : Row x gk (wvals Sh.K)
  r : Row x g (wvals (Sh.L8 v))
  b : Below w.heap.size w x
  lk : gk < x.heap.size
  lg : g < x.heap.size
theorem Us.alloc {w x : World} {gk g : Nat} {v : Sh.V} (h : Us w x gk g v) (o : Obj) : Us w (x.alloc o) gk g v :=
  ⟨h.k.alloc h.lk o, h.r.alloc h.lg o, h.b.alloc h.b.size o, by have := h.lk; simp; omega, by have := h.lg; simp; omega⟩
theorem Us.below {w x y : World} {gk g : Nat} {v : Sh.V} (h : Us w x gk g v) (hb : Below x.heap.size x y) : Us w y gk g v :=
  ⟨h.k.below hb h.lk, h.r.below hb h.lg, h.b.trans (hb.mono h.b.size), Nat.lt_of_lt_of_le h.lk hb.size, Nat.lt_of_lt_of_le h.lg hb.size⟩
theorem Us.drew {w x : World} {gk g : Nat} {v : Sh.V} (h : Us w x gk g v) : Us w x.drew gk g v := ⟨h.k, h.r, h.b.drew, h.lk, h.lg⟩

namespace Sh
/-- the text with so many noughts behind it, and how many bytes that is -/
theorem pad_next (l : List UInt8) (j : Nat) : l ++ [128] ++ List.replicate (j + 1) 0 = (l ++ [128] ++ List.replicate j 0) ++ [(0 : UInt8)] := by
  rw [List.append_assoc _ _ [(0 : UInt8)]]
  congr 1
  exact List.replicate_succ'
end Sh

/-- what the document's block is to do -/
def BlockC : Prop := ∀ (st : Sh.V) (b : ByteArray) (w : World) (gh caph gk capk : Nat), b.size = 64 → st.ok → Row w gh (wvals (Sh.L8 st)) → Row w gk (wvals Sh.K) → gh < w.heap.size → gk < w.heap.size →
    Calls Tryd.prog 20 #[.slice (some ⟨gh, 0, none⟩) 8 caph, .slice (some ⟨gk, 0, none⟩) 64 capk, .string b] w fun e w' => ∃ g cap, e = .returned (.slice (some ⟨g, 0, none⟩) 8 cap) ∧ Row w' g (wvals (Sh.L8 (Sh.block st b.data.toList))) ∧ w.heap.size ≤ g ∧ g < w'.heap.size ∧ Below w.heap.size w w'

end Go.Proofs.YtglajmadjpadgaaDoor
