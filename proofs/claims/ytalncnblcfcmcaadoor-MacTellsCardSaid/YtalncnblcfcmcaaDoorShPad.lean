/- The walk of sha.padded. -/
import Derived.Test.YtalncnblcfcmcaaDoorShBlock
import Derived.Test.YtalncnblcfcmcaaDoorShShelf
import Derived.Test.YtalncnblcfcmcaaDoorShRowS
import Derived.Deep.RegionHeld3
namespace Go.Proofs.YtalncnblcfcmcaaDoor
open Go.RowKit

/-- a local array of bytes behind calls -/
structure RowS (w y : World) (g n cap : Nat) (l : List UInt8) : Prop where
  r : Row y g (bcells l)
  lt : g < y.heap.size
  b : Below w.heap.size w y
theorem RowS.alloc {w y : World} {g n cap : Nat} {l : List UInt8} (h : RowS w y g n cap l) (o : Obj) : RowS w (y.alloc o) g n cap l := ⟨h.r.alloc h.lt o, by have := h.lt; simp; omega, h.b.alloc h.b.size o⟩
theorem RowS.drew {w y : World} {g n cap : Nat} {l : List UInt8} (h : RowS w y g n cap l) : RowS w y.drew g n cap l := ⟨h.r.drew, h.lt, h.b.drew⟩
theorem RowS.below {w y z : World} {g n cap : Nat} {l : List UInt8} (h : RowS w y g n cap l) (hb : Below y.heap.size y z) : RowS w z g n cap l := ⟨h.r.below hb h.lt, Nat.lt_of_lt_of_le h.lt hb.size, h.b.trans (hb.mono h.b.size)⟩
theorem RowS.out {w y : World} {g n cap : Nat} {l : List UInt8} (h : RowS w y g n cap l) (hl : l.length = n) :
    (convert 52 9 (.slice (some ⟨g, 0, none⟩) n cap)).run Tryd.prog y = .ok (.string ⟨l.toArray⟩) y ∧ RowS w y g n cap l := ⟨row_string h.r hl, h⟩

theorem one_row (y : World) (c : Nat) (hc : c < 256) : Row (y.alloc (.cells #[.int .u8 (c : Int)] 5)) y.heap.size (bcells [UInt8.ofNat c]) := Row.at rfl (by simp [bcells]; omega)

theorem conv_one (y : World) : (convert 52 9 (.slice (some ⟨y.heap.size, 0, none⟩) 1 1)).run Tryd.prog (y.alloc (.cells #[.int .u8 128] 5)).drew = .ok (.string ⟨#[128]⟩) (y.alloc (.cells #[.int .u8 128] 5)).drew :=
  row_string (l := [128]) (one_row y 128 (by omega)).drew rfl
theorem conv_one0 (y : World) : (convert 52 9 (.slice (some ⟨y.heap.size, 0, none⟩) 1 1)).run Tryd.prog (y.alloc (.cells #[.int .u8 128] 5)) = .ok (.string ⟨#[128]⟩) (y.alloc (.cells #[.int .u8 128] 5)) :=
  row_string (l := [128]) (one_row y 128 (by omega)) rfl
theorem conv_one_below {y u : World} {B : Nat} (hb : Below B (y.alloc (.cells #[.int .u8 128] 5)).drew u) (hB : y.heap.size < B) : (convert 52 9 (.slice (some ⟨y.heap.size, 0, none⟩) 1 1)).run Tryd.prog u = .ok (.string ⟨#[128]⟩) u :=
  row_string (l := [128]) ((one_row y 128 (by omega)).drew.below hb hB) rfl

theorem byte_int (n m : Nat) (h : m = n % 256) : (((UInt8.ofNat m).toNat : Nat) : Int) = (n : Int) % 256 := by subst h; simp
theorem len8_row (w : World) (n : Nat) (h : n < 562949953421313) :
    Row (w.alloc (.cells #[Value.int IntKind.u8 ((n : Int) * 8 / 72057594037927936), Value.int IntKind.u8 ((n : Int) * 8 / 281474976710656),
          Value.int IntKind.u8 ((n : Int) * 8 / 1099511627776 % 256),
          Value.int IntKind.u8 ((n : Int) * 8 / 4294967296 % 256), Value.int IntKind.u8 ((n : Int) * 8 / 16777216 % 256),
          Value.int IntKind.u8 ((n : Int) * 8 / 65536 % 256), Value.int IntKind.u8 ((n : Int) * 8 / 256 % 256),
          Value.int IntKind.u8 ((n : Int) * 8 % 256)] 94)) w.heap.size (bcells (Sh.len8 (n * 8))) := by
  refine Row.at rfl ?_
  unfold bcells Sh.len8
  simp [List.range, List.range.loop]
  omega

theorem repeatL_zero : ∀ z, Lib.repeatL [(0 : UInt8)] z = List.replicate z 0
  | 0 => rfl
  | z + 1 => by rw [List.replicate_succ, ← repeatL_zero z]; rfl

set_option maxHeartbeats 4000000 in
theorem padded_any (s : ByteArray) (w : World) (hs : s.size ≤ 281474976710656) :
    Calls Tryd.prog 53 #[.string s] w fun e w' => e = .returned (.string ⟨(Sh.padded s.data.toList).toArray⟩) ∧ Below w.heap.size w w' := by
  obtain ⟨z, hz⟩ : ∃ z, Sh.zeros s.size = z := ⟨_, rfl⟩
  have hz2 : ((119 - (s.size : Int) % 64) % 64) = (z : Int) := by subst hz; unfold Sh.zeros; omega
  have hz3 : ((119 - (s.size : Int)) % 64) = (z : Int) := by rw [← hz2]; omega
  have hz64 : z < 64 := by subst hz; unfold Sh.zeros; omega
  have HREP := Lib.hid (fun w => Tryd.strings_Repeat ⟨#[0]⟩ z w (by omega) (by show 1 * z ≤ _; omega))
  have HL := Lib.hid (len8_row w s.size (by omega))
  have hll : (Sh.len8 (s.size * 8)).length = 8 := rfl
  have HP := Lib.hid (show Sh.padded s.data.toList = s.data.toList ++ [128] ++ List.replicate z 0 ++ Sh.len8 (s.size * 8) from by
    unfold Sh.padded; rw [show s.data.toList.length = s.size from rfl, hz, Nat.mod_eq_of_lt (by omega)])
  generalize Sh.len8 (s.size * 8) = L at HL hll HP
  clear hz
  obtain ⟨o1, ho1⟩ : ∃ o : ByteArray, ⟨#[128]⟩ = o := ⟨_, rfl⟩
  obtain ⟨zr, hzr⟩ : ∃ o : ByteArray, ⟨(Lib.repeatL [(0 : UInt8)] z).toArray⟩ = o := ⟨_, rfl⟩
  obtain ⟨lb, hlb⟩ : ∃ o : ByteArray, ⟨L.toArray⟩ = o := ⟨_, rfl⟩
  have so1 : o1.size ≤ 1 := by rw [← ho1]; decide
  have szr : zr.size ≤ 64 := by rw [← hzr, repeatL_zero]; show (List.replicate z (0 : UInt8)).toArray.size ≤ 64; simp; omega
  have slb : lb.size ≤ 8 := by rw [← hlb]; show L.toArray.size ≤ 8; simp; omega
  have hc1 := conv_one
  rw [ho1] at hc1
  have hc0 := conv_one0
  rw [ho1] at hc0
  have HC2 := Lib.hid (fun (y u : World) (hb : Below (y.alloc (.cells #[.int .u8 128] 5)).drew.heap.size (y.alloc (.cells #[.int .u8 128] 5)).drew u) => conv_one_below hb (by simp))
  rw [ho1] at HC2
  have HREP2 := Lib.hid (fun w => show Calls Tryd.prog 66 #[.string ⟨#[0]⟩, .int .i64 (z : Int)] w fun e w' => e = .returned (.string zr) ∧ Below w.heap.size w w' from hzr ▸ HREP.out w)
  have HLO := Lib.hid (fun y (h : RowS w y w.heap.size 8 8 L) => hlb ▸ h.out hll)
  have HPP := Lib.hid (show (⟨(Sh.padded s.data.toList).toArray⟩ : ByteArray) = s ++ o1 ++ zr ++ lb from by
    rw [HP.out, ← hzr, ← hlb, ← ho1, repeatL_zero]
    apply ByteArray.ext
    simp)
  clear HREP HP hzr hlb ho1
  go_enter Tryd.func53, Tryd.ntmps53
  go_wp2_with fail
  refine wp_loop_rounds 9 ?_
  repeat (rw [rounds_succ]; go_wp2_with fail)
  have HS := Lib.hid (show RowS w _ w.heap.size 8 8 L from ⟨HL.out, by simp, (Below.refl _ _).alloc (Nat.le_refl _) _⟩)
  generalize w.alloc _ = x0 at HS ⊢
  clear HL
  try rw [hz3]
  try rw [hz2]
  clear hz2 hz3
  have hn1 : ¬ (9223372036854775807 < s.size + o1.size) := by omega
  have hn2 : ¬ (9223372036854775807 < s.size + o1.size + zr.size) := by omega
  have hn3 : ¬ (9223372036854775807 < s.size + o1.size + zr.size + lb.size) := by omega
  have hS0 : RowS w x0 w.heap.size 8 8 L := HS.out
  have hcl : ∀ y, RowS w y w.heap.size 8 8 L → (convert 52 9 (.slice (some ⟨w.heap.size, 0, none⟩) 8 8)).run Tryd.prog y = .ok (.string lb) y := fun y h => (HLO.out y h).1
  have hal : ∀ y o, RowS w y w.heap.size 8 8 L → RowS w (y.alloc o) w.heap.size 8 8 L := fun y o h => h.alloc o
  have hdr : ∀ y, RowS w y w.heap.size 8 8 L → RowS w y.drew w.heap.size 8 8 L := fun y h => h.drew
  have hcd : (convert 52 9 (.slice (some ⟨w.heap.size, 0, none⟩) 8 8)).run Tryd.prog x0.drew = .ok (.string lb) x0.drew := hcl _ (hdr _ hS0)
  have hcad : ∀ o, (convert 52 9 (.slice (some ⟨w.heap.size, 0, none⟩) 8 8)).run Tryd.prog (x0.alloc o).drew = .ok (.string lb) (x0.alloc o).drew := fun o => hcl _ (hdr _ (hal _ _ hS0))
  have HBE := Lib.hid (fun (y u : World) (hb : Below y.heap.size y u) (h : RowS w y w.heap.size 8 8 L) => h.below hb)
  clear HLO HS
  go_region_with ((first | (go_at_call 66; ((with_reducible refine (HREP2.out _).mono ?_); rintro e u ⟨rfl, hbu⟩; (try (have hc2 := HC2.out _ _ hbu)); have hSu := HBE.out _ _ hbu (by simp [hS0, hal, hdr]); have hcu := hcl _ hSu; have hcua := fun o => hcl _ (hal _ o hSu)))))
  all_goals (go_wp2_with fail)
  all_goals (go_ret; exact ⟨ret_str (by rw [HPP.out]), RowS.b (g := w.heap.size) (n := 8) (cap := 8) (l := L) (by simp [*])⟩)

end Go.Proofs.YtalncnblcfcmcaaDoor
