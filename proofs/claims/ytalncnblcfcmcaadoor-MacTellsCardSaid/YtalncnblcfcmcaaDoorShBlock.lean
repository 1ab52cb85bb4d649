/- The walk of sha.block. -/
import Derived.Test.YtalncnblcfcmcaaDoorShWords
import Derived.Defers
namespace Go.Proofs.YtalncnblcfcmcaaDoor
open Go.RowKit

/-- eight words as cells -/
def vcells (v : Sh.V) : List Value := wvals [v.a, v.b, v.c, v.d, v.e, v.f, v.g, v.h]
def vval (v : Sh.V) : Value := .agg #[.int .u32 (v.a : Int), .int .u32 (v.b : Int), .int .u32 (v.c : Int), .int .u32 (v.d : Int), .int .u32 (v.e : Int), .int .u32 (v.f : Int), .int .u32 (v.g : Int), .int .u32 (v.h : Int)]

/-- each is a word -/
structure Sh.V.ok (v : Sh.V) : Prop where
  a : v.a < 4294967296
  b : v.b < 4294967296
  c : v.c < 4294967296
  d : v.d < 4294967296
  e : v.e < 4294967296
  f : v.f < 4294967296
  g : v.g < 4294967296
  h : v.h < 4294967296
theorem Sh.rnd_ok {v : Sh.V} (k w : Nat) (h : v.ok) : (Sh.rnd k w v).ok := ⟨Sh.add_lt _ _, h.a, h.b, h.c, Sh.add_lt _ _, h.e, h.f, h.g⟩
theorem Sh.rounds_ok {v : Sh.V} (w : List Nat) (h : v.ok) : ∀ k, (Sh.rounds w v k).ok
  | 0 => h
  | k + 1 => Sh.rnd_ok _ _ (Sh.rounds_ok w h k)
theorem Sh.plus_ok (v h : Sh.V) : (Sh.plus v h).ok := ⟨Sh.add_lt _ _, Sh.add_lt _ _, Sh.add_lt _ _, Sh.add_lt _ _, Sh.add_lt _ _, Sh.add_lt _ _, Sh.add_lt _ _, Sh.add_lt _ _⟩
theorem Sh.block_ok (h : Sh.V) (b : List UInt8) : (Sh.block h b).ok := Sh.plus_ok _ _

theorem index_words (L : List Nat) (hL : L.length = 64) (i : Nat) (hi : i < 64) (w : World) : (Instr.index 96 (.agg (wvals L).toArray) (.int .i64 (i : Int))).run Tryd.prog w = .ok (.int .u32 ((L.getD i 0 : Nat) : Int)) w := by
  have h := wvals_get (l := L) (j := i) (by omega)
  unfold Instr.index
  simp only [List.getD_eq_getElem?_getD] at h
  simp [go_sem, hi, h]

/-- the table's cells -/
def Table (w : World) : Prop := ∀ i, i < 64 → w.cell? ⟨3, i, none⟩ = some (.int .u32 ((Sh.K.getD i 0 : Nat) : Int))
theorem Table.below {w x : World} {B : Nat} (h : Table w) (hb : Below B w x) (hB : 3 < B) : Table x := fun i hi => (hb.cell (p := ⟨3, i, none⟩) hB).trans (h i hi)

/-- the variables of 'block' -/
structure Bs (w x : World) (h v : Sh.V) : Prop where
  r0 : Row x w.heap.size (vcells h)
  r2 : Row x (w.heap.size + 1 + 1) [.int .u32 0, .int .u32 0, .int .u32 0, .int .u32 0, .int .u32 0, .int .u32 0, .int .u32 0, .int .u32 0]
  r3 : Row x (w.heap.size + 1 + 1 + 1) (vcells v)
  b : Below w.heap.size w x
  lt : w.heap.size + 1 + 1 + 1 < x.heap.size
theorem Bs.drew {w x : World} {h v : Sh.V} (t : Bs w x h v) : Bs w x.drew h v := ⟨t.r0, t.r2, t.r3, t.b.drew, t.lt⟩
theorem Bs.below {w x y : World} {h v : Sh.V} (t : Bs w x h v) (hb : Below x.heap.size x y) : Bs w y h v :=
  have := t.lt
  ⟨t.r0.below hb (by omega), t.r2.below hb (by omega), t.r3.below hb t.lt, t.b.trans (hb.mono t.b.size), Nat.lt_of_lt_of_le t.lt hb.size⟩
theorem Bs.lay {w x : World} {h v : Sh.V} (t : Bs w x h v) (u : Sh.V) : Bs w (set8 x (w.heap.size + 1 + 1 + 1) (.int .u32 (u.a : Int)) (.int .u32 (u.b : Int)) (.int .u32 (u.c : Int)) (.int .u32 (u.d : Int)) (.int .u32 (u.e : Int)) (.int .u32 (u.f : Int)) (.int .u32 (u.g : Int)) (.int .u32 (u.h : Int))) h u :=
  ⟨t.r0.other8 _ _ _ _ _ _ _ _ (by omega), t.r2.other8 _ _ _ _ _ _ _ _ (by omega), Row.set8 t.r3 _ _ _ _ _ _ _ _, Below.set8 t.b (by omega) _ _ _ _ _ _ _ _, by simpa [set8] using t.lt⟩

theorem Sh.rot_lt {x n r : Nat} (h : Sh.rotr x n = r) (hx : x < 4294967296) : r < 4294967296 := by rw [← h]; exact Sh.rotr_lt _ _ hx
theorem one_int {k w : Nat} {v : Sh.V} (ho : v.ok) {r6 r11 r25 : Nat} (h6 : Sh.rotr v.e 6 = r6) (h11 : Sh.rotr v.e 11 = r11) (h25 : Sh.rotr v.e 25 = r25) :
    IntKind.u32.wrap (IntKind.u32.wrap (IntKind.u32.wrap (IntKind.u32.wrap ((v.h : Int) + bits .xor .u32 (bits .xor .u32 (r6 : Int) (r11 : Int)) (r25 : Int)) + bits .xor .u32 (bits .and .u32 (v.e : Int) (v.f : Int)) (bits .and .u32 (bits .xor .u32 IntKind.u32.max (v.e : Int)) (v.g : Int))) + (k : Int)) + (w : Int)) = ((Sh.one k w v : Nat) : Int) := by
  have hn : 4294967295 ^^^ v.e < 2 ^ 32 := Nat.xor_lt_two_pow (by omega) ho.e
  rw [xor3_int (Sh.rot_lt h6 ho.e) (Sh.rot_lt h11 ho.e) (Sh.rot_lt h25 ho.e), not_u32 _ ho.e, u32_and_nat _ _ ho.e ho.f, u32_and_nat _ _ hn ho.g,
    u32_xor_nat _ _ (Nat.lt_of_le_of_lt Nat.and_le_left ho.e) (Nat.lt_of_le_of_lt Nat.and_le_left hn), add_int, add_int, add_int, add_int]
  unfold Sh.one
  rw [h6, h11, h25]
theorem two_int {v : Sh.V} (ho : v.ok) {r2 r13 r22 : Nat} (h2 : Sh.rotr v.a 2 = r2) (h13 : Sh.rotr v.a 13 = r13) (h22 : Sh.rotr v.a 22 = r22) :
    IntKind.u32.wrap (bits .xor .u32 (bits .xor .u32 (r2 : Int) (r13 : Int)) (r22 : Int) + bits .xor .u32 (bits .xor .u32 (bits .and .u32 (v.a : Int) (v.b : Int)) (bits .and .u32 (v.a : Int) (v.c : Int))) (bits .and .u32 (v.b : Int) (v.c : Int))) = ((Sh.two v : Nat) : Int) := by
  rw [xor3_int (Sh.rot_lt h2 ho.a) (Sh.rot_lt h13 ho.a) (Sh.rot_lt h22 ho.a), u32_and_nat _ _ ho.a ho.b, u32_and_nat _ _ ho.a ho.c, u32_and_nat _ _ ho.b ho.c,
    xor3_int (Nat.lt_of_le_of_lt Nat.and_le_left ho.a) (Nat.lt_of_le_of_lt Nat.and_le_left ho.a) (Nat.lt_of_le_of_lt Nat.and_le_left ho.b), add_int]
  unfold Sh.two
  rw [h2, h13, h22]

/-- the eight words behind so many additions of the old ones -/
def Sh.L8 (v : Sh.V) : List Nat := [v.a, v.b, v.c, v.d, v.e, v.f, v.g, v.h]
def Sh.mixA (v h : List Nat) : Nat → List Nat
  | 0 => v
  | j + 1 => (Sh.mixA v h j).set j (Sh.add ((Sh.mixA v h j).getD j 0) (h.getD j 0))
theorem Sh.mixA_len (v h : List Nat) : ∀ j, (Sh.mixA v h j).length = v.length
  | 0 => rfl
  | j + 1 => by simp [Sh.mixA, Sh.mixA_len v h j]
theorem Sh.mixA_eight (v h : Sh.V) : Sh.mixA (Sh.L8 v) (Sh.L8 h) 8 = Sh.L8 (Sh.plus v h) := rfl
structure Cs (w x : World) (h l : List Nat) : Prop where
  r0 : Row x w.heap.size (wvals h)
  r2 : Row x (w.heap.size + 1 + 1) [.int .u32 0, .int .u32 0, .int .u32 0, .int .u32 0, .int .u32 0, .int .u32 0, .int .u32 0, .int .u32 0]
  r3 : Row x (w.heap.size + 1 + 1 + 1) (wvals l)
  b : Below w.heap.size w x
  lt : w.heap.size + 1 + 1 + 1 < x.heap.size
theorem Bs.cs {w x : World} {h v : Sh.V} (t : Bs w x h v) : Cs w x (Sh.L8 h) (Sh.L8 v) := ⟨t.r0, t.r2, t.r3, t.b, t.lt⟩
theorem Cs.drew {w x : World} {h l : List Nat} (t : Cs w x h l) : Cs w x.drew h l := ⟨t.r0, t.r2, t.r3, t.b.drew, t.lt⟩
theorem Cs.set {w x : World} {h l : List Nat} (t : Cs w x h l) (i v : Nat) (hi : i < l.length) : Cs w (x.setCell ⟨w.heap.size + 1 + 1 + 1, i, none⟩ (.int .u32 (v : Int))) h (l.set i v) :=
  ⟨t.r0.other _ (by omega), t.r2.other _ (by omega), by rw [← wvals_set]; exact t.r3.set i _ (by rw [wvals_len]; exact hi), t.b.setCell (p := ⟨w.heap.size + 1 + 1 + 1, i, none⟩) (by show w.heap.size ≤ w.heap.size + 1 + 1 + 1; omega) _, by simpa using t.lt⟩

end Go.Proofs.YtalncnblcfcmcaaDoor
