/- The walk of the chapter's examples. -/
import Derived.Test.YtalncnblcfcmcaaDoorMcGet2
import Derived.Test.YtalncnblcfcmcaaDoorShHex
import Derived.KernelRfl
namespace Go.Proofs.YtalncnblcfcmcaaDoor
open Go.RowKit

namespace Mc
def xk : ByteArray := ⟨#[107, 101, 121]⟩
def xz : ByteArray := ⟨#[107, 101, 122]⟩
def xa : ByteArray := ⟨#[97]⟩
def xc : Cav := ⟨1, 2⟩
def xs0 : ByteArray := signB xk xa
def xs1 : ByteArray := signB xs0 (putc xc)
def xp : ByteArray := put xa [xc] xs1
def xj : ByteArray := ⟨#[74, 101, 102, 101]⟩
def xw : ByteArray := ⟨#[119, 104, 97, 116, 32, 100, 111, 32, 121, 97, 32, 119, 97, 110, 116, 32, 102, 111, 114, 32, 110, 111, 116, 104, 105, 110, 103, 63]⟩
def xh : ByteArray := ⟨#[53, 98, 100, 99, 99, 49, 52, 54, 98, 102, 54, 48, 55, 53, 52, 101, 54, 97, 48, 52, 50, 52, 50, 54, 48, 56, 57, 53, 55, 53, 99, 55, 53, 97, 48, 48, 51, 102, 48, 56, 57, 100, 50, 55, 51, 57, 56, 51, 57, 100, 101, 99, 53, 56, 98, 57, 54, 52, 101, 99, 51, 56, 52, 51]⟩
theorem ex_hex : (⟨(Sh.hex (signB xj xw).data.toList).toArray⟩ : ByteArray) = xh := by kernel_rfl
theorem ex_c0 : check xk xa [] xs0 = true := by kernel_rfl
theorem ex_c1 : check xk xa [xc] xs1 = true := by kernel_rfl
theorem ex_c2 : check xz xa [xc] xs1 = false := by kernel_rfl
theorem ex_a0 : allows [] 7 99 = true := by kernel_rfl
theorem ex_a1 : allows [xc] 1 0 = false := by kernel_rfl
theorem ex_a2 : allows [xc] 2 9 = true := by kernel_rfl
theorem ex_p0 : put ⟨#[]⟩ [] ⟨#[]⟩ = ⟨#[]⟩ := by kernel_rfl
theorem ex_ps : xp.size = 37 := by kernel_rfl
theorem ex_get : getR (⟨#[120]⟩ ++ xp) 1 = (⟨xa, [xc], xs1, 38⟩, true) := by kernel_rfl
theorem ex_sz : xk.size = 3 ∧ xz.size = 3 ∧ xa.size = 1 ∧ xj.size = 4 ∧ xw.size = 28 := by decide
theorem ex_s0 : xs0.size = 32 := rfl
theorem ex_s1 : xs1.size = 32 := rfl
end Mc

end Go.Proofs.YtalncnblcfcmcaaDoor

namespace Go.Proofs.YtalncnblcfcmcaaDoor
open Go.RowKit

/-- the three tokens of the examples -/
structure Ex3 (w x : World) (b1 b2 b3 : Nat) (t s0 s1 : ByteArray) (vn vu : Value) (c : Cav) : Prop where
  r1 : Row x b1 [.string t, .slice none 0 0, .string s0]
  r2 : Row x b2 [.string t, vn, .string s1]
  r3 : Row x b3 [.string t, vu, .string s1]
  cn : CavsAt x vn [c]
  b : Below w.heap.size w x
  l1 : b1 < x.heap.size
  l2 : b2 < x.heap.size
  l3 : b3 < x.heap.size
theorem Ex3.below {w x y : World} {b1 b2 b3 : Nat} {t s0 s1 : ByteArray} {vn vu : Value} {c : Cav} (h : Ex3 w x b1 b2 b3 t s0 s1 vn vu c) (hb : Below x.heap.size x y) : Ex3 w y b1 b2 b3 t s0 s1 vn vu c :=
  ⟨h.r1.below hb h.l1, h.r2.below hb h.l2, h.r3.below hb h.l3, h.cn.below hb (Nat.le_refl _), h.b.trans (hb.mono h.b.size), Nat.lt_of_lt_of_le h.l1 hb.size, Nat.lt_of_lt_of_le h.l2 hb.size, Nat.lt_of_lt_of_le h.l3 hb.size⟩

theorem allows_is {l : List Cav} {r rd : Nat} {q : Bool} (h : Mc.allows l r rd = q) (t : ByteArray) (v : Value) (s : ByteArray) (hl : l.length ≤ 9223372036854775807) (y : World) (hv : CavsAt y v l) :
    Calls Tryd.prog 23 #[tokv t v s, .int .u64 (r : Int), .int .u64 (rd : Int)] y fun e w' => e = .returned (.bool q) ∧ Below y.heap.size y w' := h ▸ Allows_any t v l s r rd y hv hl
theorem check_is {key t : ByteArray} {l : List Cav} {s : ByteArray} {q : Bool} (h : Mc.check key t l s = q) (v : Value) (hk : key.size ≤ 281474976710656) (ht : t.size ≤ 281474976710000) (hl : l.length ≤ 9223372036854775807) (hok : ∀ c ∈ l, c.n < 18446744073709551616) (y : World) (hL : Laid y) (hv : CavsAt y v l) :
    Calls Tryd.prog 21 #[.string key, tokv t v s] y fun e w' => e = .returned (.bool q) ∧ Below y.heap.size y w' := h ▸ Check_any key t v l s y hL hv hk ht hl hok
theorem put_is {t : ByteArray} {l : List Cav} {s p : ByteArray} (h : Mc.put t l s = p) (v : Value) (ht : t.size ≤ 140737488355328) (hl : l.length ≤ 9223372036854775807) (hok : ∀ c ∈ l, c.n < 18446744073709551616) (y : World) (hL : LaidM y) (hv : CavsAt y v l) :
    Calls Tryd.prog 25 #[tokv t v s] y fun e w' => e = .returned (.string p) ∧ Below y.heap.size y w' := h ▸ macPut_any t v l s y hL hv ht hl hok
theorem get_is {s : ByteArray} {a : Int} {R : Mc.Tk × Bool} (h : Mc.getR s a = R) (hz : s.size ≤ 9007199254740992) (y : World) (hL : LaidM y) :
    Calls Tryd.prog 14 #[.string s, .int .i64 a] y fun e w' => ∃ v, e = .returned (.tuple #[tokv R.1.t v R.1.s, .int .i64 R.1.next, .bool R.2]) ∧ CavsAt w' v R.1.l ∧ Below y.heap.size y w' := h ▸ macGet_any s a y hL hz

set_option maxRecDepth 100000 in
set_option maxHeartbeats 8000000 in
theorem macExamples_any (w : World) (hL : LaidM w) :
    Calls Tryd.prog 10 #[] w fun e w' => e = .returned (.bool true) ∧ Below w.heap.size w w' := by
  obtain ⟨sk, sz, sa, sj, sw⟩ := Mc.ex_sz
  have hc1 : ∀ c ∈ [Mc.xc], c.n < 18446744073709551616 := by simp [Mc.xc]
  have HNEW := Lib.hid (fun y (h : Laid y) => show Calls Tryd.prog 13 #[.string ⟨#[107, 101, 121]⟩, .string ⟨#[97]⟩] y fun e w' => e = .returned (tokv Mc.xa (.slice none 0 0) Mc.xs0) ∧ Below y.heap.size y w' from New_any Mc.xk Mc.xa y h (by omega) (by omega))
  have HNAR := Lib.hid (fun y (h : Laid y) => show Calls Tryd.prog 12 #[tokv Mc.xa (.slice none 0 0) Mc.xs0, .agg #[.int .i64 1, .int .u64 2]] y fun e w' => ∃ v', e = .returned (tokv Mc.xa v' Mc.xs1) ∧ CavsAt w' v' [Mc.xc] ∧ Below y.heap.size y w' from Narrow_any Mc.xa (.slice none 0 0) [] Mc.xs0 Mc.xc y h (CavsAt.nil y) (by simp) (by rw [Mc.ex_s0]; omega) (by decide))
  have HPN := Lib.hid (fun v y (h : LaidM y) (hv : CavsAt y v [Mc.xc]) => put_is (p := Mc.xp) (s := Mc.xs1) (t := Mc.xa) rfl v (by omega) (by simp) hc1 y h hv)
  have HGET := Lib.hid (fun y (h : LaidM y) => show Calls Tryd.prog 14 #[.string (⟨#[120]⟩ ++ Mc.xp), .int .i64 1] y fun e w' => ∃ v, e = .returned (.tuple #[tokv Mc.xa v Mc.xs1, .int .i64 38, .bool true]) ∧ CavsAt w' v [Mc.xc] ∧ Below y.heap.size y w' from get_is Mc.ex_get (by rw [ByteArray.size_append, Mc.ex_ps]; show 1 + 37 ≤ _; omega) y h)
  obtain ⟨sg, hsg⟩ : ∃ q, Mc.signB Mc.xj Mc.xw = q := ⟨_, rfl⟩
  have ssg : sg.size = 32 := by rw [← hsg]; rfl
  have HSI := Lib.hid (fun y (h : Laid y) => show Calls Tryd.prog 18 #[.string ⟨#[74, 101, 102, 101]⟩, .string ⟨#[119, 104, 97, 116, 32, 100, 111, 32, 121, 97, 32, 119, 97, 110, 116, 32, 102, 111, 114, 32, 110, 111, 116, 104, 105, 110, 103, 63]⟩] y fun e w' => e = .returned (.string sg) ∧ Below y.heap.size y w' from hsg ▸ Sign_any Mc.xj Mc.xw y h (by omega) (by omega))
  have HHX := Lib.hid (fun y => show Calls Tryd.prog 28 #[.string sg] y fun e w' => e = .returned (.string Mc.xh) ∧ Below y.heap.size y w' from by
    have h := Hex_any sg y (by omega)
    rw [← hsg, Mc.ex_hex] at h
    rw [← hsg]; exact h)
  clear hsg
  have HC0 := Lib.hid (fun y (h : Laid y) => show Calls Tryd.prog 21 #[.string ⟨#[107, 101, 121]⟩, tokv Mc.xa (.slice none 0 0) Mc.xs0] y fun e w' => e = .returned (.bool true) ∧ Below y.heap.size y w' from check_is Mc.ex_c0 _ (by omega) (by omega) (by simp) (by simp) y h (CavsAt.nil y))
  have HC1 := Lib.hid (fun v y (h : Laid y) (hv : CavsAt y v [Mc.xc]) => show Calls Tryd.prog 21 #[.string ⟨#[107, 101, 121]⟩, tokv Mc.xa v Mc.xs1] y fun e w' => e = .returned (.bool true) ∧ Below y.heap.size y w' from check_is Mc.ex_c1 v (by omega) (by omega) (by simp) hc1 y h hv)
  have HC2 := Lib.hid (fun v y (h : Laid y) (hv : CavsAt y v [Mc.xc]) => show Calls Tryd.prog 21 #[.string ⟨#[107, 101, 122]⟩, tokv Mc.xa v Mc.xs1] y fun e w' => e = .returned (.bool false) ∧ Below y.heap.size y w' from check_is Mc.ex_c2 v (by omega) (by omega) (by simp) hc1 y h hv)
  have HA0 := Lib.hid (fun y => show Calls Tryd.prog 23 #[tokv Mc.xa (.slice none 0 0) Mc.xs0, .int .u64 7, .int .u64 99] y fun e w' => e = .returned (.bool true) ∧ Below y.heap.size y w' from allows_is Mc.ex_a0 _ _ _ (by simp) y (CavsAt.nil y))
  have HA1 := Lib.hid (fun v y (hv : CavsAt y v [Mc.xc]) => show Calls Tryd.prog 23 #[tokv Mc.xa v Mc.xs1, .int .u64 1, .int .u64 0] y fun e w' => e = .returned (.bool false) ∧ Below y.heap.size y w' from allows_is Mc.ex_a1 _ _ _ (by simp) y hv)
  have HA2 := Lib.hid (fun v y (hv : CavsAt y v [Mc.xc]) => show Calls Tryd.prog 23 #[tokv Mc.xa v Mc.xs1, .int .u64 2, .int .u64 9] y fun e w' => e = .returned (.bool true) ∧ Below y.heap.size y w' from allows_is Mc.ex_a2 _ _ _ (by simp) y hv)
  have HP0 := Lib.hid (fun y (h : LaidM y) => show Calls Tryd.prog 25 #[tokv ⟨#[]⟩ (.slice none 0 0) ⟨#[]⟩] y fun e w' => e = .returned (.string ⟨#[]⟩) ∧ Below y.heap.size y w' from put_is Mc.ex_p0 _ (by show (0 : Nat) ≤ _; omega) (by simp) (by simp) y h (CavsAt.nil y))
  have hps := Mc.ex_ps
  have HL := Lib.hid hL
  unfold Mc.xh at HHX
  generalize Mc.xs0 = s0 at *
  generalize Mc.xs1 = s1 at *
  generalize Mc.xp = xp at *
  generalize Mc.xa = xa at *
  generalize Mc.xc = xc at *
  unfold tokv at *
  clear hL sk sz sa sj sw hc1 ssg
  go_enter Tryd.func10, Tryd.ntmps10
  go_wp2_with fail
  refine (HNEW.out _ HL.out.l).mono ?_
  rintro e y1 ⟨rfl, hb1⟩
  go_upto_region 2 with fail
  have r1 : Row (y1.alloc (.cells #[.string xa, .slice none 0 0, .string s0] 24)) y1.heap.size [.string xa, .slice none 0 0, .string s0] := Row.at rfl (by simp)
  have hb1a := hb1.alloc hb1.size (.cells #[.string xa, .slice none 0 0, .string s0] 24)
  have l1 : y1.heap.size < (y1.alloc (.cells #[.string xa, .slice none 0 0, .string s0] 24)).heap.size := by simp
  generalize y1.alloc (.cells #[.string xa, .slice none 0 0, .string s0] 24) = x1 at r1 hb1a l1 ⊢
  generalize y1.heap.size = b1 at r1 l1 ⊢
  obtain ⟨c0, c1, c2, _⟩ := Row.three r1
  go_wp2_with fail
  refine (HNAR.out _ (HL.out.l.below hb1a (Nat.le_refl _))).mono ?_
  rintro e y2 ⟨v', rfl, hcn, hb2⟩
  obtain ⟨an, pn, rfl⟩ := hcn.form
  have hl1 : [xc].length = 1 := rfl
  rw [hl1] at hcn ⊢
  go_upto_region 3 with fail
  have r1b := (r1.below hb2 l1).alloc (Nat.lt_of_lt_of_le l1 hb2.size) (.cells #[.string xa, .slice an 1 pn, .string s1] 24)
  have r2 : Row (y2.alloc (.cells #[.string xa, .slice an 1 pn, .string s1] 24)) y2.heap.size [.string xa, .slice an 1 pn, .string s1] := Row.at rfl (by simp)
  have hb2a := (hb1a.trans (hb2.mono hb1a.size)).alloc (by have := hb1a.size; have := hb2.size; omega) (.cells #[.string xa, .slice an 1 pn, .string s1] 24)
  have hcn2 := hcn.alloc (.cells #[.string xa, .slice an 1 pn, .string s1] 24)
  have l1b : b1 < (y2.alloc (.cells #[.string xa, .slice an 1 pn, .string s1] 24)).heap.size := by have := hb2.size; simp; omega
  have l2 : y2.heap.size < (y2.alloc (.cells #[.string xa, .slice an 1 pn, .string s1] 24)).heap.size := by simp
  generalize y2.alloc (.cells #[.string xa, .slice an 1 pn, .string s1] 24) = x2 at r1b r2 hb2a hcn2 l1b l2 ⊢
  generalize y2.heap.size = b2 at r2 l2 ⊢
  clear r1 l1 c0 c1 c2 hb1 hb1a hb2 hcn hl1
  obtain ⟨c0, c1, c2, _⟩ := Row.three r2
  have hcat : ¬ (9223372036854775807 < 1 + xp.size) := by omega
  go_wp2_with fail
  refine (HPN.out _ _ (HL.out.below hb2a (Nat.le_refl _)) hcn2).mono ?_
  rintro e y3 ⟨rfl, hb3⟩
  have hb3a := hb2a.trans (hb3.mono hb2a.size)
  go_wp2_with fail
  refine (HGET.out _ (HL.out.below hb3a (Nat.le_refl _))).mono ?_
  rintro e y4 ⟨vu, rfl, hcu, hb4⟩
  obtain ⟨au, pu, rfl⟩ := hcu.form
  have hl1 : [xc].length = 1 := rfl
  rw [hl1]
  go_upto_region 4 with fail
  have hbb := hb3.trans (hb4.mono hb3.size)
  have hX : Ex3 w (y4.alloc (.cells #[.string xa, .slice au 1 pu, .string s1] 24)) b1 b2 y4.heap.size xa s0 s1 (.slice an 1 pn) (.slice au 1 pu) xc :=
    ⟨(r1b.below hbb l1b).alloc (Nat.lt_of_lt_of_le l1b hbb.size) _, (r2.below hbb l2).alloc (Nat.lt_of_lt_of_le l2 hbb.size) _, Row.at rfl (by simp), (hcn2.below hbb (Nat.le_refl _)).alloc _,
     (hb2a.trans (hbb.mono hb2a.size)).alloc (by have := hb2a.size; have := hbb.size; omega) _, by have := hbb.size; simp; omega, by have := hbb.size; simp; omega, by simp⟩
  generalize y4.alloc (.cells #[.string xa, .slice au 1 pu, .string s1] 24) = x4 at hX ⊢
  generalize y4.heap.size = b3 at hX ⊢
  have HX := Lib.hid hX
  clear hX hbb hb3 hb4 hb3a hcu hcn2 r1b r2 hb2a l1b l2 c0 c1 c2 hcat hl1
  have p0 := (Row.three HX.out.r1).1
  have p1 := (Row.three HX.out.r1).2.1
  have p2 := (Row.three HX.out.r1).2.2.1
  have q0 := (Row.three HX.out.r2).1
  have q1 := (Row.three HX.out.r2).2.1
  have q2 := (Row.three HX.out.r2).2.2.1
  have u1 := (Row.three HX.out.r3).2.1
  have u2 := (Row.three HX.out.r3).2.2.1
  go_wp2_with (first
    | (go_at_call 18; (with_reducible refine (HSI.out _ (HL.out.l.below HX.out.b (Nat.le_refl _))).mono ?_); rintro e u ⟨rfl, hbu⟩; have HXn := Lib.hid (HX.out.below hbu); clear HX hbu p0 p1 p2 q0 q1 q2 u1 u2; have HX := HXn; clear HXn; have p0 := (Row.three HX.out.r1).1; have p1 := (Row.three HX.out.r1).2.1; have p2 := (Row.three HX.out.r1).2.2.1; have q0 := (Row.three HX.out.r2).1; have q1 := (Row.three HX.out.r2).2.1; have q2 := (Row.three HX.out.r2).2.2.1; have u1 := (Row.three HX.out.r3).2.1; have u2 := (Row.three HX.out.r3).2.2.1)
    | (go_at_call 28; (with_reducible refine (HHX.out _).mono ?_); rintro e u ⟨rfl, hbu⟩; have HXn := Lib.hid (HX.out.below hbu); clear HX hbu p0 p1 p2 q0 q1 q2 u1 u2; have HX := HXn; clear HXn; have p0 := (Row.three HX.out.r1).1; have p1 := (Row.three HX.out.r1).2.1; have p2 := (Row.three HX.out.r1).2.2.1; have q0 := (Row.three HX.out.r2).1; have q1 := (Row.three HX.out.r2).2.1; have q2 := (Row.three HX.out.r2).2.2.1; have u1 := (Row.three HX.out.r3).2.1; have u2 := (Row.three HX.out.r3).2.2.1)
    | (go_at_call 21; (with_reducible refine (HC0.out _ (HL.out.l.below HX.out.b (Nat.le_refl _))).mono ?_); rintro e u ⟨rfl, hbu⟩; have HXn := Lib.hid (HX.out.below hbu); clear HX hbu p0 p1 p2 q0 q1 q2 u1 u2; have HX := HXn; clear HXn; have p0 := (Row.three HX.out.r1).1; have p1 := (Row.three HX.out.r1).2.1; have p2 := (Row.three HX.out.r1).2.2.1; have q0 := (Row.three HX.out.r2).1; have q1 := (Row.three HX.out.r2).2.1; have q2 := (Row.three HX.out.r2).2.2.1; have u1 := (Row.three HX.out.r3).2.1; have u2 := (Row.three HX.out.r3).2.2.1)
    | (go_at_call 21; (with_reducible refine (HC1.out _ _ (HL.out.l.below HX.out.b (Nat.le_refl _)) HX.out.cn).mono ?_); rintro e u ⟨rfl, hbu⟩; have HXn := Lib.hid (HX.out.below hbu); clear HX hbu p0 p1 p2 q0 q1 q2 u1 u2; have HX := HXn; clear HXn; have p0 := (Row.three HX.out.r1).1; have p1 := (Row.three HX.out.r1).2.1; have p2 := (Row.three HX.out.r1).2.2.1; have q0 := (Row.three HX.out.r2).1; have q1 := (Row.three HX.out.r2).2.1; have q2 := (Row.three HX.out.r2).2.2.1; have u1 := (Row.three HX.out.r3).2.1; have u2 := (Row.three HX.out.r3).2.2.1)
    | (go_at_call 21; (with_reducible refine (HC2.out _ _ (HL.out.l.below HX.out.b (Nat.le_refl _)) HX.out.cn).mono ?_); rintro e u ⟨rfl, hbu⟩; have HXn := Lib.hid (HX.out.below hbu); clear HX hbu p0 p1 p2 q0 q1 q2 u1 u2; have HX := HXn; clear HXn; have p0 := (Row.three HX.out.r1).1; have p1 := (Row.three HX.out.r1).2.1; have p2 := (Row.three HX.out.r1).2.2.1; have q0 := (Row.three HX.out.r2).1; have q1 := (Row.three HX.out.r2).2.1; have q2 := (Row.three HX.out.r2).2.2.1; have u1 := (Row.three HX.out.r3).2.1; have u2 := (Row.three HX.out.r3).2.2.1)
    | (go_at_call 23; (with_reducible refine (HA0.out _).mono ?_); rintro e u ⟨rfl, hbu⟩; have HXn := Lib.hid (HX.out.below hbu); clear HX hbu p0 p1 p2 q0 q1 q2 u1 u2; have HX := HXn; clear HXn; have p0 := (Row.three HX.out.r1).1; have p1 := (Row.three HX.out.r1).2.1; have p2 := (Row.three HX.out.r1).2.2.1; have q0 := (Row.three HX.out.r2).1; have q1 := (Row.three HX.out.r2).2.1; have q2 := (Row.three HX.out.r2).2.2.1; have u1 := (Row.three HX.out.r3).2.1; have u2 := (Row.three HX.out.r3).2.2.1)
    | (go_at_call 23; (with_reducible refine (HA1.out _ _ HX.out.cn).mono ?_); rintro e u ⟨rfl, hbu⟩; have HXn := Lib.hid (HX.out.below hbu); clear HX hbu p0 p1 p2 q0 q1 q2 u1 u2; have HX := HXn; clear HXn; have p0 := (Row.three HX.out.r1).1; have p1 := (Row.three HX.out.r1).2.1; have p2 := (Row.three HX.out.r1).2.2.1; have q0 := (Row.three HX.out.r2).1; have q1 := (Row.three HX.out.r2).2.1; have q2 := (Row.three HX.out.r2).2.2.1; have u1 := (Row.three HX.out.r3).2.1; have u2 := (Row.three HX.out.r3).2.2.1)
    | (go_at_call 23; (with_reducible refine (HA2.out _ _ HX.out.cn).mono ?_); rintro e u ⟨rfl, hbu⟩; have HXn := Lib.hid (HX.out.below hbu); clear HX hbu p0 p1 p2 q0 q1 q2 u1 u2; have HX := HXn; clear HXn; have p0 := (Row.three HX.out.r1).1; have p1 := (Row.three HX.out.r1).2.1; have p2 := (Row.three HX.out.r1).2.2.1; have q0 := (Row.three HX.out.r2).1; have q1 := (Row.three HX.out.r2).2.1; have q2 := (Row.three HX.out.r2).2.2.1; have u1 := (Row.three HX.out.r3).2.1; have u2 := (Row.three HX.out.r3).2.2.1)
    | (go_at_call 25; (with_reducible refine (HP0.out _ (HL.out.below HX.out.b (Nat.le_refl _))).mono ?_); rintro e u ⟨rfl, hbu⟩; have HXn := Lib.hid (HX.out.below hbu); clear HX hbu p0 p1 p2 q0 q1 q2 u1 u2; have HX := HXn; clear HXn; have p0 := (Row.three HX.out.r1).1; have p1 := (Row.three HX.out.r1).2.1; have p2 := (Row.three HX.out.r1).2.2.1; have q0 := (Row.three HX.out.r2).1; have q1 := (Row.three HX.out.r2).2.1; have q2 := (Row.three HX.out.r2).2.2.1; have u1 := (Row.three HX.out.r3).2.1; have u2 := (Row.three HX.out.r3).2.2.1)
    | (go_at_call 25; (with_reducible refine (HPN.out _ _ (HL.out.below HX.out.b (Nat.le_refl _)) HX.out.cn).mono ?_); rintro e u ⟨rfl, hbu⟩; have HXn := Lib.hid (HX.out.below hbu); clear HX hbu p0 p1 p2 q0 q1 q2 u1 u2; have HX := HXn; clear HXn; have p0 := (Row.three HX.out.r1).1; have p1 := (Row.three HX.out.r1).2.1; have p2 := (Row.three HX.out.r1).2.2.1; have q0 := (Row.three HX.out.r2).1; have q1 := (Row.three HX.out.r2).2.1; have q2 := (Row.three HX.out.r2).2.2.1; have u1 := (Row.three HX.out.r3).2.1; have u2 := (Row.three HX.out.r3).2.2.1))
  go_ret
  exact ⟨rfl, HX.out.b⟩

end Go.Proofs.YtalncnblcfcmcaaDoor
