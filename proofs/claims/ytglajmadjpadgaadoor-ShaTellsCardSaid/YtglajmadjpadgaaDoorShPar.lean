/- The walk of sha.Parse. -/
import Derived.Test.YtglajmadjpadgaaDoorShHex
import Derived.Test.YtglajmadjpadgaaDoorShShelf
import Derived.Deep.AppendLies
import Derived.Lib.MinMax
namespace Go.Proofs.YtglajmadjpadgaaDoor
open Go.RowKit

namespace Sh
def val (c : UInt8) : Nat := (Lib.indexByte digitsB.data.toList c).toNat
theorem val_all : (List.range 256).all (fun n => val (UInt8.ofNat n) < 16) = true := by kernel_rfl
theorem val_lt (c : UInt8) : val c < 16 := by
  have h := List.all_eq_true.1 val_all c.toNat (List.mem_range.2 (UInt8.toNat_lt c))
  simpa using h
theorem or_all : (List.range 16).all (fun a => (List.range 16).all fun b => decide (bits .or .i64 ((a : Int) * 16) (b : Int) = ((a * 16 + b : Nat) : Int))) = true := by kernel_rfl
theorem or_lt {a b : Nat} (ha : a < 16) (hb : b < 16) : bits .or .i64 ((a : Int) * 16) (b : Int) = ((a * 16 + b : Nat) : Int) := by
  have h := List.all_eq_true.1 (List.all_eq_true.1 or_all a (List.mem_range.2 ha)) b (List.mem_range.2 hb)
  simpa using h
/-- the bytes of so many pairs of digits -/
def outsN (t : List UInt8) : Nat → List UInt8
  | 0 => []
  | k + 1 => outsN t k ++ [UInt8.ofNat (val (t.getD (2 * k) 0) * 16 + val (t.getD (2 * k + 1) 0))]
theorem outsN_len (t : List UInt8) : ∀ k, (outsN t k).length = k
  | 0 => rfl
  | k + 1 => by rw [outsN, List.length_append, outsN_len t k]; rfl
def parse (t : List UInt8) : List UInt8 × Bool := if hex (outsN t (t.length / 2)) = t then (outsN t (t.length / 2), true) else ([], false)
end Sh

theorem byte_at (s : ByteArray) {k : Nat} (h : k < s.size) : s.data.toList.getD k 0 = s[k] := by
  have hl : k < s.data.toList.length := h
  rw [List.getD_eq_getElem?_getD, List.getElem?_eq_getElem hl]
  rfl

theorem own_below {a b : World} {base e n : Nat} {v : Value} {xs : List Value} (h : a.ownsRow base e 1 v n xs) (hb : Below a.heap.size a b) : b.ownsRow base e 1 v n xs := by
  refine h.kept (row := Option.none) ⟨hb.os, hb.tape, hb.output, hb.size, fun k hk _ => hb.block k hk⟩ ?_
  cases hv : v.ownBlock with
  | none => exact .inl rfl
  | some g => exact .inr (by simp)
theorem val_max (x : UInt8) : max (Lib.indexByte Sh.digitsB.data.toList x) 0 = (Sh.val x : Int) := by unfold Sh.val; omega
theorem index_val (x : UInt8) (w : World) : Calls Tryd.prog 15 #[.string ⟨#[48, 49, 50, 51, 52, 53, 54, 55, 56, 57, 97, 98, 99, 100, 101, 102]⟩, .int .u8 (x.toNat : Int)] w fun e w' => e = .returned (.int .i64 (Lib.indexByte Sh.digitsB.data.toList x)) ∧ w = w' := by
  have h := Tryd.strings_IndexByte ⟨#[48, 49, 50, 51, 52, 53, 54, 55, 56, 57, 97, 98, 99, 100, 101, 102]⟩ (x.toNat : Int) w
  have e : ((x.toNat : Int).toNat.toUInt8) = x := by simp
  rw [e] at h
  exact h.mono fun _ _ ⟨a, b⟩ => ⟨a, b.symm⟩

set_option maxHeartbeats 4000000 in
theorem Parse_any (s : ByteArray) (w : World) (hs : s.size ≤ 140737488351232) :
    Calls Tryd.prog 9 #[.string s] w fun e w' => e = .returned (.tuple #[.string ⟨(Sh.parse s.data.toList).1.toArray⟩, .bool (Sh.parse s.data.toList).2]) ∧ Below w.heap.size w w' := by
  obtain ⟨i0, hi, hz0, hz1, hz2⟩ := info_parts Tryd.infoU8
  go_enter Tryd.func9, Tryd.ntmps9
  go_wp2_with fail
  go_loopw [4, 5] (fun s4 s5 wr => ∃ k : Nat, k ≤ s.size / 2 ∧ s5 = .int .i64 ((2 * k : Nat) : Int) ∧ wr.ownsRow w.heap.size 5 1 s4 k (bcells (Sh.outsN s.data.toList k)) ∧ Below w.heap.size w wr) (fun _ s5 _ => s.size - (intOf s5).toNat)
  case atStart => exact ⟨0, by omega, rfl, World.ownsRow_nil _ _ _ _, Below.refl _ _⟩
  case round =>
    obtain ⟨k, hk, rfl, hown, hbel⟩ := hrel
    obtain ⟨i, hik⟩ : ∃ i, 2 * k = i := ⟨_, rfl⟩
    rw [hik]
    by_cases hlt : i + 1 < s.size
    · have hlt' : (i : Int) + 1 < (s.size : Int) := by omega
      have hi0 : (0 : Int) ≤ (i : Int) := by omega
      have hi1 : (i : Int) < (s.size : Int) := by omega
      have hi2 : (0 : Int) ≤ (i : Int) + 1 := by omega
      have hw1 : IntKind.i64.wrap ((i : Int) + 1) = (i : Int) + 1 := by rw [IntKind.wrap_i64]; omega
      have htn : ((i : Int) + 1).toNat = i + 1 := by omega
      have hws := hbel.size
      have hsn : Sh.outsN s.data.toList (k + 1) = Sh.outsN s.data.toList k ++ [UInt8.ofNat (Sh.val s[i] * 16 + Sh.val s[i + 1])] := by
        rw [Sh.outsN, hik, byte_at s (by omega), byte_at s hlt]
      have HX1 := Lib.hid (fun w => index_val s[i] w)
      have HX2 := Lib.hid (fun w => index_val s[i + 1] w)
      have hm1 := val_max s[i]
      have hm2 := val_max s[i + 1]
      have l1 := Sh.val_lt s[i]
      have l2 := Sh.val_lt s[i + 1]
      generalize Lib.indexByte Sh.digitsB.data.toList s[i] = h1 at HX1 hm1
      generalize Lib.indexByte Sh.digitsB.data.toList s[i + 1] = h2 at HX2 hm2
      generalize Sh.val s[i] = m1 at hsn hm1 l1
      generalize Sh.val s[i + 1] = m2 at hsn hm2 l2
      have hor := Sh.or_lt l1 l2
      have hw16 : IntKind.i64.wrap ((m1 : Int) * 16) = (m1 : Int) * 16 := by rw [IntKind.wrap_i64]; omega
      obtain ⟨c, hc⟩ : ∃ c, m1 * 16 + m2 = c := ⟨_, rfl⟩
      have hc256 : c < 256 := by omega
      have hcm : (c : Int) % 256 = (c : Int) := by omega
      rw [hc] at hor hsn
      have HSN := Lib.hid hsn; clear hsn hc
      go_upto_region 5 with fail
      go_region_held3 (fun _ => True) (exact trivial) ((first | (go_at_call 15; ((with_reducible refine (HX1.out _).mono ?_); rintro e u ⟨rfl, rfl⟩)) | (go_at_call 15; ((with_reducible refine (HX2.out _).mono ?_); rintro e u ⟨rfl, rfl⟩))))
      all_goals (go_upto_region 6 with fail)
      all_goals (
        have hown2 : wr.drew.ownsRow w.heap.size 5 1 u4 k (bcells (Sh.outsN s.data.toList k)) := hown
        have hbel2 := hbel.drew
        have hik2 := hik
        clear hown hbel HX1 HX2 hws
        generalize wr.drew = wq at hown2 hbel2 ⊢
        have hws := hbel2.size
        go_wp2_with (at_builtin; refine wpList_append_own _ rfl _ _ 27 rfl w.heap.size 5 i0 (.int .u8 0) 1 1 Tryd.underlying27 hi hz0 hz1 hz2 rfl (by decide) _ _ _ rfl (hown2.alloc _) ⟨wq.heap.size, 0, none⟩ 1 1 [.int .u8 (c : Int)] rfl rfl ?c1 ?c2 ?c3 ?c4 ?c5 ?_)
        case c1 =>
          intro j u hj
          match j, hj with
          | 0, hj => simp at hj; subst hj; simp [Addr.add]
        case c2 => intro u hu; simp at hu; subst hu; rfl
        case c3 => unfold maxLen; omega
        case c4 => omega
        case c5 => simp; omega
        · intro v' w1 hown' hgrow _
          have hb1 : Below w.heap.size w w1 := (hbel2.alloc hws (.cells #[.int .u8 (c : Int)] 5)).grown hgrow (by simp; omega) (fun j e => (hown2.lt j e).1)
          rw [bcells_snoc _ c hc256, ← HSN.out] at hown'
          have HO := Lib.hid hown'
          have HB := Lib.hid hb1
          clear hown' hgrow hb1 hor hown2 hbel2 hws hik
          go_wp2_with fail
          refine ⟨⟨k + 1, by omega, ?_, HO.out, HB.out⟩, by simp only [intOf]; omega⟩
          rw [← hik2]
          go_num)
    · have hke : k = s.size / 2 := by omega
      have hlt' : ¬ (i : Int) + 1 < (s.size : Int) := by omega
      have hw1 : IntKind.i64.wrap ((i : Int) + 1) = (i : Int) + 1 := by rw [IntKind.wrap_i64]; omega
      have kc := own_string_any hown (Sh.outsN_len _ _)
      have hsz : (⟨(Sh.outsN s.data.toList k).toArray⟩ : ByteArray).size = k := by show (Sh.outsN s.data.toList k).toArray.size = k; simpa using Sh.outsN_len _ _
      have HX := Lib.hid (fun w => Hex_any ⟨(Sh.outsN s.data.toList k).toArray⟩ w (by rw [hsz]; omega))
      have HP := Lib.hid (show Sh.parse s.data.toList = if Sh.hex (Sh.outsN s.data.toList k) = s.data.toList then (Sh.outsN s.data.toList k, true) else ([], false) from by unfold Sh.parse; rw [show s.data.toList.length = s.size from rfl, ← hke])
      simp only [] at HX
      generalize Sh.hex (Sh.outsN s.data.toList k) = hx at HX HP
      obtain ⟨q, hq⟩ : ∃ q : ByteArray, ⟨(Sh.outsN s.data.toList k).toArray⟩ = q := ⟨_, rfl⟩
      obtain ⟨y, hy⟩ : ∃ q : ByteArray, ⟨hx.toArray⟩ = q := ⟨_, rfl⟩
      rw [hq] at kc HX
      rw [hy] at HX
      have HB := Lib.hid hbel
      have HOWN := Lib.hid hown
      have HQ := Lib.hid hq
      have HEQ := Lib.hid (show (y.toList == s.toList) = decide (hx = s.data.toList) from by rw [← hy, Lib.toList_data, Lib.toList_data]; show (hx == s.data.toList) = _; rw [Bool.eq_iff_iff]; simp)
      clear hown hbel hq hy hsz hke hk hik
      go_wp2_with (go_at_call 13; refine (HX.out _).mono ?_; rintro e w1 ⟨rfl, hb1⟩; have kc2 : (convert 27 9 u4).run Tryd.prog w1 = .ok (.string q) w1 := HQ.out ▸ own_string_any (own_below HOWN.out hb1) (Sh.outsN_len _ _))
      all_goals (go_ret2; refine ⟨?_, HB.out.trans (hb1.mono HB.out.size)⟩)
      all_goals (rename_i hcnd; rw [HEQ.out] at hcnd; rw [HP.out])
      · rw [if_neg (by simpa using hcnd)]; rfl
      · rw [if_pos (by simpa using hcnd)]; rw [← HQ.out]; rfl

end Go.Proofs.YtglajmadjpadgaaDoor
