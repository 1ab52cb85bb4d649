/- The walk of sha.Hex. -/
import Derived.Test.YtalncnblcfcmcaaDoorShBlock2
import Derived.Test.YtalncnblcfcmcaaDoorOwnB
import Derived.Deep.AppendLies
namespace Go.Proofs.YtalncnblcfcmcaaDoor
open Go.RowKit

namespace Sh
def digitsB : ByteArray := ⟨#[48, 49, 50, 51, 52, 53, 54, 55, 56, 57, 97, 98, 99, 100, 101, 102]⟩
theorem digit_all : ∀ n : Fin 16, (digitsB[n.1]'n.2).toNat = (digit n.1).toNat := by decide
theorem hex_snoc (l : List UInt8) (x : UInt8) : hex (l ++ [x]) = hex l ++ [digit (x.toNat / 16), digit (x.toNat % 16)] := by unfold hex; simp
theorem hex_len (l : List UInt8) : (hex l).length = 2 * l.length := by
  induction l with
  | nil => rfl
  | cons a l ih => unfold hex at *; simp only [List.flatMap_cons, List.length_append, ih, List.length_cons, List.length_nil]; omega
end Sh

theorem digit_index (n : Nat) (hn : n < 16) (w : World) : (Instr.index 9 (.string ⟨#[48, 49, 50, 51, 52, 53, 54, 55, 56, 57, 97, 98, 99, 100, 101, 102]⟩) (.int .u8 (n : Int))).run Tryd.prog w = .ok (.int .u8 ((Sh.digit n).toNat : Int)) w := by
  have h := Sh.digit_all ⟨n, hn⟩
  have h2 : n < (⟨#[48, 49, 50, 51, 52, 53, 54, 55, 56, 57, 97, 98, 99, 100, 101, 102]⟩ : ByteArray).size := hn
  rw [run_index_string w _ _ _ _ Tryd.underlying9, dif_pos ⟨by omega, by exact_mod_cast h2⟩]
  simp only [Int.toNat_natCast]
  rw [← h]
  rfl

theorem run_convert_nil_bytes (w : World) : (convert 52 9 (.slice none 0 0)).run Tryd.prog w = .ok (.string ⟨#[]⟩) w := by
  have h1 := Tryd.underlying52
  have h2 := Tryd.underlying5
  have h3 := Tryd.underlying9
  simp [convert, go_sem, h1, h2, h3, run_underlying, Conv.bytesToString]; rfl
theorem own_string_any {w : World} {base n : Nat} {v : Value} {l : List UInt8} (h : w.ownsRow base 5 1 v n (bcells l)) (hl : l.length = n) :
    (convert 52 9 v).run Tryd.prog w = .ok (.string ⟨l.toArray⟩) w := by
  subst hl
  by_cases h0 : 0 < l.length
  · exact own_string h h0
  · have hl0 : l = [] := List.length_eq_zero_iff.1 (by omega)
    subst hl0
    obtain ⟨_, ⟨rfl, _⟩ | ⟨g, cap, _, rfl, _⟩⟩ := h
    · exact run_convert_nil_bytes w
    · exact run_convert_bytes_arg (P := Tryd.prog) w 52 5 Tryd.underlying52 Tryd.underlying5 g 0 0 cap [] rfl (fun i hi => absurd hi (by omega)) 9 Tryd.underlying9

set_option maxHeartbeats 4000000 in
theorem Hex_any (s : ByteArray) (w : World) (hs : s.size ≤ 70368744177664) :
    Calls Tryd.prog 28 #[.string s] w fun e w' => e = .returned (.string ⟨(Sh.hex s.data.toList).toArray⟩) ∧ Below w.heap.size w w' := by
  obtain ⟨i0, hi, hz0, hz1, hz2⟩ := info_parts Tryd.infoU8
  go_enter Tryd.func28, Tryd.ntmps28
  go_wp2_with fail
  go_loopw [3, 7] (fun s3 s7 wr => ∃ k : Nat, k ≤ s.size ∧ s7 = .int .i64 (k : Int) ∧ wr.ownsRow w.heap.size 5 1 s3 (2 * k) (bcells (Sh.hex (s.data.toList.take k))) ∧ Below w.heap.size w wr) (fun _ s7 _ => s.size - (intOf s7).toNat)
  case atStart => exact ⟨0, by omega, rfl, World.ownsRow_nil _ _ _ _, Below.refl _ _⟩
  case round =>
    obtain ⟨k, hk, rfl, hown, hbel⟩ := hrel
    by_cases hlt : k < s.size
    · have hlt' : (k : Int) < (s.size : Int) := by omega
      have hk0 : (0 : Int) ≤ (k : Int) := by omega
      have hws := hbel.size
      have hdl : k < s.data.toList.length := hlt
      have hsn : Sh.hex (s.data.toList.take (k + 1)) = Sh.hex (s.data.toList.take k) ++ [Sh.digit (s[k].toNat / 16), Sh.digit (s[k].toNat % 16)] := by
        rw [List.take_add_one, List.getElem?_eq_getElem hdl]
        exact Sh.hex_snoc _ _
      obtain ⟨x, hx⟩ : ∃ x, s[k].toNat = x := ⟨_, rfl⟩
      have hx256 : x < 256 := by have := UInt8.toNat_lt s[k]; omega
      rw [hx] at hsn
      have hn2 : bits .and .u8 (x : Int) 15 = ((x % 16 : Nat) : Int) := by
        rw [show (15 : Int) = ((15 : Nat) : Int) from rfl, u8_and_nat x 15 hx256 (by omega), show x &&& 15 = x % 16 from Nat.and_two_pow_sub_one_eq_mod x 4]
      obtain ⟨n1, hn1⟩ : ∃ n, x / 16 = n := ⟨_, rfl⟩
      obtain ⟨n2, hn2'⟩ : ∃ n, x % 16 = n := ⟨_, rfl⟩
      have hn1' : (x : Int) / 16 = (n1 : Int) := by omega
      rw [hn2'] at hn2
      have d1 := fun w => digit_index n1 (by omega) w
      have d2 := fun w => digit_index n2 (by omega) w
      rw [hn1, hn2'] at hsn
      clear hn2' hn1
      generalize Sh.digit n1 = e1 at hsn d1
      generalize Sh.digit n2 = e2 at hsn d2
      have HSN := Lib.hid hsn; clear hsn
      go_upto_region 5 with fail
      go_region_held3 (fun _ => True) (exact trivial)
        ((refine step_append_lies _ (by rfl) _ _ _ (by rfl) w.heap.size 5 i0 _ 1 1 Tryd.underlying52 hi hz0 hz1 hz2 rfl (by omega) u3 (2 * k) _ (by rfl) ((hown.alloc _).drew) ⟨wr.heap.size, 0, none⟩ 2 2 [.int .u8 (e1.toNat : Int), .int .u8 (e2.toNat : Int)] (by rfl) (by rfl) (World.news_of_block (cs := #[.int .u8 (e1.toNat : Int), .int .u8 (e2.toNat : Int)]) (t := 5) (fr := (0, 0)) (heap_alloc_new wr _)) (by simp [Value.oneCell']) (by omega) (by unfold maxLen; omega) (by omega) (by simp; omega) (wr.heap.size + 1) (by simp) ?_; intro gg cap' w2 hown1 hgrow hat hlt2))
      all_goals (
        have hb2 : Below w.heap.size w w2 := (hbel.alloc hws (.cells #[.int .u8 (e1.toNat : Int), .int .u8 (e2.toNat : Int)] 5)).drew.grown hgrow (by simp; omega) (fun j e => (hown.lt j e).1)
        have HB2 := Lib.hid hb2
        rw [show bcells (Sh.hex (s.data.toList.take k)) ++ [.int .u8 (e1.toNat : Int), .int .u8 (e2.toNat : Int)] = bcells (Sh.hex (s.data.toList.take (k + 1))) from by rw [HSN.out]; unfold bcells; simp, show 2 * k + 2 = 2 * (k + 1) by omega] at hown1
        have HO := Lib.hid hown1
        clear hown1 hgrow hat hb2 hown d1 d2 hx
        go_wp2_with fail
        refine ⟨⟨k + 1, by omega, by go_num, HO.out, HB2.out⟩, by simp only [intOf]; omega⟩)
    · obtain rfl : k = s.size := by omega
      rw [show s.data.toList.take s.size = s.data.toList from List.take_length] at hown
      have kc := own_string_any hown (Sh.hex_len _)
      have HB := Lib.hid hbel
      clear hown hbel
      go_wp2_with fail
      go_ret
      exact ⟨ret_str rfl, HB.out⟩

end Go.Proofs.YtalncnblcfcmcaaDoor
