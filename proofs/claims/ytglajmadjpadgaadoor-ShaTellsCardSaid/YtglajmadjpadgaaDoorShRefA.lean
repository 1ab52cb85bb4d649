/- The walks of the document's own answer: turn, digit, Hex. -/
import Derived.Test.YtglajmadjpadgaaDoorShHex
import Derived.Test.YtglajmadjpadgaaDoorShRowS
import Derived.Deep.QuietTactic
import Derived.BigQuiet
namespace Go.Proofs.YtglajmadjpadgaaDoor
open Go.RowKit

theorem below_drewN {B : Nat} {w w' : World} (h : Below B w w') (n : Nat) : Below B w (w'.drewN n) := h.trans ⟨rfl, rfl, rfl, Nat.le_refl _, fun _ _ => rfl⟩
theorem rotr_int2 (x n m : Nat) (hx : x < 4294967296) (hm : 32 - n = m) : bits .or .u32 ((x : Int) / 2 ^ n) ((x : Int) * 2 ^ m % 4294967296) = ((Sh.rotr x n : Nat) : Int) := by
  subst hm
  have h1 : ((x : Int) * 2 ^ (32 - n) % 4294967296) = ((x * 2 ^ (32 - n) % 4294967296 : Nat) : Int) := by
    rw [Int.natCast_emod, Int.natCast_mul, Int.natCast_pow]; rfl
  have h2 : ((x : Int) / 2 ^ n) = ((x / 2 ^ n : Nat) : Int) := by
    rw [Int.natCast_ediv, Int.natCast_pow]; rfl
  have h3 : x / 2 ^ n ≤ x := Nat.div_le_self _ _
  rw [h1, h2, u32_or_nat _ _ (by omega) (Nat.mod_lt _ (by omega))]
  unfold Sh.rotr
  rw [Nat.or_comm]

set_option maxHeartbeats 1000000 in
theorem refturn_quiet (x n : Nat) (w : World) (hx : x < 4294967296) (h1 : 1 ≤ n) (h2 : n ≤ 31) :
    Calls Tryd.prog 25 #[.int .u32 (x : Int), .int .i64 (n : Int)] w fun e w' => e = .returned (.int .u32 (Sh.rotr x n : Nat)) ∧ ∃ m, w' = w.drewN m := by
  obtain ⟨m, hm⟩ : ∃ m, 32 - n = m := ⟨_, rfl⟩
  have H := Lib.hid (rotr_int2 x n m hx hm)
  have hn : (0 : Int) ≤ (n : Int) := by omega
  have hn2 : (n : Int) ≤ 31 := by omega
  have hm3 : (32 : Int) - (n : Int) = (m : Int) := by omega
  have hm4 : IntKind.i64.wrap (m : Int) = (m : Int) := by rw [IntKind.wrap_i64]; omega
  have hm0 : (0 : Int) ≤ (m : Int) := by omega
  have hm1 : (m : Int) ≤ 31 := by omega
  clear hm
  go_enter Tryd.func25, Tryd.ntmps25
  go_wp2_with fail
  go_quiet (fail)
  go_wp2
  go_ret
  exact ⟨ret_int H.out, _, rfl⟩

set_option maxHeartbeats 1000000 in
theorem refdigit_any (n : Nat) (w : World) (hn : n < 16) :
    Calls Tryd.prog 16 #[.int .u8 (n : Int)] w fun e w' => e = .returned (.int .u8 ((Sh.digit n).toNat : Int)) ∧ w = w' := by
  by_cases h : n < 10
  · have h' : (n : Int) < 10 := by omega
    have hd : (Sh.digit n).toNat = 48 + n := by unfold Sh.digit; rw [if_pos h]; simp; omega
    go_enter Tryd.func16, Tryd.ntmps16
    go_wp2
    go_ret
    exact ⟨ret_int (by rw [hd]; omega), rfl⟩
  · have h' : ¬ (n : Int) < 10 := by omega
    have hd : (Sh.digit n).toNat = 87 + n := by unfold Sh.digit; rw [if_neg h]; simp; omega
    go_enter Tryd.func16, Tryd.ntmps16
    go_wp2
    go_ret
    exact ⟨ret_int (by first | omega | (rw [hd]; omega) | (simp; omega)), rfl⟩

theorem conv_two (y : World) (a b : Nat) (ha : a < 256) (hb : b < 256) : (convert 27 9 (.slice (some ⟨y.heap.size, 0, none⟩) 2 2)).run Tryd.prog (y.alloc (.cells #[.int .u8 (a : Int), .int .u8 (b : Int)] 5)).drew = .ok (.string ⟨#[UInt8.ofNat a, UInt8.ofNat b]⟩) (y.alloc (.cells #[.int .u8 (a : Int), .int .u8 (b : Int)] 5)).drew :=
  row_string (l := [UInt8.ofNat a, UInt8.ofNat b]) (Row.at (b := y.heap.size) (w := y) rfl (by simp [bcells]; omega)).drew rfl

set_option maxHeartbeats 4000000 in
theorem refHex_any (s : ByteArray) (w : World) (hs : s.size ≤ 70368744177664) :
    Calls Tryd.prog 14 #[.string s] w fun e w' => e = .returned (.string ⟨(Sh.hex s.data.toList).toArray⟩) ∧ Below w.heap.size w w' := by
  go_enter Tryd.func14, Tryd.ntmps14
  go_wp2_with fail
  go_loopw [3, 4] (fun s3 s4 wr => ∃ (k : Nat) (o : ByteArray), k ≤ s.size ∧ s4 = .int .i64 (k : Int) ∧ s3 = .string o ∧ o.data.toList = Sh.hex (s.data.toList.take k) ∧ Below w.heap.size w wr) (fun _ s4 _ => s.size - (intOf s4).toNat)
  case atStart => exact ⟨0, _, by omega, rfl, rfl, rfl, Below.refl _ _⟩
  case round =>
    obtain ⟨k, o, hk, rfl, rfl, ho, hbel⟩ := hrel
    have hos : o.size = 2 * k := by
      have h := congrArg List.length ho
      rw [Sh.hex_len, List.length_take, show s.data.toList.length = s.size from rfl] at h
      have : o.data.toList.length = o.size := rfl
      omega
    by_cases hlt : k < s.size
    · have hlt' : (k : Int) < (s.size : Int) := by omega
      have hk0 : (0 : Int) ≤ (k : Int) := by omega
      have hdl : k < s.data.toList.length := hlt
      have hsn : Sh.hex (s.data.toList.take (k + 1)) = Sh.hex (s.data.toList.take k) ++ [Sh.digit (s[k].toNat / 16), Sh.digit (s[k].toNat % 16)] := by
        rw [List.take_add_one, List.getElem?_eq_getElem hdl]
        exact Sh.hex_snoc _ _
      obtain ⟨x, hx⟩ : ∃ x, s[k].toNat = x := ⟨_, rfl⟩
      have hx256 : x < 256 := by have := UInt8.toNat_lt s[k]; omega
      rw [hx] at hsn
      obtain ⟨n1, hn1⟩ : ∃ n, x / 16 = n := ⟨_, rfl⟩
      obtain ⟨n2, hn2'⟩ : ∃ n, x % 16 = n := ⟨_, rfl⟩
      have hn1' : (x : Int) / 16 = (n1 : Int) := by omega
      have hn2 : (x : Int) % 16 = (n2 : Int) := by omega
      have hn3 : (x : Int).tmod 16 = (n2 : Int) := by rw [Int.tmod_eq_emod_of_nonneg (by omega)]; exact hn2
      have hw1 : IntKind.u8.wrap (n1 : Int) = (n1 : Int) := by rw [IntKind.wrap_u8]; omega
      have hw2 : IntKind.u8.wrap (n2 : Int) = (n2 : Int) := by rw [IntKind.wrap_u8]; omega
      have d1 := Lib.hid (fun w => refdigit_any n1 w (by omega))
      have d2 := Lib.hid (fun w => refdigit_any n2 w (by omega))
      rw [hn1, hn2'] at hsn
      clear hn2' hn1
      have kc := fun y => conv_two y (Sh.digit n1).toNat (Sh.digit n2).toNat (UInt8.toNat_lt _) (UInt8.toNat_lt _)
      simp only [UInt8.ofNat_toNat] at kc
      generalize Sh.digit n1 = e1 at hsn d1 kc
      generalize Sh.digit n2 = e2 at hsn d2 kc
      obtain ⟨c, hc⟩ : ∃ c : ByteArray, ⟨#[e1, e2]⟩ = c := ⟨_, rfl⟩
      have hcs : c.size = 2 := by rw [← hc]; rfl
      have hcat : ¬ (9223372036854775807 < o.size + c.size) := by omega
      rw [hc] at kc
      have HSN := Lib.hid (show (o ++ c).data.toList = Sh.hex (s.data.toList.take (k + 1)) from by rw [hsn, ← ho, ← hc]; simp)
      have HB := Lib.hid hbel
      clear hsn ho hbel hc
      go_upto_region 5 with fail
      go_region_with ((first | (go_at_call 16; ((with_reducible refine (d1.out _).mono ?_); rintro e u ⟨rfl, rfl⟩)) | (go_at_call 16; ((with_reducible refine (d2.out _).mono ?_); rintro e u ⟨rfl, rfl⟩))))
      all_goals (
        go_wp2_with fail
        refine ⟨⟨k + 1, _, by omega, by go_num, rfl, HSN.out, ?_⟩, by simp only [intOf]; omega⟩
        exact (HB.out.alloc HB.out.size _).drew)
    · obtain rfl : k = s.size := by omega
      have hlt' : ¬ (s.size : Int) < (s.size : Int) := by omega
      rw [show s.data.toList.take s.size = s.data.toList from List.take_length] at ho
      have HB := Lib.hid hbel
      clear hbel
      have HO := Lib.hid (show (⟨(Sh.hex s.data.toList).toArray⟩ : ByteArray) = o from by rw [← ho])
      go_wp2_with fail
      go_ret
      exact ⟨ret_str HO.out.symm, HB.out⟩

end Go.Proofs.YtglajmadjpadgaaDoor
