/- The walks of bits.RotateLeft32 and frame.four. -/
import Derived.Test.YthcikclkocbhpaaFrStep
import Derived.LoopN
import Derived.Lib.Strings
import Derived.Laws.BytesArg
namespace Go.Proofs.Ythcikclkocbhpaa
open Go.RowKit

theorem rot_int (x k : Nat) (hx : x < 4294967296) : bits .or .u32 ((x : Int) * 2 ^ (k % 32) % 4294967296) ((x : Int) / 2 ^ (32 - k % 32)) = ((Fr.rot x k : Nat) : Int) := by
  have h1 : ((x : Int) * 2 ^ (k % 32) % 4294967296) = ((x * 2 ^ (k % 32) % 4294967296 : Nat) : Int) := by
    rw [Int.natCast_emod, Int.natCast_mul, Int.natCast_pow]; rfl
  have h2 : ((x : Int) / 2 ^ (32 - k % 32)) = ((x / 2 ^ (32 - k % 32) : Nat) : Int) := by
    rw [Int.natCast_ediv, Int.natCast_pow]; rfl
  have h3 : x / 2 ^ (32 - k % 32) ≤ x := Nat.div_le_self _ _
  rw [h1, h2, u32_or_nat _ _ (Nat.mod_lt _ (by omega)) (by omega)]
  rfl

set_option maxHeartbeats 400000 in
theorem Rot_any (x : Nat) (k : Nat) (w : World) (hx : x < 4294967296) (hk : k ≤ 32) :
    Calls Try.prog 24 #[.int .u32 (x : Int), .int .i64 (k : Int)] w fun e w' => e = .returned (.int .u32 (Fr.rot x k : Nat)) ∧ w = w' := by
  have h1 : bits .and .u64 (k : Int) 31 = ((k % 32 : Nat) : Int) := by
    have := u64_and_nat k 31 (by omega) (by omega)
    rw [nat_mask5] at this
    exact this
  have H := Lib.hid (rot_int x k hx)
  go_enter Try.func24, Try.ntmps24
  go_wp2
  go_ret
  exact ⟨ret_int H.out, rfl⟩

theorem Rot_num (x : Nat) (k : Int) (w : World) (hx : x < 4294967296) (h0 : 0 ≤ k) (hk : k ≤ 32) :
    Calls Try.prog 24 #[.int .u32 (x : Int), .int .i64 k] w fun e w' => e = .returned (.int .u32 (Fr.rot x k.toNat : Nat)) ∧ w = w' := by
  obtain ⟨n, rfl⟩ := Int.eq_ofNat_of_zero_le h0
  exact Rot_any x n w hx (by omega)

/-- 'string(b[:])' of a new array of four bytes. -/
theorem conv4 (w : World) (t : TypeId) (a b c d : Int) :
    (convert 26 9 (.slice (some ⟨w.heap.size, 0, none⟩) 4 4)).run Try.prog (w.alloc (.cells #[.int .u8 a, .int .u8 b, .int .u8 c, .int .u8 d] t)) = .ok (.string ⟨#[UInt8.ofNat a.toNat, UInt8.ofNat b.toNat, UInt8.ofNat c.toNat, UInt8.ofNat d.toNat]⟩) (w.alloc (.cells #[.int .u8 a, .int .u8 b, .int .u8 c, .int .u8 d] t)) := by
  have h := run_convert_bytes_arg (P := Try.prog) (w.alloc (.cells #[.int .u8 a, .int .u8 b, .int .u8 c, .int .u8 d] t)) 26 5 Try.underlying26 Try.underlying5 w.heap.size 0 4 4 [a, b, c, d] rfl (fun i hi => by
    rw [World.cell?_alloc_mark]
    match i, hi with
    | 0, _ => rfl
    | 1, _ => rfl
    | 2, _ => rfl
    | 3, _ => rfl) 9 Try.underlying9
  exact h

theorem rot_byte (n : Nat) (hn : n < 4294967296) : Fr.rot n 8 % 256 = n / 16777216 % 256 ∧ Fr.rot n 16 % 256 = n / 65536 % 256 ∧ Fr.rot n 24 % 256 = n / 256 % 256 ∧ Fr.rot n 32 % 256 = n % 256 := by
  have h : ∀ a b : Nat, (a ||| b) % 256 = (a % 256) ||| (b % 256) := fun a b => Nat.or_mod_two_pow (n := 8)
  have z : ∀ b : Nat, 0 ||| b = b := Nat.zero_or
  refine ⟨?_, ?_, ?_, ?_⟩
  · show ((n * 256 % 4294967296) ||| (n / 16777216)) % 256 = _
    rw [h, show n * 256 % 4294967296 % 256 = 0 from by omega, z]
  · show ((n * 65536 % 4294967296) ||| (n / 65536)) % 256 = _
    rw [h, show n * 65536 % 4294967296 % 256 = 0 from by omega, z]
  · show ((n * 16777216 % 4294967296) ||| (n / 256)) % 256 = _
    rw [h, show n * 16777216 % 4294967296 % 256 = 0 from by omega, z]
  · show ((n * 1 % 4294967296) ||| (n / 4294967296)) % 256 = _
    rw [h, show n / 4294967296 % 256 = 0 from by omega, Nat.or_zero]
    omega

theorem byte_mod (a b : Nat) (h : a % 256 = b % 256) : UInt8.ofNat (a % 256) = UInt8.ofNat b := by
  rw [h]
  apply UInt8.toNat_inj.1
  simp

set_option maxHeartbeats 400000 in
theorem four_any (n : Nat) (w : World) (hn : n < 4294967296) :
    Calls Try.prog 19 #[.int .u32 (n : Int)] w fun e w' => e = .returned (.string ⟨(Fr.four n).toArray⟩) ∧ Below w.heap.size w w' := by
  have kc := conv4
  go_enter Try.func19, Try.ntmps19
  go_wp2
  refine wp_loop_rounds 5 ?_
  iterate 5
    rw [rounds_succ]
    go_wp2_with (go_at_call 24; refine (Rot_num _ _ _ hn (by omega) (by omega)).mono ?_; rintro e w' ⟨rfl, rfl⟩)
  go_ret
  obtain ⟨r1, r2, r3, r4⟩ := rot_byte n hn
  exact ⟨ret_str (by rw [byte_mod _ _ r1, byte_mod _ _ r2, byte_mod _ _ r3, byte_mod _ _ r4]; rfl), (Below.refl _ _).alloc (Nat.le_refl _) _⟩

set_option maxHeartbeats 400000 in
theorem Put_long (s : ByteArray) (w : World) (hs : 65536 < s.size) :
    Calls Try.prog 10 #[.string s] w fun e w' => e = .returned (.string ⟨(Fr.put s.data.toList).toArray⟩) ∧ Below w.heap.size w w' := by
  have HE : Hid (Fr.put s.data.toList = []) := by
    show _ = _
    unfold Fr.put; rw [if_pos (by simpa using hs)]
  go_enter Try.func10, Try.ntmps10
  go_wp2
  go_ret
  exact ⟨ret_str (by rw [HE.out]), Below.refl _ _⟩

theorem put_bytes (a b c : List UInt8) (s : ByteArray) (h : s.data.toList = c) : (⟨a.toArray⟩ ++ ⟨b.toArray⟩ ++ s : ByteArray) = ⟨(a ++ b ++ c).toArray⟩ := by
  apply ByteArray.ext
  apply Array.toList_inj.1
  simp [← h]

set_option maxHeartbeats 400000 in
theorem Put_short (s : ByteArray) (w : World) (hs : s.size ≤ 65536) :
    Calls Try.prog 10 #[.string s] w fun e w' => e = .returned (.string ⟨(Fr.put s.data.toList).toArray⟩) ∧ Below w.heap.size w w' := by
  have HE : Hid (Fr.put s.data.toList = Fr.four s.size ++ Fr.four (Fr.sum s.data.toList) ++ s.data.toList) := by
    show _ = _
    unfold Fr.put; rw [if_neg (by simp; omega)]
    simp
  have hl := Fr.sum_lt s.data.toList
  have h4 := Fr.four_length
  go_enter Try.func10, Try.ntmps10
  go_wp2_with fail
  refine (four_any _ _ (by omega)).mono ?_
  rintro e w1 ⟨rfl, hb1⟩
  go_wp2_with fail
  refine (Sum_any _ _ (by unfold maxLen; omega)).mono ?_
  rintro e w1 ⟨rfl, rfl⟩
  go_wp2_with fail
  refine (four_any _ _ (by omega)).mono ?_
  rintro e w2 ⟨rfl, hb2⟩
  go_wp2_with fail
  go_ret
  exact ⟨ret_str (by rw [HE.out]; exact put_bytes _ _ _ _ rfl), hb1.trans (hb2.mono hb1.size)⟩

theorem Put_any (s : ByteArray) (w : World) :
    Calls Try.prog 10 #[.string s] w fun e w' => e = .returned (.string ⟨(Fr.put s.data.toList).toArray⟩) ∧ Below w.heap.size w w' := by
  by_cases hs : s.size ≤ 65536
  · exact Put_short s w hs
  · exact Put_long s w (by omega)

set_option maxHeartbeats 400000 in
theorem HasPrefix_any (s t : ByteArray) (w : World) (_hs : s.size ≤ maxLen) (_ht : t.size ≤ maxLen) :
    Calls Try.prog 20 #[.string s, .string t] w fun e w' => e = .returned (.bool (Lib.hasPrefix s.data.toList t.data.toList)) ∧ w = w' := by
  unfold maxLen at _hs _ht
  have hp := Lib.hid (Lib.hasPrefix_raw s t)
  by_cases h : t.size ≤ s.size
  · go_enter Try.func20, Try.ntmps20
    go_wp2
    go_ret
    exact ⟨ret_bool (by rw [← hp.out, decide_eq_true h]; rfl), rfl⟩
  · go_enter Try.func20, Try.ntmps20
    go_wp2
    go_ret
    exact ⟨ret_bool (by rw [← hp.out, decide_eq_false h]; rfl), rfl⟩

end Go.Proofs.Ythcikclkocbhpaa
