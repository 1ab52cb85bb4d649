/- Plain laws of getting a number, byte by byte. -/
import Derived.Test.YtalncnblcfcmcaaDoorWiPut
import Derived.Lib.Strings
namespace Go.Proofs.YtalncnblcfcmcaaDoor
open Go.RowKit

namespace Wi
/-- what stands at a place: a number, where it ends, whether there is one -/
def get (s : ByteArray) (a : Int) : Nat × Int × Bool := if a < 0 then (0, 0, false) else
  match at0 (s.data.toList.drop a.toNat) with
  | none => (0, 0, false)
  | some (u, c) => (u, a + (c : Int), true)

/-- the number so far, with one byte more -/
def nx (u x j : Nat) : Nat := u ||| (x % 128 * 2 ^ (7 * j) % 18446744073709551616)

theorem nx_lt (u x j : Nat) (hu : u < 18446744073709551616) : nx u x j < 18446744073709551616 := by
  unfold nx
  exact Nat.or_lt_two_pow (n := 64) hu (Nat.mod_lt _ (by decide))

theorem pow7 (j : Nat) : 2 ^ (7 * j) = 128 ^ j := by rw [Nat.pow_mul]

theorem or_add (u b i : Nat) (h : u < 2 ^ i) : u ||| (b * 2 ^ i) = u + b * 2 ^ i := by
  rw [Nat.or_comm, Nat.mul_comm, ← Nat.two_pow_add_eq_or_of_lt h]
  omega

theorem pow_le {j : Nat} (h : j ≤ 8) : 128 ^ j ≤ 72057594037927936 := by
  have := Nat.pow_le_pow_right (n := 128) (by omega) h
  exact Nat.le_trans this (by decide)

theorem nx_low {u x j : Nat} (hu : u < 128 ^ j) (hj : j ≤ 9) : nx u x j = (u + 128 ^ j * (x % 128)) % 18446744073709551616 := by
  have hx : x % 128 < 128 := Nat.mod_lt _ (by omega)
  rcases Nat.lt_or_ge j 9 with h | h
  · have hp := pow_le (show j ≤ 8 by omega)
    have hm : x % 128 * 128 ^ j ≤ 127 * 72057594037927936 := Nat.mul_le_mul (by omega) hp
    have h1 : x % 128 * 2 ^ (7 * j) % 18446744073709551616 = x % 128 * 2 ^ (7 * j) := Nat.mod_eq_of_lt (by rw [pow7]; omega)
    unfold nx
    rw [h1, or_add u (x % 128) (7 * j) (by rw [pow7]; exact hu), pow7, Nat.mul_comm (x % 128) (128 ^ j)]
    rw [Nat.mul_comm] at hm
    exact (Nat.mod_eq_of_lt (by omega)).symm
  · obtain rfl : j = 9 := by omega
    have e : (128 : Nat) ^ 9 = 9223372036854775808 := by decide
    have e2 : (2 : Nat) ^ (7 * 9) = 9223372036854775808 := by decide
    rw [e] at hu ⊢
    have h2 : x % 128 * 9223372036854775808 % 18446744073709551616 = x % 2 * 2 ^ 63 := by
      rw [show (2 : Nat) ^ 63 = 9223372036854775808 from by decide]; omega
    unfold nx
    rw [e2, h2, or_add u (x % 2) 63 (by rw [show (2 : Nat) ^ 63 = 9223372036854775808 from by decide]; exact hu), show (2 : Nat) ^ 63 = 9223372036854775808 from by decide]
    omega

/-- behind some bytes, each above 127 -/
structure Scan (t : List UInt8) (j u : Nat) : Prop where
  hi : ∀ b ∈ t.take j, 128 ≤ b.toNat
  lo : j ≤ 9 → u = low (t.take j)
  lt : u < 18446744073709551616

theorem Scan.start (t : List UInt8) : Scan t 0 0 := ⟨by simp, fun _ => by simp [low], by decide⟩

theorem take_next {t : List UInt8} {j : Nat} (h : j < t.length) : t.take (j + 1) = t.take j ++ [t[j]] := by
  rw [List.take_succ_eq_append_getElem h]

theorem Scan.next {t : List UInt8} {j u : Nat} (h : Scan t j u) (hj : j < t.length) (h9 : j ≤ 9) (hb : 128 ≤ t[j].toNat) : Scan t (j + 1) (nx u t[j].toNat j) := by
  have hl : (t.take j).length = j := by simp; omega
  refine ⟨?_, ?_, nx_lt _ _ _ h.lt⟩
  · intro b hb'
    rw [take_next hj] at hb'
    rcases List.mem_append.1 hb' with hb' | hb'
    · exact h.hi b hb'
    · simp at hb'; subst hb'; exact hb
  · intro h8
    have hu := low_lt (t.take j)
    rw [hl, ← h.lo (by omega)] at hu
    have hp := pow_le (show j ≤ 8 by omega)
    rw [nx_low hu (by omega), take_next hj, low_snoc, hl, ← h.lo (by omega)]
    have hx := UInt8.toNat_lt t[j]
    rw [show t[j].toNat % 128 = t[j].toNat - 128 by omega]
    have hm : 128 ^ j * (t[j].toNat - 128) ≤ 72057594037927936 * 127 := Nat.mul_le_mul hp (by omega)
    exact Nat.mod_eq_of_lt (by omega)

theorem Scan.done {t : List UInt8} {j u : Nat} (h : Scan t j u) (hj : j < t.length) (h9 : j ≤ 9) (hb : t[j].toNat < 128) :
    at0 t = if put (nx u t[j].toNat j) = t.take (j + 1) then some (nx u t[j].toNat j, j + 1) else none := by
  have hl : (t.take j).length = j := by simp; omega
  have hd : dec 10 t = some (low (t.take j) + 128 ^ j * t[j].toNat, j + 1) := by
    have := dec_low (k := 10) (l := t.take j) (t.drop j) h.hi (by omega)
    rw [List.take_append_drop, hl, List.drop_eq_getElem_cons hj] at this
    obtain ⟨m, hm⟩ : ∃ m, 10 - j = m + 1 := ⟨9 - j, by omega⟩
    rw [this, hm, dec, if_pos hb]
    simp; omega
  have hu := low_lt (t.take j)
  rw [hl, ← h.lo h9] at hu
  unfold at0
  rw [hd, ← h.lo h9]
  simp only
  rw [nx_low hu h9, show t[j].toNat % 128 = t[j].toNat by omega]

theorem Scan.never {t : List UInt8} {j u : Nat} (h : Scan t j u) (hj : j ≤ t.length) (he : j = 10 ∨ j = t.length ∧ j ≤ 10) : at0 t = none := by
  have hl : (t.take j).length = j := by simp; omega
  have hd : dec 10 t = none := by
    have := dec_low (k := 10) (l := t.take j) (t.drop j) h.hi (by omega)
    rw [List.take_append_drop, hl] at this
    rw [this]
    rcases he with rfl | ⟨rfl, h10⟩
    · rfl
    · rw [List.drop_length]
      cases 10 - t.length <;> rfl
  unfold at0
  rw [hd]

theorem or_step (U x j : Nat) (hU : U < 18446744073709551616) (hx : x < 256) :
    bits .or .u64 (U : Int) (IntKind.u64.wrap (IntKind.u64.wrap (bits .andNot .u8 (x : Int) 128) * 2 ^ (7 * j))) = ((nx U x j : Nat) : Int) := by
  have h1 := u8_andNot_nat x 128 hx (by omega)
  have e : x &&& (255 - 128) = x % 128 := Nat.and_two_pow_sub_one_eq_mod x 7
  rw [e] at h1
  rw [show ((128 : Nat) : Int) = (128 : Int) from rfl] at h1
  rw [h1]
  have h2 : IntKind.u64.wrap ((x % 128 : Nat) : Int) = ((x % 128 : Nat) : Int) := by rw [IntKind.wrap_u64]; omega
  rw [h2]
  have h3 : ((x % 128 : Nat) : Int) * 2 ^ (7 * j) = ((x % 128 * 2 ^ (7 * j) : Nat) : Int) := by
    rw [Int.natCast_mul, Int.natCast_pow]; rfl
  rw [h3]
  have h4 : IntKind.u64.wrap ((x % 128 * 2 ^ (7 * j) : Nat) : Int) = ((x % 128 * 2 ^ (7 * j) % 18446744073709551616 : Nat) : Int) := by rw [IntKind.wrap_u64]; omega
  rw [h4, u64_or_nat _ _ hU (Nat.mod_lt _ (by decide))]
  rfl

end Wi
end Go.Proofs.YtalncnblcfcmcaaDoor
