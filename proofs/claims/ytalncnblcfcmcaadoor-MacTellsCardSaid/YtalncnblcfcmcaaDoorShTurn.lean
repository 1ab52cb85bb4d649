/- The walks of bits.RotateLeft32 and sha.turn. -/
import Derived.Test.YtalncnblcfcmcaaDoorKit
import Derived.Laws.BitsAllLaws
namespace Go.Proofs.YtalncnblcfcmcaaDoor
open Go.RowKit

namespace Sh
def rotr (x n : Nat) : Nat := (x * 2 ^ (32 - n) % 4294967296) ||| (x / 2 ^ n)
def add (a b : Nat) : Nat := (a + b) % 4294967296
def sig0 (x : Nat) : Nat := rotr x 7 ^^^ rotr x 18 ^^^ (x / 8)
def sig1 (y : Nat) : Nat := rotr y 17 ^^^ rotr y 19 ^^^ (y / 1024)
/-- four bytes as a word -/
def four (a b c d : Nat) : Nat := a * 16777216 ||| b * 65536 ||| c * 256 ||| d
def word (b : List UInt8) (i : Nat) : Nat := four (b.getD (4 * i) 0).toNat (b.getD (4 * i + 1) 0).toNat (b.getD (4 * i + 2) 0).toNat (b.getD (4 * i + 3) 0).toNat
/-- a word that is made of those ahead of it -/
def made (l : List Nat) (i : Nat) : Nat := add (add (add (l.getD (i - 16) 0) (sig0 (l.getD (i - 15) 0))) (l.getD (i - 7) 0)) (sig1 (l.getD (i - 2) 0))
def wstep (b : List UInt8) (l : List Nat) : List Nat := l ++ [if l.length < 16 then word b l.length else made l l.length]
def wordsN (b : List UInt8) : Nat → List Nat
  | 0 => []
  | k + 1 => wstep b (wordsN b k)
def words (b : List UInt8) : List Nat := wordsN b 64

/-- eight words -/
structure V where
  a : Nat
  b : Nat
  c : Nat
  d : Nat
  e : Nat
  f : Nat
  g : Nat
  h : Nat

def one (k w : Nat) (v : V) : Nat := add (add (add (add v.h (rotr v.e 6 ^^^ rotr v.e 11 ^^^ rotr v.e 25)) (v.e &&& v.f ^^^ (4294967295 ^^^ v.e) &&& v.g)) k) w
def two (v : V) : Nat := add (rotr v.a 2 ^^^ rotr v.a 13 ^^^ rotr v.a 22) (v.a &&& v.b ^^^ v.a &&& v.c ^^^ v.b &&& v.c)
def rnd (k w : Nat) (v : V) : V := ⟨add (one k w v) (two v), v.a, v.b, v.c, add v.d (one k w v), v.e, v.f, v.g⟩
def K : List Nat := [0x428a2f98, 0x71374491, 0xb5c0fbcf, 0xe9b5dba5, 0x3956c25b, 0x59f111f1, 0x923f82a4, 0xab1c5ed5,
  0xd807aa98, 0x12835b01, 0x243185be, 0x550c7dc3, 0x72be5d74, 0x80deb1fe, 0x9bdc06a7, 0xc19bf174,
  0xe49b69c1, 0xefbe4786, 0x0fc19dc6, 0x240ca1cc, 0x2de92c6f, 0x4a7484aa, 0x5cb0a9dc, 0x76f988da,
  0x983e5152, 0xa831c66d, 0xb00327c8, 0xbf597fc7, 0xc6e00bf3, 0xd5a79147, 0x06ca6351, 0x14292967,
  0x27b70a85, 0x2e1b2138, 0x4d2c6dfc, 0x53380d13, 0x650a7354, 0x766a0abb, 0x81c2c92e, 0x92722c85,
  0xa2bfe8a1, 0xa81a664b, 0xc24b8b70, 0xc76c51a3, 0xd192e819, 0xd6990624, 0xf40e3585, 0x106aa070,
  0x19a4c116, 0x1e376c08, 0x2748774c, 0x34b0bcb5, 0x391c0cb3, 0x4ed8aa4a, 0x5b9cca4f, 0x682e6ff3,
  0x748f82ee, 0x78a5636f, 0x84c87814, 0x8cc70208, 0x90befffa, 0xa4506ceb, 0xbef9a3f7, 0xc67178f2]
def H0 : V := ⟨0x6a09e667, 0xbb67ae85, 0x3c6ef372, 0xa54ff53a, 0x510e527f, 0x9b05688c, 0x1f83d9ab, 0x5be0cd19⟩
/-- behind so many rounds -/
def rounds (w : List Nat) (v : V) : Nat → V
  | 0 => v
  | k + 1 => rnd (K.getD k 0) (w.getD k 0) (rounds w v k)
def plus (v h : V) : V := ⟨add v.a h.a, add v.b h.b, add v.c h.c, add v.d h.d, add v.e h.e, add v.f h.f, add v.g h.g, add v.h h.h⟩
def block (h : V) (b : List UInt8) : V := plus (rounds (words b) h 64) h

/-- how many zeros are added to a text -/
def zeros (n : Nat) : Nat := (119 - n % 64) % 64
def len8 (n : Nat) : List UInt8 := (List.range 8).map fun i => UInt8.ofNat (n / 2 ^ (8 * (7 - i)) % 256)
def padded (s : List UInt8) : List UInt8 := s ++ [128] ++ List.replicate (zeros s.length) 0 ++ len8 (s.length * 8 % 18446744073709551616)
/-- so many blocks of a text -/
def blocks (t : List UInt8) (h : V) : Nat → V
  | 0 => h
  | k + 1 => block (blocks t h k) ((t.drop (64 * k)).take 64)
def out4 (x : Nat) : List UInt8 := [UInt8.ofNat (x / 16777216 % 256), UInt8.ofNat (x / 65536 % 256), UInt8.ofNat (x / 256 % 256), UInt8.ofNat (x % 256)]
def out (v : V) : List UInt8 := out4 v.a ++ out4 v.b ++ out4 v.c ++ out4 v.d ++ out4 v.e ++ out4 v.f ++ out4 v.g ++ out4 v.h
def sum (s : List UInt8) : List UInt8 := out (blocks (padded s) H0 ((padded s).length / 64))

def digit (n : Nat) : UInt8 := UInt8.ofNat (if n < 10 then 48 + n else 87 + n)
def hex (s : List UInt8) : List UInt8 := s.flatMap fun b => [digit (b.toNat / 16), digit (b.toNat % 16)]

end Sh
end Go.Proofs.YtalncnblcfcmcaaDoor

namespace Go.Proofs.YtalncnblcfcmcaaDoor
open Go.RowKit

theorem mask5 (a : Nat) : a &&& 31 = a % 32 := Nat.and_two_pow_sub_one_eq_mod a 5

theorem rot_and (n : Nat) (h1 : 1 ≤ n) (h2 : n ≤ 31) : bits .and .u64 (IntKind.u64.wrap (-(n : Int))) 31 = ((32 - n : Nat) : Int) := by
  rw [show IntKind.u64.wrap (-(n : Int)) = ((18446744073709551616 - n : Nat) : Int) from by rw [IntKind.wrap_u64]; omega]
  have h := u64_and_nat (18446744073709551616 - n) 31 (by omega) (by omega)
  rw [mask5, show (18446744073709551616 - n) % 32 = 32 - n by omega] at h
  exact h

theorem rotr_int (x n : Nat) (hx : x < 4294967296) : bits .or .u32 ((x : Int) * 2 ^ (32 - n) % 4294967296) ((x : Int) / 2 ^ n) = ((Sh.rotr x n : Nat) : Int) := by
  have h1 : ((x : Int) * 2 ^ (32 - n) % 4294967296) = ((x * 2 ^ (32 - n) % 4294967296 : Nat) : Int) := by
    rw [Int.natCast_emod, Int.natCast_mul, Int.natCast_pow]; rfl
  have h2 : ((x : Int) / 2 ^ n) = ((x / 2 ^ n : Nat) : Int) := by
    rw [Int.natCast_ediv, Int.natCast_pow]; rfl
  have h3 : x / 2 ^ n ≤ x := Nat.div_le_self _ _
  rw [h1, h2, u32_or_nat _ _ (Nat.mod_lt _ (by omega)) (by omega)]
  rfl

set_option maxHeartbeats 1000000 in
theorem turn_any (x n : Nat) (w : World) (hx : x < 4294967296) (h1 : 1 ≤ n) (h2 : n ≤ 31) :
    Calls Tryd.prog 68 #[.int .u32 (x : Int), .int .i64 (n : Int)] w fun e w' => e = .returned (.int .u32 (Sh.rotr x n : Nat)) ∧ w = w' := by
  have hand := rot_and n h1 h2
  obtain ⟨m, hm⟩ : ∃ m, 32 - n = m := ⟨_, rfl⟩
  have H := Lib.hid (rotr_int x n hx)
  rw [hm] at hand H
  have hn : (1 : Int) ≤ (n : Int) := by omega
  have hn2 : (n : Int) ≤ 31 := by omega
  have hm3 : (32 : Int) - (m : Int) = (n : Int) := by omega
  have hm0 : (0 : Int) ≤ (m : Int) := by omega
  have hm1 : (m : Int) ≤ 31 := by omega
  clear hm
  go_enter Tryd.func68, Tryd.ntmps68
  go_wp2
  go_ret
  exact ⟨ret_int H.out, rfl⟩

end Go.Proofs.YtalncnblcfcmcaaDoor
