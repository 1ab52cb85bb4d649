/- Plain laws of the chapter's numbers: how they are put as bytes, and what stands at a place. -/
import Derived.Test.YtalncnblcfcmcaaDoorKit
namespace Go.Proofs.YtalncnblcfcmcaaDoor
open Go.RowKit

namespace Wi
/-- a number as bytes: seven bits each, the last one below 128 -/
def putN : Nat → Nat → List UInt8
  | 0, u => [UInt8.ofNat u]
  | k + 1, u => if u < 128 then [UInt8.ofNat u] else UInt8.ofNat (u % 128 + 128) :: putN k (u / 128)
def put (u : Nat) : List UInt8 := putN 9 u

/-- a number, and how many bytes it has, at the beginning of a text -/
def dec : Nat → List UInt8 → Option (Nat × Nat)
  | 0, _ => none
  | _ + 1, [] => none
  | k + 1, b :: r => if b.toNat < 128 then some (b.toNat, 1) else (dec k r).map fun p => (b.toNat - 128 + 128 * p.1, p.2 + 1)

theorem byte_nat {n : Nat} (h : n < 256) : (UInt8.ofNat n).toNat = n := by simp; omega

theorem putN_ne (k u : Nat) : putN k u ≠ [] := by
  cases k with
  | zero => simp [putN]
  | succ k => unfold putN; split <;> simp
theorem putN_len (k : Nat) : ∀ u, 1 ≤ (putN k u).length ∧ (putN k u).length ≤ k + 1 := by
  induction k with
  | zero => intro u; simp [putN]
  | succ k ih =>
    intro u
    unfold putN
    split
    · simp
    · have := ih (u / 128)
      simp; omega

theorem dec_putN (k : Nat) : ∀ (u : Nat) (t : List UInt8), u < 128 ^ (k + 1) → dec (k + 1) (putN k u ++ t) = some (u, (putN k u).length) := by
  induction k with
  | zero =>
    intro u t hu
    have hu' : u < 128 := by simpa using hu
    simp only [putN, List.cons_append, List.nil_append, dec]
    rw [byte_nat (by omega), if_pos hu']
    rfl
  | succ k ih =>
    intro u t hu
    unfold putN
    split
    · rename_i h
      simp only [List.cons_append, List.nil_append, dec]
      rw [byte_nat (by omega), if_pos h]
      rfl
    · rename_i h
      have hd : u / 128 < 128 ^ (k + 1) := by
        rw [Nat.pow_succ] at hu
        exact Nat.div_lt_of_lt_mul (by rw [Nat.mul_comm]; exact hu)
      rw [List.cons_append, dec, byte_nat (by omega), if_neg (by omega), ih _ t hd]
      simp only [Option.map_some, List.length_cons]
      congr 2
      omega

theorem two64 : (18446744073709551616 : Nat) < 128 ^ (9 + 1) := by decide
theorem dec_put {u : Nat} (hu : u < 18446744073709551616) (t : List UInt8) : dec 10 (put u ++ t) = some (u, (put u).length) :=
  dec_putN 9 u t (Nat.lt_trans hu two64)
theorem put_len (u : Nat) : 1 ≤ (put u).length ∧ (put u).length ≤ 10 := putN_len 9 u
theorem put_ne (u : Nat) : put u ≠ [] := putN_ne 9 u

/-- none is a beginning of another one -/
theorem put_prefix {u v : Nat} (hu : u < 18446744073709551616) (hv : v < 18446744073709551616) {t r : List UInt8} (h : put u ++ t = put v ++ r) : u = v := by
  have h1 := dec_put hu t
  have h2 := dec_put hv r
  rw [h, h2] at h1
  simp at h1
  exact h1.1.symm
theorem put_inj {u v : Nat} (hu : u < 18446744073709551616) (hv : v < 18446744073709551616) (h : put u = put v) : u = v :=
  put_prefix hu hv (t := []) (r := []) (by simpa using h)

/-- what stands at the beginning of a text: a number, and how many bytes it has -/
def at0 (t : List UInt8) : Option (Nat × Nat) := match dec 10 t with
  | none => none
  | some (v, c) => if put (v % 18446744073709551616) = t.take c then some (v % 18446744073709551616, c) else none

theorem dec_len {k : Nat} : ∀ {t : List UInt8} {p : Nat × Nat}, dec k t = some p → 1 ≤ p.2 ∧ p.2 ≤ t.length ∧ p.2 ≤ k := by
  induction k with
  | zero => intro t p h; simp [dec] at h
  | succ k ih =>
    intro t p h
    cases t with
    | nil => simp [dec] at h
    | cons b r =>
      unfold dec at h
      split at h
      · cases h; simp
      · simp only [Option.map_eq_some_iff] at h
        obtain ⟨q, hq, rfl⟩ := h
        have := ih hq
        simp; omega

theorem at0_yes {u : Nat} (hu : u < 18446744073709551616) (t : List UInt8) : at0 (put u ++ t) = some (u, (put u).length) := by
  unfold at0
  rw [dec_put hu t]
  simp only
  rw [Nat.mod_eq_of_lt hu, List.take_left', if_pos rfl]
  rfl
theorem at0_some {t : List UInt8} {u c : Nat} (h : at0 t = some (u, c)) : u < 18446744073709551616 ∧ c = (put u).length ∧ t = put u ++ t.drop c ∧ t.take c = put u := by
  unfold at0 at h
  split at h
  · cases h
  · rename_i v c' hd
    split at h
    · rename_i he
      obtain ⟨e1, e2⟩ := Prod.mk.inj (Option.some.inj h)
      subst e1; subst e2
      have hl := dec_len hd
      have hc : c' = (put (v % 18446744073709551616)).length := by
        rw [he, List.length_take]
        have := hl.2.1
        simp only at this
        omega
      refine ⟨Nat.mod_lt _ (by decide), hc, ?_, he.symm⟩
      rw [he, List.take_append_drop]
    · cases h

/-- what so many bytes, each above 127, say -/
def low : List UInt8 → Nat
  | [] => 0
  | b :: r => b.toNat - 128 + 128 * low r

theorem low_snoc (l : List UInt8) (b : UInt8) : low (l ++ [b]) = low l + 128 ^ l.length * (b.toNat - 128) := by
  induction l with
  | nil => simp [low]
  | cons a r ih =>
    simp only [List.cons_append, low, ih, List.length_cons, Nat.pow_succ]
    rw [Nat.mul_add, ← Nat.mul_assoc, Nat.mul_comm 128 (128 ^ r.length)]
    omega
theorem low_lt (l : List UInt8) : low l < 128 ^ l.length := by
  induction l with
  | nil => simp [low]
  | cons a r ih =>
    have := UInt8.toNat_lt a
    simp only [low, List.length_cons, Nat.pow_succ]
    omega

theorem dec_low {k : Nat} : ∀ {l : List UInt8} (r : List UInt8), (∀ b ∈ l, 128 ≤ b.toNat) → l.length ≤ k → dec k (l ++ r) = (dec (k - l.length) r).map fun p => (low l + 128 ^ l.length * p.1, p.2 + l.length) := by
  induction k with
  | zero =>
    intro l r _ hk
    obtain rfl : l = [] := List.length_eq_zero_iff.1 (by omega)
    simp [dec]
  | succ k ih =>
    intro l r hl hk
    cases l with
    | nil => simp [low]
    | cons b l =>
      have hb := hl b (by simp)
      rw [List.cons_append, dec, if_neg (by omega), ih r (fun x hx => hl x (by simp [hx])) (by simpa using hk)]
      simp only [List.length_cons, Option.map_map, low]
      rw [show k + 1 - (l.length + 1) = k - l.length by omega]
      refine congrArg (fun g => Option.map g (dec (k - l.length) r)) (funext fun p => ?_)
      simp only [Function.comp, Prod.mk.injEq]
      refine ⟨?_, by omega⟩
      rw [Nat.pow_succ]
      generalize 128 ^ l.length = P
      rw [Nat.mul_add, show P * 128 * p.1 = 128 * (P * p.1) from by rw [Nat.mul_comm P 128, Nat.mul_assoc]]
      omega

end Wi
end Go.Proofs.YtalncnblcfcmcaaDoor
