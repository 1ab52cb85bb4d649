/- The plain laws of chapter 8 (frame): what the plain functions answer, with no program in sight. -/
import Derived.Test.YthcikclkocbhpaaFrPlain
namespace Go.Proofs.Ythcikclkocbhpaa
namespace Fr

/-! the sum is linear -/

theorem half_xor (x y : Nat) : (x ^^^ y) / 2 = (x / 2) ^^^ (y / 2) := by
  apply Nat.eq_of_testBit_eq
  intro i
  rw [Nat.testBit_div_two, Nat.testBit_xor, Nat.testBit_xor, Nat.testBit_div_two, Nat.testBit_div_two]

theorem odd_xor (x y : Nat) : (x ^^^ y) % 2 = (x % 2) ^^^ (y % 2) := Nat.xor_mod_two_pow (n := 1)

theorem poly_xor (a b : Nat) (ha : a < 2) (hb : b < 2) : 3988292384 * (a ^^^ b) = (3988292384 * a) ^^^ (3988292384 * b) := by
  have h1 : a = 0 ∨ a = 1 := by omega
  have h2 : b = 0 ∨ b = 1 := by omega
  rcases h1 with rfl | rfl <;> rcases h2 with rfl | rfl <;> decide

theorem xor_swap (a b c d : Nat) : (a ^^^ b) ^^^ (c ^^^ d) = (a ^^^ c) ^^^ (b ^^^ d) := by
  rw [Nat.xor_assoc, ← Nat.xor_assoc b c d, Nat.xor_comm b c, Nat.xor_assoc c b d, ← Nat.xor_assoc]

theorem bit_xor (x y : Nat) : bit (x ^^^ y) = bit x ^^^ bit y := by
  unfold bit
  rw [half_xor, odd_xor, poly_xor _ _ (Nat.mod_lt _ (by omega)) (Nat.mod_lt _ (by omega))]
  exact xor_swap _ _ _ _

theorem bits_xor (x y k : Nat) : bits (x ^^^ y) k = bits x k ^^^ bits y k := by
  induction k with
  | zero => rfl
  | succ k ih => show bit (bits (x ^^^ y) k) = bit (bits x k) ^^^ bit (bits y k); rw [ih, bit_xor]

theorem bits_zero (k : Nat) : bits 0 k = 0 := by
  induction k with
  | zero => rfl
  | succ k ih => show bit (bits 0 k) = 0; rw [ih]; rfl

theorem step_xor (r s b c : Nat) : step (r ^^^ s) (b ^^^ c) = step r b ^^^ step s c := by
  unfold step
  rw [xor_swap r s b c, bits_xor]

/-- two texts, byte by byte -/
def mix (a b : List UInt8) : List UInt8 := List.zipWith (fun x y => x ^^^ y) a b

theorem run_mix : ∀ (a b : List UInt8) (r s : Nat), a.length = b.length → run (r ^^^ s) (mix a b) = run r a ^^^ run s b
  | [], [], _, _, _ => rfl
  | [], _ :: _, _, _, h => by cases h
  | _ :: _, [], _, _, h => by cases h
  | x :: a, y :: b, r, s, h => by
    show run (step (r ^^^ s) (x ^^^ y).toNat) (mix a b) = run (step r x.toNat) a ^^^ run (step s y.toNat) b
    rw [UInt8.toNat_xor, step_xor]
    exact run_mix a b _ _ (by simpa using h)

theorem mix_length (a b : List UInt8) (h : a.length = b.length) : (mix a b).length = a.length := by
  unfold mix; rw [List.length_zipWith, h]; omega

theorem sum_three (F : Nat) (a b c : List UInt8) (h1 : a.length = b.length) (h2 : a.length = c.length) :
    (F ^^^ F ^^^ F) ^^^ run (F ^^^ F ^^^ F) (mix (mix a b) c) = (F ^^^ run F a) ^^^ (F ^^^ run F b) ^^^ (F ^^^ run F c) := by
  rw [run_mix (mix a b) c _ _ (by rw [mix_length a b h1, h2]), run_mix a b _ _ h1]
  rw [xor_swap F _ F _, xor_swap (F ^^^ F) _ F _]

/-- any three make the fourth -/
theorem sum_mix (a b c : List UInt8) (h1 : a.length = b.length) (h2 : a.length = c.length) : sum (mix (mix a b) c) = sum a ^^^ sum b ^^^ sum c := by
  have h := sum_three 4294967295 a b c h1 h2
  rw [show (4294967295 ^^^ 4294967295 ^^^ 4294967295 : Nat) = 4294967295 from by decide] at h
  exact h

/-! a record of which a run of up to 32 bits is turned -/

theorem bit_even (y : Nat) : bit (2 * y) = y := by
  unfold bit
  rw [show 2 * y / 2 = y from by omega, show 2 * y % 2 = 0 from by omega]
  exact Nat.xor_zero y

theorem bits_shift (y : Nat) : ∀ k j, bits (2 ^ (k + j) * y) k = 2 ^ j * y
  | 0, j => by simp [bits]
  | k + 1, j => by
    show bit (bits (2 ^ (k + 1 + j) * y) k) = _
    rw [show k + 1 + j = k + (j + 1) from by omega, bits_shift y k (j + 1), Nat.pow_succ, show 2 ^ j * 2 * y = 2 * (2 ^ j * y) from by rw [Nat.mul_comm (2 ^ j) 2, Nat.mul_assoc]]
    exact bit_even _

theorem bit_inj (x : Nat) (hx : x < 4294967296) (h : bit x = 0) : x = 0 := by
  unfold bit at h
  have h2 : x % 2 = 0 ∨ x % 2 = 1 := by omega
  rcases h2 with h2 | h2
  · rw [h2, Nat.mul_zero, Nat.xor_zero] at h; omega
  · rw [h2, Nat.mul_one] at h
    have : x / 2 = 3988292384 := by
      have := congrArg (fun z => z ^^^ 3988292384) h
      simpa [Nat.xor_assoc] using this
    omega

theorem bits_inj (x : Nat) (hx : x < 4294967296) : ∀ k, bits x k = 0 → x = 0
  | 0, h => h
  | k + 1, h => bits_inj x hx k (bit_inj _ (bits_lt x hx k) h)

theorem bits_add (x j : Nat) : ∀ k, bits (bits x j) k = bits x (j + k)
  | 0 => rfl
  | k + 1 => by show bit (bits (bits x j) k) = bit (bits x (j + k)); rw [bits_add x j k]

theorem run_zeros (r : Nat) : ∀ n, run r (List.replicate n 0) = bits r (8 * n)
  | 0 => rfl
  | n + 1 => by
    rw [List.replicate_succ]
    show run (step r 0) (List.replicate n 0) = _
    rw [run_zeros (step r 0) n]
    unfold step
    rw [Nat.xor_zero, bits_add, show 8 + 8 * n = 8 * (n + 1) from by omega]

theorem run_append (r : Nat) (a b : List UInt8) : run r (a ++ b) = run (run r a) b := by simp [run, List.foldl_append]

theorem run_four (d0 d1 d2 d3 : UInt8) : run 0 [d0, d1, d2, d3] = bits (d0.toNat ^^^ 256 * d1.toNat ^^^ 65536 * d2.toNat ^^^ 16777216 * d3.toNat) 32 := by
  show step (step (step (step 0 d0.toNat) d1.toNat) d2.toNat) d3.toNat = _
  have e1 := bits_shift d1.toNat 8 0
  have e2 := bits_shift d2.toNat 16 0
  have e3 := bits_shift d3.toNat 24 0
  rw [Nat.pow_zero, Nat.one_mul] at e1 e2 e3
  unfold step
  rw [Nat.zero_xor]
  conv => lhs; rw [← e1, ← bits_xor, bits_add, ← e2, ← bits_xor, bits_add, ← e3, ← bits_xor, bits_add]

theorem four_ne (d0 d1 d2 d3 : UInt8) (h : ¬ (d0 = 0 ∧ d1 = 0 ∧ d2 = 0 ∧ d3 = 0)) : run 0 [d0, d1, d2, d3] ≠ 0 := by
  intro h0
  rw [run_four] at h0
  have b0 := d0.toNat_lt
  have b1 := d1.toNat_lt
  have b2 := d2.toNat_lt
  have b3 := d3.toNat_lt
  have hx : d0.toNat ^^^ 256 * d1.toNat ^^^ 65536 * d2.toNat ^^^ 16777216 * d3.toNat = 0 :=
    bits_inj _ (Nat.xor_lt_two_pow (n := 32) (Nat.xor_lt_two_pow (n := 32) (Nat.xor_lt_two_pow (n := 32) (by omega) (by omega)) (by omega)) (by omega)) 32 h0
  have m : ∀ x y : Nat, (x ^^^ y) % 256 = (x % 256) ^^^ (y % 256) := fun x y => Nat.xor_mod_two_pow (n := 8)
  have v : ∀ x y : Nat, (x ^^^ y) / 256 = (x / 256) ^^^ (y / 256) := fun x y => Nat.xor_div_two_pow (n := 8)
  have z : ∀ x : Nat, x ^^^ 0 = x := Nat.xor_zero
  have z' : ∀ x : Nat, 0 ^^^ x = x := Nat.zero_xor
  have y0 := congrArg (· % 256) hx
  simp only [m] at y0
  rw [show d0.toNat % 256 = d0.toNat from by omega, show 256 * d1.toNat % 256 = 0 from by omega, show 65536 * d2.toNat % 256 = 0 from by omega, show 16777216 * d3.toNat % 256 = 0 from by omega, z, z, z] at y0
  have x1 := congrArg (· / 256) hx
  simp only [v] at x1
  rw [show d0.toNat / 256 = 0 from by omega, show 256 * d1.toNat / 256 = d1.toNat from by omega, show 65536 * d2.toNat / 256 = 256 * d2.toNat from by omega, show 16777216 * d3.toNat / 256 = 65536 * d3.toNat from by omega, z'] at x1
  have y1 := congrArg (· % 256) x1
  simp only [m] at y1
  rw [show d1.toNat % 256 = d1.toNat from by omega, show 256 * d2.toNat % 256 = 0 from by omega, show 65536 * d3.toNat % 256 = 0 from by omega, z, z] at y1
  have x2 := congrArg (· / 256) x1
  simp only [v] at x2
  rw [show d1.toNat / 256 = 0 from by omega, show 256 * d2.toNat / 256 = d2.toNat from by omega, show 65536 * d3.toNat / 256 = 256 * d3.toNat from by omega, z'] at x2
  have y2 := congrArg (· % 256) x2
  simp only [m] at y2
  rw [show d2.toNat % 256 = d2.toNat from by omega, show 256 * d3.toNat % 256 = 0 from by omega, z] at y2
  have x3 := congrArg (· / 256) x2
  simp only [v] at x3
  rw [show d2.toNat / 256 = 0 from by omega, show 256 * d3.toNat / 256 = d3.toNat from by omega, z'] at x3
  exact h ⟨UInt8.toNat_inj.1 y0, UInt8.toNat_inj.1 y1, UInt8.toNat_inj.1 y2, UInt8.toNat_inj.1 x3⟩

theorem run_lin (r : Nat) (a b : List UInt8) (h : a.length = b.length) : run r a ^^^ run r b = run 0 (mix a b) := by
  have := run_mix a b r r h
  rw [Nat.xor_self] at this
  exact this.symm

/-- four bytes behind p others, of n behind them, turned by d0 .. d3 -/
theorem sum_spoilt (p q : List UInt8) (s0 s1 s2 s3 d0 d1 d2 d3 : UInt8) (h : ¬ (d0 = 0 ∧ d1 = 0 ∧ d2 = 0 ∧ d3 = 0)) :
    sum (p ++ [s0 ^^^ d0, s1 ^^^ d1, s2 ^^^ d2, s3 ^^^ d3] ++ q) ≠ sum (p ++ [s0, s1, s2, s3] ++ q) := by
  intro e
  have e1 : run 4294967295 (p ++ [s0 ^^^ d0, s1 ^^^ d1, s2 ^^^ d2, s3 ^^^ d3] ++ q) = run 4294967295 (p ++ [s0, s1, s2, s3] ++ q) := by
    have := congrArg (fun z => 4294967295 ^^^ z) e
    simpa [sum, ← Nat.xor_assoc] using this
  have e2 : ∀ a b : Nat, a = b → a ^^^ b = 0 := fun a b h => by rw [h, Nat.xor_self]
  have e3 := e2 _ _ e1
  rw [run_lin _ _ _ (by simp)] at e3
  have e4 : mix (p ++ [s0 ^^^ d0, s1 ^^^ d1, s2 ^^^ d2, s3 ^^^ d3] ++ q) (p ++ [s0, s1, s2, s3] ++ q) = List.replicate p.length 0 ++ [d0, d1, d2, d3] ++ List.replicate q.length 0 := by
    have hs : ∀ l : List UInt8, List.zipWith (fun x y => x ^^^ y) l l = List.replicate l.length 0 := fun l => by
      induction l with
      | nil => rfl
      | cons x l ih => rw [List.zipWith_cons_cons, ih, List.length_cons, List.replicate_succ, UInt8.xor_self]
    have hc : ∀ a b : UInt8, a ^^^ b ^^^ a = b := fun a b => by rw [UInt8.xor_comm, ← UInt8.xor_assoc, UInt8.xor_self, UInt8.zero_xor]
    unfold mix
    rw [List.zipWith_append (by simp), List.zipWith_append (by simp), hs, hs]
    simp [hc]
  rw [e4, run_append, run_append, run_zeros, run_zeros, bits_zero] at e3
  have hlt : run 0 [d0, d1, d2, d3] < 4294967296 := run_lt _ _ (by omega)
  exact four_ne d0 d1 d2 d3 h (bits_inj _ hlt _ e3)

/-! a number in four bytes -/

theorem num_four (n : Nat) (hn : n < 4294967296) (l : List UInt8) : num (four n ++ l) = n := by
  unfold num
  rw [List.take_append_of_le_length (by simp [four_length]), List.take_of_length_le (by simp [four_length])]
  simp [four]
  omega

theorem four_inj (a b : Nat) (ha : a < 4294967296) (hb : b < 4294967296) (h : four a = four b) : a = b := by
  have e1 := num_four a ha []
  have e2 := num_four b hb []
  rw [h] at e1
  exact e1.symm.trans e2

/-! what is put is told -/

theorem next_put (p b q : List UInt8) (hb : b.length ≤ 65536) : next (p ++ put b ++ q) p.length = some b := by
  have hl := put_length b hb
  have hp : put b = four b.length ++ four (sum b) ++ b := by unfold put; rw [if_neg (by omega)]
  have e1 : (p ++ put b ++ q).drop p.length = put b ++ q := by rw [List.append_assoc, List.drop_left]
  have e2 : num (put b ++ q) = b.length := by rw [hp, List.append_assoc, List.append_assoc]; exact num_four _ (by omega) _
  have e3 : ((p ++ put b ++ q).drop (p.length + 8)).take b.length = b := by
    rw [← List.drop_drop, e1, hp]
    rw [show four b.length ++ four (sum b) ++ b ++ q = (four b.length ++ four (sum b)) ++ (b ++ q) from by simp]
    rw [List.drop_append_of_le_length (by simp [four_length]), List.drop_of_length_le (by simp [four_length]), List.nil_append]
    simp
  unfold next
  rw [e1, e2, e3]
  rw [if_neg (by simp; omega), if_neg (by simp; omega), if_pos (by simp [List.isPrefixOf_iff_prefix])]

/-- what is told is put as the bytes that stand there -/
theorem put_next {s b : List UInt8} {k : Nat} (h : next s k = some b) : (s.drop k).take (b.length + 8) = put b := by
  have hb := next_some h
  unfold next at h
  rw [if_neg (by omega)] at h
  by_cases h2 : 65536 < num (s.drop k) ∨ s.length < k + 8 + num (s.drop k)
  · rw [if_pos h2] at h; cases h
  rw [if_neg h2] at h
  by_cases h3 : (put ((s.drop (k + 8)).take (num (s.drop k)))).isPrefixOf (s.drop k) = true
  · rw [if_pos h3] at h
    cases h
    have hp := List.isPrefixOf_iff_prefix.1 h3
    rw [List.prefix_iff_eq_take, put_length _ hb.2.1] at hp
    exact hp.symm
  · rw [if_neg h3] at h; cases h

/-- no beginning of a record, behind others, is one -/
theorem next_torn (p b : List UInt8) (c : Nat) (hc : c < (put b).length) (hb : b.length ≤ 65536) : next (p ++ (put b).take c) p.length = none := by
  have hl := put_length b hb
  have hp : put b = four b.length ++ four (sum b) ++ b := by unfold put; rw [if_neg (by omega)]
  unfold next
  by_cases h8 : c < 8
  · rw [if_pos (by simp; omega)]
  · have e1 : (p ++ (put b).take c).drop p.length = (put b).take c := List.drop_left
    have e2 : num ((put b).take c) = b.length := by
      have : (put b).take c = four b.length ++ (four (sum b) ++ b).take (c - 4) := by
        rw [hp, List.append_assoc, List.take_append, four_length, List.take_of_length_le (by simp [four_length]; omega)]
      rw [this]; exact num_four _ (by omega) _
    rw [e1, e2, if_neg (by simp; omega), if_pos (by simp; omega)]

theorem byte_zero {n : Nat} (h : UInt8.ofNat n = 0) : n % 256 = 0 := by
  have := congrArg UInt8.toNat h
  simpa using this

/-- four bytes of a text turned by the four bytes of a number that is not nought: another sum -/
theorem sum_set (L L1 L2 L3 L4 : List UInt8) (K b : Nat) (v0 v1 v2 v3 : UInt8) (hK : K + 4 ≤ L.length) (hb : b ≠ 0) (hlt : b < 4294967296)
    (l0 : K < L.length) (e0 : L[K] ^^^ UInt8.ofNat (b / 16777216) = v0) (h0 : L.set K v0 = L1)
    (l1 : K + 1 < L1.length) (e1 : L1[K + 1] ^^^ UInt8.ofNat (b / 65536) = v1) (h1 : L1.set (K + 1) v1 = L2)
    (l2 : K + 2 < L2.length) (e2 : L2[K + 2] ^^^ UInt8.ofNat (b / 256) = v2) (h2 : L2.set (K + 2) v2 = L3)
    (l3 : K + 3 < L3.length) (e3 : L3[K + 3] ^^^ UInt8.ofNat b = v3) (h3 : L3.set (K + 3) v3 = L4) : sum L4 ≠ sum L := by
  obtain ⟨p, q, s0, s1, s2, s3, hp, rfl⟩ : ∃ p q s0 s1 s2 s3, p.length = K ∧ L = p ++ [s0, s1, s2, s3] ++ q := by
    refine ⟨L.take K, L.drop (K + 4), L[K], L[K + 1], L[K + 2], L[K + 3], by simp; omega, ?_⟩
    conv => lhs; rw [← List.take_append_drop K L]
    rw [List.drop_eq_getElem_cons (by omega), List.drop_eq_getElem_cons (by omega), List.drop_eq_getElem_cons (by omega), List.drop_eq_getElem_cons (by omega)]
    simp
  subst hp
  have g : ∀ (a0 a1 a2 a3 : UInt8) (j : Nat) (hj : p.length + j < (p ++ [a0, a1, a2, a3] ++ q).length) (hj4 : j < 4), (p ++ [a0, a1, a2, a3] ++ q)[p.length + j] = [a0, a1, a2, a3][j] := by
    intro a0 a1 a2 a3 j hj hj4
    rw [List.getElem_append_left (by simp; omega), List.getElem_append_right (by omega)]
    simp
  have st : ∀ (a0 a1 a2 a3 v : UInt8) (j : Nat), j < 4 → (p ++ [a0, a1, a2, a3] ++ q).set (p.length + j) v = p ++ [a0, a1, a2, a3].set j v ++ q := by
    intro a0 a1 a2 a3 v j hj
    rw [List.set_append_left _ _ (by simp; omega), List.set_append_right _ _ (by omega)]
    simp
  have e0' := g s0 s1 s2 s3 0 (by simp) (by omega)
  simp only [Nat.add_zero] at e0'
  rw [e0'] at e0
  have h0' := st s0 s1 s2 s3 v0 0 (by omega)
  simp only [Nat.add_zero] at h0'
  rw [h0'] at h0
  subst h0
  simp only [List.set_cons_zero] at l1 e1 h1
  rw [g v0 s1 s2 s3 1 (by simp) (by omega)] at e1
  rw [st v0 s1 s2 s3 v1 1 (by omega)] at h1
  subst h1
  simp only [List.set_cons_succ, List.set_cons_zero] at l2 e2 h2
  rw [g v0 v1 s2 s3 2 (by simp) (by omega)] at e2
  rw [st v0 v1 s2 s3 v2 2 (by omega)] at h2
  subst h2
  simp only [List.set_cons_succ, List.set_cons_zero] at l3 e3 h3
  rw [g v0 v1 v2 s3 3 (by simp) (by omega)] at e3
  rw [st v0 v1 v2 s3 v3 3 (by omega)] at h3
  subst h3
  simp only [List.set_cons_succ, List.set_cons_zero]
  change s0 ^^^ _ = v0 at e0
  change s1 ^^^ _ = v1 at e1
  change s2 ^^^ _ = v2 at e2
  change s3 ^^^ _ = v3 at e3
  subst e0 e1 e2 e3
  refine sum_spoilt p q s0 s1 s2 s3 _ _ _ _ ?_
  rintro ⟨z0, z1, z2, z3⟩
  have y0 := byte_zero z0
  have y1 := byte_zero z1
  have y2 := byte_zero z2
  have y3 := byte_zero z3
  omega

/-- a body of another sum behind a record's head is no record -/
theorem next_spoilt (L M : List UInt8) (hL : L.length ≤ 65536) (hM : M.length = L.length) (hs : sum M ≠ sum L) : next ((put L).take 8 ++ M) 0 = none := by
  have hp : put L = four L.length ++ four (sum L) ++ L := by unfold put; rw [if_neg (by omega)]
  have hp' : put M = four L.length ++ four (sum M) ++ M := by unfold put; rw [if_neg (by omega), hM]
  have ht : (put L).take 8 = four L.length ++ four (sum L) := by
    rw [hp, List.take_append_of_le_length (by simp [four_length]), List.take_of_length_le (by simp [four_length])]
  have e2 : num (four L.length ++ four (sum L) ++ M) = L.length := by rw [List.append_assoc]; exact num_four _ (by omega) _
  unfold next
  rw [ht, List.drop_zero, e2]
  by_cases h1 : (four L.length ++ four (sum L) ++ M).length < 0 + 8
  · rw [if_pos h1]
  rw [if_neg h1]
  by_cases h2 : 65536 < L.length ∨ (four L.length ++ four (sum L) ++ M).length < 0 + 8 + L.length
  · rw [if_pos h2]
  rw [if_neg h2]
  have e3 : ((four L.length ++ four (sum L) ++ M).drop (0 + 8)).take L.length = M := by
    rw [List.drop_append_of_le_length (by simp [four_length]), List.drop_of_length_le (by simp [four_length]), List.nil_append, List.take_of_length_le (by omega)]
  rw [e3, if_neg]
  intro h
  have h := List.isPrefixOf_iff_prefix.1 h
  rw [hp', List.append_assoc, List.append_assoc, List.prefix_append_right_inj] at h
  have h4 := List.prefix_iff_eq_take.1 h
  have h5 := congrArg (List.take 4) h4
  simp only [List.take_take] at h5
  rw [List.take_append_of_le_length (by simp [four_length]), List.take_of_length_le (by simp [four_length])] at h5
  have h6 : min 4 (four (sum M) ++ M).length = 4 := by simp [four_length]
  rw [h6, List.take_append_of_le_length (by simp [four_length]), List.take_of_length_le (by simp [four_length])] at h5
  exact hs (four_inj _ _ (sum_lt _) (sum_lt _) h5)

end Fr
end Go.Proofs.Ythcikclkocbhpaa
