/- Plain functions of chapter 8 (frame), with no program in sight. -/
namespace Go.Proofs.Ythcikclkocbhpaa
namespace Fr

/-- one bit of the sum -/
def bit (r : Nat) : Nat := (r / 2) ^^^ (3988292384 * (r % 2))
/-- k bits -/
def bits (r : Nat) : Nat → Nat
  | 0 => r
  | k + 1 => bit (bits r k)
/-- one byte of the sum -/
def step (r b : Nat) : Nat := bits (r ^^^ b) 8
def run (r : Nat) (l : List UInt8) : Nat := l.foldl (fun r b => step r b.toNat) r
def sum (l : List UInt8) : Nat := 4294967295 ^^^ run 4294967295 l

theorem bit_lt (r : Nat) (h : r < 4294967296) : bit r < 4294967296 := by
  unfold bit
  have h1 : r % 2 < 2 := Nat.mod_lt _ (by omega)
  have h2 : r / 2 < 2 ^ 32 := by omega
  have h3 : 3988292384 * (r % 2) < 2 ^ 32 := by omega
  exact Nat.xor_lt_two_pow h2 h3

theorem bits_lt (r : Nat) (h : r < 4294967296) (k : Nat) : bits r k < 4294967296 := by
  induction k with
  | zero => exact h
  | succ k ih => exact bit_lt _ ih

theorem step_lt (r b : Nat) (h : r < 4294967296) (hb : b < 256) : step r b < 4294967296 :=
  bits_lt _ (Nat.xor_lt_two_pow (n := 32) h (by omega)) 8

theorem run_lt (l : List UInt8) : ∀ r, r < 4294967296 → run r l < 4294967296 := by
  induction l with
  | nil => intro r h; exact h
  | cons b l ih => intro r h; exact ih _ (step_lt _ _ h b.toNat_lt)

theorem run_snoc (r : Nat) (l : List UInt8) (b : UInt8) : run r (l ++ [b]) = step (run r l) b.toNat := by
  simp [run, List.foldl_append]

theorem sum_lt (l : List UInt8) : sum l < 4294967296 :=
  Nat.xor_lt_two_pow (n := 32) (by omega) (run_lt l _ (by omega))

/-- a word turned left -/
def rot (x k : Nat) : Nat := (x * 2 ^ (k % 32) % 4294967296) ||| (x / 2 ^ (32 - k % 32))
/-- a number in four bytes -/
def four (n : Nat) : List UInt8 := [UInt8.ofNat (n / 16777216), UInt8.ofNat (n / 65536), UInt8.ofNat (n / 256), UInt8.ofNat n]
/-- a text as a record -/
def put (l : List UInt8) : List UInt8 := if 65536 < l.length then [] else four l.length ++ four (sum l) ++ l

theorem four_length (n : Nat) : (four n).length = 4 := rfl
theorem put_length (l : List UInt8) (h : l.length ≤ 65536) : (put l).length = l.length + 8 := by
  unfold put; rw [if_neg (by omega)]; simp [four_length]; omega
theorem put_length_le (l : List UInt8) : (put l).length ≤ 65544 := by
  by_cases h : l.length ≤ 65536
  · rw [put_length l h]; omega
  · unfold put; rw [if_pos (by omega)]; simp


/-- the number that stands first -/
def num (l : List UInt8) : Nat := (l.take 4).foldl (fun n b => n * 256 + b.toNat) 0
/-- the record that stands at a place -/
def next (s : List UInt8) (k : Nat) : Option (List UInt8) :=
  if s.length < k + 8 then none
  else if 65536 < num (s.drop k) ∨ s.length < k + 8 + num (s.drop k) then none
  else if (put ((s.drop (k + 8)).take (num (s.drop k)))).isPrefixOf (s.drop k) then some ((s.drop (k + 8)).take (num (s.drop k)))
  else none
/-- the records that stand one behind another from a place on, and where each ends -/
def recs (s : List UInt8) : Nat → Nat → List (List UInt8 × Nat)
  | 0, _ => []
  | f + 1, k => match next s k with
    | none => []
    | some b => (b, k + 8 + b.length) :: recs s f (k + 8 + b.length)

theorem next_some {s b : List UInt8} {k : Nat} (h : next s k = some b) : k + 8 + b.length ≤ s.length ∧ b.length ≤ 65536 ∧ b = (s.drop (k + 8)).take (num (s.drop k)) := by
  unfold next at h
  by_cases h1 : s.length < k + 8
  · rw [if_pos h1] at h; cases h
  rw [if_neg h1] at h
  by_cases h2 : 65536 < num (s.drop k) ∨ s.length < k + 8 + num (s.drop k)
  · rw [if_pos h2] at h; cases h
  rw [if_neg h2] at h
  by_cases h3 : (put ((s.drop (k + 8)).take (num (s.drop k)))).isPrefixOf (s.drop k) = true
  · rw [if_pos h3] at h
    cases h
    simp; omega
  · rw [if_neg h3] at h; cases h

theorem recs_fuel (s : List UInt8) : ∀ (f k : Nat), s.length < k + 8 * f + 8 → recs s (f + 1) k = recs s f k
  | 0, k, h => by
    unfold recs
    rw [show next s k = none from by unfold next; rw [if_pos (by omega)]]
  | f + 1, k, h => by
    show (match next s k with | none => [] | some b => (b, k + 8 + b.length) :: recs s (f + 1) (k + 8 + b.length)) = (match next s k with | none => [] | some b => (b, k + 8 + b.length) :: recs s f (k + 8 + b.length))
    cases next s k with
    | none => rfl
    | some b => simp only; rw [recs_fuel s f _ (by omega)]

/-- all of them -/
def all (s : List UInt8) (k : Nat) : List (List UInt8 × Nat) := recs s s.length k

theorem all_none {s : List UInt8} {k : Nat} (h : next s k = none) : all s k = [] := by
  unfold all
  cases hl : s.length with
  | zero => rfl
  | succ f => unfold recs; rw [h]

theorem all_some {s b : List UInt8} {k : Nat} (h : next s k = some b) : all s k = (b, k + 8 + b.length) :: all s (k + 8 + b.length) := by
  have hb := next_some h
  unfold all
  cases hl : s.length with
  | zero => omega
  | succ f =>
    rw [recs_fuel s f (k + 8 + b.length) (by omega)]
    conv => lhs; unfold recs
    rw [h]

theorem recs_length (s : List UInt8) : ∀ (f k : Nat), k ≤ s.length → 8 * (recs s f k).length + k ≤ s.length
  | 0, k, h => by simp [recs, h]
  | f + 1, k, h => by
    unfold recs
    cases hn : next s k with
    | none => simpa using h
    | some b =>
      have hb := next_some hn
      have := recs_length s f (k + 8 + b.length) (by omega)
      simp only [List.length_cons]; omega

theorem all_length (s : List UInt8) : 8 * (all s 0).length ≤ s.length := by
  have := recs_length s s.length 0 (by omega)
  unfold all; omega

end Fr
end Go.Proofs.Ythcikclkocbhpaa
