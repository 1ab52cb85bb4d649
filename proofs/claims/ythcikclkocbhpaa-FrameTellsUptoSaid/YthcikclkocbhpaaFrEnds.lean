/- The plain law of frame.All: records, one behind another, are all told, and where they end. -/
import Derived.Test.YthcikclkocbhpaaFrLaws
namespace Go.Proofs.Ythcikclkocbhpaa
namespace Fr

/-- bodies, and where each record ends -/
def ends (k : Nat) : List (List UInt8) → List (List UInt8 × Nat)
  | [] => []
  | b :: r => (b, k + 8 + b.length) :: ends (k + 8 + b.length) r

theorem ends_fst : ∀ (l : List (List UInt8)) (k : Nat), (ends k l).map (fun x => x.1) = l
  | [], _ => rfl
  | b :: r, k => by simp [ends, ends_fst r]

theorem ends_length (l : List (List UInt8)) (k : Nat) : (ends k l).length = l.length := by
  have := congrArg List.length (ends_fst l k); simpa using this

/-- where the last one ends -/
def lastEnd (k : Nat) : List (List UInt8 × Nat) → Nat
  | [] => k
  | x :: r => lastEnd x.2 r

theorem lastEnd_eq : ∀ (l : List (List UInt8 × Nat)) (k : Nat), lastEnd k l = (match l.getLast? with | none => k | some x => x.2)
  | [], _ => rfl
  | [x], _ => rfl
  | x :: y :: t, k => by
    rw [List.getLast?_cons_cons]
    show lastEnd y.2 t = _
    have ih := lastEnd_eq (y :: t) x.2
    have ih' : lastEnd y.2 t = lastEnd x.2 (y :: t) := rfl
    rw [ih', ih]
    cases h : (y :: t).getLast? with
    | none => simp at h
    | some z => rfl

theorem ends_last : ∀ (l : List (List UInt8)) (k : Nat), (∀ b ∈ l, b.length ≤ 65536) → lastEnd k (ends k l) = k + ((l.map put).flatten).length
  | [], k, _ => by simp [ends, lastEnd]
  | b :: r, k, h => by
    have ih := ends_last r (k + 8 + b.length) (fun x hx => h x (List.mem_cons_of_mem _ hx))
    have hp := put_length b (h b (List.mem_cons_self ..))
    simp only [List.map_cons, List.flatten_cons, List.length_append, hp]
    show lastEnd (k + 8 + b.length) (ends (k + 8 + b.length) r) = _
    rw [ih]; omega

theorem all_ends : ∀ (l : List (List UInt8)) (pre tail : List UInt8), (∀ b ∈ l, b.length ≤ 65536) →
    next (pre ++ (l.map put).flatten ++ tail) (pre ++ (l.map put).flatten).length = none → all (pre ++ (l.map put).flatten ++ tail) pre.length = ends pre.length l
  | [], pre, tail, _, hn => by
    simp only [List.map_nil, List.flatten_nil, List.append_nil] at hn ⊢
    exact all_none hn
  | b :: r, pre, tail, h, hn => by
    have hp := put_length b (h b (List.mem_cons_self ..))
    have e : pre ++ ((b :: r).map put).flatten ++ tail = pre ++ put b ++ ((r.map put).flatten ++ tail) := by simp
    have e' : pre ++ ((b :: r).map put).flatten ++ tail = (pre ++ put b) ++ (r.map put).flatten ++ tail := by simp
    have h1 := next_put pre b ((r.map put).flatten ++ tail) (h b (List.mem_cons_self ..))
    rw [← e] at h1
    rw [all_some h1]
    have h2 : pre.length + 8 + b.length = (pre ++ put b).length := by simp; omega
    show (b, pre.length + 8 + b.length) :: _ = (b, pre.length + 8 + b.length) :: ends (pre.length + 8 + b.length) r
    rw [h2, e']
    rw [all_ends r (pre ++ put b) tail (fun x hx => h x (List.mem_cons_of_mem _ hx)) (by
      have e3 : pre ++ ((b :: r).map put).flatten = pre ++ put b ++ (r.map put).flatten := by simp
      rw [← e3]; exact hn)]

theorem next_end (s : List UInt8) : next s s.length = none := by unfold next; rw [if_pos (by omega)]

end Fr
end Go.Proofs.Ythcikclkocbhpaa
