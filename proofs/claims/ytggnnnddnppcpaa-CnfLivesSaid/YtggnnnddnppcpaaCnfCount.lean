/- Counting: all lists of so many truths, in the order of counting; which of them are models. -/
import Derived.Test.YtggnnnddnppcpaaCnfNext
namespace Go.Proofs.YtggnnnddnppcpaaMath
open Go.Proofs.YtggnnnddnppcpaaW.PrintWords
/-- the list of so many truths with that number -/
def counted : Nat → Nat → List Bool
  | 0, _ => []
  | v + 1, n => (n % 2 == 1) :: counted v (n / 2)
theorem counted_length (v n : Nat) : (counted v n).length = v := by
  induction v generalizing n with
  | zero => rfl
  | succ v ih => simp [counted, ih]
theorem counted_zero (v : Nat) : counted v 0 = List.replicate v false := by
  induction v with
  | zero => rfl
  | succ v ih => simp [counted, ih, List.replicate_succ]
theorem next_counted (v n : Nat) (r : List Bool) (hn : n < 2 ^ v) : nextIn v (counted v n ++ r) = (counted v (n + 1) ++ r, decide (n + 1 < 2 ^ v)) := by
  induction v generalizing n with
  | zero =>
    have : n = 0 := by simpa using hn
    subst this
    simp [nextIn, counted]
  | succ v ih =>
    have h2 : 2 ^ (v + 1) = 2 * 2 ^ v := by rw [Nat.pow_succ]; omega
    rcases Nat.mod_two_eq_zero_or_one n with h | h
    · have e1 : (n % 2 == 1) = false := by simp [h]
      have e2 : ((n + 1) % 2 == 1) = true := by simp; omega
      have e3 : (n + 1) / 2 = n / 2 := by omega
      have e4 : n + 1 < 2 ^ (v + 1) := by omega
      simp only [counted, e1, e2, e3, List.cons_append, nextIn, decide_eq_true e4]
    · have e1 : (n % 2 == 1) = true := by simp [h]
      have e2 : ((n + 1) % 2 == 1) = false := by simp; omega
      have e3 : (n + 1) / 2 = n / 2 + 1 := by omega
      have e4 : n / 2 < 2 ^ v := by omega
      have e5 : decide (n / 2 + 1 < 2 ^ v) = decide (n + 1 < 2 ^ (v + 1)) := by
        rw [Bool.eq_iff_iff, decide_eq_true_eq, decide_eq_true_eq]
        omega
      simp only [counted, e1, e2, e3, List.cons_append, nextIn, ih (n / 2) e4, e5]
/-- a list of truths as a number -/
def numOf : List Bool → Nat
  | [] => 0
  | b :: m => (if b = true then 1 else 0) + 2 * numOf m
theorem num_counted (v n : Nat) (hn : n < 2 ^ v) : numOf (counted v n) = n := by
  induction v generalizing n with
  | zero =>
    have : n = 0 := by simpa using hn
    subst this
    rfl
  | succ v ih =>
    have h2 : 2 ^ (v + 1) = 2 * 2 ^ v := by rw [Nat.pow_succ]; omega
    have := ih (n / 2) (by omega)
    rcases Nat.mod_two_eq_zero_or_one n with h | h
    · simp only [counted, numOf, this, h]
      simp
      omega
    · simp only [counted, numOf, this, h]
      simp
      omega
/-- the models among the first so many -/
def modelsTo (v : Nat) (cs : List (List Int)) (k : Nat) : List (List Bool) := ((List.range k).map (counted v)).filter (allIn cs)
def modelsIn (v : Nat) (cs : List (List Int)) : List (List Bool) := modelsTo v cs (2 ^ v)
theorem modelsTo_succ (v : Nat) (cs : List (List Int)) (k : Nat) : modelsTo v cs (k + 1) = modelsTo v cs k ++ (if allIn cs (counted v k) = true then [counted v k] else []) := by
  unfold modelsTo
  rw [List.range_succ, List.map_append, List.filter_append]
  congr 1
  cases h : allIn cs (counted v k) <;> simp [h]
theorem modelsTo_prefix (v : Nat) (cs : List (List Int)) {k n : Nat} (h : k ≤ n) : modelsTo v cs k <+: modelsTo v cs n := by
  induction n with
  | zero =>
    obtain rfl : k = 0 := by omega
    exact List.prefix_refl _
  | succ n ih =>
    rcases Nat.lt_or_ge n k with h1 | h1
    · obtain rfl : k = n + 1 := by omega
      exact List.prefix_refl _
    · rw [modelsTo_succ]
      exact (ih h1).trans (List.prefix_append _ _)
theorem modelsTo_length (v : Nat) (cs : List (List Int)) (k : Nat) : (modelsTo v cs k).length ≤ k := by
  unfold modelsTo
  refine Nat.le_trans (List.length_filter_le _ _) ?_
  simp
theorem modelsTo_mem {v : Nat} {cs : List (List Int)} {k : Nat} {m : List Bool} (h : m ∈ modelsTo v cs k) : m.length = v := by
  unfold modelsTo at h
  rw [List.mem_filter, List.mem_map] at h
  obtain ⟨⟨j, _, rfl⟩, _⟩ := h
  exact counted_length v j
end Go.Proofs.YtggnnnddnppcpaaMath
