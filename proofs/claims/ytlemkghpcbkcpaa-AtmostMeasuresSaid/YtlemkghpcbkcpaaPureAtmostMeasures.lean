/- The pure statement of AtmostMeasures: for every two ints the law answers true. No condition. -/
import Derived.Test.YtlemkghpcbkcpaaPAtmostMeasuresx1
namespace Go.Proofs.Ytlemkghpcbkcpaa.Pure
open Go.RowKit Go.Proofs.Ytlemkghpcbkcpaa.PAtmostMeasures Go.Proofs.YtlemkghpcbkcpaaW.PrintWords Go.Proofs.YtlemkghpcbkcpaaW.PrintLast

theorem w64 {x : Int} (h1 : -9223372036854775808 ≤ x) (h2 : x ≤ 9223372036854775807) : wrap64 x = x := by
  unfold wrap64; omega

theorem pbound {n k : Int} (h0 : 0 ≤ n) (h1 : n ≤ 1048576) (h2 : 0 ≤ k) (h3 : k ≤ 1048576) : 0 ≤ n * k ∧ n * k ≤ 1099511627776 := by
  have a := Int.mul_nonneg h0 h2
  have b : n * k ≤ 1048576 * k := Int.mul_le_mul_of_nonneg_right h1 h2
  omega

theorem loop0 (n : Int) (hn : n ≤ 1048576) (d : Nat) : ∀ (f : Nat) (i : Int), 1 ≤ i → i ≤ n + 1 → n + 1 - i = d → d < f →
    depotref27_Measure.l0 f n 0 (i - 1) (i - 1) i = some (0, n, n, 0) := by
  induction d with
  | zero =>
    intro f i h1 h2 hd hf
    obtain ⟨f, rfl⟩ : ∃ m, f = m + 1 := ⟨f - 1, by omega⟩
    simp only [depotref27_Measure.l0]
    rw [if_neg (by omega)]
    simp [depotref27_Helpers.f]
    omega
  | succ d ih =>
    intro f i h1 h2 hd hf
    obtain ⟨f, rfl⟩ : ∃ m, f = m + 1 := ⟨f - 1, by omega⟩
    simp only [depotref27_Measure.l0]
    rw [if_pos (by omega)]; simp only [if_true]; rw [w64 (by omega) (by omega), w64 (by omega) (by omega)]
    have := ih f (i + 1) (by omega) (by omega) (by omega) (by omega)
    rw [show i + 1 - 1 = i - 1 + 1 by omega] at this
    exact this

theorem loopk (n k : Int) (hn : n ≤ 1048576) (hk0 : 1 ≤ k) (hk : k < n) (d : Nat) : ∀ (f : Nat) (i : Int), 2 ≤ i → i ≤ n → n - i = d → d + 1 < f →
    depotref27_Measure.l0 f n k (k + (i - 2) * (2 * k + 1)) (k + 1 + (i - 2) * (5 * k + 1)) i = some (wrap64 (wrap64 (n - 1) * k), k + 1 + (n - 2) * (2 * k + 1), k + 3 + (n - 2) * (5 * k + 1), 0) := by
  induction d with
  | zero =>
    intro f i h1 h2 hd hf
    obtain ⟨f, rfl⟩ : ∃ m, f = m + 1 := ⟨f - 1, by omega⟩
    obtain ⟨f, rfl⟩ : ∃ m, f = m + 1 := ⟨f - 1, by omega⟩
    obtain rfl : i = n := by omega
    have b1 := pbound (n := i - 2) (k := k) (by omega) (by omega) (by omega) (by omega)
    have e1 : (i - 2) * (2 * k + 1) = 2 * ((i - 2) * k) + (i - 2) := by rw [Int.mul_add, Int.mul_left_comm]; omega
    have e2 : (i - 2) * (5 * k + 1) = 5 * ((i - 2) * k) + (i - 2) := by rw [Int.mul_add, Int.mul_left_comm]; omega
    rw [e1, e2]
    simp only [depotref27_Measure.l0]
    rw [if_pos (by omega), if_neg (by omega), if_neg (by omega)]; simp only [if_true]
    rw [if_neg (by rw [w64 (by omega) (by omega)]; omega)]
    unfold depotref27_Helpers.f
    rw [if_neg (by omega), if_neg (by rw [w64 (by omega) (by omega)]; omega)]
    simp only [Option.bind_some]
    rw [w64 (x := k + (2 * ((i - 2) * k) + (i - 2)) + 1) (by omega) (by omega), w64 (x := k + 1 + (5 * ((i - 2) * k) + (i - 2)) + 2) (by omega) (by omega)]
    simp only [Option.some.injEq, Prod.mk.injEq, true_and, and_true]
    omega
  | succ d ih =>
    intro f i h1 h2 hd hf
    obtain ⟨f, rfl⟩ : ∃ m, f = m + 1 := ⟨f - 1, by omega⟩
    have b1 := pbound (n := i - 2) (k := k) (by omega) (by omega) (by omega) (by omega)
    have e1 : (i - 2) * (2 * k + 1) = 2 * ((i - 2) * k) + (i - 2) := by rw [Int.mul_add, Int.mul_left_comm]; omega
    have e2 : (i - 2) * (5 * k + 1) = 5 * ((i - 2) * k) + (i - 2) := by rw [Int.mul_add, Int.mul_left_comm]; omega
    have e3 : (i + 1 - 2) * (2 * k + 1) = (i - 2) * (2 * k + 1) + (2 * k + 1) := by rw [show i + 1 - 2 = (i - 2) + 1 by omega, Int.add_mul]; omega
    have e4 : (i + 1 - 2) * (5 * k + 1) = (i - 2) * (5 * k + 1) + (5 * k + 1) := by rw [show i + 1 - 2 = (i - 2) + 1 by omega, Int.add_mul]; omega
    have := ih f (i + 1) (by omega) (by omega) (by omega) (by omega)
    rw [e3, e4, e1, e2] at this
    rw [e1, e2]
    simp only [depotref27_Measure.l0]
    rw [if_pos (by omega), if_neg (by omega), if_neg (by omega), if_neg (by omega)]
    rw [w64 (x := k - 1) (by omega) (by omega), w64 (x := 2 * (k - 1)) (by omega) (by omega), w64 (x := 5 * (k - 1)) (by omega) (by omega),
      w64 (x := k + (2 * ((i - 2) * k) + (i - 2)) + 2) (by omega) (by omega), w64 (x := k + 1 + (5 * ((i - 2) * k) + (i - 2)) + 4) (by omega) (by omega),
      w64 (x := i + 1) (by omega) (by omega)]
    rw [w64 (x := k + (2 * ((i - 2) * k) + (i - 2)) + 2 + 2 * (k - 1)) (by omega) (by omega), w64 (x := k + 1 + (5 * ((i - 2) * k) + (i - 2)) + 4 + 5 * (k - 1)) (by omega) (by omega)]
    rw [w64 (x := k + (2 * ((i - 2) * k) + (i - 2)) + 2 + 2 * (k - 1) + 1) (by omega) (by omega), w64 (x := k + 1 + (5 * ((i - 2) * k) + (i - 2)) + 4 + 5 * (k - 1) + 2) (by omega) (by omega)]
    rw [← this]
    congr 1 <;> omega

theorem AtmostMeasures : depotlaw27_AtmostMeasures.Pure := by
  intro n k _ _
  refine ⟨n.toNat + 3, ?_⟩
  unfold depotlaw27_AtmostMeasures.f atmost_Measure.f depotref27_Measure.f
  by_cases h0 : n < 0
  · rw [if_pos h0, if_pos h0]; simp [atmost_Measure.j0, depotref27_Measure.j0]
  by_cases h1 : k < 0
  · rw [if_neg h0, if_pos h1, if_neg h0, if_pos h1]; simp [atmost_Measure.j0, depotref27_Measure.j0]
  rw [if_neg h0, if_neg h1, if_neg h0, if_neg h1]
  simp only [atmost_Measure.j0, depotref27_Measure.j0]
  by_cases h2 : n > 1048576
  · simp [h2]
  simp only [h2, decide_false, Bool.false_eq_true, if_false]
  by_cases h3 : k ≥ n
  · simp [h3]
  rw [if_neg h3, if_neg h3]
  by_cases h4 : k = 0
  · subst h4
    have := loop0 n (by omega) n.toNat (n.toNat + 2) 1 (by omega) (by omega) (by omega) (by omega)
    simp only [show (1 : Int) - 1 = 0 from rfl] at this
    rw [this]; simp
  · rw [if_neg h4]
    have b1 := pbound (n := n - 2) (k := k) (by omega) (by omega) (by omega) (by omega)
    have e1 : (n - 2) * (2 * k + 1) = 2 * ((n - 2) * k) + (n - 2) := by rw [Int.mul_add, Int.mul_left_comm]; omega
    have e2 : (n - 2) * (5 * k + 1) = 5 * ((n - 2) * k) + (n - 2) := by rw [Int.mul_add, Int.mul_left_comm]; omega
    have hl := loopk n k (by omega) (by omega) (by omega) (n - 2).toNat (n.toNat + 1) 2 (by omega) (by omega) (by omega) (by omega)
    rw [show (2 : Int) - 2 = 0 from rfl, Int.zero_mul, Int.zero_mul, Int.add_zero, Int.add_zero] at hl
    rw [show n.toNat + 2 = (n.toNat + 1) + 1 from rfl]
    generalize n.toNat + 1 = g at hl ⊢
    simp only [depotref27_Measure.l0]
    rw [if_pos (by omega), if_neg h4]; simp only [if_true]
    rw [w64 (x := 0 + 1) (by omega) (by omega), w64 (x := k - 1) (by omega) (by omega), w64 (x := 0 + 2) (by omega) (by omega), w64 (x := (1 : Int) + 1) (by omega) (by omega),
      w64 (x := 0 + 1 + (k - 1)) (by omega) (by omega), w64 (x := 0 + 2 + (k - 1)) (by omega) (by omega)]
    rw [show (0 : Int) + 1 + (k - 1) = k by omega, show (0 : Int) + 2 + (k - 1) = k + 1 by omega, show (1 : Int) + 1 = 2 from rfl, hl]
    unfold atmost_helpers.f
    rw [if_neg h4, if_neg h3]
    simp only [Option.bind_some]
    rw [w64 (x := k + 1) (by omega) (by omega), w64 (x := n - 2) (by omega) (by omega), w64 (x := 2 * k) (by omega) (by omega), w64 (x := 2 * k + 1) (by omega) (by omega),
      w64 (x := k + 3) (by omega) (by omega), w64 (x := 5 * k) (by omega) (by omega), w64 (x := 5 * k + 1) (by omega) (by omega)]
    rw [e1, e2]
    rw [w64 (x := 2 * ((n - 2) * k) + (n - 2)) (by omega) (by omega), w64 (x := 5 * ((n - 2) * k) + (n - 2)) (by omega) (by omega)]
    rw [w64 (x := k + 1 + (2 * ((n - 2) * k) + (n - 2))) (by omega) (by omega), w64 (x := k + 3 + (5 * ((n - 2) * k) + (n - 2))) (by omega) (by omega)]
    simp

end Go.Proofs.Ytlemkghpcbkcpaa.Pure
