/- The pure statement of LitsTells: for every two ints the law answers true. No condition. -/
import Derived.Test.YtamefocngapkpaaPLitsTellsx1
namespace Go.Proofs.Ytamefocngapkpaa.Pure
open Go.RowKit Go.Proofs.Ytamefocngapkpaa.PLitsTells Go.Proofs.YtamefocngapkpaaW.PrintWords Go.Proofs.YtamefocngapkpaaW.PrintLast

theorem w64 {x : Int} (h1 : -9223372036854775808 ≤ x) (h2 : x ≤ 9223372036854775807) : wrap64 x = x := by
  unfold wrap64; omega

theorem formed_eq (l : Int) : lits_Formed.f l = some (decide (l ≠ 0 ∧ -1048576 ≤ l ∧ l ≤ 1048576)) := by
  unfold lits_Formed.f
  by_cases h0 : l = 0
  · simp [h0]
  · by_cases h1 : l ≥ -1048576
    · rw [if_neg h0, if_pos h1]; congr 1; rw [Bool.eq_iff_iff]; simp; omega
    · rw [if_neg h0, if_neg h1]; congr 1; symm; simp; omega

theorem rformed_eq (l : Int) : depotref01_Formed.f l = some (decide (l ≠ 0 ∧ -1048576 ≤ l ∧ l ≤ 1048576)) := by
  unfold depotref01_Formed.f
  by_cases h1 : l ≥ 1
  · by_cases h2 : l ≤ 1048576
    · rw [if_pos h1, if_pos h2]; congr 1; symm; simp; omega
    · rw [if_pos h1, if_neg h2, if_pos (by omega)]; congr 1; rw [Bool.eq_iff_iff]; simp; omega
  · by_cases h2 : l ≥ -1048576
    · rw [if_neg h1, if_pos h2]; congr 1; rw [Bool.eq_iff_iff]; simp; omega
    · rw [if_neg h1, if_neg h2]; congr 1; symm; simp; omega

theorem var_eq (l : Int) : lits_Var.f l = depotref01_Var.f l := by
  unfold lits_Var.f depotref01_Var.f
  rw [formed_eq, rformed_eq]

theorem index_eq (l : Int) : lits_Index.f l = depotref01_Index.f l := by
  unfold lits_Index.f depotref01_Index.f
  rw [formed_eq, rformed_eq]
  simp only [Option.bind_some]
  by_cases h : l ≠ 0 ∧ -1048576 ≤ l ∧ l ≤ 1048576
  · have e : wrap64 (2 * wrap64 (-l)) = wrap64 (-2 * l) := by unfold wrap64; omega
    rw [e]
  · simp [h]

theorem at_eq (k : Nat) (i : Int) : lits_At.f k i = depotref01_At.f k i := by
  unfold lits_At.f depotref01_At.f
  cases k with
  | zero => simp [lits_At.j0, depotref01_At.j0]
  | succ k =>
    by_cases h : i < 0
    · rw [if_pos h, if_pos h]; rfl
    · rw [if_neg h, if_neg h]
      simp only [lits_At.j0, depotref01_At.j0]
      have e := Int.tmod_eq_emod_of_nonneg (a := i) (b := 2) (by omega)
      rw [e]
      by_cases h2 : i % 2 = 1
      · rw [if_pos h2, if_neg (show ¬ i % 2 = 0 by omega)]
      · rw [if_neg h2, if_pos (show i % 2 = 0 by omega)]

theorem LitsTells : depotlaw01_LitsTells.Pure := by
  intro l i _ _
  refine ⟨1, ?_⟩
  unfold depotlaw01_LitsTells.f
  have ha : ∃ x, depotref01_At.f 1 i = some x := by
    unfold depotref01_At.f
    simp only [depotref01_At.j0]
    repeat' split
    all_goals exact ⟨_, rfl⟩
  have hv : ∃ x, depotref01_Var.f l = some x := by
    unfold depotref01_Var.f
    rw [rformed_eq]; simp only [Option.bind_some]
    repeat' split
    all_goals exact ⟨_, rfl⟩
  have hi : ∃ x, depotref01_Index.f l = some x := by
    unfold depotref01_Index.f
    rw [rformed_eq]; simp only [Option.bind_some]
    repeat' split
    all_goals exact ⟨_, rfl⟩
  obtain ⟨x, hx⟩ := ha
  obtain ⟨y, hy⟩ := hv
  obtain ⟨z, hz⟩ := hi
  rw [formed_eq, rformed_eq, var_eq, index_eq, at_eq, hx, hy, hz]
  simp

end Go.Proofs.Ytamefocngapkpaa.Pure
