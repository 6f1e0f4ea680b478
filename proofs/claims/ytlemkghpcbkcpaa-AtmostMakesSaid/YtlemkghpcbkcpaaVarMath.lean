/- A literal's variable. -/
import Derived.Test.YtlemkghpcbkcpaaMath
namespace Go.Proofs.YtlemkghpcbkcpaaMath
set_option linter.unusedVariables false
theorem varOf_formed {l : Int} (h : formed l = true) : 1 ≤ varOf l ∧ varOf l ≤ 1048576 ∧ (varOf l = l ∨ varOf l = -l) := by
  have hb := formed_iff.1 h
  unfold varOf
  rw [if_pos h]
  split <;> omega
theorem varOf_none {l : Int} (h : formed l = false) : varOf l = 0 := by
  unfold varOf
  rw [h]; rfl
end Go.Proofs.YtlemkghpcbkcpaaMath
