/- What the functions that AtmostNumbers reaches compute, on numbers and lists. Laid by lib.py. -/
import Derived.Test.YtlemkghpcbkcpaaGAtmostNumbersx3
import Derived.Test.YtlemkghpcbkcpaaMath
import Derived.Test.YtlemkghpcbkcpaaTidyPure
import Derived.Test.YtlemkghpcbkcpaaAtmostMath
namespace Go.Proofs.Ytlemkghpcbkcpaa.PAtmostNumbers
open Go.RowKit Go.Proofs.YtlemkghpcbkcpaaW.PrintWords Go.Proofs.YtlemkghpcbkcpaaW.PrintLast Go.Proofs.YtlemkghpcbkcpaaMath
set_option linter.unusedVariables false
set_option linter.unusedSimpArgs false
theorem atmost_AtMost_eq (k : Nat) (l : List Int) (a b : Int) (hn : l.length ≤ 17592186044416) (ha : -9223372036854775808 ≤ a ∧ a ≤ 9223372036854775807) : atmost_AtMost.f k l a b = some (atmostOf l a b) := by
  unfold atmost_AtMost.f
  rw [if_pos ⟨hn, ha⟩]
theorem awake_list : atmostOf [1, 2] 1 3 = ([[-1, 3], [-2, -3]], 4, 0) := by decide +kernel
theorem depotlaw27_awake_eq (k : Nat) : depotlaw27_awake.f k = some true := by
  unfold depotlaw27_awake.f
  rw [atmost_AtMost_eq k _ _ _ (by simp) (by omega), awake_list]
  rfl
end Go.Proofs.Ytlemkghpcbkcpaa.PAtmostNumbers
