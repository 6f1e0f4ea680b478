/- What lits.Formed answers, for every int. -/
import Derived.Test.YtamefocngapkpaaProg
import Derived.Test.YtamefocngapkpaaTidyMath
import Derived.Test.YtamefocngapkpaaWLast
import Derived.Test.YtamefocngapkpaaWTab
import Derived.Test.YtamefocngapkpaaWFour
import Derived.Test.YtamefocngapkpaaWQPut
import Derived.Test.YtamefocngapkpaaWApart
import Derived.Test.YtamefocngapkpaaWArr
import Derived.Test.YtamefocngapkpaaWZeros
import Derived.Test.YtamefocngapkpaaWFoot
import Derived.Test.YtamefocngapkpaaWKept
import Derived.Test.YtamefocngapkpaaWShare
import Derived.Test.YtamefocngapkpaaWN
import Derived.Test.YtamefocngapkpaaWFootNe
import Derived.Test.YtamefocngapkpaaWAt
import Derived.Test.YtamefocngapkpaaWMore
namespace Go.Proofs.YtamefocngapkpaaHand
open Go.RowKit Go.Proofs.YtamefocngapkpaaW.PrintWords Go.Proofs.YtamefocngapkpaaW.PrintLast Go.Proofs.YtamefocngapkpaaMath
set_option linter.unusedVariables false
set_option linter.unusedSimpArgs false

theorem formed_calls (l : Int) (b : Bool) (w : World) (h : formed l = b) : Calls Try.prog 15 #[.int .i64 l] w fun e w' => e = .returned (.bool b) ∧ Drawn0 w w' := by
  by_cases h0 : l = 0
  · have a1 : (l != 0) = false := by simp [h0]
    obtain rfl : b = false := by rw [← h]; unfold formed; simp [h0]
    clear h h0
    go_enter Try.func15, Try.ntmps15
    go_wp2
    go_ret
    exact ⟨rfl, by repeat (first | exact Drawn0.refl _ | apply Drawn0.step)⟩
  · have a1 : (l != 0) = true := by simp [h0]
    by_cases h1 : -1048576 ≤ l
    · have a2 : decide (-1048576 ≤ l) = true := decide_eq_true h1
      have a3 : decide (l ≤ 1048576) = b := by rw [← h]; unfold formed; rw [Bool.eq_iff_iff]; simp; omega
      clear h h0 h1
      go_enter Try.func15, Try.ntmps15
      go_wp2
      go_ret
      exact ⟨rfl, by repeat (first | exact Drawn0.refl _ | apply Drawn0.step)⟩
    · have a2 : decide (-1048576 ≤ l) = false := decide_eq_false h1
      obtain rfl : b = false := by rw [← h]; unfold formed; simp; omega
      clear h h0 h1
      go_enter Try.func15, Try.ntmps15
      go_wp2
      go_ret
      exact ⟨rfl, by repeat (first | exact Drawn0.refl _ | apply Drawn0.step)⟩

end Go.Proofs.YtamefocngapkpaaHand
