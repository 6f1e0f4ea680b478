/- What lits.Formed answers, for every int. -/
import Derived.Test.YtggnnnddnppcpaaProg
import Derived.Test.YtggnnnddnppcpaaTidyMath
import Derived.Test.YtggnnnddnppcpaaWLast
import Derived.Test.YtggnnnddnppcpaaWTab
import Derived.Test.YtggnnnddnppcpaaWFour
import Derived.Test.YtggnnnddnppcpaaWQPut
import Derived.Test.YtggnnnddnppcpaaWApart
import Derived.Test.YtggnnnddnppcpaaWArr
import Derived.Test.YtggnnnddnppcpaaWZeros
import Derived.Test.YtggnnnddnppcpaaWFoot
import Derived.Test.YtggnnnddnppcpaaWKept
import Derived.Test.YtggnnnddnppcpaaWShare
import Derived.Test.YtggnnnddnppcpaaWN
import Derived.Test.YtggnnnddnppcpaaWFootNe
import Derived.Test.YtggnnnddnppcpaaWAt
import Derived.Test.YtggnnnddnppcpaaWMore
namespace Go.Proofs.YtggnnnddnppcpaaHand
open Go.RowKit Go.Proofs.YtggnnnddnppcpaaW.PrintWords Go.Proofs.YtggnnnddnppcpaaW.PrintLast Go.Proofs.YtggnnnddnppcpaaMath
set_option linter.unusedVariables false
set_option linter.unusedSimpArgs false

theorem formed_calls (l : Int) (b : Bool) (w : World) (h : formed l = b) : Calls Try.prog 86 #[.int .i64 l] w fun e w' => e = .returned (.bool b) ∧ Drawn0 w w' := by
  by_cases h0 : l = 0
  · have a1 : (l != 0) = false := by simp [h0]
    obtain rfl : b = false := by rw [← h]; unfold formed; simp [h0]
    clear h h0
    go_enter Try.func86, Try.ntmps86
    go_wp2
    go_ret
    exact ⟨rfl, by repeat (first | exact Drawn0.refl _ | apply Drawn0.step)⟩
  · have a1 : (l != 0) = true := by simp [h0]
    by_cases h1 : -1048576 ≤ l
    · have a2 : decide (-1048576 ≤ l) = true := decide_eq_true h1
      have a3 : decide (l ≤ 1048576) = b := by rw [← h]; unfold formed; rw [Bool.eq_iff_iff]; simp; omega
      clear h h0 h1
      go_enter Try.func86, Try.ntmps86
      go_wp2
      go_ret
      exact ⟨rfl, by repeat (first | exact Drawn0.refl _ | apply Drawn0.step)⟩
    · have a2 : decide (-1048576 ≤ l) = false := decide_eq_false h1
      obtain rfl : b = false := by rw [← h]; unfold formed; simp; omega
      clear h h0 h1
      go_enter Try.func86, Try.ntmps86
      go_wp2
      go_ret
      exact ⟨rfl, by repeat (first | exact Drawn0.refl _ | apply Drawn0.step)⟩

end Go.Proofs.YtggnnnddnppcpaaHand
