/- One text of the claim of CnfLeft: its functions as plain Lean functions, each with the proof that the code comes to these answers. Laid by standin.py out of the print of the seat; what the print does not take is proved by hand. -/
import Derived.Test.YtggnnnddnppcpaaCnfUnderGood
import Derived.Test.YtggnnnddnppcpaaGCnfLeftx0
import Derived.Test.YtggnnnddnppcpaaGCnfLeftx1
import Derived.Test.YtggnnnddnppcpaaGCnfLeftx2
import Derived.Test.YtggnnnddnppcpaaGCnfLeftx3
namespace Go.Proofs.Ytggnnnddnppcpaa.PCnfLeft
open Go.RowKit Go.Proofs.YtggnnnddnppcpaaW.PrintWords Go.Proofs.YtggnnnddnppcpaaW.PrintLast Go.Proofs.YtggnnnddnppcpaaW.PrintMore
attribute [local go_sem] max2_int min2_int max_two min_two max_three min_three max_four min_four   -- for this text's walks alone
set_option linter.unusedVariables false
set_option linter.unusedSimpArgs false

/-! ### cnf_Under: function 53 -/
def cnf_Under.f (k : Nat) (a0_0 : Int) (l0_1 : List (List Int)) (l1 : List Int) : Option (Int × (List (List Int)) × Int) := if l0_1.length ≤ 5864062014805 ∧ l1.length ≤ 17592186044416 ∧ ∀ c ∈ l0_1, c.length ≤ 17592186044416 then some (Go.Proofs.YtggnnnddnppcpaaMath.underOf a0_0 l0_1 l1) else none
theorem cnf_Under.mono : ∀ a0 a1 a2 k, LeO (cnf_Under.f k a0 a1 a2) (cnf_Under.f (k + 1) a0 a1 a2) := fun _ _ _ _ => LeO.refl _
theorem cnf_Under.calls (k : Nat) (a0_0 : Int) (A0_1 : Option Addr) (c0_1 : Nat) (l0_1 : List (List Int)) (A1 : Option Addr) (c1 : Nat) (l1 : List Int) (r1 : Int) (r2 : List (List Int)) (r3 : Int) (w : World) (hr0_1 : Kd.C (Kd.slice 3 (Kd.int .i64)) w A0_1 l0_1.length l0_1) (hc0_1 : l0_1.length ≤ c0_1) (hr1 : Kd.C (Kd.int .i64) w A1 l1.length l1) (hc1 : l1.length ≤ c1) (h : cnf_Under.f k a0_0 l0_1 l1 = some (r1, r2, r3)) :
    Calls Try.prog 53 #[.agg #[.int .i64 a0_0, .slice A0_1 l0_1.length c0_1], .slice A1 l1.length c1] w fun e w' => ∃ v1_ : Value, e = .returned (.tuple #[.agg #[.int .i64 r1, v1_], .int .i64 r3]) ∧ Kd.S (Kd.slice 3 (Kd.int .i64)) 43 w' w.heap.size (fun _ => True) v1_ r2 ∧ Below w.heap.size w w' := by
  unfold cnf_Under.f at h
  by_cases hn : l0_1.length ≤ 5864062014805 ∧ l1.length ≤ 17592186044416 ∧ ∀ c ∈ l0_1, c.length ≤ 17592186044416
  · rw [if_pos hn] at h
    have h2 := Go.Proofs.YtggnnnddnppcpaaHand.under_calls a0_0 A0_1 A1 c0_1 c1 l0_1 l1 w hr0_1 hc0_1 hr1 hc1 hn.1 hn.2.2 hn.2.1
    rw [Option.some.inj h] at h2
    exact h2
  · rw [if_neg hn] at h; exact absurd h (by simp)
end Go.Proofs.Ytggnnnddnppcpaa.PCnfLeft
