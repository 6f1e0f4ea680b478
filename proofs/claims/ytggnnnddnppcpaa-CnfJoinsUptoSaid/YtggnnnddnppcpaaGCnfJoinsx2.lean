/- One text of the claim of CnfJoins: its functions as plain Lean functions, each with the proof that the code comes to these answers. Laid by standin.py out of the print of the seat; what the print does not take is proved by hand. -/
import Derived.Test.YtggnnnddnppcpaaCnfJoin
import Derived.Test.YtggnnnddnppcpaaGCnfJoinsx0
import Derived.Test.YtggnnnddnppcpaaGCnfJoinsx1
namespace Go.Proofs.Ytggnnnddnppcpaa.PCnfJoins
open Go.RowKit Go.Proofs.YtggnnnddnppcpaaW.PrintWords Go.Proofs.YtggnnnddnppcpaaW.PrintLast Go.Proofs.YtggnnnddnppcpaaW.PrintMore
attribute [local go_sem] max2_int min2_int max_two min_two max_three min_three max_four min_four   -- for this text's walks alone
set_option linter.unusedVariables false
set_option linter.unusedSimpArgs false

/-! ### cnf_Join: function 21 -/
def cnf_Join.f (k : Nat) (a0_0 : Int) (l0_1 : List (List Int)) (a1_0 : Int) (l1_1 : List (List Int)) : Option (Int × (List (List Int)) × Int) := if l0_1.length + l1_1.length ≤ 5864062014805 ∧ ∀ c ∈ l0_1 ++ l1_1, c.length ≤ 17592186044416 then some (Go.Proofs.YtggnnnddnppcpaaMath.joinOf a0_0 l0_1 a1_0 l1_1) else none
theorem cnf_Join.mono : ∀ a0 a1 a2 a3 k, LeO (cnf_Join.f k a0 a1 a2 a3) (cnf_Join.f (k + 1) a0 a1 a2 a3) := fun _ _ _ _ _ => LeO.refl _
theorem cnf_Join.calls (k : Nat) (a0_0 : Int) (A0_1 : Option Addr) (c0_1 : Nat) (l0_1 : List (List Int)) (a1_0 : Int) (A1_1 : Option Addr) (c1_1 : Nat) (l1_1 : List (List Int)) (r1 : Int) (r2 : List (List Int)) (r3 : Int) (w : World) (hr0_1 : Kd.C (Kd.slice 3 (Kd.int .i64)) w A0_1 l0_1.length l0_1) (hc0_1 : l0_1.length ≤ c0_1) (hr1_1 : Kd.C (Kd.slice 3 (Kd.int .i64)) w A1_1 l1_1.length l1_1) (hc1_1 : l1_1.length ≤ c1_1) (h : cnf_Join.f k a0_0 l0_1 a1_0 l1_1 = some (r1, r2, r3)) :
    Calls Try.prog 21 #[.agg #[.int .i64 a0_0, .slice A0_1 l0_1.length c0_1], .agg #[.int .i64 a1_0, .slice A1_1 l1_1.length c1_1]] w fun e w' => ∃ v1_ : Value, e = .returned (.tuple #[.agg #[.int .i64 r1, v1_], .int .i64 r3]) ∧ Kd.S (Kd.slice 3 (Kd.int .i64)) 43 w' w.heap.size (fun _ => True) v1_ r2 ∧ Below w.heap.size w w' := by
  unfold cnf_Join.f at h
  by_cases hn : l0_1.length + l1_1.length ≤ 5864062014805 ∧ ∀ c ∈ l0_1 ++ l1_1, c.length ≤ 17592186044416
  · rw [if_pos hn] at h
    have h2 := Go.Proofs.YtggnnnddnppcpaaHand.join_calls' a0_0 a1_0 A0_1 A1_1 c0_1 c1_1 l0_1 l1_1 w hr0_1 hc0_1 hr1_1 hc1_1 hn.1 hn.2
    rw [Option.some.inj h] at h2
    exact h2
  · rw [if_neg hn] at h; exact absurd h (by simp)
end Go.Proofs.Ytggnnnddnppcpaa.PCnfJoins
