/- The statement of CnfShape over numbers and lists (Stmt), and the walk of the law out of its contract. Written by row.py. -/
import Derived.Test.YtggnnnddnppcpaaPCnfShapex3
import Derived.Test.YtggnnnddnppcpaaOpens
namespace Go.Proofs.Ytggnnnddnppcpaa.PCnfShape
open Go.RowKit Go.Proofs.YtggnnnddnppcpaaW.PrintWords Go.Proofs.YtggnnnddnppcpaaW.PrintLast Go.Proofs.YtggnnnddnppcpaaW.PrintMore Go.Proofs.YtggnnnddnppcpaaOpens
set_option linter.unusedVariables false
def Stmt : Prop := ∀ (a0_0 : Int) (l0_1 : List (List (Int))), (((Lit.int .i64 a0_0).wf = true) ∧ (l0_1.length * 24 ≤ 140737488351232 ∧ ∀ y1 ∈ l0_1, y1.length * 8 ≤ 140737488351232 ∧ ∀ y2 ∈ y1, (Lit.int .i64 y2).wf = true)) → ∃ k, depotlaw02_CnfShape.f k a0_0 l0_1 = some true
theorem walk (P : Stmt) (a0_0 : Int) (A0_1 : Option Addr) (c0_1 : Nat) (l0_1 : List (List (Int))) (w : World) (hr0_1 : Kd.C (Kd.slice 3 (Kd.int .i64)) w A0_1 l0_1.length l0_1) (hc0_1 : l0_1.length ≤ c0_1) (ok0 : ((Lit.int .i64 a0_0).wf = true) ∧ (l0_1.length * 24 ≤ 140737488351232 ∧ ∀ y1 ∈ l0_1, y1.length * 8 ≤ 140737488351232 ∧ ∀ y2 ∈ y1, (Lit.int .i64 y2).wf = true)) :
    Calls Try.prog 3 #[.agg #[.int .i64 a0_0, .slice A0_1 l0_1.length c0_1]] w fun e w' => e = .returned (.bool true) ∧ Below w.heap.size w w' := by
  obtain ⟨k, h⟩ := P a0_0 l0_1 ok0
  refine (depotlaw02_CnfShape.calls k a0_0 A0_1 c0_1 l0_1 true w hr0_1 hc0_1 h).mono ?_
  rintro e w' ⟨rfl, hd⟩
  exact ⟨rfl, hd⟩
end Go.Proofs.Ytggnnnddnppcpaa.PCnfShape
