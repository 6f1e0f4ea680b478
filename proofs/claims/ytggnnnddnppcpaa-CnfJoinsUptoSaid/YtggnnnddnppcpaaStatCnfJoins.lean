/- The statement of CnfJoins over numbers and lists (Stmt), and the walk of the law out of its contract. Written by row.py. -/
import Derived.Test.YtggnnnddnppcpaaGCnfJoinsx4
import Derived.Test.YtggnnnddnppcpaaOpens
namespace Go.Proofs.Ytggnnnddnppcpaa.PCnfJoins
open Go.RowKit Go.Proofs.YtggnnnddnppcpaaW.PrintWords Go.Proofs.YtggnnnddnppcpaaW.PrintLast Go.Proofs.YtggnnnddnppcpaaW.PrintMore Go.Proofs.YtggnnnddnppcpaaOpens
set_option linter.unusedVariables false
set_option linter.unusedSimpArgs false
def Stmt : Prop := ∀ (a0_0 : Int) (l0_1 : List (List (Int))) (a1_0 : Int) (l1_1 : List (List (Int))), (((Lit.int .i64 a0_0).wf = true) ∧ (l0_1.length * 24 ≤ 140737488351232 ∧ ∀ y1 ∈ l0_1, y1.length * 8 ≤ 140737488351232 ∧ ∀ y2 ∈ y1, (Lit.int .i64 y2).wf = true)) → (((Lit.int .i64 a1_0).wf = true) ∧ (l1_1.length * 24 ≤ 140737488351232 ∧ ∀ y5 ∈ l1_1, y5.length * 8 ≤ 140737488351232 ∧ ∀ y6 ∈ y5, (Lit.int .i64 y6).wf = true)) → ((1 + (sumOf (fun y3 => (sumOf (fun y4 => 1) y3 + 1)) l0_1 + 1)) + 1) + ((1 + (sumOf (fun y7 => (sumOf (fun y8 => 1) y7 + 1)) l1_1 + 1)) + 1) ≤ 1048576 → ∃ k, depotlaw02_CnfJoins.f k a0_0 l0_1 a1_0 l1_1 = some true
theorem walk (P : Stmt) (a0_0 : Int) (A0_1 : Option Addr) (c0_1 : Nat) (l0_1 : List (List (Int))) (a1_0 : Int) (A1_1 : Option Addr) (c1_1 : Nat) (l1_1 : List (List (Int))) (w : World) (hr0_1 : Kd.C (Kd.slice 3 (Kd.int .i64)) w A0_1 l0_1.length l0_1) (hc0_1 : l0_1.length ≤ c0_1) (hr1_1 : Kd.C (Kd.slice 3 (Kd.int .i64)) w A1_1 l1_1.length l1_1) (hc1_1 : l1_1.length ≤ c1_1) (ok0 : ((Lit.int .i64 a0_0).wf = true) ∧ (l0_1.length * 24 ≤ 140737488351232 ∧ ∀ y1 ∈ l0_1, y1.length * 8 ≤ 140737488351232 ∧ ∀ y2 ∈ y1, (Lit.int .i64 y2).wf = true)) (ok1 : ((Lit.int .i64 a1_0).wf = true) ∧ (l1_1.length * 24 ≤ 140737488351232 ∧ ∀ y5 ∈ l1_1, y5.length * 8 ≤ 140737488351232 ∧ ∀ y6 ∈ y5, (Lit.int .i64 y6).wf = true)) (hm : ((1 + (sumOf (fun y3 => (sumOf (fun y4 => 1) y3 + 1)) l0_1 + 1)) + 1) + ((1 + (sumOf (fun y7 => (sumOf (fun y8 => 1) y7 + 1)) l1_1 + 1)) + 1) ≤ 1048576) :
    Calls Try.prog 4 #[.agg #[.int .i64 a0_0, .slice A0_1 l0_1.length c0_1], .agg #[.int .i64 a1_0, .slice A1_1 l1_1.length c1_1]] w fun e w' => e = .returned (.bool true) ∧ Below w.heap.size w w' := by
  obtain ⟨k, h⟩ := P a0_0 l0_1 a1_0 l1_1 ok0 ok1 hm
  refine (depotlaw02_CnfJoins.calls k a0_0 A0_1 c0_1 l0_1 a1_0 A1_1 c1_1 l1_1 true w hr0_1 hc0_1 hr1_1 hc1_1 h).mono ?_
  rintro e w' ⟨rfl, hd⟩
  exact ⟨rfl, hd⟩
end Go.Proofs.Ytggnnnddnppcpaa.PCnfJoins
