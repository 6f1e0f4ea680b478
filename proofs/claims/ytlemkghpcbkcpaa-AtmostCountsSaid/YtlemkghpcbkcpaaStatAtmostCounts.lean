/- The statement of AtmostCounts over numbers and lists (Stmt), and the walk of the law out of its contract. Written by row.py. -/
import Derived.Test.YtlemkghpcbkcpaaGAtmostCountsx7
import Derived.Test.YtlemkghpcbkcpaaOpens
namespace Go.Proofs.Ytlemkghpcbkcpaa.PAtmostCounts
open Go.RowKit Go.Proofs.YtlemkghpcbkcpaaW.PrintWords Go.Proofs.YtlemkghpcbkcpaaW.PrintLast Go.Proofs.YtlemkghpcbkcpaaW.PrintMore Go.Proofs.YtlemkghpcbkcpaaOpens
set_option linter.unusedVariables false
set_option linter.unusedSimpArgs false
def Stmt : Prop := ∀ (l0 : List (Int)) (a1 : Int) (l2 : List (Bool)) (l3 : List (Bool)), (l0.length * 8 ≤ 140737488351232 ∧ ∀ y1 ∈ l0, (Lit.int .i64 y1).wf = true) → ((Lit.int .i64 a1).wf = true) → (l2.length * 1 ≤ 140737488351232 ∧ ∀ y3 ∈ l2, True) → (l3.length * 1 ≤ 140737488351232 ∧ ∀ y5 ∈ l3, True) → ∃ k, depotlaw27_AtmostCounts.f k l0 a1 l2 l3 = some true
theorem walk (P : Stmt) (A0 : Option Addr) (c0 : Nat) (l0 : List (Int)) (a1 : Int) (A2 : Option Addr) (c2 : Nat) (l2 : List (Bool)) (A3 : Option Addr) (c3 : Nat) (l3 : List (Bool)) (w : World) (hr0 : Kd.C (Kd.int .i64) w A0 l0.length l0) (hc0 : l0.length ≤ c0) (hr2 : Kd.C Kd.bool w A2 l2.length l2) (hc2 : l2.length ≤ c2) (hr3 : Kd.C Kd.bool w A3 l3.length l3) (hc3 : l3.length ≤ c3) (ok0 : l0.length * 8 ≤ 140737488351232 ∧ ∀ y1 ∈ l0, (Lit.int .i64 y1).wf = true) (ok1 : (Lit.int .i64 a1).wf = true) (ok2 : l2.length * 1 ≤ 140737488351232 ∧ ∀ y3 ∈ l2, True) (ok3 : l3.length * 1 ≤ 140737488351232 ∧ ∀ y5 ∈ l3, True) :
    Calls Try.prog 9 #[.slice A0 l0.length c0, .int .i64 a1, .slice A2 l2.length c2, .slice A3 l3.length c3] w fun e w' => e = .returned (.bool true) ∧ Below w.heap.size w w' := by
  obtain ⟨k, h⟩ := P l0 a1 l2 l3 ok0 ok1 ok2 ok3
  refine (depotlaw27_AtmostCounts.calls k A0 c0 l0 a1 A2 c2 l2 A3 c3 l3 true w hr0 hc0 hr2 hc2 hr3 hc3 h).mono ?_
  rintro e w' ⟨rfl, hd⟩
  exact ⟨rfl, hd⟩
end Go.Proofs.Ytlemkghpcbkcpaa.PAtmostCounts
