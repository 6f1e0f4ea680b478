/- The statement of TrimWithin over numbers and lists (Stmt), and the walk of the law out of its contract. Written by row.py. -/
import Derived.Test.YtkkkbcjmkmadhaaGTrimWithinx3
import Derived.Test.YtkkkbcjmkmadhaaOpens
namespace Go.Proofs.Ytkkkbcjmkmadhaa.PTrimWithin
open Go.RowKit Go.Proofs.YtkkkbcjmkmadhaaW.PrintWords Go.Proofs.YtkkkbcjmkmadhaaW.PrintLast Go.Proofs.YtkkkbcjmkmadhaaW.PrintMore Go.Proofs.YtkkkbcjmkmadhaaOpens
set_option linter.unusedVariables false
def Stmt : Prop := ∀ (l0 : List (S29)) (l1 : List (S29)), (l0.length * 32 ≤ 140737488351232 ∧ ∀ y1 ∈ l0, (True) ∧ (y1.f1.length * 8 ≤ 140737488351232 ∧ ∀ y2 ∈ y1.f1, (Lit.int .i64 y2).wf = true)) → (l1.length * 32 ≤ 140737488351232 ∧ ∀ y5 ∈ l1, (True) ∧ (y5.f1.length * 8 ≤ 140737488351232 ∧ ∀ y6 ∈ y5.f1, (Lit.int .i64 y6).wf = true)) → ∃ k, depotlaw12_TrimWithin.f k l0 l1 = some true
theorem walk (P : Stmt) (A0 : Option Addr) (c0 : Nat) (l0 : List (S29)) (A1 : Option Addr) (c1 : Nat) (l1 : List (S29)) (w : World) (hr0 : Kd.C k29 w A0 l0.length l0) (hc0 : l0.length ≤ c0) (hr1 : Kd.C k29 w A1 l1.length l1) (hc1 : l1.length ≤ c1) (ok0 : l0.length * 32 ≤ 140737488351232 ∧ ∀ y1 ∈ l0, (True) ∧ (y1.f1.length * 8 ≤ 140737488351232 ∧ ∀ y2 ∈ y1.f1, (Lit.int .i64 y2).wf = true)) (ok1 : l1.length * 32 ≤ 140737488351232 ∧ ∀ y5 ∈ l1, (True) ∧ (y5.f1.length * 8 ≤ 140737488351232 ∧ ∀ y6 ∈ y5.f1, (Lit.int .i64 y6).wf = true)) :
    Calls Try.prog 4 #[.slice A0 l0.length c0, .slice A1 l1.length c1] w fun e w' => e = .returned (.bool true) ∧ Below w.heap.size w w' := by
  obtain ⟨k, h⟩ := P l0 l1 ok0 ok1
  refine (depotlaw12_TrimWithin.calls k A0 c0 l0 A1 c1 l1 true w hr0 hc0 hr1 hc1 h).mono ?_
  rintro e w' ⟨rfl, hd⟩
  exact ⟨rfl, hd⟩
end Go.Proofs.Ytkkkbcjmkmadhaa.PTrimWithin
