/- The statement of AtmostAgrees over numbers and lists (Stmt), and the walk of the law out of its contract. Written by row.py. -/
import Derived.Test.YtlemkghpcbkcpaaGAtmostAgreesx5
import Derived.Test.YtlemkghpcbkcpaaOpens
namespace Go.Proofs.Ytlemkghpcbkcpaa.PAtmostAgrees
open Go.RowKit Go.Proofs.YtlemkghpcbkcpaaW.PrintWords Go.Proofs.YtlemkghpcbkcpaaW.PrintLast Go.Proofs.YtlemkghpcbkcpaaW.PrintMore Go.Proofs.YtlemkghpcbkcpaaOpens
set_option linter.unusedVariables false
set_option linter.unusedSimpArgs false
def Stmt : Prop := ∀ (l0 : List (Int)) (a1 : Int), (l0.length * 8 ≤ 140737488351232 ∧ ∀ y1 ∈ l0, (Lit.int .i64 y1).wf = true) → ((Lit.int .i64 a1).wf = true) → (sumOf (fun y2 => 1) l0 + 1) + 1 ≤ 1048576 → ∃ k, depotlaw27_AtmostAgrees.f k l0 a1 = some true
theorem walk (P : Stmt) (A0 : Option Addr) (c0 : Nat) (l0 : List (Int)) (a1 : Int) (w : World) (hr0 : Kd.C (Kd.int .i64) w A0 l0.length l0) (hc0 : l0.length ≤ c0) (ok0 : l0.length * 8 ≤ 140737488351232 ∧ ∀ y1 ∈ l0, (Lit.int .i64 y1).wf = true) (ok1 : (Lit.int .i64 a1).wf = true) (hm : (sumOf (fun y2 => 1) l0 + 1) + 1 ≤ 1048576) :
    Calls Try.prog 7 #[.slice A0 l0.length c0, .int .i64 a1] w fun e w' => e = .returned (.bool true) ∧ Below w.heap.size w w' := by
  obtain ⟨k, h⟩ := P l0 a1 ok0 ok1 hm
  refine (depotlaw27_AtmostAgrees.calls k A0 c0 l0 a1 true w hr0 hc0 h).mono ?_
  rintro e w' ⟨rfl, hd⟩
  exact ⟨rfl, hd⟩
end Go.Proofs.Ytlemkghpcbkcpaa.PAtmostAgrees
