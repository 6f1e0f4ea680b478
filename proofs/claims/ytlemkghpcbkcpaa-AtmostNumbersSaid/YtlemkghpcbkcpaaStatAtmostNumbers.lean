/- The statement of AtmostNumbers over numbers and lists (Stmt), and the walk of the law out of its contract. Written by row.py. -/
import Derived.Test.YtlemkghpcbkcpaaGAtmostNumbersx3
import Derived.Test.YtlemkghpcbkcpaaOpens
namespace Go.Proofs.Ytlemkghpcbkcpaa.PAtmostNumbers
open Go.RowKit Go.Proofs.YtlemkghpcbkcpaaW.PrintWords Go.Proofs.YtlemkghpcbkcpaaW.PrintLast Go.Proofs.YtlemkghpcbkcpaaW.PrintMore Go.Proofs.YtlemkghpcbkcpaaOpens
set_option linter.unusedVariables false
set_option linter.unusedSimpArgs false
def Stmt : Prop := ∃ k, depotlaw27_AtmostNumbers.f k  = some true
theorem walk (P : Stmt) (w : World) :
    Calls Try.prog 5 #[] w fun e w' => e = .returned (.bool true) ∧ Below w.heap.size w w' := by
  obtain ⟨k, h⟩ := P  
  refine (depotlaw27_AtmostNumbers.calls k  true w  h).mono ?_
  rintro e w' ⟨rfl, hd⟩
  exact ⟨rfl, hd⟩
end Go.Proofs.Ytlemkghpcbkcpaa.PAtmostNumbers
