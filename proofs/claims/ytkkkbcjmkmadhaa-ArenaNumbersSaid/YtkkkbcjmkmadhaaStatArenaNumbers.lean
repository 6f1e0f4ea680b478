/- The statement of ArenaNumbers over numbers and lists (Stmt), and the walk of the law out of its contract. Written by row.py. -/
import Derived.Test.YtkkkbcjmkmadhaaArenaNumbers
import Derived.Test.YtkkkbcjmkmadhaaOpens
namespace Go.Proofs.Ytkkkbcjmkmadhaa.PArenaNumbers
open Go.RowKit Go.Proofs.YtkkkbcjmkmadhaaW.PrintWords Go.Proofs.YtkkkbcjmkmadhaaW.PrintLast Go.Proofs.YtkkkbcjmkmadhaaW.PrintMore Go.Proofs.YtkkkbcjmkmadhaaOpens
set_option linter.unusedVariables false
set_option linter.unusedSimpArgs false
def Stmt : Prop := depotlaw04_ArenaNumbers.f  = some true
theorem walk (P : Stmt) (w : World) :
    Calls Try.prog 6 #[] w fun e w' => e = .returned (.bool true) ∧ Below w.heap.size w w' := by
  have h := P  
  refine (depotlaw04_ArenaNumbers.calls  true w  h).mono ?_
  rintro e w' ⟨rfl, hd⟩
  exact ⟨rfl, hd⟩
end Go.Proofs.Ytkkkbcjmkmadhaa.PArenaNumbers
