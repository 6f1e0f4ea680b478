/- The statement of LitsThere over numbers and lists (Stmt), and the walk of the law out of its contract. Written by row.py. -/
import Derived.Test.YtamefocngapkpaaGLitsTherex1
import Derived.Test.YtamefocngapkpaaOpens
namespace Go.Proofs.Ytamefocngapkpaa.PLitsThere
open Go.RowKit Go.Proofs.YtamefocngapkpaaW.PrintWords Go.Proofs.YtamefocngapkpaaW.PrintLast Go.Proofs.YtamefocngapkpaaW.PrintMore Go.Proofs.YtamefocngapkpaaOpens
set_option linter.unusedVariables false
def Stmt : Prop := ∀ (a0 : Int) (a1 : Int), ((Lit.int .i64 a0).wf = true) → ((Lit.int .i64 a1).wf = true) → depotlaw01_LitsThere.f a0 a1 = some true
theorem walk (P : Stmt) (a0 : Int) (a1 : Int) (w : World) (ok0 : (Lit.int .i64 a0).wf = true) (ok1 : (Lit.int .i64 a1).wf = true) :
    Calls Try.prog 5 #[.int .i64 a0, .int .i64 a1] w fun e w' => e = .returned (.bool true) ∧ Below w.heap.size w w' := by
  have h := P a0 a1 ok0 ok1
  refine (depotlaw01_LitsThere.calls a0 a1 true w  h).mono ?_
  rintro e w' ⟨rfl, hd⟩
  exact ⟨rfl, hd.below⟩
end Go.Proofs.Ytamefocngapkpaa.PLitsThere
