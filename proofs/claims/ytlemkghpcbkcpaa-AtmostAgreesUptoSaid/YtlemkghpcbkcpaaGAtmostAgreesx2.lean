/- One text of the claim of AtmostAgrees: its functions as plain Lean functions, each with the proof that the code comes to these answers. Laid by standin.py out of the print of the seat; what the print does not take is proved by hand. -/
import Derived.Test.YtlemkghpcbkcpaaGAtmostAgreesx0
import Derived.Test.YtlemkghpcbkcpaaGAtmostAgreesx1
namespace Go.Proofs.Ytlemkghpcbkcpaa.PAtmostAgrees
open Go.RowKit Go.Proofs.YtlemkghpcbkcpaaW.PrintWords Go.Proofs.YtlemkghpcbkcpaaW.PrintLast Go.Proofs.YtlemkghpcbkcpaaW.PrintMore
attribute [local go_sem] max2_int min2_int max_two min_two max_three min_three max_four min_four   -- for this text's walks alone
set_option linter.unusedVariables false
set_option linter.unusedSimpArgs false

end Go.Proofs.Ytlemkghpcbkcpaa.PAtmostAgrees
