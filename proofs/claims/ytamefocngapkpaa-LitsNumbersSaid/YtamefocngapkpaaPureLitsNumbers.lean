/- The pure statement of LitsNumbers: the closed law answers true. No condition. -/
import Derived.Test.YtamefocngapkpaaPLitsNumbersx1
namespace Go.Proofs.Ytamefocngapkpaa.Pure
open Go.RowKit Go.Proofs.Ytamefocngapkpaa.PLitsNumbers Go.Proofs.YtamefocngapkpaaW.PrintWords Go.Proofs.YtamefocngapkpaaW.PrintLast

theorem LitsNumbers : depotlaw01_LitsNumbers.Pure := by
  unfold depotlaw01_LitsNumbers.Pure depotlaw01_LitsNumbers.f lits_Formed.f
  decide

end Go.Proofs.Ytamefocngapkpaa.Pure
