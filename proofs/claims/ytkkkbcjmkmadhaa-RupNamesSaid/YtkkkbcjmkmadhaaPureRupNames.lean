/- The pure statement of RupNames: the closed law answers true. No condition. -/
import Derived.Test.YtkkkbcjmkmadhaaPRupNamesx1
namespace Go.Proofs.Ytkkkbcjmkmadhaa.Pure
open Go.RowKit Go.Proofs.Ytkkkbcjmkmadhaa.PRupNames Go.Proofs.YtkkkbcjmkmadhaaW.PrintWords Go.Proofs.YtkkkbcjmkmadhaaW.PrintLast

theorem RupNames : depotlaw08_RupNames.Pure := rfl

end Go.Proofs.Ytkkkbcjmkmadhaa.Pure
