/- The numbers that this layer goes by, and one answer of AtMost's: the law answers true. -/
import Derived.Test.YtlemkghpcbkcpaaStatAtmostNumbers
import Derived.Test.YtlemkghpcbkcpaaLibAtmostNumbers
namespace Go.Proofs.Ytlemkghpcbkcpaa.Pure
open Go.RowKit Go.Proofs.Ytlemkghpcbkcpaa.PAtmostNumbers Go.Proofs.YtlemkghpcbkcpaaW.PrintWords Go.Proofs.YtlemkghpcbkcpaaMath

theorem AtmostNumbers : PAtmostNumbers.Stmt := ⟨0, by unfold depotlaw27_AtmostNumbers.f; rw [depotlaw27_awake_eq]; rfl⟩

end Go.Proofs.Ytlemkghpcbkcpaa.Pure
