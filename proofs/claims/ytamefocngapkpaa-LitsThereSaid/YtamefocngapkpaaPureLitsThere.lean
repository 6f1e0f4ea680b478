/- The statement of LitsThere over numbers: for every two ints the law answers true. No condition. -/
import Derived.Test.YtamefocngapkpaaStatLitsThere
namespace Go.Proofs.Ytamefocngapkpaa.Pure
open Go.RowKit Go.Proofs.Ytamefocngapkpaa.PLitsThere

theorem LitsThere : PLitsThere.Stmt := fun _ _ _ _ => rfl

end Go.Proofs.Ytamefocngapkpaa.Pure
