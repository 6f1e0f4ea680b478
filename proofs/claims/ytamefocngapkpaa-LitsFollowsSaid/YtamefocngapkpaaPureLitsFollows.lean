/- The statement of LitsFollows over numbers and lists. -/
import Derived.Test.YtamefocngapkpaaStatLitsFollows
import Derived.Test.YtamefocngapkpaaMath
namespace Go.Proofs.Ytamefocngapkpaa.Pure
open Go.RowKit Go.Proofs.Ytamefocngapkpaa.PLitsFollows Go.Proofs.YtamefocngapkpaaW.PrintWords Go.Proofs.YtamefocngapkpaaW.PrintLast Go.Proofs.YtamefocngapkpaaOpens Go.Proofs.YtamefocngapkpaaMath

theorem LitsFollows : PLitsFollows.Stmt := by
  intro l0 l1 a2 l3 h0 h1 h2 h3
  unfold depotlaw01_LitsFollows.f
  have := wf_lo h2
  rw [if_pos ⟨by omega, by omega, this.1, this.2⟩]

end Go.Proofs.Ytamefocngapkpaa.Pure
