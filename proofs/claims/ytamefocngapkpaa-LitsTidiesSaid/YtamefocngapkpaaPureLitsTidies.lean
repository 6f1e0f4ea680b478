/- The statement of LitsTidies over numbers and lists. -/
import Derived.Test.YtamefocngapkpaaStatLitsTidies
import Derived.Test.YtamefocngapkpaaLibLitsTidies
namespace Go.Proofs.Ytamefocngapkpaa.Pure
open Go.RowKit Go.Proofs.Ytamefocngapkpaa.PLitsTidies Go.Proofs.YtamefocngapkpaaW.PrintWords Go.Proofs.YtamefocngapkpaaW.PrintLast Go.Proofs.YtamefocngapkpaaOpens Go.Proofs.YtamefocngapkpaaMath
set_option linter.unusedVariables false

theorem LitsTidies : PLitsTidies.Stmt := by
  intro l0 l1 a h0 h1 ha
  have n0 : l0.length < 17592186044416 := by have := h0.1; omega
  have n1 : l1.length < 17592186044416 := by have := h1.1; omega
  have m0 : l0.length ≤ 17592186044416 := by omega
  have m1 : l1.length ≤ 17592186044416 := by omega
  have c0 := depotlaw01_copied_eq n0
  have c1 := depotlaw01_copied_eq n1
  have t0 := tidyOf_length l0
  have t2 : ((tidyOf l0).filter fun x => !(x == a)).length ≤ 17592186044416 := by have := List.length_filter_le (fun x => !(x == a)) (tidyOf l0); omega
  have t3 := formed_count (tidyOf (l0 ++ l1)) (rising_tidyOf _) (fun _ h => tidyOf_formed h)
  refine Ev.rounds ?_
  unfold depotlaw01_LitsTidies.f
  refine Ev.bound c0 (Ev.bound (lits_Tidy_eq m0) (Ev.bound c0 (Ev.bind (lits_Without_ev a m0) (Ev.bound c0 (Ev.bound c1 (Ev.bind (lits_Join_ev (by omega)) ?_))))))
  refine Ev.bind (depotref01_Tidy_evl l0 m0) (Ev.bind (depotref01_Equal_ev _ _ (by omega)) ?_)
  simp only [beq_self_eq_true, if_true]
  refine Ev.bind (depotref01_Without_ev l0 a m0) (Ev.bind (depotref01_Equal_ev _ _ t2) ?_)
  simp only [beq_self_eq_true, if_true]
  refine Ev.bind (depotref01_Join_ev l0 l1 m0 m1) (Ev.bind (depotref01_Equal_ev _ _ (by omega)) ?_)
  simp only [beq_self_eq_true]
  exact Ev.now _

end Go.Proofs.Ytamefocngapkpaa.Pure
