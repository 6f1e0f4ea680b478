/- The statement of LitsAsks over numbers and lists. -/
import Derived.Test.YtamefocngapkpaaStatLitsAsks
import Derived.Test.YtamefocngapkpaaLibLitsAsks
namespace Go.Proofs.Ytamefocngapkpaa.Pure
open Go.RowKit Go.Proofs.Ytamefocngapkpaa.PLitsAsks Go.Proofs.YtamefocngapkpaaW.PrintWords Go.Proofs.YtamefocngapkpaaW.PrintLast Go.Proofs.YtamefocngapkpaaOpens Go.Proofs.YtamefocngapkpaaMath

theorem LitsAsks : PLitsAsks.Stmt := by
  intro l0 l1 a h0 h1 ha
  have n0 : l0.length < 17592186044416 := by have := h0.1; omega
  have n1 : l1.length < 17592186044416 := by have := h1.1; omega
  have m0 : l0.length ≤ 17592186044416 := by omega
  have m1 : l1.length ≤ 17592186044416 := by omega
  have c0 := depotlaw01_copied_eq n0
  have c1 := depotlaw01_copied_eq n1
  refine Ev.rounds ?_
  unfold depotlaw01_LitsAsks.f
  refine Ev.bound c0 (Ev.bind (lits_Sound_ev l0 m0) (Ev.bound c0 (Ev.bind (lits_Has_ev l0 a m0) (Ev.bound c0 (Ev.bind (lits_Taut_ev l0 m0) (Ev.bound c0 (Ev.bound c1 (Ev.bind (lits_Same_ev l0 l1 m0 m1) (Ev.bound c0 (Ev.bound c1 (Ev.bind (lits_Subsumes_ev m0 m1) ?_)))))))))))
  refine Ev.bind (depotref01_Sound_ev l0 m0) ?_
  simp only [beq_self_eq_true, if_true]
  refine Ev.bind (depotref01_Has_ev l0 a m0) ?_
  simp only [beq_self_eq_true, if_true]
  refine Ev.bind (depotref01_Taut_ev l0 m0) ?_
  simp only [beq_self_eq_true, if_true]
  refine Ev.bind (depotref01_Same_ev l0 l1 m0 m1) ?_
  simp only [beq_self_eq_true, if_true]
  refine Ev.bind (depotref01_Subsumes_ev l0 l1 m0 m1) ?_
  simp only [beq_self_eq_true]
  exact Ev.now _

end Go.Proofs.Ytamefocngapkpaa.Pure
