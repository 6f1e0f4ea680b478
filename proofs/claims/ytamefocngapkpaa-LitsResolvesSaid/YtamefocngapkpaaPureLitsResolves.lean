/- The statement of LitsResolves over numbers and lists. -/
import Derived.Test.YtamefocngapkpaaStatLitsResolves
import Derived.Test.YtamefocngapkpaaLibLitsResolves
namespace Go.Proofs.Ytamefocngapkpaa.Pure
open Go.RowKit Go.Proofs.Ytamefocngapkpaa.PLitsResolves Go.Proofs.YtamefocngapkpaaW.PrintWords Go.Proofs.YtamefocngapkpaaW.PrintLast Go.Proofs.YtamefocngapkpaaOpens Go.Proofs.YtamefocngapkpaaMath
set_option linter.unusedVariables false
set_option linter.unusedSimpArgs false

theorem res_small (a b : List Int) (v : Int) : (resOf a b v).1.length ≤ 17592186044416 := by
  unfold resOf
  split
  · split
    · have := formed_count (onOf a b v) (rising_tidyOf _) (fun _ h => tidyOf_formed h)
      simp only
      omega
    · simp
  · simp

theorem LitsResolves : PLitsResolves.Stmt := by
  intro a b v h0 h1 hv
  have n0 : a.length < 17592186044416 := by have := h0.1; omega
  have n1 : b.length < 17592186044416 := by have := h1.1; omega
  have c0 := depotlaw01_copied_eq n0
  have c1 := depotlaw01_copied_eq n1
  refine Ev.rounds ?_
  unfold depotlaw01_LitsResolves.f
  refine Ev.bound c0 (Ev.bound c1 (Ev.bind (lits_Resolve_ev v (by omega) (by omega)) (Ev.bound c0 (Ev.bound c1 (Ev.bind (depotref01_Resolve_ev a b v (by omega) (by omega)) ?_)))))
  simp only [if_true]
  refine Ev.bind (depotref01_Equal_ev _ _ (res_small a b v)) ?_
  simp only [beq_self_eq_true]
  exact Ev.now _

end Go.Proofs.Ytamefocngapkpaa.Pure
