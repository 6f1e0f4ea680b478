/- The statement of CnfShape over numbers and lists: for every formula the law answers true. No condition but the lengths that a reading has. -/
import Derived.Test.YtggnnnddnppcpaaStatCnfShape
import Derived.Test.YtggnnnddnppcpaaLibCnfShape
namespace Go.Proofs.Ytggnnnddnppcpaa.Pure
open Go.RowKit Go.Proofs.Ytggnnnddnppcpaa.PCnfShape Go.Proofs.YtggnnnddnppcpaaW.PrintWords Go.Proofs.YtggnnnddnppcpaaW.PrintLast Go.Proofs.YtggnnnddnppcpaaOpens Go.Proofs.YtggnnnddnppcpaaMath

theorem CnfShape : PCnfShape.Stmt := by
  intro v cs ok
  obtain ⟨hv, hn, hc⟩ := ok
  refine Ev.rounds ?_
  unfold depotlaw02_CnfShape.f depotlaw02_small.f
  simp only [Option.bind_some]
  have h1 := cnf_Formed_ev 2 [[1, 2], [-1]] (by simp) (by simp)
  rw [show isFormula 2 [[1, 2], [-1]] = true by decide] at h1
  refine Ev.bind h1 ?_
  simp only [if_true]
  have h2 := cnf_Size_ev 2 [[1, 2], [-1]] (by simp)
  rw [show sizeFrom 0 [[1, 2], [-1]] = 3 by simp [sizeFrom, w64]] at h2
  refine Ev.bind h2 ?_
  refine Ev.succ ?_
  simp only [depotlaw02_CnfShape.j0]
  have e2 : ((3 : Int) != 3) = false := by decide
  simp only [e2, Bool.false_eq_true, if_false]
  have hn' : cs.length ≤ 17592186044416 := by omega
  have hc' : ∀ c ∈ cs, c.length ≤ 17592186044416 := fun c hm => by have := (hc c hm).1; omega
  refine Ev.bind (cnf_Formed_ev v cs hn' hc') (Ev.bind (depotref02_Formed_ev v cs hn' hc') ?_)
  simp only [beq_self_eq_true, if_true]
  refine Ev.bind (cnf_Size_ev v cs hn') (Ev.bind (depotref02_Size_ev v cs hn') ?_)
  simp only [beq_self_eq_true]
  exact Ev.now _

end Go.Proofs.Ytggnnnddnppcpaa.Pure
