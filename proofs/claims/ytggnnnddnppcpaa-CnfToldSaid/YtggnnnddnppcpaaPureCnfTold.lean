/- The statement of CnfTold over numbers and lists: for every formula and model the law answers true. No condition but the lengths that a reading has. -/
import Derived.Test.YtggnnnddnppcpaaStatCnfTold
import Derived.Test.YtggnnnddnppcpaaLibCnfTold
namespace Go.Proofs.Ytggnnnddnppcpaa.Pure
open Go.RowKit Go.Proofs.Ytggnnnddnppcpaa.PCnfTold Go.Proofs.YtggnnnddnppcpaaW.PrintWords Go.Proofs.YtggnnnddnppcpaaW.PrintLast Go.Proofs.YtggnnnddnppcpaaOpens Go.Proofs.YtggnnnddnppcpaaMath

theorem CnfTold : PCnfTold.Stmt := by
  intro v cs m ok _
  obtain ⟨hv, hn, hc⟩ := ok
  refine Ev.rounds ?_
  unfold depotlaw02_CnfTold.f depotlaw02_small.f
  simp only [Option.bind_some]
  have h1 := cnf_Satisfies_ev 2 [[1, 2], [-1]] [false, true] (by simp) (by simp)
  rw [show satisfies 2 [[1, 2], [-1]] [false, true] = true by decide] at h1
  refine Ev.bind h1 ?_
  simp only [if_true]
  have hn' : cs.length ≤ 5864062014805 := by omega
  have hc' : ∀ c ∈ cs, c.length ≤ 17592186044416 := fun c hm => by have := (hc c hm).1; omega
  refine Ev.bind (cnf_False_ev v cs m hn' hc') (Ev.bind (cnf_Satisfies_ev v cs m (by omega) hc') (Ev.bind (depotref02_Satisfies_ev v cs m (by omega) hc') ?_))
  simp only [beq_self_eq_true, if_true]
  have hl : (falses v cs m).length ≤ 17592186044416 := by
    unfold falses
    have := idxs_length (fun c => !holdsIn c m) cs 0
    split
    · omega
    · simp
  refine Ev.bind (depotref02_False_ev v cs m hn' hc') (Ev.bind (depotref00_SameInts_ev _ _ hl) ?_)
  rw [beq_self_eq_true]
  exact Ev.now _

end Go.Proofs.Ytggnnnddnppcpaa.Pure
