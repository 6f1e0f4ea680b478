/- The statement of CnfJoins over numbers and lists, where what comes in is of bulk at most 1048576: the law answers true. -/
import Derived.Test.YtggnnnddnppcpaaStatCnfJoins
import Derived.Test.YtggnnnddnppcpaaLibCnfJoins
namespace Go.Proofs.Ytggnnnddnppcpaa.Pure
open Go.RowKit Go.Proofs.Ytggnnnddnppcpaa.PCnfJoins Go.Proofs.YtggnnnddnppcpaaW.PrintWords Go.Proofs.YtggnnnddnppcpaaW.PrintLast Go.Proofs.YtggnnnddnppcpaaOpens Go.Proofs.YtggnnnddnppcpaaMath
set_option linter.unusedVariables false
set_option linter.unusedSimpArgs false

theorem CnfJoins : PCnfJoins.Stmt := by
  intro v1 l1 v2 l2 ok1 ok2 hm
  obtain ⟨n1, s1⟩ := rows_small (l := l1) (n := 1048576) (by omega)
  obtain ⟨n2, s2⟩ := rows_small (l := l2) (n := 1048576) (by omega)
  refine Ev.rounds ?_
  unfold depotlaw02_CnfJoins.f depotlaw02_small.f
  simp only [Option.bind_some]
  have e1 : ∀ k, cnf_Join.f k 2 [[1, 2], [-1]] 2 [[1, 2], [-1]] = some (2, [[1, 2], [-1], [1, 2], [-1]], 0) := fun k => by
    rw [cnf_Join_eq k _ _ _ _ (by simp) (by simp)]
    have h : isFormula 2 [[1, 2], [-1]] = true := by decide
    unfold joinOf
    rw [h]
    rfl
  have e2 : ∀ k, cnf_Join.f k v1 l1 v2 l2 = some (joinOf v1 l1 v2 l2) := fun k => cnf_Join_eq k _ _ _ _ (by omega) (fun c hc => by
    rcases List.mem_append.1 hc with hc | hc
    · have := s1 c hc; omega
    · have := s2 c hc; omega)
  simp only [e1, e2, Option.bind_some, if_true]
  refine Ev.bind (depotref02_Join_ev v1 l1 v2 l2 (by omega) (fun c hc => by have := s1 c hc; omega) (fun c hc => by have := s2 c hc; omega)) ?_
  simp only [if_true]
  have hlen : (joinOf v1 l1 v2 l2).2.1.length ≤ 2097152 ∧ ∀ c ∈ (joinOf v1 l1 v2 l2).2.1, c.length ≤ 1048576 := by
    unfold joinOf
    split
    · refine ⟨by simp; omega, fun c hc => ?_⟩
      rcases List.mem_append.1 hc with hc | hc
      · exact s1 c hc
      · exact s2 c hc
    · simp
  unfold depotref00_SameFormula.f
  simp only [if_true]
  refine Ev.bind (Ev.bind (depotref00_SameClauses_ev _ _ (by omega) (fun c hc => by have := hlen.2 c hc; omega)) (Ev.now _)) ?_
  rw [beq_self_eq_true]
  exact Ev.now _

end Go.Proofs.Ytggnnnddnppcpaa.Pure
