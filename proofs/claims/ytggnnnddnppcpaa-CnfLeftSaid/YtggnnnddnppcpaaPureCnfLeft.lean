/- The statement of CnfLeft over numbers and lists: the law answers true. -/
import Derived.Test.YtggnnnddnppcpaaStatCnfLeft
import Derived.Test.YtggnnnddnppcpaaLibCnfLeft
namespace Go.Proofs.Ytggnnnddnppcpaa.Pure
open Go.RowKit Go.Proofs.Ytggnnnddnppcpaa.PCnfLeft Go.Proofs.YtggnnnddnppcpaaW.PrintWords Go.Proofs.YtggnnnddnppcpaaW.PrintLast Go.Proofs.YtggnnnddnppcpaaOpens Go.Proofs.YtggnnnddnppcpaaMath
set_option linter.unusedVariables false
set_option linter.unusedSimpArgs false

theorem CnfLeft : PCnfLeft.Stmt := by
  intro v l part ok1 ok2
  have hn : l.length ≤ 5864062014805 := by have := ok1.2.1; omega
  have hs : ∀ c ∈ l, c.length ≤ 17592186044416 := fun c hc => by have := (ok1.2.2 c hc).1; omega
  have hp : part.length ≤ 17592186044416 := by have := ok2.1; omega
  refine Ev.rounds ?_
  unfold depotlaw02_CnfLeft.f depotlaw02_small.f
  simp only [Option.bind_some]
  have e1 : ∀ k, cnf_Under.f k 2 [[1, 2], [-1]] [2] = some (underOf 2 [[1, 2], [-1]] [2]) := fun k => cnf_Under_eq k _ _ _ (by simp) (by simp) (by simp)
  have h1 : (underOf 2 [[1, 2], [-1]] [2]).2.2 = 0 := by
    have h : (isFormula 2 [[1, 2], [-1]] && within [2] 2) = true := by decide
    have t : tautIn (tidyOf [2]) = false := by
      cases ht : tautIn (tidyOf [2]) with
      | false => rfl
      | true =>
        obtain ⟨x, h1, h2⟩ := (tautIn_iff _ (rising_tidyOf [2]) (fun _ h => tidyOf_formed h)).1 ht
        have a := ((mem_tidyOf _ _).1 h1).1
        have b := ((mem_tidyOf _ _).1 h2).1
        simp at a b
        omega
    unfold underOf
    rw [h, t]
    rfl
  have e2 : ∀ k, cnf_Under.f k v l part = some (underOf v l part) := fun k => cnf_Under_eq k _ _ _ hn hp hs
  simp only [e1, e2, h1, Option.bind_some, if_true]
  refine Ev.bind (depotref02_Under_ev v l part hp hn hs) ?_
  simp only [if_true]
  have hlen : (underOf v l part).2.1.length ≤ 17592186044416 ∧ ∀ c ∈ (underOf v l part).2.1, c.length ≤ 17592186044416 := by
    unfold underOf
    split
    · split
      · simp
      · refine ⟨Nat.le_trans (leftAll_length part l) (by omega), fun c hc => ?_⟩
        unfold leftAll at hc
        rw [List.mem_map] at hc
        obtain ⟨d, hd, rfl⟩ := hc
        exact Nat.le_trans (underP_length part d) (hs d (List.mem_filter.1 hd).1)
    · simp
  refine Ev.bind (depotref00_SameFormula_ev _ _ _ _ hlen.1 hlen.2) ?_
  simp only [beq_self_eq_true, decide_true, Bool.and_self]
  exact Ev.now _

end Go.Proofs.Ytggnnnddnppcpaa.Pure
