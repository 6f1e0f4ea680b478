/- The statement of RupBlocked over numbers and lists: the law answers true. -/
import Derived.Test.YtkkkbcjmkmadhaaStatRupBlocked
import Derived.Test.YtkkkbcjmkmadhaaLibRupBlocked
namespace Go.Proofs.Ytkkkbcjmkmadhaa.Pure
open Go.RowKit Go.Proofs.Ytkkkbcjmkmadhaa.PRupBlocked Go.Proofs.YtkkkbcjmkmadhaaW.PrintWords Go.Proofs.YtkkkbcjmkmadhaaW.PrintLast Go.Proofs.YtkkkbcjmkmadhaaOpens Go.Proofs.YtkkkbcjmkmadhaaMath
set_option linter.unusedVariables false
set_option linter.unusedSimpArgs false

theorem RupBlocked : PRupBlocked.Stmt := by
  intro v l c ok1 ok2
  have hn : l.length ≤ 17592186044416 := by have := ok1.2.1; omega
  have hs : ∀ d ∈ l, d.length ≤ 17592186044416 := fun d hd => by have := (ok1.2.2 d hd).1; omega
  have hc : c.length ≤ 17592186044416 := by have := ok2.1; omega
  refine Ev.rounds ?_
  unfold depotlaw08_RupBlocked.f depotlaw08_small.f
  simp only [Option.bind_some]
  have e1 : ∀ k, rup_Blocked.f k 2 [[-1, 2]] [1, -2] = some (blockedOf 2 [[-1, 2]] [1, -2]) := fun k => rup_Blocked_eq k _ _ _ (by simp) (by simp) (by simp)
  have h1 : blockedOf 2 [[-1, 2]] [1, -2] = (true, 0) := by decide +kernel
  have e2 : ∀ k, rup_Blocked.f k v l c = some (blockedOf v l c) := fun k => rup_Blocked_eq k _ _ _ hn hc hs
  simp only [e1, h1, Option.bind_some, if_true]
  refine Ev.succ ?_
  simp only [depotlaw08_RupBlocked.j0, bne_self_eq_false, Bool.false_eq_true, if_false, e2, Option.bind_some]
  refine Ev.bind (depotref08_Blocked_ev v l c hc hn hs) ?_
  simp only [beq_self_eq_true, if_true]
  exact Ev.now _

end Go.Proofs.Ytkkkbcjmkmadhaa.Pure
