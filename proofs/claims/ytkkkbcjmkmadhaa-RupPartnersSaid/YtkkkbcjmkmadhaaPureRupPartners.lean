/- The statement of RupPartners over numbers and lists: for every formula and number the law answers true. No condition but the lengths that a reading has. -/
import Derived.Test.YtkkkbcjmkmadhaaStatRupPartners
import Derived.Test.YtkkkbcjmkmadhaaLibRupPartners
namespace Go.Proofs.Ytkkkbcjmkmadhaa.Pure
open Go.RowKit Go.Proofs.Ytkkkbcjmkmadhaa.PRupPartners Go.Proofs.YtkkkbcjmkmadhaaW.PrintWords Go.Proofs.YtkkkbcjmkmadhaaW.PrintLast Go.Proofs.YtkkkbcjmkmadhaaOpens Go.Proofs.YtkkkbcjmkmadhaaMath

theorem RupPartners : PRupPartners.Stmt := by
  intro v cs x ok _
  obtain ⟨hv, hn, hc⟩ := ok
  refine Ev.rounds ?_
  unfold depotlaw08_RupPartners.f depotlaw08_small.f
  simp only [Option.bind_some]
  have e1 : partnersOf 2 [[-1, 2]] 1 = [0] := by decide
  have h1 := rup_Partners_ev 2 [[-1, 2]] 1 (by simp) (by simp)
  rw [e1] at h1
  refine Ev.bind h1 ?_
  show Ev (fun k => depotlaw08_RupPartners.j0 k x (rd [0] 0 != 0) v cs) true
  refine Ev.succ ?_
  simp only [depotlaw08_RupPartners.j0]
  have e2 : (rd [0] 0 != 0) = false := by decide
  simp only [e2, Bool.false_eq_true, if_false]
  have hn' : cs.length ≤ 5864062014805 := by omega
  have hc' : ∀ c ∈ cs, c.length ≤ 17592186044416 := fun c hm => by have := (hc c hm).1; omega
  have hl : (partnersOf v cs x).length ≤ 17592186044416 := by
    unfold partnersOf
    have := idxs_length (fun c => has c (-x)) cs 0
    split
    · split
      · omega
      · simp
    · simp
  refine Ev.bind (rup_Partners_ev v cs x hn' hc') (Ev.bind (depotref08_Partners_ev v cs x hn' hc') (Ev.bind (depotref00_SameInts_ev _ _ hl) ?_))
  rw [beq_self_eq_true]
  exact Ev.now _

end Go.Proofs.Ytkkkbcjmkmadhaa.Pure
