/- The statement of TrimWithin over lists. -/
import Derived.Test.YtkkkbcjmkmadhaaStatTrimWithin
import Derived.Test.YtkkkbcjmkmadhaaLibTrimWithin
namespace Go.Proofs.Ytkkkbcjmkmadhaa.Pure
open Go.RowKit Go.Proofs.Ytkkkbcjmkmadhaa.PTrimWithin Go.Proofs.YtkkkbcjmkmadhaaW.PrintWords Go.Proofs.YtkkkbcjmkmadhaaW.PrintLast Go.Proofs.YtkkkbcjmkmadhaaOpens Go.Proofs.YtkkkbcjmkmadhaaMath
set_option linter.unusedVariables false

theorem TrimWithin : PTrimWithin.Stmt := by
  intro a b ha hb
  have s1 : ∀ x ∈ a, x.f1.length < 17592186044416 := fun x hx => by have := (ha.2 x hx).2.1; omega
  have s2 : ∀ x ∈ b, x.f1.length < 17592186044416 := fun x hx => by have := (hb.2 x hx).2.1; omega
  have n1 : a.length ≤ 4398046511104 := by have := ha.1; omega
  have n2 : b.length ≤ 4398046511104 := by have := hb.1; omega
  refine Ev.rounds ?_
  unfold depotlaw12_TrimWithin.f
  refine Ev.bind (depotref00_CopySteps_ev a n1 s1) (Ev.bind (depotref00_CopySteps_ev b n2 s2) (Ev.bind (trim_Within_ev a b n1 n2 (fun x hx => Nat.le_of_lt (s1 x hx))) (Ev.bind (depotref12_Within_ev _ a b rfl n1 n2 (fun x hx => Nat.le_of_lt (s1 x hx)) (fun x hx => Nat.le_of_lt (s2 x hx))) ?_)))
  simp only [beq_self_eq_true]
  exact Ev.now _

end Go.Proofs.Ytkkkbcjmkmadhaa.Pure
