/- AtMost of every list, place by place: the law answers true. -/
import Derived.Test.YtlemkghpcbkcpaaStatAtmostMakes
import Derived.Test.YtlemkghpcbkcpaaLibAtmostMakes
namespace Go.Proofs.Ytlemkghpcbkcpaa.Pure
open Go.RowKit Go.Proofs.Ytlemkghpcbkcpaa.PAtmostMakes Go.Proofs.YtlemkghpcbkcpaaW.PrintWords Go.Proofs.YtlemkghpcbkcpaaW.PrintLast Go.Proofs.YtlemkghpcbkcpaaOpens Go.Proofs.YtlemkghpcbkcpaaMath
set_option linter.unusedVariables false
set_option linter.unusedSimpArgs false

theorem AtmostMakes : PAtmostMakes.Stmt := by
  intro l a b hl ha hb
  have ha' := wf_lo ha
  have hn : l.length ≤ 17592186044415 := by omega
  refine Ev.rounds ?_
  unfold depotlaw27_AtmostMakes.f
  refine Ev.bind (depotref00_CopyInts_ev l (by omega)) ?_
  have e2 : Ev (fun k => atmost_AtMost.f k l a b) (atmostOf l a b) := by
    simp only [atmost_AtMost_eq _ l a b (by omega) (by omega)]
    exact Ev.now _
  refine Ev.bind e2 (Ev.bind (depotref27_AtMost_ev l a b (by omega) ha'.2) ?_)
  simp only [if_true]
  refine Ev.bind (depotref00_SameClauses_ev _ _ ?_ ?_) ?_
  · unfold atmostOf
    split
    · simp
    · split
      · simp
      · split
        · simp
        · split
          · rename_i h1 h2 h3 h4
            have hu : unlikeOf l = true := by simpa using h1
            have := unlike_length hu
            by_cases hk : 0 < a.toNat
            · rw [clausesOf_length l a.toNat b hk (by omega)]
              have : (l.length - 2) * (2 * a.toNat + 1) ≤ 1048576 * 2097153 := Nat.mul_le_mul (by omega) (by omega)
              omega
            · rw [show a.toNat = 0 by omega, clausesOf_zero]
              simp
              omega
          · simp
  · unfold atmostOf
    split
    · simp
    · split
      · simp
      · split
        · simp
        · split
          · rename_i h1 h2 h3 h4
            intro c hc
            by_cases hk : 0 < a.toNat
            · have := (clauses_all (fun _ => True) l a.toNat b hk (by omega) (fun _ _ => trivial) (fun _ _ _ _ _ _ => ⟨trivial, trivial⟩) c hc).1
              omega
            · rw [show a.toNat = 0 by omega, clausesOf_zero] at hc
              obtain ⟨y, _, rfl⟩ := List.mem_map.1 hc
              simp
          · simp
  · rw [beq_self_eq_true]
    exact Ev.now _

end Go.Proofs.Ytlemkghpcbkcpaa.Pure
