/- The statement of AtmostFills over numbers and lists, where what comes in is of bulk at most 1048576: the law answers true. -/
import Derived.Test.YtlemkghpcbkcpaaStatAtmostFills
import Derived.Test.YtlemkghpcbkcpaaLibAtmostFills
namespace Go.Proofs.Ytlemkghpcbkcpaa.Pure
open Go.RowKit Go.Proofs.Ytlemkghpcbkcpaa.PAtmostFills Go.Proofs.YtlemkghpcbkcpaaW.PrintWords Go.Proofs.YtlemkghpcbkcpaaW.PrintLast Go.Proofs.YtlemkghpcbkcpaaOpens Go.Proofs.YtlemkghpcbkcpaaMath

theorem sumOf_one {α : Type} (l : List α) : sumOf (fun _ => 1) l = l.length := by
  induction l with
  | nil => rfl
  | cons x l ih => simp only [sumOf, ih, List.length_cons]; omega

theorem AtmostFills : PAtmostFills.Stmt := by
  intro l k _ hk hm
  rw [sumOf_one] at hm
  have hb := wf_lo hk
  have hn : l.length ≤ 1048576 := by omega
  refine Ev.rounds ?_
  unfold depotlaw27_AtmostFills.f
  have yes : Ev (fun f => depotlaw27_AtmostFills.j0 f l k true) true := by
    refine Ev.succ ?_
    simp only [depotlaw27_AtmostFills.j0, if_true]
    exact Ev.now _
  have no : (k < (l.length : Int) → 0 ≤ k → (l.length : Int) * k ≤ 16777216) → Ev (fun f => depotlaw27_AtmostFills.j0 f l k false) true := by
    intro hw
    refine Ev.succ ?_
    simp only [depotlaw27_AtmostFills.j0, Bool.false_eq_true, if_false]
    refine Ev.bind (depotref00_CopyBools_ev l (by omega)) (Ev.bind (atmost_Fill_ev l k hn hw) (Ev.bind (depotref27_Fill_ev l k hn hw) ?_))
    simp only [if_true]
    have hl : (fillOf l k).1.length ≤ 140737488355328 := by
      unfold fillOf
      split
      · simp
      · split
        · simp
        · rename_i h1 h2
          have h3 := hw (by omega) (by omega)
          simp only [fillF_length, List.length_take]
          have h4 : (min (l.length - 1) l.length) * k.toNat ≤ l.length * k.toNat := Nat.mul_le_mul_right _ (by omega)
          have h5 : ((l.length * k.toNat : Nat) : Int) = (l.length : Int) * k := by
            rw [Int.natCast_mul, show ((k.toNat : Nat) : Int) = k by omega]
          omega
    refine Ev.bind (depotref00_SameBools_ev _ _ hl) ?_
    rw [beq_self_eq_true]
    exact Ev.now _
  by_cases h : k < (l.length : Int)
  · simp only [h, if_true]
    by_cases h2 : wrap64 ((l.length : Int) * k) > 16777216
    · simp only [h2, decide_true]
      exact yes
    · simp only [h2, decide_false]
      refine no fun _ h0 => ?_
      have h3 : (l.length : Int) * k ≤ 1048576 * k := Int.mul_le_mul_of_nonneg_right (by omega) h0
      have h4 : 0 ≤ (l.length : Int) * k := Int.mul_nonneg (by omega) h0
      rw [w64 (by omega) (by omega)] at h2
      omega
  · simp only [h, if_false]
    exact no fun h1 => absurd h1 h

end Go.Proofs.Ytlemkghpcbkcpaa.Pure
