/- AtMost has as many helpers, clauses and literals as Measure says: the law answers true, where what comes in is of bulk at most 1048576. -/
import Derived.Test.YtlemkghpcbkcpaaStatAtmostAgrees
import Derived.Test.YtlemkghpcbkcpaaLibAtmostAgrees
namespace Go.Proofs.Ytlemkghpcbkcpaa.Pure
open Go.RowKit Go.Proofs.Ytlemkghpcbkcpaa.PAtmostAgrees Go.Proofs.YtlemkghpcbkcpaaW.PrintWords Go.Proofs.YtlemkghpcbkcpaaW.PrintLast Go.Proofs.YtlemkghpcbkcpaaOpens Go.Proofs.YtlemkghpcbkcpaaMath

set_option linter.unusedVariables false
set_option linter.unusedSimpArgs false
theorem AtmostAgrees : PAtmostAgrees.Stmt := by
  intro l a hl ha hm
  have hb := wf_lo ha
  refine Ev.rounds ?_
  unfold depotlaw27_AtmostAgrees.f
  have haw : Ev (fun k => depotlaw27_awake.f k) true := by
    simp only [depotlaw27_awake_eq]
    exact Ev.now _
  refine Ev.bind haw ?_
  simp only [if_true]
  obtain ⟨b, hf, hp⟩ := depotlaw27_fit_ev l a
  refine Ev.bind hf ?_
  cases b with
  | false =>
    refine Ev.succ ?_
    simp only [depotlaw27_AtmostAgrees.j0, Bool.not_false, if_true]
    exact Ev.bind haw (Ev.now _)
  | true =>
    have P := hp rfl
    have k0 := P.k0
    have k1 := P.k1
    have len := P.len
    refine Ev.succ ?_
    simp only [depotlaw27_AtmostAgrees.j0, Bool.not_true, Bool.false_eq_true, if_false]
    refine Ev.bind (depotref00_CopyInts_ev l (by omega)) ?_
    have e1 : ∀ k, atmost_AtMost.f k l a 61 = some (if a < (l.length : Int) then clausesOf l a.toNat 61 else [], 61 + helpersOf l.length a, 0) := fun k => by
      rw [atmost_AtMost_eq k l a 61 (by omega) (by omega), P.most]
    have e2 : Ev (fun k => atmost_AtMost.f k l a 61) (if a < (l.length : Int) then clausesOf l a.toNat 61 else [], 61 + helpersOf l.length a, 0) := by
      simp only [e1]
      exact Ev.now _
    refine Ev.bind e2 (Ev.bind (atmost_Measure_ev l.length a len ⟨k0, k1⟩) ?_)
    have hh := helpers_small (n := l.length) (k := a) (by omega) (by omega)
    by_cases c1 : a ≥ (l.length : Int)
    · have h0 : helpersOf l.length a = 0 := by unfold helpersOf; rw [if_pos (.inr c1)]
      rw [if_pos c1, if_neg (show ¬ a < (l.length : Int) by omega), h0]
      exact depotlaw27_AtmostAgrees_l0 [] _ _ _ _ _ _ (by simp) (by simp [lenSum]) rfl rfl (show (61 : Int) + 0 = wrap64 (61 + 0) from (w64 (by omega) (by omega)).symm) rfl rfl 0 0 rfl
    · have hlt : a < (l.length : Int) := by omega
      rw [if_neg c1, if_pos hlt]
      by_cases c2 : a = 0
      · subst c2
        have h0 : helpersOf l.length 0 = 0 := by unfold helpersOf; rw [if_pos (.inl rfl)]
        rw [if_pos rfl, h0]
        have hz : clausesOf l (0 : Int).toNat 61 = l.map (fun x => [-x]) := clausesOf_zero l 61
        rw [hz]
        exact depotlaw27_AtmostAgrees_l0 _ _ _ _ _ _ _ (by simp; omega) (by rw [lenSum_units]; omega) rfl rfl (show (61 : Int) + 0 = wrap64 (61 + 0) from (w64 (by omega) (by omega)).symm) (by simp) (show ((lenSum (l.map fun x => [-x]) : Nat) : Int) = (l.length : Int) by rw [lenSum_units]) l.length 0 (by simp)
      · rw [if_neg c2]
        have hk : 0 < a.toNat := by omega
        have hn : a.toNat < l.length := by omega
        have hc := clausesOf_length l a.toNat 61 hk hn
        have hs := lenSum_clauses l a.toNat hk hn 61
        have b1 : (l.length - 2) * (2 * a.toNat + 1) ≤ 60 * 121 := Nat.mul_le_mul (by omega) (by omega)
        have b2 : (l.length - 2) * (5 * a.toNat + 1) ≤ 60 * 301 := Nat.mul_le_mul (by omega) (by omega)
        have en : ((l.length - 2 : Nat) : Int) = (l.length : Int) - 2 := by omega
        have ea : ((a.toNat : Nat) : Int) = a := by omega
        refine depotlaw27_AtmostAgrees_l0 (clausesOf l a.toNat 61) _ _ _ _ _ _ (by omega) (by omega) rfl rfl (show 61 + helpersOf l.length a = wrap64 (61 + helpersOf l.length a) from (w64 (by omega) (by omega)).symm) ?_ ?_ (clausesOf l a.toNat 61).length 0 (Nat.zero_add _)
        · rw [hc]
          simp only [Int.natCast_add, Int.natCast_mul, en, ea, Int.natCast_one, Int.cast_ofNat_Int]
        · rw [hs]
          simp only [Int.natCast_add, Int.natCast_mul, en, ea, Int.natCast_one, Int.cast_ofNat_Int]

end Go.Proofs.Ytlemkghpcbkcpaa.Pure
