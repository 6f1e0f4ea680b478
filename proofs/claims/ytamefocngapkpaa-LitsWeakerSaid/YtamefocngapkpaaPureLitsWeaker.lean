/- The statement of LitsWeaker over numbers and lists. -/
import Derived.Test.YtamefocngapkpaaStatLitsWeaker
import Derived.Test.YtamefocngapkpaaLibLitsWeaker
namespace Go.Proofs.Ytamefocngapkpaa.Pure
open Go.RowKit Go.Proofs.Ytamefocngapkpaa.PLitsWeaker Go.Proofs.YtamefocngapkpaaW.PrintWords Go.Proofs.YtamefocngapkpaaW.PrintLast Go.Proofs.YtamefocngapkpaaOpens Go.Proofs.YtamefocngapkpaaMath
set_option linter.unusedVariables false
set_option linter.unusedSimpArgs false

theorem weaker_l1 (b : List Int) (ab lacks : Bool) (hb : sound b = true) (hn : b.length < 17592186044416) (he : ab = !lacks) (d : Nat) :
    ∀ (i : Nat) (t : Bool), i + d = b.length → (t || (b.drop i).any fun x => b.contains (-x)) = (b.any fun x => b.contains (-x)) → Ev (fun k => depotlaw01_LitsWeaker.l1 k b ab lacks t (i : Int)) true := by
  induction d with
  | zero =>
    intro i t hi ht
    refine Ev.succ ?_
    have h1 : ¬ (i : Int) < (b.length : Int) := by omega
    rw [List.drop_of_length_le (by omega), List.any_nil, Bool.or_false] at ht
    simp only [depotlaw01_LitsWeaker.l1, h1, if_false, he, beq_self_eq_true, if_true]
    refine Ev.bound (depotlaw01_copied_eq hn) (Ev.bind (lits_Taut_ev b (by omega)) ?_)
    rw [taut_sound hb, ht]
    simp only [beq_self_eq_true]
    exact Ev.now _
  | succ d ih =>
    intro i t hi ht
    have h1 : (i : Int) < (b.length : Int) := by omega
    have h0 : (0 : Int) ≤ (i : Int) := by omega
    have hf := formed_bd (sound_mem hb (rd_mem (show i < b.length by omega)))
    have e1 : wrap64 (-(rd b (i : Int))) = -(rd b (i : Int)) := by unfold wrap64; omega
    refine Ev.succ ?_
    simp only [depotlaw01_LitsWeaker.l1, h1, h0, if_true, e1, w64s (show (i : Int) < 9223372036854775807 by omega)]
    refine Ev.bind (depotlaw01_within_ev b _ (by omega)) ?_
    rw [drop_rd (show i < b.length by omega), List.any_cons] at ht
    cases hc : b.contains (-(rd b (i : Int)))
    · rw [hc, Bool.false_or] at ht
      simp only [Bool.false_eq_true, if_false]
      exact ih (i + 1) t (by omega) ht
    · rw [hc, Bool.true_or, Bool.or_true] at ht
      simp only [if_true]
      exact ih (i + 1) true (by omega) (by rw [Bool.true_or]; exact ht)

theorem weaker_l0 (a b : List Int) (ab : Bool) (hb : sound b = true) (hm : a.length < 17592186044416) (hn : b.length < 17592186044416) (d : Nat) :
    ∀ (i : Nat) (t : Bool), i + d = a.length → (t || !((a.drop i).all fun x => b.contains x)) = (!ab) → Ev (fun k => depotlaw01_LitsWeaker.l0 k a b ab t (i : Int)) true := by
  induction d with
  | zero =>
    intro i t hi ht
    refine Ev.succ ?_
    have h1 : ¬ (i : Int) < (a.length : Int) := by omega
    rw [List.drop_of_length_le (by omega), List.all_nil, Bool.not_true, Bool.or_false] at ht
    simp only [depotlaw01_LitsWeaker.l0, h1, if_false]
    exact weaker_l1 b ab t hb hn (by rw [ht, Bool.not_not]) b.length 0 false (by omega) (by rw [Bool.false_or]; rfl)
  | succ d ih =>
    intro i t hi ht
    have h1 : (i : Int) < (a.length : Int) := by omega
    have h0 : (0 : Int) ≤ (i : Int) := by omega
    refine Ev.succ ?_
    simp only [depotlaw01_LitsWeaker.l0, h1, h0, if_true, w64s (show (i : Int) < 9223372036854775807 by omega)]
    refine Ev.bind (depotlaw01_within_ev b _ (by omega)) ?_
    rw [drop_rd (show i < a.length by omega), List.all_cons] at ht
    cases hc : b.contains (rd a (i : Int))
    · rw [hc, Bool.false_and, Bool.not_false, Bool.or_true] at ht
      simp only [Bool.false_eq_true, if_false]
      exact ih (i + 1) true (by omega) (by rw [Bool.true_or]; exact ht)
    · rw [hc, Bool.true_and] at ht
      simp only [if_true]
      exact ih (i + 1) t (by omega) ht

theorem sub_self {a : List Int} (ha : sound a = true) : subOf a a = true := by
  rw [subOf_sound ha ha, List.all_eq_true]
  intro x hx
  exact List.contains_iff_mem.2 hx

theorem LitsWeaker : PLitsWeaker.Stmt := by
  intro a b m h0 h1 h2
  have n0 : a.length < 17592186044416 := by have := h0.1; omega
  have n1 : b.length < 17592186044416 := by have := h1.1; omega
  have m0 : a.length ≤ 17592186044416 := by omega
  have m1 : b.length ≤ 17592186044416 := by omega
  have ca := depotlaw01_copied_eq n0
  have cb := depotlaw01_copied_eq n1
  refine Ev.rounds ?_
  unfold depotlaw01_LitsWeaker.f
  refine Ev.bound ca (Ev.bound cb (Ev.bind (lits_Subsumes_ev m0 m1) (Ev.bound cb (Ev.bound ca (Ev.bind (lits_Subsumes_ev m1 m0) (Ev.bind (depotlaw01_sound_ev a m0) ?_))))))
  have bad : (sound a && sound b) = false → Ev (fun k => depotlaw01_LitsWeaker.j0 k a b m (subOf a b) (subOf b a) true) true := by
    intro hs
    have s1 : subOf a b = false := by unfold subOf; rw [← Bool.and_assoc, hs, Bool.false_and]
    have s2 : subOf b a = false := by unfold subOf; rw [← Bool.and_assoc, Bool.and_comm (sound b), hs, Bool.false_and]
    rw [s1, s2]
    refine Ev.succ ?_
    simp only [depotlaw01_LitsWeaker.j0, if_true, Bool.false_eq_true, if_false]
    refine Ev.bound ca (Ev.bound cb (Ev.bind (lits_Same_ev a b m0 m1) ?_))
    rw [← Bool.and_assoc, hs, Bool.false_and]
    simp only [Bool.false_eq_true, if_false]
    exact Ev.bind (lits_Subsumes_ev (by simp) (by simp)) (Ev.now _)
  cases hsa : sound a with
  | false =>
    simp only [Bool.false_eq_true, if_false]
    exact bad (by rw [hsa, Bool.false_and])
  | true =>
    simp only [if_true]
    refine Ev.bind (depotlaw01_sound_ev b m1) ?_
    cases hsb : sound b with
    | false => exact bad (by rw [hsb, Bool.and_false])
    | true =>
      have hsm := same_sound hsa hsb
      have e1 : (sound a && (sound b && (tidyOf a == tidyOf b))) = (subOf a b && subOf b a) := by rw [hsa, hsb, Bool.true_and, Bool.true_and, hsm]
      have j2 : Ev (fun k => depotlaw01_LitsWeaker.j2 k a b (subOf a b) false) true := by
        refine Ev.succ ?_
        simp only [depotlaw01_LitsWeaker.j2, Bool.false_eq_true, if_false]
        have hab := subOf_sound hsa hsb
        refine weaker_l0 a b (subOf a b) hsb n0 n1 a.length 0 false (by omega) ?_
        rw [Bool.false_or, List.drop_zero, hab]
      have j1 : Ev (fun k => depotlaw01_LitsWeaker.j1 k a b m (subOf a b) false) true := by
        refine Ev.succ ?_
        simp only [depotlaw01_LitsWeaker.j1, Bool.false_eq_true, if_false]
        cases hab : subOf a b with
        | false =>
          simp only [Bool.false_eq_true, if_false]
          rw [hab] at j2
          exact j2
        | true =>
          simp only [if_true]
          rw [hab] at j2
          refine Ev.bind (depotlaw01_holds_ev m a hsa m0) ?_
          cases hh : a.any (trIn m) with
          | false => simp only [Bool.false_eq_true, if_false]; exact j2
          | true =>
            simp only [if_true]
            refine Ev.bind (depotlaw01_holds_ev m b hsb m1) ?_
            have : b.any (trIn m) = true := by
              rw [List.any_eq_true] at hh ⊢
              obtain ⟨x, hx, hxt⟩ := hh
              rw [subOf_sound hsa hsb, List.all_eq_true] at hab
              exact ⟨x, List.contains_iff_mem.1 (hab x hx), hxt⟩
            rw [this]
            exact j2
      have tail : Ev (fun k => ((depotlaw01_copied.f a).bind fun t225 => ((depotlaw01_copied.f a).bind fun t228 => ((lits_Subsumes.f k t225 t228).bind fun t231 => (if t231 = true then ((depotlaw01_copied.f b).bind fun t232 => ((depotlaw01_copied.f b).bind fun t235 => ((lits_Same.f k t232 t235).bind fun t238 => (depotlaw01_LitsWeaker.j1 k a b m (subOf a b) (!t238))))) else (depotlaw01_LitsWeaker.j1 k a b m (subOf a b) true)))))) true := by
        refine Ev.bound ca (Ev.bound ca (Ev.bind (lits_Subsumes_ev m0 m0) ?_))
        rw [sub_self hsa]
        simp only [if_true]
        refine Ev.bound cb (Ev.bound cb (Ev.bind (lits_Same_ev b b m1 m1) ?_))
        rw [hsb]
        simp only [beq_self_eq_true, Bool.and_self, Bool.not_true]
        exact j1
      refine Ev.succ ?_
      simp only [depotlaw01_LitsWeaker.j0, Bool.not_true, Bool.false_eq_true, if_false]
      refine Ev.bound ca (Ev.bound cb (Ev.bind (lits_Same_ev a b m0 m1) ?_))
      rw [e1]
      cases hab : subOf a b with
      | false =>
        rw [hab] at tail
        simp only [Bool.false_and, bne_self_eq_false, Bool.false_eq_true, if_false]
        exact tail
      | true =>
        rw [hab] at tail
        simp only [Bool.true_and, bne_self_eq_false, Bool.false_eq_true, if_false, if_true]
        exact tail

end Go.Proofs.Ytamefocngapkpaa.Pure
