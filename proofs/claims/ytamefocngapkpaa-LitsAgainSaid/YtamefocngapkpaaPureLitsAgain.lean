/- The statement of LitsAgain over numbers and lists. -/
import Derived.Test.YtamefocngapkpaaStatLitsAgain
import Derived.Test.YtamefocngapkpaaLibLitsAgain
namespace Go.Proofs.Ytamefocngapkpaa.Pure
open Go.RowKit Go.Proofs.Ytamefocngapkpaa.PLitsAgain Go.Proofs.YtamefocngapkpaaW.PrintWords Go.Proofs.YtamefocngapkpaaW.PrintLast Go.Proofs.YtamefocngapkpaaOpens Go.Proofs.YtamefocngapkpaaMath
set_option linter.unusedSimpArgs false

theorem again_l1 (x0 x1 x8 : List Int) (x2 x9 : Int) (hn : x0.length ≤ 17592186044416) (K : ∀ y : List Int, y.length = x0.length → Ev (fun k => depotlaw01_LitsAgain.l0 k x0 x1 x2 y x8 (wrap64 (x9 + 1))) true) (d : Nat) :
    ∀ (i : Nat) (y : List Int), y.length = x0.length → i + d = x0.length → Ev (fun k => depotlaw01_LitsAgain.l1 k x0 x1 x2 y x8 x9 (i : Int)) true := by
  induction d with
  | zero =>
    intro i y hy hi
    refine Ev.succ ?_
    have h1 : ¬ (i : Int) < (y.length : Int) := by omega
    simp only [depotlaw01_LitsAgain.l1, h1, if_false]
    exact K y hy
  | succ d ih =>
    intro i y hy hi
    have h1 : (i : Int) < (y.length : Int) := by omega
    have h2 : (i : Int) < (x0.length : Int) := by omega
    have h0 : (0 : Int) ≤ (i : Int) := by omega
    have w := w64s (show (i : Int) < 9223372036854775807 by omega)
    have J : ∀ b : Bool, (b = true → i < x1.length) → Ev (fun k => depotlaw01_LitsAgain.j4 k x0 x1 x2 y x8 x9 (i : Int) b) true := by
      intro b hb
      refine Ev.succ ?_
      cases b with
      | false =>
        simp only [depotlaw01_LitsAgain.j4, Bool.false_eq_true, if_false, h0, h1, h2, if_true, w]
        by_cases c : x9 = 1
        · simp only [c, if_true]
          rw [c] at ih
          exact ih (i + 1) _ (by simp [hy]) (by omega)
        · simp only [c, if_false]
          exact ih (i + 1) y hy (by omega)
      | true =>
        have h3 : (i : Int) < (x1.length : Int) := by have := hb rfl; omega
        simp only [depotlaw01_LitsAgain.j4, h0, h1, h2, h3, if_true, w, Option.bind_some]
        by_cases c : x9 = 1
        · simp only [c, if_true]
          rw [c] at ih
          exact ih (i + 1) _ (by simp [hy]) (by omega)
        · simp only [c, if_false]
          exact ih (i + 1) _ (by simp [hy]) (by omega)
    refine Ev.succ ?_
    simp only [depotlaw01_LitsAgain.l1, h1, if_true]
    by_cases c : x9 = 0
    · have := J (decide ((i : Int) < (x1.length : Int))) (fun h => by have := of_decide_eq_true h; omega)
      simp only [c, if_true] at this ⊢
      exact this
    · simp only [c, if_false]
      exact J false (fun h => by cases h)

theorem taut_one (x : Int) : tautIn (tidyOf [x]) = false := by
  rw [tidyOf_one]
  split <;> rfl

theorem again_l0 (x0 x1 : List Int) (x2 : Int) (hn : x0.length < 17592186044416) (hm : x1.length < 17592186044416) (d : Nat) :
    ∀ (c : Nat) (y : List Int), c + d = 3 → y.length = x0.length → Ev (fun k => depotlaw01_LitsAgain.l0 k x0 x1 x2 y x1 (c : Int)) true := by
  induction d with
  | zero =>
    intro c y hc hy
    refine Ev.succ ?_
    have h1 : ¬ (c : Int) < 3 := by omega
    simp only [depotlaw01_LitsAgain.l0, h1, if_false]
    refine Ev.bind (lits_Sound_ev [] (by simp)) ?_
    simp only [sound, List.all_nil, if_true]
    refine Ev.bind (lits_Taut_ev [x2] (by simp)) ?_
    rw [taut_one]
    exact Ev.now _
  | succ d ih =>
    intro c y hc hy
    have h1 : (c : Int) < 3 := by omega
    have w := w64s (show (c : Int) < 9223372036854775807 by omega)
    have cy := depotlaw01_copied_eq (show y.length < 17592186044416 by omega)
    have c1 := depotlaw01_copied_eq hm
    have my : y.length ≤ 17592186044416 := by omega
    have m1 : x1.length ≤ 17592186044416 := by omega
    refine Ev.succ ?_
    simp only [depotlaw01_LitsAgain.l0, h1, if_true]
    refine Ev.bind (lits_Sound_ev y my) (Ev.bound cy (Ev.bind (depotref01_Sound_ev y my) ?_))
    simp only [bne_self_eq_false, Bool.false_eq_true, if_false]
    refine Ev.bind (lits_Has_ev y x2 my) (Ev.bound cy (Ev.bind (depotref01_Has_ev y x2 my) ?_))
    simp only [bne_self_eq_false, Bool.false_eq_true, if_false]
    refine Ev.bind (lits_Taut_ev y my) (Ev.bound cy (Ev.bind (depotref01_Taut_ev y my) ?_))
    simp only [bne_self_eq_false]
    refine Ev.succ ?_
    simp only [depotlaw01_LitsAgain.j1, Bool.false_eq_true, if_false]
    refine Ev.bind (lits_Same_ev y x1 my m1) (Ev.bound cy (Ev.bound c1 (Ev.bind (depotref01_Same_ev y x1 my m1) ?_)))
    simp only [bne_self_eq_false, Bool.false_eq_true, if_false]
    refine Ev.bind (lits_Subsumes_ev my m1) (Ev.bound cy (Ev.bound c1 (Ev.bind (depotref01_Subsumes_ev y x1 my m1) ?_)))
    simp only [bne_self_eq_false]
    refine Ev.succ ?_
    simp only [depotlaw01_LitsAgain.j2, Bool.false_eq_true, if_false]
    exact again_l1 x0 x1 x1 x2 (c : Int) (by omega) (fun z hz => by rw [w]; exact ih (c + 1) z (by omega) hz) x0.length 0 y hy (by omega)

theorem LitsAgain : PLitsAgain.Stmt := by
  intro l0 l1 a h0 h1 ha
  have n0 : l0.length < 17592186044416 := by have := h0.1; omega
  have n1 : l1.length < 17592186044416 := by have := h1.1; omega
  refine Ev.rounds ?_
  unfold depotlaw01_LitsAgain.f
  exact Ev.bound (depotlaw01_copied_eq n0) (Ev.bound (depotlaw01_copied_eq n1) (again_l0 l0 l1 a n0 n1 3 0 l0 (by omega) rfl))

end Go.Proofs.Ytamefocngapkpaa.Pure
