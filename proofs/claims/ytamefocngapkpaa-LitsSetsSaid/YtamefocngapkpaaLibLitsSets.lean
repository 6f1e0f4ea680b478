/- What the functions that LitsSets reaches compute, on numbers and lists. Laid by lib.py. -/
import Derived.Test.YtamefocngapkpaaGLitsSetsx3
import Derived.Test.YtamefocngapkpaaMath
import Derived.Test.YtamefocngapkpaaTidyPure
namespace Go.Proofs.Ytamefocngapkpaa.PLitsSets
open Go.RowKit Go.Proofs.YtamefocngapkpaaW.PrintWords Go.Proofs.YtamefocngapkpaaW.PrintLast Go.Proofs.YtamefocngapkpaaMath
set_option linter.unusedVariables false
set_option linter.unusedSimpArgs false
theorem lits_Formed_eq (l : Int) : lits_Formed.f l = some (formed l) := by
  unfold lits_Formed.f formed
  by_cases h0 : l = 0
  · simp [h0]
  · by_cases h1 : l ≥ -1048576
    · rw [if_neg h0, if_pos h1]; congr 1; rw [Bool.eq_iff_iff]; simp; omega
    · rw [if_neg h0, if_neg h1]; congr 1; symm; simp; omega
theorem lits_Index_eq (l : Int) : lits_Index.f l = some (idxOf l) := by
  unfold lits_Index.f idxOf
  rw [lits_Formed_eq]
  simp only [Option.bind_some]
  by_cases h : formed l = true
  · have := formed_bd h
    have e1 : wrap64 (wrap64 (2 * wrap64 (-l)) - 1) = -2 * l - 1 := by unfold wrap64; omega
    have e2 : wrap64 (wrap64 (2 * l) - 2) = 2 * l - 2 := by unfold wrap64; omega
    rw [if_pos h, if_pos h, e1, e2]
    split <;> rfl
  · rw [if_neg h, if_neg h]
theorem lits_Tidy_eq {l : List Int} (hn : l.length ≤ 17592186044416) : lits_Tidy.f l = some (tidyOf l) := by unfold lits_Tidy.f; rw [if_pos hn]
theorem lits_Without_ev {l : List Int} (a : Int) (hn : l.length ≤ 17592186044416) : Ev (fun k => lits_Without.f k l a) ((tidyOf l).filter fun x => !(x == a)) := by
  unfold lits_Without.f; simp only [hn, if_true]; exact Ev.now _
theorem lits_Join_ev {l m : List Int} (hn : l.length + m.length ≤ 35184372088832) : Ev (fun k => lits_Join.f k l m) (tidyOf (l ++ m)) := by
  unfold lits_Join.f; simp only [hn, if_true]; exact Ev.now _
theorem depotlaw01_copied_eq {l : List Int} (hn : l.length < 17592186044416) : depotlaw01_copied.f l = some l := by
  unfold depotlaw01_copied.f; rw [if_pos (by simpa using hn)]; rfl
theorem depotlaw01_within_l0 (l : List Int) (x : Int) (hn : l.length ≤ 17592186044416) (d : Nat) : ∀ (i : Nat), i + d = l.length → Ev (fun k => depotlaw01_within.l0 k l x (i : Int)) ((l.drop i).contains x) := by
  induction d with
  | zero =>
    intro i hi
    refine Ev.succ ?_
    simp only [depotlaw01_within.l0]
    have h1 : ¬ ((i : Int) < (l.length : Int)) := by omega
    simp only [h1, if_false]
    rw [List.drop_of_length_le (by omega)]
    exact Ev.now _
  | succ d ih =>
    intro i hi
    refine Ev.succ ?_
    simp only [depotlaw01_within.l0]
    have h1 : (i : Int) < (l.length : Int) := by omega
    have h0 : (0 : Int) ≤ (i : Int) := by omega
    simp only [h1, h0, if_true, w64s (show (i : Int) < 9223372036854775807 by omega)]
    rw [drop_rd (show i < l.length by omega)]
    by_cases hf : rd l i = x
    · simp only [hf, if_true, List.contains_cons, beq_self_eq_true, Bool.true_or]
      exact Ev.now _
    · have e : (x == rd l i) = false := by simpa using fun h => hf h.symm
      simp only [hf, if_false, List.contains_cons, e, Bool.false_or]
      exact ih (i + 1) (by omega)
theorem depotlaw01_within_ev (l : List Int) (x : Int) (hn : l.length ≤ 17592186044416) : Ev (fun k => depotlaw01_within.f k l x) (l.contains x) := depotlaw01_within_l0 l x hn l.length 0 (by omega)
theorem depotlaw01_same_l0 (a b : List Int) (hn : a.length ≤ 17592186044416) (he : a.length = b.length) (d : Nat) : ∀ i : Nat, i + d = a.length → Ev (fun k => depotlaw01_same.l0 k a b (i : Int)) (a.drop i == b.drop i) := by
  induction d with
  | zero =>
    intro i hi
    refine Ev.succ ?_
    simp only [depotlaw01_same.l0]
    have h1 : ¬ ((i : Int) < (a.length : Int)) := by omega
    simp only [h1, if_false]
    rw [List.drop_of_length_le (by omega), List.drop_of_length_le (by omega)]
    exact Ev.now _
  | succ d ih =>
    intro i hi
    refine Ev.succ ?_
    simp only [depotlaw01_same.l0]
    have h1 : (i : Int) < (a.length : Int) := by omega
    have h2 : (i : Int) < (b.length : Int) := by omega
    have h0 : (0 : Int) ≤ (i : Int) := by omega
    simp only [h1, h2, h0, if_true]
    rw [drop_rd (show i < a.length by omega), drop_rd (show i < b.length by omega)]
    by_cases hf : rd a i = rd b i
    · simp only [hf, if_true, w64s (show (i : Int) < 9223372036854775807 by omega), List.cons_beq_cons, beq_self_eq_true, Bool.true_and]
      exact ih (i + 1) (by omega)
    · have : (rd a i == rd b i) = false := by simpa using hf
      simp only [hf, if_false, List.cons_beq_cons, this, Bool.false_and]
      exact Ev.now _
theorem depotlaw01_same_ev (a b : List Int) (hn : a.length ≤ 17592186044416) : Ev (fun k => depotlaw01_same.f k a b) (a == b) := by
  unfold depotlaw01_same.f
  by_cases he : a.length = b.length
  · have : (a.length : Int) = (b.length : Int) := by omega
    simp only [this, if_true]
    exact depotlaw01_same_l0 a b hn he a.length 0 (by omega)
  · have : ¬ (a.length : Int) = (b.length : Int) := by omega
    simp only [this, if_false]
    have e : (a == b) = false := by
      simp only [beq_eq_false_iff_ne, ne_eq]
      rintro rfl; exact he rfl
    rw [e]
    exact Ev.now _
end Go.Proofs.Ytamefocngapkpaa.PLitsSets
