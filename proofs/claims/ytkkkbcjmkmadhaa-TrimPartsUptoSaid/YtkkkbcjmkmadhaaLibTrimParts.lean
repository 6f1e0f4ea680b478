/- What the functions that TrimParts reaches compute, on numbers and lists. Laid by lib.py. -/
import Derived.Test.YtkkkbcjmkmadhaaGTrimPartsx2
import Derived.Test.YtkkkbcjmkmadhaaMath
namespace Go.Proofs.Ytkkkbcjmkmadhaa.PTrimParts
open Go.RowKit Go.Proofs.YtkkkbcjmkmadhaaW.PrintWords Go.Proofs.YtkkkbcjmkmadhaaW.PrintLast Go.Proofs.YtkkkbcjmkmadhaaMath
set_option linter.unusedVariables false
set_option linter.unusedSimpArgs false
theorem slices_Equal_int_int_l0 (a b : List Int) (hn : a.length ≤ 17592186044416) (he : a.length = b.length) (d : Nat) : ∀ i : Nat, i + d = a.length → Ev (fun k => slices_Equal_int_int.l0 k a b (a.length : Int) (i : Int)) (a.drop i == b.drop i) := by
  induction d with
  | zero =>
    intro i hi
    refine Ev.succ ?_
    simp only [slices_Equal_int_int.l0]
    have h1 : ¬ ((i : Int) < (a.length : Int)) := by omega
    simp only [h1, if_false]
    rw [List.drop_of_length_le (by omega), List.drop_of_length_le (by omega)]
    exact Ev.now _
  | succ d ih =>
    intro i hi
    refine Ev.succ ?_
    simp only [slices_Equal_int_int.l0]
    have h1 : (i : Int) < (a.length : Int) := by omega
    have h2 : (i : Int) < (b.length : Int) := by omega
    have h0 : (0 : Int) ≤ (i : Int) := by omega
    simp only [h1, h2, h0, if_true]
    rw [drop_rd (show i < a.length by omega), drop_rd (show i < b.length by omega)]
    by_cases hf : rd a i = rd b i
    · simp only [hf, if_true, w64s (show (i : Int) < 9223372036854775807 by omega), List.cons_beq_cons, beq_self_eq_true, Bool.true_and]
      exact ih (i + 1) (by omega)
    · have : (rd a i == rd b i) = false := by simpa using hf
      simp only [hf, if_false, List.cons_beq_cons, this, Bool.false_and]
      exact Ev.now _
theorem slices_Equal_int_int_ev (a b : List Int) (hn : a.length ≤ 17592186044416) : Ev (fun k => slices_Equal_int_int.f k a b) (a == b) := by
  unfold slices_Equal_int_int.f
  by_cases he : a.length = b.length
  · have : (a.length : Int) = (b.length : Int) := by omega
    have h := slices_Equal_int_int_l0 a b hn he a.length 0 (by omega)
    simp only [this, if_true] at h ⊢
    exact h
  · have : ¬ (a.length : Int) = (b.length : Int) := by omega
    simp only [this, if_false]
    have e : (a == b) = false := by
      simp only [beq_eq_false_iff_ne, ne_eq]
      rintro rfl; exact he rfl
    rw [e]
    exact Ev.now _
theorem depotref00_CopyInts_l0 (l : List Int) (hn : l.length < 17592186044416) (d : Nat) : ∀ i : Nat, i + d = l.length → Ev (fun k => depotref00_CopyInts.l0 k l (l.take i) (i : Int)) l := by
  induction d with
  | zero =>
    intro i hi
    refine Ev.succ ?_
    have h1 : ¬ ((i : Int) < (l.length : Int)) := by omega
    simp only [depotref00_CopyInts.l0, h1, if_false]
    rw [List.take_of_length_le (by omega)]
    exact Ev.now _
  | succ d ih =>
    intro i hi
    refine Ev.succ ?_
    have h1 : (i : Int) < (l.length : Int) := by omega
    have h0 : (0 : Int) ≤ (i : Int) := by omega
    have h2 : (l.take i).length < 17592186044416 := by rw [List.length_take]; omega
    simp only [depotref00_CopyInts.l0, h1, h0, h2, if_true, w64s (show (i : Int) < 9223372036854775807 by omega)]
    rw [← take_rd (show i < l.length by omega)]
    exact ih (i + 1) (by omega)
theorem depotref00_CopyInts_ev (l : List Int) (hn : l.length < 17592186044416) : Ev (fun k => depotref00_CopyInts.f k l) l := depotref00_CopyInts_l0 l hn l.length 0 (by omega)
theorem depotref00_CopySteps_l0 (l : List S29) (hn : l.length ≤ 4398046511104) (hs : ∀ x ∈ l, x.f1.length < 17592186044416) (d : Nat) : ∀ i : Nat, i + d = l.length → Ev (fun k => depotref00_CopySteps.l0 k l (l.take i) (i : Int)) l := by
  induction d with
  | zero =>
    intro i hi
    refine Ev.succ ?_
    have h1 : ¬ ((i : Int) < (l.length : Int)) := by omega
    simp only [depotref00_CopySteps.l0, h1, if_false]
    rw [List.take_of_length_le (by omega)]
    exact Ev.now _
  | succ d ih =>
    intro i hi
    refine Ev.succ ?_
    have h1 : (i : Int) < (l.length : Int) := by omega
    have h0 : (0 : Int) ≤ (i : Int) := by omega
    have h2 : (l.take i).length < 4398046511104 := by rw [List.length_take]; omega
    have e := getD_nat (z := z29) (show i < l.length by omega)
    simp only [depotref00_CopySteps.l0, h1, h0, if_true, rd_T29]
    refine Ev.bind (depotref00_CopyInts_ev _ (hs _ (by rw [e]; exact List.getElem_mem _))) ?_
    simp only [h2, if_true, w64s (show (i : Int) < 9223372036854775807 by omega)]
    rw [show (⟨(l.getD ((i : Int).toNat) z29).f0, (l.getD ((i : Int).toNat) z29).f1⟩ : S29) = l.getD ((i : Int).toNat) z29 from rfl, ← take_getD (show i < l.length by omega)]
    exact ih (i + 1) (by omega)
theorem depotref00_CopySteps_ev (l : List S29) (hn : l.length ≤ 4398046511104) (hs : ∀ x ∈ l, x.f1.length < 17592186044416) : Ev (fun k => depotref00_CopySteps.f k l) l := depotref00_CopySteps_l0 l hn hs l.length 0 (by omega)
theorem drop_T29 {l : List S29} {i : Nat} (h : i < l.length) : l.drop i = rd_T29 l (i : Int) :: l.drop (i + 1) := drop_getD (z := z29) h
theorem rd_T29_mem {l : List S29} {i : Nat} (h : i < l.length) : rd_T29 l (i : Int) ∈ l := by
  have := getD_nat (z := z29) h
  show l.getD ((i : Int).toNat) z29 ∈ l
  rw [this]; exact List.getElem_mem h
def eqS (x y : S29) : Bool := (x.f0 == y.f0) && (x.f1 == y.f1)
theorem eqS_iff (x y : S29) : eqS x y = true ↔ (x.f0 == y.f0) = true ∧ (x.f1 == y.f1) = true := by unfold eqS; rw [Bool.and_eq_true]
def within12 : List S29 → List S29 → Bool
  | [], _ => true
  | _ :: _, [] => false
  | x :: a, y :: b => if eqS x y = true then within12 a b else within12 (x :: a) b
theorem within12_nil (b : List S29) : within12 [] b = true := by cases b <;> rfl
theorem trim_Within_l0 (a b : List S29) (ha : a.length ≤ 4398046511104) (hb : b.length ≤ 4398046511104) (hs : ∀ x ∈ a, x.f1.length ≤ 17592186044416) (d : Nat) : ∀ i j : Nat, i ≤ a.length → j + d = b.length → Ev (fun k => trim_Within.l0 k a (i : Int) b (b.length : Int) (j : Int)) (within12 (a.drop i) (b.drop j)) := by
  induction d with
  | zero =>
    intro i j hi hj
    refine Ev.succ ?_
    have h1 : ¬ ((j : Int) < (b.length : Int)) := by omega
    simp only [trim_Within.l0, h1, if_false]
    rw [List.drop_of_length_le (show b.length ≤ j by omega)]
    by_cases c : i = a.length
    · have e : ((i : Int) == (a.length : Int)) = true := by simp [c]
      rw [e, List.drop_of_length_le (by omega)]
      exact Ev.now _
    · have e : ((i : Int) == (a.length : Int)) = false := by
        simp only [beq_eq_false_iff_ne, ne_eq]; omega
      rw [e, drop_T29 (show i < a.length by omega)]
      exact Ev.now _
  | succ d ih =>
    intro i j hi hj
    refine Ev.succ ?_
    have h1 : (j : Int) < (b.length : Int) := by omega
    have h0 : (0 : Int) ≤ (j : Int) := by omega
    simp only [trim_Within.l0, h1, h0, if_true, w64s (show (j : Int) < 9223372036854775807 by omega)]
    by_cases c : i < a.length
    · have h2 : (i : Int) < (a.length : Int) := by omega
      have h3 : (0 : Int) ≤ (i : Int) := by omega
      have hl := hs _ (rd_T29_mem c)
      simp only [h2, h3, if_true]
      have K1 := ih (i + 1) (j + 1) (by omega) (by omega)
      have K2 := ih i (j + 1) hi (by omega)
      rw [drop_T29 c] at K2 ⊢
      rw [drop_T29 (show j < b.length by omega)]
      generalize rd_T29 a (i : Int) = x at *
      generalize rd_T29 b (j : Int) = y at *
      simp only [within12]
      by_cases c0 : (x.f0 == y.f0) = true
      · simp only [c0, if_true]
        refine Ev.bind (slices_Equal_int_int_ev x.f1 y.f1 hl) ?_
        by_cases c1 : (x.f1 == y.f1) = true
        · have := (eqS_iff x y).2 ⟨c0, c1⟩
          simp only [this, c1, if_true, w64s (show (i : Int) < 9223372036854775807 by omega)]
          exact K1
        · have : ¬ eqS x y = true := fun h => c1 ((eqS_iff x y).1 h).2
          simp only [this, c1, if_false]
          exact K2
      · have : ¬ eqS x y = true := fun h => c0 ((eqS_iff x y).1 h).1
        simp only [this, c0, if_false]
        exact K2
    · have h2 : ¬ (i : Int) < (a.length : Int) := by omega
      simp only [h2, if_false]
      have K2 := ih i (j + 1) hi (by omega)
      rw [List.drop_of_length_le (show a.length ≤ i by omega), within12_nil] at K2 ⊢
      exact K2
theorem trim_Within_ev (a b : List S29) (ha : a.length ≤ 4398046511104) (hb : b.length ≤ 4398046511104) (hs : ∀ x ∈ a, x.f1.length ≤ 17592186044416) : Ev (fun k => trim_Within.f k a b) (within12 a b) := trim_Within_l0 a b ha hb hs b.length 0 0 (by omega) (by omega)
theorem within12_sub (b : List S29) : ∀ a : List S29, List.Sublist a b → within12 a b = true := by
  induction b with
  | nil =>
    intro a h
    cases h
    rfl
  | cons y b ih =>
    intro a h
    cases h with
    | cons _ h =>
      cases a with
      | nil => rfl
      | cons x a =>
        simp only [within12]
        split
        · exact ih a ((List.sublist_cons_self x a).trans h)
        · exact ih _ h
    | cons_cons _ h =>
      rename_i a
      have : eqS y y = true := by simp [eqS]
      simp only [within12, this, if_true]
      exact ih a h
theorem within12_length (b : List S29) : ∀ a : List S29, within12 a b = true → a.length ≤ b.length := by
  induction b with
  | nil =>
    intro a h
    cases a with
    | nil => simp
    | cons x a => cases h
  | cons y b ih =>
    intro a h
    cases a with
    | nil => simp
    | cons x a =>
      simp only [within12] at h
      split at h
      · have := ih a h
        simp only [List.length_cons]; omega
      · have := ih _ h
        simp only [List.length_cons] at this ⊢; omega
end Go.Proofs.Ytkkkbcjmkmadhaa.PTrimParts
