/- What the functions that LitsSpares reaches compute, on numbers and lists. Laid by lib.py. -/
import Derived.Test.YtamefocngapkpaaClLitsSparesr
import Derived.Test.YtamefocngapkpaaClLitsSparesc
import Derived.Test.YtamefocngapkpaaClLitsSparesp
import Derived.Test.YtamefocngapkpaaClLitsSparesd
import Derived.Test.YtamefocngapkpaaClLitsSparesq
import Derived.Test.YtamefocngapkpaaClLitsSpareso
/-! text YtamefocngapkpaaSparesLib -/
namespace Go.Proofs.Ytamefocngapkpaa.PLitsSpares
open Go.RowKit Go.Proofs.YtamefocngapkpaaW.PrintWords Go.Proofs.YtamefocngapkpaaW.PrintLast Go.Proofs.YtamefocngapkpaaMath
set_option linter.unusedVariables false
set_option linter.unusedSimpArgs false
theorem lits_Formed_eq (l : Int) : lits_Formed.f l = some (formed l) := by
  unfold lits_Formed.f formed
  by_cases h0 : l = 0
  · simp [h0]
  · by_cases h1 : l ≥ -1048576
    · rw [if_neg h0, if_pos h1]; congr 1; rw [Bool.eq_iff_iff]; simp; omega
    · rw [if_neg h0, if_neg h1]; congr 1; symm; simp; omega
theorem depotref01_Formed_eq (l : Int) : depotref01_Formed.f l = some (formed l) := by
  unfold depotref01_Formed.f formed
  by_cases h1 : l ≥ 1
  · by_cases h2 : l ≤ 1048576
    · rw [if_pos h1, if_pos h2]; congr 1; symm; simp; omega
    · rw [if_pos h1, if_neg h2, if_pos (by omega)]; congr 1; rw [Bool.eq_iff_iff]; simp; omega
  · by_cases h2 : l ≥ -1048576
    · rw [if_neg h1, if_pos h2]; congr 1; rw [Bool.eq_iff_iff]; simp; omega
    · rw [if_neg h1, if_neg h2]; congr 1; symm; simp; omega
theorem lits_Sound_l0 (l : List Int) (hn : l.length ≤ 17592186044416) (d : Nat) : ∀ i : Nat, i + d = l.length → Ev (fun k => lits_Sound.l0 k l (l.length : Int) (i : Int)) (sound (l.drop i)) := by
  induction d with
  | zero =>
    intro i hi
    refine Ev.succ ?_
    simp only [lits_Sound.l0]
    have h1 : ¬ ((i : Int) < (l.length : Int)) := by omega
    simp only [h1, if_false]
    rw [List.drop_of_length_le (by omega)]
    exact Ev.now _
  | succ d ih =>
    intro i hi
    refine Ev.succ ?_
    simp only [lits_Sound.l0, lits_Formed_eq, Option.bind_some]
    have h1 : (i : Int) < (l.length : Int) := by omega
    have h0 : (0 : Int) ≤ (i : Int) := by omega
    simp only [h1, h0, if_true]
    rw [drop_rd (show i < l.length by omega)]
    by_cases hf : formed (rd l i) = true
    · simp only [hf, if_true, w64s (show (i : Int) < 9223372036854775807 by omega), sound, List.all_cons, Bool.true_and]
      exact ih (i + 1) (by omega)
    · simp only [Bool.not_eq_true] at hf
      simp only [hf, Bool.false_eq_true, if_false, sound, List.all_cons, Bool.false_and]
      exact Ev.now _
theorem lits_Sound_ev (l : List Int) (hn : l.length ≤ 17592186044416) : Ev (fun k => lits_Sound.f k l) (sound l) := lits_Sound_l0 l hn l.length 0 (by omega)
theorem depotref01_Sound_l0 (l : List Int) (hn : l.length ≤ 17592186044416) (d : Nat) : ∀ i : Nat, i + d = l.length → Ev (fun k => depotref01_Sound.l0 k l (i : Int)) (sound (l.drop i)) := by
  induction d with
  | zero =>
    intro i hi
    refine Ev.succ ?_
    simp only [depotref01_Sound.l0]
    have h1 : ¬ ((i : Int) < (l.length : Int)) := by omega
    simp only [h1, if_false]
    rw [List.drop_of_length_le (by omega)]
    exact Ev.now _
  | succ d ih =>
    intro i hi
    refine Ev.succ ?_
    simp only [depotref01_Sound.l0, depotref01_Formed_eq, Option.bind_some]
    have h1 : (i : Int) < (l.length : Int) := by omega
    have h0 : (0 : Int) ≤ (i : Int) := by omega
    simp only [h1, h0, if_true]
    rw [drop_rd (show i < l.length by omega)]
    by_cases hf : formed (rd l i) = true
    · simp only [hf, if_true, w64s (show (i : Int) < 9223372036854775807 by omega), sound, List.all_cons, Bool.true_and]
      exact ih (i + 1) (by omega)
    · simp only [Bool.not_eq_true] at hf
      simp only [hf, Bool.false_eq_true, if_false, sound, List.all_cons, Bool.false_and]
      exact Ev.now _
theorem depotref01_Sound_ev (l : List Int) (hn : l.length ≤ 17592186044416) : Ev (fun k => depotref01_Sound.f k l) (sound l) := depotref01_Sound_l0 l hn l.length 0 (by omega)
theorem slices_Index_l0 (l : List Int) (x : Int) (hn : l.length ≤ 17592186044416) (d : Nat) : ∀ i : Nat, i + d = l.length → ∃ r : Int, Ev (fun k => slices_Index_int_int.l0 k l x (l.length : Int) (i : Int)) r ∧ decide (r ≥ 0) = (l.drop i).contains x := by
  induction d with
  | zero =>
    intro i hi
    refine ⟨-1, Ev.succ ?_, ?_⟩
    · simp only [slices_Index_int_int.l0]
      have h1 : ¬ ((i : Int) < (l.length : Int)) := by omega
      simp only [h1, if_false]
      exact Ev.now _
    · rw [List.drop_of_length_le (by omega)]
      rfl
  | succ d ih =>
    intro i hi
    have h1 : (i : Int) < (l.length : Int) := by omega
    have h0 : (0 : Int) ≤ (i : Int) := by omega
    by_cases hx : x = rd l i
    · refine ⟨(i : Int), Ev.succ ?_, ?_⟩
      · simp only [slices_Index_int_int.l0, h1, h0, if_true]
        simp only [← hx, if_true]
        exact Ev.now _
      · rw [drop_rd (show i < l.length by omega), List.contains_cons, ← hx]
        simp
    · obtain ⟨r, hr, he⟩ := ih (i + 1) (by omega)
      refine ⟨r, Ev.succ ?_, ?_⟩
      · simp only [slices_Index_int_int.l0, h1, h0, if_true, hx, if_false, w64s (show (i : Int) < 9223372036854775807 by omega)]
        exact hr
      · rw [he, drop_rd (show i < l.length by omega), List.contains_cons]
        simp [hx]
theorem slices_Contains_ev (l : List Int) (x : Int) (hn : l.length ≤ 17592186044416) : Ev (fun k => slices_Contains_int_int.f k l x) (l.contains x) := by
  obtain ⟨r, hr, he⟩ := slices_Index_l0 l x hn l.length 0 (by omega)
  unfold slices_Contains_int_int.f slices_Index_int_int.f
  refine Ev.bind hr ?_
  rw [he]
  exact Ev.now _
theorem lits_Has_ev (l : List Int) (x : Int) (hn : l.length ≤ 17592186044416) : Ev (fun k => lits_Has.f k l x) (has l x) := by
  unfold lits_Has.f has
  simp only [lits_Formed_eq, Option.bind_some]
  by_cases hf : formed x = true
  · simp only [hf, if_true, Bool.true_and]
    exact Ev.bind (slices_Contains_ev l x hn) (Ev.now _)
  · simp only [Bool.not_eq_true] at hf
    simp only [hf, Bool.false_eq_true, if_false, Bool.false_and]
    exact Ev.now _
theorem depotref01_Has_l0 (l : List Int) (x : Int) (hn : l.length ≤ 17592186044416) (d : Nat) : ∀ i : Nat, i + d = l.length → Ev (fun k => depotref01_Has.l0 k l x (i : Int)) ((l.drop i).contains x) := by
  induction d with
  | zero =>
    intro i hi
    refine Ev.succ ?_
    simp only [depotref01_Has.l0]
    have h1 : ¬ ((i : Int) < (l.length : Int)) := by omega
    simp only [h1, if_false]
    rw [List.drop_of_length_le (by omega)]
    exact Ev.now _
  | succ d ih =>
    intro i hi
    refine Ev.succ ?_
    simp only [depotref01_Has.l0]
    have h1 : (i : Int) < (l.length : Int) := by omega
    have h0 : (0 : Int) ≤ (i : Int) := by omega
    simp only [h1, h0, if_true]
    rw [drop_rd (show i < l.length by omega), List.contains_cons]
    by_cases hx : rd l i = x
    · simp only [hx, if_true, beq_self_eq_true, Bool.true_or]
      exact Ev.now _
    · have hx2 : (x == rd l i) = false := by simp; omega
      simp only [hx, if_false, hx2, Bool.false_or, w64s (show (i : Int) < 9223372036854775807 by omega)]
      exact ih (i + 1) (by omega)
theorem depotref01_Has_ev (l : List Int) (x : Int) (hn : l.length ≤ 17592186044416) : Ev (fun k => depotref01_Has.f k l x) (has l x) := by
  unfold depotref01_Has.f has
  simp only [depotref01_Formed_eq, Option.bind_some]
  by_cases hf : formed x = true
  · simp only [hf, if_true, Bool.true_and]
    exact depotref01_Has_l0 l x hn l.length 0 (by omega)
  · simp only [Bool.not_eq_true] at hf
    simp only [hf, Bool.false_eq_true, if_false, Bool.false_and]
    exact Ev.now _
theorem depotref01_Index_eq (l : Int) : depotref01_Index.f l = some (idxOf l) := by
  unfold depotref01_Index.f idxOf
  rw [depotref01_Formed_eq]
  simp only [Option.bind_some]
  by_cases h : formed l = true
  · have := formed_bd h
    have e1 : wrap64 (wrap64 (-2 * l) - 1) = -2 * l - 1 := by unfold wrap64; omega
    have e2 : wrap64 (wrap64 (2 * l) - 2) = 2 * l - 2 := by unfold wrap64; omega
    rw [if_pos h, if_pos h, e1, e2]
    split <;> rfl
  · rw [if_neg h, if_neg h]
theorem lits_Tidy_eq {l : List Int} (hn : l.length ≤ 17592186044416) : lits_Tidy.f l = some (tidyOf l) := by unfold lits_Tidy.f; rw [if_pos hn]
theorem depotlaw01_copied_eq {l : List Int} (hn : l.length < 17592186044416) : depotlaw01_copied.f l = some l := by
  unfold depotlaw01_copied.f; rw [if_pos (by simpa using hn)]; rfl
theorem depotref01_Equal_l0 (a b : List Int) (hn : a.length ≤ 17592186044416) (he : a.length = b.length) (d : Nat) : ∀ i : Nat, i + d = a.length → Ev (fun k => depotref01_Equal.l0 k a b (i : Int)) (a.drop i == b.drop i) := by
  induction d with
  | zero =>
    intro i hi
    refine Ev.succ ?_
    simp only [depotref01_Equal.l0]
    have h1 : ¬ ((i : Int) < (a.length : Int)) := by omega
    simp only [h1, if_false]
    rw [List.drop_of_length_le (by omega), List.drop_of_length_le (by omega)]
    exact Ev.now _
  | succ d ih =>
    intro i hi
    refine Ev.succ ?_
    simp only [depotref01_Equal.l0]
    have h1 : (i : Int) < (a.length : Int) := by omega
    have h2 : (i : Int) < (b.length : Int) := by omega
    have h0 : (0 : Int) ≤ (i : Int) := by omega
    simp only [h1, h2, h0, if_true]
    rw [drop_rd (show i < a.length by omega), drop_rd (show i < b.length by omega)]
    by_cases hf : rd a i = rd b i
    · simp only [hf, if_true, w64s (show (i : Int) < 9223372036854775807 by omega), List.cons_beq_cons, beq_self_eq_true, Bool.true_and]
      exact ih (i + 1) (by omega)
    · have : (rd a i == rd b i) = false := by simpa using hf
      simp only [hf, if_false, List.cons_beq_cons, this, Bool.false_and]
      exact Ev.now _
theorem depotref01_Equal_ev (a b : List Int) (hn : a.length ≤ 17592186044416) : Ev (fun k => depotref01_Equal.f k a b) (a == b) := by
  unfold depotref01_Equal.f
  by_cases he : a.length = b.length
  · have : (a.length : Int) = (b.length : Int) := by omega
    simp only [this, if_true]
    exact depotref01_Equal_l0 a b hn he a.length 0 (by omega)
  · have : ¬ (a.length : Int) = (b.length : Int) := by omega
    simp only [this, if_false]
    have e : (a == b) = false := by
      simp only [beq_eq_false_iff_ne, ne_eq]
      rintro rfl; exact he rfl
    rw [e]
    exact Ev.now _
theorem depotref01_merged_l0 (a b : List Int) (hn : a.length + b.length ≤ 17592186044416) (n : Nat) : ∀ (i j : Nat) (o : List Int), i ≤ a.length → j ≤ b.length → a.length - i + (b.length - j) ≤ n → o.length + (a.length - i + (b.length - j)) ≤ 17592186044416 →
    Ev (fun k => depotref01_merged.l0 k a b o (i : Int) (j : Int)) (o ++ mg (a.drop i) (b.drop j)) := by
  induction n with
  | zero =>
    intro i j o hi hj hd ho
    refine Ev.succ ?_
    simp only [depotref01_merged.l0]
    have h1 : ¬ ((i : Int) < (a.length : Int)) := by omega
    have h2 : ¬ ((j : Int) < (b.length : Int)) := by omega
    simp only [h1, if_false, decide_eq_false h2]
    refine Ev.succ ?_
    simp only [depotref01_merged.j1, Bool.false_eq_true, if_false]
    rw [List.drop_of_length_le (by omega), List.drop_of_length_le (by omega), mg_nil, List.append_nil]
    exact Ev.now _
  | succ n ih =>
    intro i j o hi hj hd ho
    have h0i : (0 : Int) ≤ (i : Int) := by omega
    have h0j : (0 : Int) ≤ (j : Int) := by omega
    refine Ev.succ ?_
    simp only [depotref01_merged.l0]
    by_cases h1 : i < a.length
    · have h1' : (i : Int) < (a.length : Int) := by omega
      have hii : ¬ (i : Int) = (a.length : Int) := by omega
      simp only [h1', if_true]
      refine Ev.succ ?_
      simp only [depotref01_merged.j1, if_true]
      have hol : o.length < 17592186044416 := by omega
      by_cases h2 : j < b.length
      · have h2' : (j : Int) < (b.length : Int) := by omega
        have hjj : ¬ (j : Int) = (b.length : Int) := by omega
        simp only [hjj, if_false, h1', if_true, h0i, h0j, h2', depotref01_Index_eq, Option.bind_some]
        rw [drop_rd h1, drop_rd h2]
        refine Ev.succ ?_
        by_cases c1 : idxOf (rd a i) < idxOf (rd b j)
        · simp only [depotref01_merged.j2, decide_eq_true c1, if_true, h0i, h1', hol, w64s (show (i : Int) < 9223372036854775807 by omega)]
          rw [mg_lt c1, ← drop_rd h2]
          have := ih (i + 1) j (o ++ [rd a i]) (by omega) hj (by omega) (by simp only [List.length_append, List.length_singleton]; omega)
          simpa using this
        · simp only [depotref01_merged.j2, decide_eq_false c1, Bool.false_eq_true, if_false, hii, h0i, h0j, h1', h2', if_true, depotref01_Index_eq, Option.bind_some]
          by_cases c2 : idxOf (rd b j) < idxOf (rd a i)
          · simp only [c2, if_true, hol, w64s (show (j : Int) < 9223372036854775807 by omega)]
            rw [mg_gt c2, ← drop_rd h1]
            have := ih i (j + 1) (o ++ [rd b j]) hi (by omega) (by omega) (by simp only [List.length_append, List.length_singleton]; omega)
            simpa using this
          · simp only [c2, if_false, hol, if_true, w64s (show (i : Int) < 9223372036854775807 by omega), w64s (show (j : Int) < 9223372036854775807 by omega)]
            rw [mg_eq (by omega)]
            have := ih (i + 1) (j + 1) (o ++ [rd a i]) (by omega) (by omega) (by omega) (by simp only [List.length_append, List.length_singleton]; omega)
            simpa using this
      · have hjj : (j : Int) = (b.length : Int) := by omega
        simp only [hjj, if_true]
        refine Ev.succ ?_
        simp only [depotref01_merged.j2, if_true, h0i, h1', hol, w64s (show (i : Int) < 9223372036854775807 by omega)]
        rw [drop_rd h1, List.drop_of_length_le (show b.length ≤ j by omega), mg_nil']
        have := ih (i + 1) j (o ++ [rd a i]) (by omega) hj (by omega) (by simp only [List.length_append, List.length_singleton]; omega)
        rw [List.drop_of_length_le (show b.length ≤ j by omega), mg_nil', hjj] at this
        simpa using this
    · have h1' : ¬ (i : Int) < (a.length : Int) := by omega
      have hii : (i : Int) = (a.length : Int) := by omega
      simp only [h1', if_false]
      by_cases h2 : j < b.length
      · have h2' : (j : Int) < (b.length : Int) := by omega
        have hjj : ¬ (j : Int) = (b.length : Int) := by omega
        have hol : o.length < 17592186044416 := by omega
        simp only [decide_eq_true h2']
        refine Ev.succ ?_
        simp only [depotref01_merged.j1, if_true, hjj, if_false, h1']
        refine Ev.succ ?_
        simp only [depotref01_merged.j2, Bool.false_eq_true, if_false, hii, if_true, h0j, h2', hol, w64s (show (j : Int) < 9223372036854775807 by omega)]
        rw [drop_rd h2, List.drop_of_length_le (show a.length ≤ i by omega), mg_nil]
        have := ih i (j + 1) (o ++ [rd b j]) hi (by omega) (by omega) (by simp only [List.length_append, List.length_singleton]; omega)
        rw [List.drop_of_length_le (show a.length ≤ i by omega), mg_nil, hii] at this
        simpa using this
      · have h2' : ¬ ((j : Int) < (b.length : Int)) := by omega
        simp only [decide_eq_false h2']
        refine Ev.succ ?_
        simp only [depotref01_merged.j1, Bool.false_eq_true, if_false]
        rw [List.drop_of_length_le (show a.length ≤ i by omega), List.drop_of_length_le (show b.length ≤ j by omega), mg_nil, List.append_nil]
        exact Ev.now _
theorem depotref01_merged_ev (a b : List Int) (hn : a.length + b.length ≤ 17592186044416) : Ev (fun k => depotref01_merged.f k a b) (mg a b) := by
  have := depotref01_merged_l0 a b hn _ 0 0 [] (by omega) (by omega) (Nat.le_refl _) (by simp only [List.length_nil]; omega)
  simpa [depotref01_merged.f] using this
theorem depotref01_Tidy_ev (n : Nat) : ∀ l : List Int, l.length ≤ n → l.length ≤ 17592186044416 → Ev (fun k => depotref01_Tidy.f k l) (tidyOf l) := by
  induction n with
  | zero =>
    intro l h hn
    refine Ev.succ ?_
    have : l = [] := List.eq_nil_of_length_eq_zero (by omega)
    subst this
    simp only [depotref01_Tidy.f, List.length_nil]
    exact Ev.now _
  | succ n ih =>
    intro l h hn
    refine Ev.succ ?_
    match l, h, hn with
    | [], _, _ =>
      simp only [depotref01_Tidy.f, List.length_nil]
      exact Ev.now _
    | [x], _, _ =>
      have e1 : (([x] : List Int).length : Int) = 1 := rfl
      have r0 : rd [x] 0 = x := rfl
      simp only [depotref01_Tidy.f, e1, r0, show ¬ (1 : Int) = 0 by decide, if_false, if_true, show (0 : Int) < 1 by decide, depotref01_Formed_eq, tidyOf_one, Option.bind_some]
      by_cases hf : formed x = true
      · simp only [hf, if_true]; exact Ev.now _
      · simp only [hf, if_false]; exact Ev.now _
    | x :: y :: l, h, hn =>
      simp only [depotref01_Tidy.f]
      generalize hL : x :: y :: l = L at h hn ⊢
      have hL' : 2 ≤ L.length := by rw [← hL]; simp
      have h1 : ¬ (L.length : Int) = 0 := by omega
      have h2 : ¬ (L.length : Int) = 1 := by omega
      have e1 : wrap64 ((L.length : Int) / 2) = ((L.length / 2 : Nat) : Int) := by rw [w64 (by omega) (by omega)]; omega
      have h3 : (0 : Int) ≤ ((L.length / 2 : Nat) : Int) := by omega
      have h4 : ((L.length / 2 : Nat) : Int) ≤ (L.length : Int) := by omega
      simp only [h1, h2, if_false, e1, h3, h4, if_true, Int.toNat_natCast]
      refine Ev.bind (ih (L.take (L.length / 2)) (by simp only [List.length_take]; omega) (by simp only [List.length_take]; omega)) (Ev.bind (ih (L.drop (L.length / 2)) (by simp only [List.length_drop]; omega) (by simp only [List.length_drop]; omega)) ?_)
      have t1 := tidyOf_length (L.take (L.length / 2))
      have t2 := tidyOf_length (L.drop (L.length / 2))
      simp only [List.length_take, List.length_drop] at t1 t2
      refine Ev.bind (depotref01_merged_ev _ _ (by omega)) ?_
      rw [← tidyOf_append, List.take_append_drop]
      exact Ev.now _
theorem depotref01_Tidy_evl (l : List Int) (hn : l.length ≤ 17592186044416) : Ev (fun k => depotref01_Tidy.f k l) (tidyOf l) := depotref01_Tidy_ev l.length l (Nat.le_refl _) hn
theorem depotref01_Without_l0 (l : List Int) (x : Int) (hn : l.length ≤ 17592186044416) (d : Nat) : ∀ (i : Nat) (o : List Int), i + d = l.length → o.length ≤ i → Ev (fun k => depotref01_Without.l0 k x l o (i : Int)) (o ++ (l.drop i).filter fun y => !(y == x)) := by
  induction d with
  | zero =>
    intro i o hi ho
    refine Ev.succ ?_
    simp only [depotref01_Without.l0]
    have h1 : ¬ ((i : Int) < (l.length : Int)) := by omega
    simp only [h1, if_false]
    rw [List.drop_of_length_le (by omega), List.filter_nil, List.append_nil]
    exact Ev.now _
  | succ d ih =>
    intro i o hi ho
    refine Ev.succ ?_
    simp only [depotref01_Without.l0]
    have h1 : (i : Int) < (l.length : Int) := by omega
    have h0 : (0 : Int) ≤ (i : Int) := by omega
    have h2 : o.length < 17592186044416 := by omega
    simp only [h1, h0, if_true, h2, w64s (show (i : Int) < 9223372036854775807 by omega)]
    rw [drop_rd (show i < l.length by omega)]
    by_cases hf : rd l i = x
    · have e : (!(rd l i == x)) = false := by simp [hf]
      rw [List.filter_cons, e]
      simp only [hf, if_true, Bool.false_eq_true, if_false]
      exact ih (i + 1) o (by omega) (by omega)
    · have e : (!(rd l i == x)) = true := by simp [hf]
      rw [List.filter_cons, e]
      simp only [hf, if_true, if_false]
      have := ih (i + 1) (o ++ [rd l i]) (by omega) (by simp only [List.length_append, List.length_singleton]; omega)
      simpa using this
theorem depotref01_Without_ev (l : List Int) (x : Int) (hn : l.length ≤ 17592186044416) : Ev (fun k => depotref01_Without.f k l x) ((tidyOf l).filter fun y => !(y == x)) := by
  unfold depotref01_Without.f
  have := tidyOf_length l
  refine Ev.bind (depotref01_Tidy_evl l hn) ?_
  simpa using depotref01_Without_l0 (tidyOf l) x (by omega) _ 0 [] (Nat.zero_add _) (Nat.zero_le _)
theorem depotref01_Join_ev (l m : List Int) (h1 : l.length ≤ 17592186044416) (h2 : m.length ≤ 17592186044416) : Ev (fun k => depotref01_Join.f k l m) (tidyOf (l ++ m)) := by
  unfold depotref01_Join.f
  have t1 := formed_count (tidyOf l) (rising_tidyOf l) (fun _ h => tidyOf_formed h)
  have t2 := formed_count (tidyOf m) (rising_tidyOf m) (fun _ h => tidyOf_formed h)
  refine Ev.bind (depotref01_Tidy_evl l h1) (Ev.bind (depotref01_Tidy_evl m h2) (Ev.bind (depotref01_merged_ev _ _ (by omega)) ?_))
  rw [← tidyOf_append]
  exact Ev.now _
theorem slices_Equal_int_int_l0 (a b : List Int) (hn : a.length ≤ 17592186044416) (he : a.length = b.length) (d : Nat) : ∀ i : Nat, i + d = a.length → Ev (fun k => slices_Equal_int_int.l0 k a b (a.length : Int) (i : Int)) (a.drop i == b.drop i) := by
  induction d with
  | zero =>
    intro i hi
    refine Ev.succ ?_
    simp only [slices_Equal_int_int.l0]
    have h1 : ¬ ((i : Int) < (a.length : Int)) := by omega
    simp only [h1, if_false]
    rw [List.drop_of_length_le (by omega), List.drop_of_length_le (by omega)]
    exact Ev.now _
  | succ d ih =>
    intro i hi
    refine Ev.succ ?_
    simp only [slices_Equal_int_int.l0]
    have h1 : (i : Int) < (a.length : Int) := by omega
    have h2 : (i : Int) < (b.length : Int) := by omega
    have h0 : (0 : Int) ≤ (i : Int) := by omega
    simp only [h1, h2, h0, if_true]
    rw [drop_rd (show i < a.length by omega), drop_rd (show i < b.length by omega)]
    by_cases hf : rd a i = rd b i
    · simp only [hf, if_true, w64s (show (i : Int) < 9223372036854775807 by omega), List.cons_beq_cons, beq_self_eq_true, Bool.true_and]
      exact ih (i + 1) (by omega)
    · have : (rd a i == rd b i) = false := by simpa using hf
      simp only [hf, if_false, List.cons_beq_cons, this, Bool.false_and]
      exact Ev.now _
theorem slices_Equal_int_int_ev (a b : List Int) (hn : a.length ≤ 17592186044416) : Ev (fun k => slices_Equal_int_int.f k a b) (a == b) := by
  unfold slices_Equal_int_int.f
  by_cases he : a.length = b.length
  · have : (a.length : Int) = (b.length : Int) := by omega
    have h := slices_Equal_int_int_l0 a b hn he a.length 0 (by omega)
    simp only [this, if_true] at h ⊢
    exact h
  · have : ¬ (a.length : Int) = (b.length : Int) := by omega
    simp only [this, if_false]
    have e : (a == b) = false := by
      simp only [beq_eq_false_iff_ne, ne_eq]
      rintro rfl; exact he rfl
    rw [e]
    exact Ev.now _
theorem lits_Taut_l0 (t : List Int) (hf : ∀ x ∈ t, formed x = true) (hn : t.length ≤ 17592186044416) (d : Nat) : ∀ i : Nat, 0 < i → i + d = t.length → Ev (fun k => lits_Taut.l0 k t (i : Int)) (tautIn (t.drop (i - 1))) := by
  induction d with
  | zero =>
    intro i h0 hi
    refine Ev.succ ?_
    simp only [lits_Taut.l0]
    have h1 : ¬ ((i : Int) < (t.length : Int)) := by omega
    simp only [h1, if_false]
    rw [drop_rd (show i - 1 < t.length by omega), List.drop_of_length_le (by omega)]
    exact Ev.now _
  | succ d ih =>
    intro i h0 hi
    refine Ev.succ ?_
    simp only [lits_Taut.l0]
    have h1 : (i : Int) < (t.length : Int) := by omega
    have h2 : (0 : Int) ≤ (i : Int) := by omega
    have h3 : (0 : Int) ≤ ((i - 1 : Nat) : Int) := by omega
    have h4 : ((i - 1 : Nat) : Int) < (t.length : Int) := by omega
    have hb := formed_bd (hf _ (rd_mem (show i - 1 < t.length by omega)))
    have e1 : wrap64 (-(rd t ((i - 1 : Nat) : Int))) = -(rd t ((i - 1 : Nat) : Int)) := by unfold wrap64; omega
    simp only [h1, h2, if_true, w64p h0 (show (i : Int) < 9223372036854775807 by omega), h3, h4, e1, w64s (show (i : Int) < 9223372036854775807 by omega)]
    rw [drop_rd (show i - 1 < t.length by omega), show i - 1 + 1 = i by omega, drop_rd (show i < t.length by omega)]
    have := ih (i + 1) (by omega) (by omega)
    rw [show i + 1 - 1 = i by omega, drop_rd (show i < t.length by omega)] at this
    by_cases c : rd t (i : Int) = -(rd t ((i - 1 : Nat) : Int))
    · have : (rd t (i : Int) == -(rd t ((i - 1 : Nat) : Int))) = true := by simpa using c
      simp only [c, if_true, tautIn, beq_self_eq_true, Bool.true_or]
      exact Ev.now _
    · have e : (rd t (i : Int) == -(rd t ((i - 1 : Nat) : Int))) = false := by simpa using c
      simp only [c, if_false, tautIn, e, Bool.false_or]
      exact this
theorem lits_Taut_ev (l : List Int) (hn : l.length ≤ 17592186044416) : Ev (fun k => lits_Taut.f k l) (tautIn (tidyOf l)) := by
  unfold lits_Taut.f
  have ht := tidyOf_length l
  refine Ev.bound (lits_Tidy_eq hn) ?_
  by_cases h : (tidyOf l).length = 0
  · rw [List.eq_nil_of_length_eq_zero h]
    refine Ev.succ ?_
    simp only [lits_Taut.l0]
    exact Ev.now _
  · have := lits_Taut_l0 (tidyOf l) (fun _ h => tidyOf_formed h) (by omega) ((tidyOf l).length - 1) 1 (by omega) (by omega)
    simpa using this
theorem lits_Same_ev (a b : List Int) (ha : a.length ≤ 17592186044416) (hb : b.length ≤ 17592186044416) : Ev (fun k => lits_Same.f k a b) (sound a && (sound b && (tidyOf a == tidyOf b))) := by
  unfold lits_Same.f
  have t1 := tidyOf_length a
  refine Ev.bind (lits_Sound_ev a ha) ?_
  cases sound a
  · simp only [Bool.false_eq_true, if_false, Bool.false_and]; exact Ev.now _
  · simp only [if_true, Bool.true_and]
    refine Ev.bind (lits_Sound_ev b hb) ?_
    cases sound b
    · simp only [Bool.false_eq_true, if_false, Bool.false_and]; exact Ev.now _
    · simp only [if_true, Bool.true_and]
      exact Ev.bound (lits_Tidy_eq ha) (Ev.bound (lits_Tidy_eq hb) (Ev.bind (slices_Equal_int_int_ev _ _ (by omega)) (Ev.now _)))
theorem drop_L1 {l : List (List Int)} {i : Nat} (h : i < l.length) : l.drop i = rd_L1 l (i : Int) :: l.drop (i + 1) := drop_getD (z := ([] : List Int)) h
theorem rd_L1_mem {l : List (List Int)} {i : Nat} (h : i < l.length) : rd_L1 l (i : Int) ∈ l := by
  have := getD_nat (z := ([] : List Int)) h
  show l.getD ((i : Int).toNat) ([] : List Int) ∈ l
  rw [this]; exact List.getElem_mem h
theorem take_L1 {l : List (List Int)} {i : Nat} (h : i < l.length) : l.take (i + 1) = l.take i ++ [rd_L1 l (i : Int)] := take_getD (z := ([] : List Int)) h
theorem pivOf_contains {a b : List Int} {v : Int} (h0 : 1 ≤ v) (h1 : v ≤ 1048576) : (pivOf (tidyOf a) (tidyOf b)).contains v = (has a v && has b (-v)) := by
  have hf : formed v = true := formed_iff.2 ⟨by omega, by omega, by omega⟩
  have hf2 : formed (-v) = true := by rw [formed_neg]; exact hf
  rw [Bool.eq_iff_iff, List.contains_iff_mem]
  unfold pivOf isPiv has
  rw [List.mem_filter, mem_tidyOf, hf, hf2, decide_eq_true (show 0 ≤ v by omega), Bool.true_and, Bool.true_and, Bool.true_and, Bool.and_eq_true, List.contains_iff_mem, List.contains_iff_mem, List.contains_iff_mem, mem_tidyOf]
  exact ⟨fun h => ⟨h.1.1, h.2.1⟩, fun h => ⟨⟨h.1, by simp [hf]⟩, h.2, by simp [hf2]⟩⟩
theorem depotref01_Resolve_ev (a b : List Int) (v : Int) (ha : a.length ≤ 17592186044416) (hb : b.length ≤ 17592186044416) : Ev (fun k => depotref01_Resolve.f k a b v) (resOf a b v) := by
  have no : (sound a && sound b && decide (1 ≤ v ∧ v ≤ 1048576)) = false → Ev (fun k => depotref01_Resolve.j0 k a b v true) (resOf a b v) := by
    intro h
    have e : resOf a b v = ([], 1) := by unfold resOf; rw [h]; rfl
    rw [e]
    refine Ev.succ ?_
    simp only [depotref01_Resolve.j0, if_true]
    exact Ev.now _
  unfold depotref01_Resolve.f
  refine Ev.bind (depotref01_Sound_ev a ha) ?_
  cases h1 : sound a with
  | false =>
    simp only [Bool.false_eq_true, if_false]
    exact no (by rw [h1]; rfl)
  | true =>
    simp only [if_true]
    refine Ev.bind (depotref01_Sound_ev b hb) ?_
    cases h2 : sound b with
    | false =>
      simp only [Bool.false_eq_true, if_false]
      exact no (by rw [h2, Bool.and_false]; rfl)
    | true =>
      simp only [if_true]
      by_cases c1 : v < 1
      · simp only [c1, if_true]
        exact no (by rw [decide_eq_false (show ¬ (1 ≤ v ∧ v ≤ 1048576) by omega), Bool.and_false])
      · simp only [c1, if_false]
        by_cases c2 : v > 1048576
        · rw [decide_eq_true c2]
          exact no (by rw [decide_eq_false (show ¬ (1 ≤ v ∧ v ≤ 1048576) by omega), Bool.and_false])
        · rw [decide_eq_false c2]
          have hneg : wrap64 (-v) = -v := by unfold wrap64; omega
          have e : resOf a b v = if (has a v && has b (-v)) = true then (onOf a b v, 0) else ([], 10) := by
            unfold resOf
            rw [h1, h2, decide_eq_true (show (1 ≤ v ∧ v ≤ 1048576) by omega), pivOf_contains (by omega) (by omega)]
            rfl
          have no2 : (has a v && has b (-v)) = false → Ev (fun k => depotref01_Resolve.j1 k a b v true) (resOf a b v) := by
            intro h
            rw [e, h]
            refine Ev.succ ?_
            simp only [depotref01_Resolve.j1, if_true]
            exact Ev.now _
          refine Ev.succ ?_
          simp only [depotref01_Resolve.j0, Bool.false_eq_true, if_false, hneg]
          refine Ev.bind (depotref01_Has_ev a v ha) ?_
          cases g1 : has a v with
          | false =>
            simp only [Bool.false_eq_true, if_false]
            exact no2 (by rw [g1]; rfl)
          | true =>
            simp only [if_true]
            refine Ev.bind (depotref01_Has_ev b (-v) hb) ?_
            cases g2 : has b (-v) with
            | false => exact no2 (by rw [g1, g2]; rfl)
            | true =>
              rw [e, g1, g2]
              refine Ev.succ ?_
              simp only [depotref01_Resolve.j1, Bool.not_true, Bool.false_eq_true, if_false, hneg, Bool.and_self, if_true]
              have z1 := lessOf_length a v
              have z2 := lessOf_length b (-v)
              refine Ev.bind (depotref01_Without_ev a v ha) (Ev.bind (depotref01_Without_ev b (-v) hb) (Ev.bind (depotref01_Join_ev (lessOf a v) (lessOf b (-v)) (by omega) (by omega)) ?_))
              exact Ev.now _
def markOf (a b : Int) : Int := wrap64 (wrap64 (1000003 * wrap64 (a + 7)) + b)
def lentMarks : List Int := (List.range 64).map fun i : Nat => markOf 0 i
def lentOf (l : List Int) : List Int := l ++ lentMarks
theorem lentMarks_length : lentMarks.length = 64 := by simp [lentMarks]
theorem lentMarks_drop {j : Nat} (hj : j < 64) : lentMarks.drop j = markOf 0 j :: lentMarks.drop (j + 1) := by
  rw [List.drop_eq_getElem_cons (by rw [lentMarks_length]; exact hj)]
  simp [lentMarks]
theorem lentOf_length (l : List Int) : (lentOf l).length = l.length + 64 := by rw [lentOf, List.length_append, lentMarks_length]
theorem depotkit_Lent_l1 (d : Nat) : ∀ (j : Nat) (x : List Int), j + d = 64 → x.length + d < 17592186044416 → Ev (fun k => depotkit_Lent.l1 k x (j : Int)) (x ++ lentMarks.drop j) := by
  induction d with
  | zero =>
    intro j x hj hx
    refine Ev.succ ?_
    simp only [depotkit_Lent.l1]
    have h1 : ¬ ((j : Int) < 64) := by omega
    simp only [h1, if_false]
    rw [List.drop_of_length_le (by rw [lentMarks_length]; omega), List.append_nil]
    exact Ev.now _
  | succ d ih =>
    intro j x hj hx
    refine Ev.succ ?_
    simp only [depotkit_Lent.l1, depotkit_mark.f, Option.bind_some]
    have h1 : (j : Int) < 64 := by omega
    have h2 : x.length < 17592186044416 := by omega
    simp only [h1, h2, if_true, w64s (show (j : Int) < 9223372036854775807 by omega)]
    have := ih (j + 1) (x ++ [markOf 0 j]) (by omega) (by simp; omega)
    rw [lentMarks_drop (by omega)]
    rw [List.append_assoc] at this
    exact this
theorem depotkit_Lent_l0 (l : List Int) (hn : l.length + 64 < 17592186044416) (d : Nat) : ∀ (i : Nat) (x : List Int), i + d = l.length → x.length = i → Ev (fun k => depotkit_Lent.l0 k l x (i : Int)) (x ++ l.drop i ++ lentMarks) := by
  induction d with
  | zero =>
    intro i x hi hx
    refine Ev.succ ?_
    simp only [depotkit_Lent.l0]
    have h1 : ¬ ((i : Int) < (l.length : Int)) := by omega
    simp only [h1, if_false]
    rw [List.drop_of_length_le (by omega), List.append_nil]
    have := depotkit_Lent_l1 64 0 x (by omega) (by omega)
    rwa [List.drop_zero] at this
  | succ d ih =>
    intro i x hi hx
    refine Ev.succ ?_
    simp only [depotkit_Lent.l0]
    have h1 : (i : Int) < (l.length : Int) := by omega
    have h0 : (0 : Int) ≤ (i : Int) := by omega
    have h2 : x.length < 17592186044416 := by omega
    simp only [h1, h0, h2, if_true, w64s (show (i : Int) < 9223372036854775807 by omega)]
    rw [drop_rd (show i < l.length by omega)]
    have := ih (i + 1) (x ++ [rd l (i : Int)]) (by omega) (by simp [hx])
    rw [show x ++ [rd l (i : Int)] ++ l.drop (i + 1) ++ lentMarks = x ++ rd l (i : Int) :: l.drop (i + 1) ++ lentMarks by simp] at this
    exact this
theorem depotkit_Lent_ev (l : List Int) (hn : l.length + 64 < 17592186044416) : Ev (fun k => depotkit_Lent.f k l) (lentOf l) := by
  have := depotkit_Lent_l0 l hn l.length 0 [] (by omega) rfl
  simpa [depotkit_Lent.f, lentOf] using this
theorem depotkit_Kept_l1 (l : List Int) (hn : l.length + 64 < 17592186044416) (d : Nat) : ∀ j : Nat, j + d = 64 → Ev (fun k => depotkit_Kept.l1 k (lentOf l) l (j : Int)) true := by
  induction d with
  | zero =>
    intro j hj
    refine Ev.succ ?_
    simp only [depotkit_Kept.l1]
    have h1 : ¬ ((j : Int) < 64) := by omega
    simp only [h1, if_false]
    exact Ev.now _
  | succ d ih =>
    intro j hj
    refine Ev.succ ?_
    simp only [depotkit_Kept.l1, depotkit_mark.f, Option.bind_some]
    have h1 : (j : Int) < 64 := by omega
    have e1 : wrap64 ((l.length : Int) + (j : Int)) = ((l.length + j : Nat) : Int) := by rw [w64 (by omega) (by omega)]; omega
    have h2 : (0 : Int) ≤ ((l.length + j : Nat) : Int) := by omega
    have h3 : ((l.length + j : Nat) : Int) < ((lentOf l).length : Int) := by rw [lentOf_length]; omega
    have e2 : rd (lentOf l) ((l.length + j : Nat) : Int) = markOf 0 j := by
      rw [rd_nat (by rw [lentOf_length]; omega)]
      simp [lentOf, lentMarks]
    have e3 : wrap64 (wrap64 (1000003 * wrap64 (0 + 7)) + (j : Int)) = markOf 0 j := rfl
    simp only [h1, e1, h2, h3, e2, e3, if_true, w64s (show (j : Int) < 9223372036854775807 by omega)]
    exact ih (j + 1) (by omega)
theorem depotkit_Kept_l0 (l : List Int) (hn : l.length + 64 < 17592186044416) (d : Nat) : ∀ i : Nat, i + d = l.length → Ev (fun k => depotkit_Kept.l0 k (lentOf l) l (i : Int)) true := by
  induction d with
  | zero =>
    intro i hi
    refine Ev.succ ?_
    simp only [depotkit_Kept.l0]
    have h1 : ¬ ((i : Int) < (l.length : Int)) := by omega
    simp only [h1, if_false]
    exact depotkit_Kept_l1 l hn 64 0 (by omega)
  | succ d ih =>
    intro i hi
    refine Ev.succ ?_
    simp only [depotkit_Kept.l0]
    have h1 : (i : Int) < (l.length : Int) := by omega
    have h0 : (0 : Int) ≤ (i : Int) := by omega
    have h3 : (i : Int) < ((lentOf l).length : Int) := by rw [lentOf_length]; omega
    have e2 : rd (lentOf l) (i : Int) = rd l (i : Int) := by
      rw [rd_nat (by rw [lentOf_length]; omega), rd_nat (show i < l.length by omega)]
      simp only [lentOf]
      rw [List.getElem_append_left (by omega)]
    simp only [h1, h0, h3, e2, if_true, w64s (show (i : Int) < 9223372036854775807 by omega)]
    exact ih (i + 1) (by omega)
theorem depotkit_Kept_ev (l : List Int) (hn : l.length + 64 < 17592186044416) : Ev (fun k => depotkit_Kept.f k (lentOf l) l) true := by
  have h1 : ((lentOf l).length : Int) = wrap64 ((l.length : Int) + 64) := by rw [w64 (by omega) (by omega), lentOf_length]; omega
  unfold depotkit_Kept.f
  simp only [h1, if_true]
  exact depotkit_Kept_l0 l hn l.length 0 (by omega)
theorem depotkit_Over_l0 (n : Nat) (hn : n < 17592186044416) (d : Nat) : ∀ (i : Nat) (x : List Int), x.length = n → i + d = n → ∃ r : List Int, r.length = n ∧ Ev (fun k => depotkit_Over.l0 k x (i : Int)) r := by
  induction d with
  | zero =>
    intro i x hx hi
    refine ⟨x, hx, Ev.succ ?_⟩
    simp only [depotkit_Over.l0]
    have h1 : ¬ ((i : Int) < (x.length : Int)) := by omega
    simp only [h1, if_false]
    exact Ev.now _
  | succ d ih =>
    intro i x hx hi
    obtain ⟨r, hr, h⟩ := ih (i + 1) (x.set i (wrap64 (1 - Int.tmod (i : Int) 3))) (by simpa using hx) (by omega)
    refine ⟨r, hr, Ev.succ ?_⟩
    simp only [depotkit_Over.l0]
    have h1 : (i : Int) < (x.length : Int) := by omega
    have h0 : (0 : Int) ≤ (i : Int) := by omega
    simp only [h1, h0, if_true, w64s (show (i : Int) < 9223372036854775807 by omega), Int.toNat_natCast]
    exact h
theorem depotkit_Over_ev (l : List Int) (hn : l.length < 17592186044416) : ∃ r : List Int, r.length = l.length ∧ Ev (fun k => depotkit_Over.f k l) r := by
  obtain ⟨r, h1, h2⟩ := depotkit_Over_l0 l.length hn l.length 0 l rfl (by omega)
  exact ⟨r, h1, h2⟩
theorem depotlaw01_alike_l0 (L : List (List Int)) (hn : L.length ≤ 17592186044416) (hs : ∀ c ∈ L, c.length ≤ 17592186044416) (d : Nat) : ∀ i : Nat, i + d = L.length → Ev (fun k => depotlaw01_alike.l0 k L L (i : Int)) true := by
  induction d with
  | zero =>
    intro i hi
    refine Ev.succ ?_
    simp only [depotlaw01_alike.l0]
    have h1 : ¬ ((i : Int) < (L.length : Int)) := by omega
    simp only [h1, if_false]
    exact Ev.now _
  | succ d ih =>
    intro i hi
    refine Ev.succ ?_
    simp only [depotlaw01_alike.l0]
    have h1 : (i : Int) < (L.length : Int) := by omega
    have h0 : (0 : Int) ≤ (i : Int) := by omega
    have hm : rd_L1 L (i : Int) ∈ L := by
      unfold rd_L1
      rw [getD_nat (show i < L.length by omega)]
      exact List.getElem_mem _
    simp only [h1, h0, if_true, w64s (show (i : Int) < 9223372036854775807 by omega)]
    refine Ev.bind (depotref01_Equal_ev (rd_L1 L (i : Int)) (rd_L1 L (i : Int)) (hs _ hm)) ?_
    simp only [beq_self_eq_true, if_true]
    exact ih (i + 1) (by omega)
theorem depotlaw01_alike_ev (L : List (List Int)) (hn : L.length ≤ 17592186044416) (hs : ∀ c ∈ L, c.length ≤ 17592186044416) : Ev (fun k => depotlaw01_alike.f k L L) true := by
  unfold depotlaw01_alike.f
  simp only [if_true]
  exact depotlaw01_alike_l0 L hn hs L.length 0 (by omega)
theorem depotlaw01_meant_ev (a b : List Int) (l v : Int) (ha : a.length ≤ 4398046511104) (hb : b.length ≤ 4398046511104) : Ev (fun k => depotlaw01_meant.f k a b l v) (Go.Proofs.YtamefocngapkpaaHand.toldOf a b l v) := by
  unfold depotlaw01_meant.f
  simp only [depotlaw01_copied_eq (show a.length < 17592186044416 by omega), depotlaw01_copied_eq (show b.length < 17592186044416 by omega), Option.bind_some]
  refine Ev.bind (depotref01_Tidy_evl a (by omega)) ?_
  refine Ev.bind (depotref01_Without_ev a l (by omega)) ?_
  refine Ev.bind (depotref01_Join_ev a b (by omega) (by omega)) ?_
  refine Ev.bind (depotref01_Resolve_ev a b v (by omega) (by omega)) ?_
  exact Ev.now _
end Go.Proofs.Ytamefocngapkpaa.PLitsSpares
/-! text YtamefocngapkpaaApartIntsS -/
namespace Go.Proofs.YtamefocngapkpaaHand
open Go.RowKit Go.Proofs.YtamefocngapkpaaW.PrintWords Go.Proofs.YtamefocngapkpaaW.PrintLast Go.Proofs.YtamefocngapkpaaMath Go.Proofs.YtamefocngapkpaaOwn
set_option linter.unusedVariables false
set_option linter.unusedSimpArgs false
theorem apartInts_S {W : World} {base : Nat} {ok : Nat → Prop} {A : Option Addr} {n c : Nat} {xs : List (List Int)} (h : Kd.S (Kd.slice 3 (Kd.int .i64)) 26 W base ok (.slice A n c) xs) (hn : xs.length ≤ 1099511627776) (hs : ∀ x ∈ xs, x.length ≤ 1099511627776) :
    Calls Try.prog 56 #[.slice A n c] W fun e w' => e = .returned (.bool true) ∧ Grow (fun b => ok b ∧ b < W.heap.size) W w' := by
  have hl := (Kd.S_reads' h).1
  subst hl
  obtain ⟨rows, D, hrl, hM, hQ, hD, hx⟩ := AQ.ofS (Value.int .i64) (fun _ => rfl) (e' := 26) h
  rw [← hrl]
  refine (apartInts_calls rows A c D W hQ (M1.start hD) (by omega) (fun p hp => ?_)).mono ?_
  · obtain ⟨x, hx1, hx2⟩ := hx p hp
    rw [hx2]
    exact hs x hx1
  · rintro e w' ⟨rfl, hg⟩
    exact ⟨rfl, hg.mono hM⟩
end Go.Proofs.YtamefocngapkpaaHand
