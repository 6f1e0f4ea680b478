/- What the functions that LitsResolves reaches compute, on numbers and lists. Laid by lib.py. -/
import Derived.Test.YtamefocngapkpaaGLitsResolvesx3
import Derived.Test.YtamefocngapkpaaMath
import Derived.Test.YtamefocngapkpaaTidyPure
namespace Go.Proofs.Ytamefocngapkpaa.PLitsResolves
open Go.RowKit Go.Proofs.YtamefocngapkpaaW.PrintWords Go.Proofs.YtamefocngapkpaaW.PrintLast Go.Proofs.YtamefocngapkpaaMath
set_option linter.unusedVariables false
set_option linter.unusedSimpArgs false
theorem depotref01_Formed_eq (l : Int) : depotref01_Formed.f l = some (formed l) := by
  unfold depotref01_Formed.f formed
  by_cases h1 : l ≥ 1
  · by_cases h2 : l ≤ 1048576
    · rw [if_pos h1, if_pos h2]; congr 1; symm; simp; omega
    · rw [if_pos h1, if_neg h2, if_pos (by omega)]; congr 1; rw [Bool.eq_iff_iff]; simp; omega
  · by_cases h2 : l ≥ -1048576
    · rw [if_neg h1, if_pos h2]; congr 1; rw [Bool.eq_iff_iff]; simp; omega
    · rw [if_neg h1, if_neg h2]; congr 1; symm; simp; omega
theorem depotref01_Sound_l0 (l : List Int) (hn : l.length ≤ 17592186044416) (d : Nat) : ∀ i : Nat, i + d = l.length → Ev (fun k => depotref01_Sound.l0 k l (i : Int)) (sound (l.drop i)) := by
  induction d with
  | zero =>
    intro i hi
    refine Ev.succ ?_
    simp only [depotref01_Sound.l0]
    have h1 : ¬ ((i : Int) < (l.length : Int)) := by omega
    simp only [h1, if_false]
    rw [List.drop_of_length_le (by omega)]
    exact Ev.now _
  | succ d ih =>
    intro i hi
    refine Ev.succ ?_
    simp only [depotref01_Sound.l0, depotref01_Formed_eq, Option.bind_some]
    have h1 : (i : Int) < (l.length : Int) := by omega
    have h0 : (0 : Int) ≤ (i : Int) := by omega
    simp only [h1, h0, if_true]
    rw [drop_rd (show i < l.length by omega)]
    by_cases hf : formed (rd l i) = true
    · simp only [hf, if_true, w64s (show (i : Int) < 9223372036854775807 by omega), sound, List.all_cons, Bool.true_and]
      exact ih (i + 1) (by omega)
    · simp only [Bool.not_eq_true] at hf
      simp only [hf, Bool.false_eq_true, if_false, sound, List.all_cons, Bool.false_and]
      exact Ev.now _
theorem depotref01_Sound_ev (l : List Int) (hn : l.length ≤ 17592186044416) : Ev (fun k => depotref01_Sound.f k l) (sound l) := depotref01_Sound_l0 l hn l.length 0 (by omega)
theorem depotref01_Has_l0 (l : List Int) (x : Int) (hn : l.length ≤ 17592186044416) (d : Nat) : ∀ i : Nat, i + d = l.length → Ev (fun k => depotref01_Has.l0 k l x (i : Int)) ((l.drop i).contains x) := by
  induction d with
  | zero =>
    intro i hi
    refine Ev.succ ?_
    simp only [depotref01_Has.l0]
    have h1 : ¬ ((i : Int) < (l.length : Int)) := by omega
    simp only [h1, if_false]
    rw [List.drop_of_length_le (by omega)]
    exact Ev.now _
  | succ d ih =>
    intro i hi
    refine Ev.succ ?_
    simp only [depotref01_Has.l0]
    have h1 : (i : Int) < (l.length : Int) := by omega
    have h0 : (0 : Int) ≤ (i : Int) := by omega
    simp only [h1, h0, if_true]
    rw [drop_rd (show i < l.length by omega), List.contains_cons]
    by_cases hx : rd l i = x
    · simp only [hx, if_true, beq_self_eq_true, Bool.true_or]
      exact Ev.now _
    · have hx2 : (x == rd l i) = false := by simp; omega
      simp only [hx, if_false, hx2, Bool.false_or, w64s (show (i : Int) < 9223372036854775807 by omega)]
      exact ih (i + 1) (by omega)
theorem depotref01_Has_ev (l : List Int) (x : Int) (hn : l.length ≤ 17592186044416) : Ev (fun k => depotref01_Has.f k l x) (has l x) := by
  unfold depotref01_Has.f has
  simp only [depotref01_Formed_eq, Option.bind_some]
  by_cases hf : formed x = true
  · simp only [hf, if_true, Bool.true_and]
    exact depotref01_Has_l0 l x hn l.length 0 (by omega)
  · simp only [Bool.not_eq_true] at hf
    simp only [hf, Bool.false_eq_true, if_false, Bool.false_and]
    exact Ev.now _
theorem depotref01_Index_eq (l : Int) : depotref01_Index.f l = some (idxOf l) := by
  unfold depotref01_Index.f idxOf
  rw [depotref01_Formed_eq]
  simp only [Option.bind_some]
  by_cases h : formed l = true
  · have := formed_bd h
    have e1 : wrap64 (wrap64 (-2 * l) - 1) = -2 * l - 1 := by unfold wrap64; omega
    have e2 : wrap64 (wrap64 (2 * l) - 2) = 2 * l - 2 := by unfold wrap64; omega
    rw [if_pos h, if_pos h, e1, e2]
    split <;> rfl
  · rw [if_neg h, if_neg h]
theorem depotlaw01_copied_eq {l : List Int} (hn : l.length < 17592186044416) : depotlaw01_copied.f l = some l := by
  unfold depotlaw01_copied.f; rw [if_pos (by simpa using hn)]; rfl
theorem depotref01_Equal_l0 (a b : List Int) (hn : a.length ≤ 17592186044416) (he : a.length = b.length) (d : Nat) : ∀ i : Nat, i + d = a.length → Ev (fun k => depotref01_Equal.l0 k a b (i : Int)) (a.drop i == b.drop i) := by
  induction d with
  | zero =>
    intro i hi
    refine Ev.succ ?_
    simp only [depotref01_Equal.l0]
    have h1 : ¬ ((i : Int) < (a.length : Int)) := by omega
    simp only [h1, if_false]
    rw [List.drop_of_length_le (by omega), List.drop_of_length_le (by omega)]
    exact Ev.now _
  | succ d ih =>
    intro i hi
    refine Ev.succ ?_
    simp only [depotref01_Equal.l0]
    have h1 : (i : Int) < (a.length : Int) := by omega
    have h2 : (i : Int) < (b.length : Int) := by omega
    have h0 : (0 : Int) ≤ (i : Int) := by omega
    simp only [h1, h2, h0, if_true]
    rw [drop_rd (show i < a.length by omega), drop_rd (show i < b.length by omega)]
    by_cases hf : rd a i = rd b i
    · simp only [hf, if_true, w64s (show (i : Int) < 9223372036854775807 by omega), List.cons_beq_cons, beq_self_eq_true, Bool.true_and]
      exact ih (i + 1) (by omega)
    · have : (rd a i == rd b i) = false := by simpa using hf
      simp only [hf, if_false, List.cons_beq_cons, this, Bool.false_and]
      exact Ev.now _
theorem depotref01_Equal_ev (a b : List Int) (hn : a.length ≤ 17592186044416) : Ev (fun k => depotref01_Equal.f k a b) (a == b) := by
  unfold depotref01_Equal.f
  by_cases he : a.length = b.length
  · have : (a.length : Int) = (b.length : Int) := by omega
    simp only [this, if_true]
    exact depotref01_Equal_l0 a b hn he a.length 0 (by omega)
  · have : ¬ (a.length : Int) = (b.length : Int) := by omega
    simp only [this, if_false]
    have e : (a == b) = false := by
      simp only [beq_eq_false_iff_ne, ne_eq]
      rintro rfl; exact he rfl
    rw [e]
    exact Ev.now _
theorem depotref01_merged_l0 (a b : List Int) (hn : a.length + b.length ≤ 17592186044416) (n : Nat) : ∀ (i j : Nat) (o : List Int), i ≤ a.length → j ≤ b.length → a.length - i + (b.length - j) ≤ n → o.length + (a.length - i + (b.length - j)) ≤ 17592186044416 →
    Ev (fun k => depotref01_merged.l0 k a b o (i : Int) (j : Int)) (o ++ mg (a.drop i) (b.drop j)) := by
  induction n with
  | zero =>
    intro i j o hi hj hd ho
    refine Ev.succ ?_
    simp only [depotref01_merged.l0]
    have h1 : ¬ ((i : Int) < (a.length : Int)) := by omega
    have h2 : ¬ ((j : Int) < (b.length : Int)) := by omega
    simp only [h1, if_false, decide_eq_false h2]
    refine Ev.succ ?_
    simp only [depotref01_merged.j1, Bool.false_eq_true, if_false]
    rw [List.drop_of_length_le (by omega), List.drop_of_length_le (by omega), mg_nil, List.append_nil]
    exact Ev.now _
  | succ n ih =>
    intro i j o hi hj hd ho
    have h0i : (0 : Int) ≤ (i : Int) := by omega
    have h0j : (0 : Int) ≤ (j : Int) := by omega
    refine Ev.succ ?_
    simp only [depotref01_merged.l0]
    by_cases h1 : i < a.length
    · have h1' : (i : Int) < (a.length : Int) := by omega
      have hii : ¬ (i : Int) = (a.length : Int) := by omega
      simp only [h1', if_true]
      refine Ev.succ ?_
      simp only [depotref01_merged.j1, if_true]
      have hol : o.length < 17592186044416 := by omega
      by_cases h2 : j < b.length
      · have h2' : (j : Int) < (b.length : Int) := by omega
        have hjj : ¬ (j : Int) = (b.length : Int) := by omega
        simp only [hjj, if_false, h1', if_true, h0i, h0j, h2', depotref01_Index_eq, Option.bind_some]
        rw [drop_rd h1, drop_rd h2]
        refine Ev.succ ?_
        by_cases c1 : idxOf (rd a i) < idxOf (rd b j)
        · simp only [depotref01_merged.j2, decide_eq_true c1, if_true, h0i, h1', hol, w64s (show (i : Int) < 9223372036854775807 by omega)]
          rw [mg_lt c1, ← drop_rd h2]
          have := ih (i + 1) j (o ++ [rd a i]) (by omega) hj (by omega) (by simp only [List.length_append, List.length_singleton]; omega)
          simpa using this
        · simp only [depotref01_merged.j2, decide_eq_false c1, Bool.false_eq_true, if_false, hii, h0i, h0j, h1', h2', if_true, depotref01_Index_eq, Option.bind_some]
          by_cases c2 : idxOf (rd b j) < idxOf (rd a i)
          · simp only [c2, if_true, hol, w64s (show (j : Int) < 9223372036854775807 by omega)]
            rw [mg_gt c2, ← drop_rd h1]
            have := ih i (j + 1) (o ++ [rd b j]) hi (by omega) (by omega) (by simp only [List.length_append, List.length_singleton]; omega)
            simpa using this
          · simp only [c2, if_false, hol, if_true, w64s (show (i : Int) < 9223372036854775807 by omega), w64s (show (j : Int) < 9223372036854775807 by omega)]
            rw [mg_eq (by omega)]
            have := ih (i + 1) (j + 1) (o ++ [rd a i]) (by omega) (by omega) (by omega) (by simp only [List.length_append, List.length_singleton]; omega)
            simpa using this
      · have hjj : (j : Int) = (b.length : Int) := by omega
        simp only [hjj, if_true]
        refine Ev.succ ?_
        simp only [depotref01_merged.j2, if_true, h0i, h1', hol, w64s (show (i : Int) < 9223372036854775807 by omega)]
        rw [drop_rd h1, List.drop_of_length_le (show b.length ≤ j by omega), mg_nil']
        have := ih (i + 1) j (o ++ [rd a i]) (by omega) hj (by omega) (by simp only [List.length_append, List.length_singleton]; omega)
        rw [List.drop_of_length_le (show b.length ≤ j by omega), mg_nil', hjj] at this
        simpa using this
    · have h1' : ¬ (i : Int) < (a.length : Int) := by omega
      have hii : (i : Int) = (a.length : Int) := by omega
      simp only [h1', if_false]
      by_cases h2 : j < b.length
      · have h2' : (j : Int) < (b.length : Int) := by omega
        have hjj : ¬ (j : Int) = (b.length : Int) := by omega
        have hol : o.length < 17592186044416 := by omega
        simp only [decide_eq_true h2']
        refine Ev.succ ?_
        simp only [depotref01_merged.j1, if_true, hjj, if_false, h1']
        refine Ev.succ ?_
        simp only [depotref01_merged.j2, Bool.false_eq_true, if_false, hii, if_true, h0j, h2', hol, w64s (show (j : Int) < 9223372036854775807 by omega)]
        rw [drop_rd h2, List.drop_of_length_le (show a.length ≤ i by omega), mg_nil]
        have := ih i (j + 1) (o ++ [rd b j]) hi (by omega) (by omega) (by simp only [List.length_append, List.length_singleton]; omega)
        rw [List.drop_of_length_le (show a.length ≤ i by omega), mg_nil, hii] at this
        simpa using this
      · have h2' : ¬ ((j : Int) < (b.length : Int)) := by omega
        simp only [decide_eq_false h2']
        refine Ev.succ ?_
        simp only [depotref01_merged.j1, Bool.false_eq_true, if_false]
        rw [List.drop_of_length_le (show a.length ≤ i by omega), List.drop_of_length_le (show b.length ≤ j by omega), mg_nil, List.append_nil]
        exact Ev.now _
theorem depotref01_merged_ev (a b : List Int) (hn : a.length + b.length ≤ 17592186044416) : Ev (fun k => depotref01_merged.f k a b) (mg a b) := by
  have := depotref01_merged_l0 a b hn _ 0 0 [] (by omega) (by omega) (Nat.le_refl _) (by simp only [List.length_nil]; omega)
  simpa [depotref01_merged.f] using this
theorem depotref01_Tidy_ev (n : Nat) : ∀ l : List Int, l.length ≤ n → l.length ≤ 17592186044416 → Ev (fun k => depotref01_Tidy.f k l) (tidyOf l) := by
  induction n with
  | zero =>
    intro l h hn
    refine Ev.succ ?_
    have : l = [] := List.eq_nil_of_length_eq_zero (by omega)
    subst this
    simp only [depotref01_Tidy.f, List.length_nil]
    exact Ev.now _
  | succ n ih =>
    intro l h hn
    refine Ev.succ ?_
    match l, h, hn with
    | [], _, _ =>
      simp only [depotref01_Tidy.f, List.length_nil]
      exact Ev.now _
    | [x], _, _ =>
      have e1 : (([x] : List Int).length : Int) = 1 := rfl
      have r0 : rd [x] 0 = x := rfl
      simp only [depotref01_Tidy.f, e1, r0, show ¬ (1 : Int) = 0 by decide, if_false, if_true, show (0 : Int) < 1 by decide, depotref01_Formed_eq, tidyOf_one, Option.bind_some]
      by_cases hf : formed x = true
      · simp only [hf, if_true]; exact Ev.now _
      · simp only [hf, if_false]; exact Ev.now _
    | x :: y :: l, h, hn =>
      simp only [depotref01_Tidy.f]
      generalize hL : x :: y :: l = L at h hn ⊢
      have hL' : 2 ≤ L.length := by rw [← hL]; simp
      have h1 : ¬ (L.length : Int) = 0 := by omega
      have h2 : ¬ (L.length : Int) = 1 := by omega
      have e1 : wrap64 ((L.length : Int) / 2) = ((L.length / 2 : Nat) : Int) := by rw [w64 (by omega) (by omega)]; omega
      have h3 : (0 : Int) ≤ ((L.length / 2 : Nat) : Int) := by omega
      have h4 : ((L.length / 2 : Nat) : Int) ≤ (L.length : Int) := by omega
      simp only [h1, h2, if_false, e1, h3, h4, if_true, Int.toNat_natCast]
      refine Ev.bind (ih (L.take (L.length / 2)) (by simp only [List.length_take]; omega) (by simp only [List.length_take]; omega)) (Ev.bind (ih (L.drop (L.length / 2)) (by simp only [List.length_drop]; omega) (by simp only [List.length_drop]; omega)) ?_)
      have t1 := tidyOf_length (L.take (L.length / 2))
      have t2 := tidyOf_length (L.drop (L.length / 2))
      simp only [List.length_take, List.length_drop] at t1 t2
      refine Ev.bind (depotref01_merged_ev _ _ (by omega)) ?_
      rw [← tidyOf_append, List.take_append_drop]
      exact Ev.now _
theorem depotref01_Tidy_evl (l : List Int) (hn : l.length ≤ 17592186044416) : Ev (fun k => depotref01_Tidy.f k l) (tidyOf l) := depotref01_Tidy_ev l.length l (Nat.le_refl _) hn
theorem depotref01_Without_l0 (l : List Int) (x : Int) (hn : l.length ≤ 17592186044416) (d : Nat) : ∀ (i : Nat) (o : List Int), i + d = l.length → o.length ≤ i → Ev (fun k => depotref01_Without.l0 k x l o (i : Int)) (o ++ (l.drop i).filter fun y => !(y == x)) := by
  induction d with
  | zero =>
    intro i o hi ho
    refine Ev.succ ?_
    simp only [depotref01_Without.l0]
    have h1 : ¬ ((i : Int) < (l.length : Int)) := by omega
    simp only [h1, if_false]
    rw [List.drop_of_length_le (by omega), List.filter_nil, List.append_nil]
    exact Ev.now _
  | succ d ih =>
    intro i o hi ho
    refine Ev.succ ?_
    simp only [depotref01_Without.l0]
    have h1 : (i : Int) < (l.length : Int) := by omega
    have h0 : (0 : Int) ≤ (i : Int) := by omega
    have h2 : o.length < 17592186044416 := by omega
    simp only [h1, h0, if_true, h2, w64s (show (i : Int) < 9223372036854775807 by omega)]
    rw [drop_rd (show i < l.length by omega)]
    by_cases hf : rd l i = x
    · have e : (!(rd l i == x)) = false := by simp [hf]
      rw [List.filter_cons, e]
      simp only [hf, if_true, Bool.false_eq_true, if_false]
      exact ih (i + 1) o (by omega) (by omega)
    · have e : (!(rd l i == x)) = true := by simp [hf]
      rw [List.filter_cons, e]
      simp only [hf, if_true, if_false]
      have := ih (i + 1) (o ++ [rd l i]) (by omega) (by simp only [List.length_append, List.length_singleton]; omega)
      simpa using this
theorem depotref01_Without_ev (l : List Int) (x : Int) (hn : l.length ≤ 17592186044416) : Ev (fun k => depotref01_Without.f k l x) ((tidyOf l).filter fun y => !(y == x)) := by
  unfold depotref01_Without.f
  have := tidyOf_length l
  refine Ev.bind (depotref01_Tidy_evl l hn) ?_
  simpa using depotref01_Without_l0 (tidyOf l) x (by omega) _ 0 [] (Nat.zero_add _) (Nat.zero_le _)
theorem depotref01_Join_ev (l m : List Int) (h1 : l.length ≤ 17592186044416) (h2 : m.length ≤ 17592186044416) : Ev (fun k => depotref01_Join.f k l m) (tidyOf (l ++ m)) := by
  unfold depotref01_Join.f
  have t1 := formed_count (tidyOf l) (rising_tidyOf l) (fun _ h => tidyOf_formed h)
  have t2 := formed_count (tidyOf m) (rising_tidyOf m) (fun _ h => tidyOf_formed h)
  refine Ev.bind (depotref01_Tidy_evl l h1) (Ev.bind (depotref01_Tidy_evl m h2) (Ev.bind (depotref01_merged_ev _ _ (by omega)) ?_))
  rw [← tidyOf_append]
  exact Ev.now _
theorem lits_Resolve_ev {a b : List Int} (v : Int) (ha : a.length ≤ 17592186044416) (hb : b.length ≤ 17592186044416) : Ev (fun k => lits_Resolve.f k a b v) (resOf a b v) := by
  unfold lits_Resolve.f; simp only [ha, hb, and_self, if_true]; exact Ev.now _
theorem pivOf_contains {a b : List Int} {v : Int} (h0 : 1 ≤ v) (h1 : v ≤ 1048576) : (pivOf (tidyOf a) (tidyOf b)).contains v = (has a v && has b (-v)) := by
  have hf : formed v = true := formed_iff.2 ⟨by omega, by omega, by omega⟩
  have hf2 : formed (-v) = true := by rw [formed_neg]; exact hf
  rw [Bool.eq_iff_iff, List.contains_iff_mem]
  unfold pivOf isPiv has
  rw [List.mem_filter, mem_tidyOf, hf, hf2, decide_eq_true (show 0 ≤ v by omega), Bool.true_and, Bool.true_and, Bool.true_and, Bool.and_eq_true, List.contains_iff_mem, List.contains_iff_mem, List.contains_iff_mem, mem_tidyOf]
  exact ⟨fun h => ⟨h.1.1, h.2.1⟩, fun h => ⟨⟨h.1, by simp [hf]⟩, h.2, by simp [hf2]⟩⟩
theorem depotref01_Resolve_ev (a b : List Int) (v : Int) (ha : a.length ≤ 17592186044416) (hb : b.length ≤ 17592186044416) : Ev (fun k => depotref01_Resolve.f k a b v) (resOf a b v) := by
  have no : (sound a && sound b && decide (1 ≤ v ∧ v ≤ 1048576)) = false → Ev (fun k => depotref01_Resolve.j0 k a b v true) (resOf a b v) := by
    intro h
    have e : resOf a b v = ([], 1) := by unfold resOf; rw [h]; rfl
    rw [e]
    refine Ev.succ ?_
    simp only [depotref01_Resolve.j0, if_true]
    exact Ev.now _
  unfold depotref01_Resolve.f
  refine Ev.bind (depotref01_Sound_ev a ha) ?_
  cases h1 : sound a with
  | false =>
    simp only [Bool.false_eq_true, if_false]
    exact no (by rw [h1]; rfl)
  | true =>
    simp only [if_true]
    refine Ev.bind (depotref01_Sound_ev b hb) ?_
    cases h2 : sound b with
    | false =>
      simp only [Bool.false_eq_true, if_false]
      exact no (by rw [h2, Bool.and_false]; rfl)
    | true =>
      simp only [if_true]
      by_cases c1 : v < 1
      · simp only [c1, if_true]
        exact no (by rw [decide_eq_false (show ¬ (1 ≤ v ∧ v ≤ 1048576) by omega), Bool.and_false])
      · simp only [c1, if_false]
        by_cases c2 : v > 1048576
        · rw [decide_eq_true c2]
          exact no (by rw [decide_eq_false (show ¬ (1 ≤ v ∧ v ≤ 1048576) by omega), Bool.and_false])
        · rw [decide_eq_false c2]
          have hneg : wrap64 (-v) = -v := by unfold wrap64; omega
          have e : resOf a b v = if (has a v && has b (-v)) = true then (onOf a b v, 0) else ([], 10) := by
            unfold resOf
            rw [h1, h2, decide_eq_true (show (1 ≤ v ∧ v ≤ 1048576) by omega), pivOf_contains (by omega) (by omega)]
            rfl
          have no2 : (has a v && has b (-v)) = false → Ev (fun k => depotref01_Resolve.j1 k a b v true) (resOf a b v) := by
            intro h
            rw [e, h]
            refine Ev.succ ?_
            simp only [depotref01_Resolve.j1, if_true]
            exact Ev.now _
          refine Ev.succ ?_
          simp only [depotref01_Resolve.j0, Bool.false_eq_true, if_false, hneg]
          refine Ev.bind (depotref01_Has_ev a v ha) ?_
          cases g1 : has a v with
          | false =>
            simp only [Bool.false_eq_true, if_false]
            exact no2 (by rw [g1]; rfl)
          | true =>
            simp only [if_true]
            refine Ev.bind (depotref01_Has_ev b (-v) hb) ?_
            cases g2 : has b (-v) with
            | false => exact no2 (by rw [g1, g2]; rfl)
            | true =>
              rw [e, g1, g2]
              refine Ev.succ ?_
              simp only [depotref01_Resolve.j1, Bool.not_true, Bool.false_eq_true, if_false, hneg, Bool.and_self, if_true]
              have z1 := lessOf_length a v
              have z2 := lessOf_length b (-v)
              refine Ev.bind (depotref01_Without_ev a v ha) (Ev.bind (depotref01_Without_ev b (-v) hb) (Ev.bind (depotref01_Join_ev (lessOf a v) (lessOf b (-v)) (by omega) (by omega)) ?_))
              exact Ev.now _
end Go.Proofs.Ytamefocngapkpaa.PLitsResolves
