/- What the functions that CnfKeepsTidy reaches compute, on numbers and lists. Laid by lib.py. -/
import Derived.Test.YtggnnnddnppcpaaDoorClCnfKeepsTidyUptoCardk
import Derived.Test.YtggnnnddnppcpaaDoorClCnfKeepsTidyUptoCardl
/-! text YtggnnnddnppcpaaDoorKtLib -/
namespace Go.Proofs.YtggnnnddnppcpaaDoor.PCnfKeepsTidy
open Go.RowKit Go.Proofs.YtggnnnddnppcpaaDoorW.PrintWords Go.Proofs.YtggnnnddnppcpaaDoorW.PrintLast Go.Proofs.YtggnnnddnppcpaaDoorMath
set_option linter.unusedVariables false
set_option linter.unusedSimpArgs false
theorem depotref01_Formed_eq (l : Int) : depotref01_Formed.f l = some (formed l) := by
  unfold depotref01_Formed.f formed
  by_cases h1 : l ≥ 1
  · by_cases h2 : l ≤ 1048576
    · rw [if_pos h1, if_pos h2]; congr 1; symm; simp; omega
    · rw [if_pos h1, if_neg h2, if_pos (by omega)]; congr 1; rw [Bool.eq_iff_iff]; simp; omega
  · by_cases h2 : l ≥ -1048576
    · rw [if_neg h1, if_pos h2]; congr 1; rw [Bool.eq_iff_iff]; simp; omega
    · rw [if_neg h1, if_neg h2]; congr 1; symm; simp; omega
theorem depotref01_Sound_l0 (l : List Int) (hn : l.length ≤ 17592186044416) (d : Nat) : ∀ i : Nat, i + d = l.length → Ev (fun k => depotref01_Sound.l0 k l (i : Int)) (sound (l.drop i)) := by
  induction d with
  | zero =>
    intro i hi
    refine Ev.succ ?_
    simp only [depotref01_Sound.l0]
    have h1 : ¬ ((i : Int) < (l.length : Int)) := by omega
    simp only [h1, if_false]
    rw [List.drop_of_length_le (by omega)]
    exact Ev.now _
  | succ d ih =>
    intro i hi
    refine Ev.succ ?_
    simp only [depotref01_Sound.l0, depotref01_Formed_eq, Option.bind_some]
    have h1 : (i : Int) < (l.length : Int) := by omega
    have h0 : (0 : Int) ≤ (i : Int) := by omega
    simp only [h1, h0, if_true]
    rw [drop_rd (show i < l.length by omega)]
    by_cases hf : formed (rd l i) = true
    · simp only [hf, if_true, w64s (show (i : Int) < 9223372036854775807 by omega), sound, List.all_cons, Bool.true_and]
      exact ih (i + 1) (by omega)
    · simp only [Bool.not_eq_true] at hf
      simp only [hf, Bool.false_eq_true, if_false, sound, List.all_cons, Bool.false_and]
      exact Ev.now _
theorem depotref01_Sound_ev (l : List Int) (hn : l.length ≤ 17592186044416) : Ev (fun k => depotref01_Sound.f k l) (sound l) := depotref01_Sound_l0 l hn l.length 0 (by omega)
theorem depotref02_within_l0 (l : List Int) (v : Int) (hn : l.length ≤ 17592186044416) (hs : sound l = true) (d : Nat) : ∀ i : Nat, i + d = l.length → Ev (fun k => depotref02_within.l0 k l v (i : Int)) ((l.drop i).all fun l => decide (l ≤ v ∧ -l ≤ v)) := by
  induction d with
  | zero =>
    intro i hi
    refine Ev.succ ?_
    simp only [depotref02_within.l0]
    have h1 : ¬ ((i : Int) < (l.length : Int)) := by omega
    simp only [h1, if_false]
    rw [List.drop_of_length_le (by omega)]
    exact Ev.now _
  | succ d ih =>
    intro i hi
    refine Ev.succ ?_
    simp only [depotref02_within.l0]
    have h1 : (i : Int) < (l.length : Int) := by omega
    have h0 : (0 : Int) ≤ (i : Int) := by omega
    simp only [h1, h0, if_true]
    rw [drop_rd (show i < l.length by omega)]
    have hf : formed (rd l i) = true := sound_mem hs (rd_mem (by omega))
    have hb := formed_bd hf
    rw [w64 (x := -(rd l i)) (by omega) (by omega)]
    by_cases hc : rd l i ≤ v ∧ - rd l i ≤ v
    · have h2 : ¬ rd l i > v := by omega
      have h3 : ¬ -(rd l i) > v := by omega
      simp only [h2, h3, if_false, w64s (show (i : Int) < 9223372036854775807 by omega), List.all_cons, decide_eq_true hc, Bool.true_and]
      exact ih (i + 1) (by omega)
    · simp only [List.all_cons, decide_eq_false hc, Bool.false_and]
      by_cases h2 : rd l i > v
      · simp only [h2, if_true]
        exact Ev.now _
      · have h3 : -(rd l i) > v := by omega
        simp only [h2, h3, if_true, if_false]
        exact Ev.now _
theorem depotref02_within_ev (l : List Int) (v : Int) (hn : l.length ≤ 17592186044416) : Ev (fun k => depotref02_within.f k l v) (within l v) := by
  unfold depotref02_within.f within
  refine Ev.bind (depotref01_Sound_ev l hn) ?_
  by_cases hs : sound l = true
  · simp only [hs, if_true, Bool.true_and]
    exact depotref02_within_l0 l v hn hs l.length 0 (by omega)
  · simp only [Bool.not_eq_true] at hs
    simp only [hs, Bool.false_eq_true, if_false, Bool.false_and]
    exact Ev.now _
theorem depotref02_Formed_l0 (v : Int) (cs : List (List Int)) (hn : cs.length ≤ 17592186044416) (hc : ∀ c ∈ cs, c.length ≤ 17592186044416) (d : Nat) : ∀ i : Nat, i + d = cs.length → Ev (fun k => depotref02_Formed.l0 k (i : Int) v cs) ((cs.drop i).all fun c => within c v) := by
  induction d with
  | zero =>
    intro i hi
    refine Ev.succ ?_
    simp only [depotref02_Formed.l0]
    have h1 : ¬ ((i : Int) < (cs.length : Int)) := by omega
    simp only [h1, if_false]
    rw [List.drop_of_length_le (by omega)]
    exact Ev.now _
  | succ d ih =>
    intro i hi
    refine Ev.succ ?_
    simp only [depotref02_Formed.l0, rd_L1]
    have h1 : (i : Int) < (cs.length : Int) := by omega
    have h0 : (0 : Int) ≤ (i : Int) := by omega
    simp only [h1, h0, if_true]
    rw [drop_getD (z := ([] : List Int)) (show i < cs.length by omega), List.all_cons]
    have hm : (cs.getD ((i : Int).toNat) ([] : List Int)).length ≤ 17592186044416 := by
      rw [getD_nat (show i < cs.length by omega)]
      exact hc _ (List.getElem_mem _)
    refine Ev.bind (depotref02_within_ev _ v hm) ?_
    by_cases hf : within (cs.getD ((i : Int).toNat) ([] : List Int)) v = true
    · simp only [hf, if_true, w64s (show (i : Int) < 9223372036854775807 by omega), Bool.true_and]
      exact ih (i + 1) (by omega)
    · simp only [Bool.not_eq_true] at hf
      simp only [hf, Bool.false_eq_true, if_false, Bool.false_and]
      exact Ev.now _
theorem depotref02_Formed_ev (v : Int) (cs : List (List Int)) (hn : cs.length ≤ 17592186044416) (hc : ∀ c ∈ cs, c.length ≤ 17592186044416) : Ev (fun k => depotref02_Formed.f k v cs) (isFormula v cs) := by
  have hj : ∀ b, Ev (fun k => depotref02_Formed.j0 k b v cs) (!b && cs.all fun c => within c v) := by
    intro b
    refine Ev.succ ?_
    simp only [depotref02_Formed.j0]
    cases b with
    | true => exact Ev.now _
    | false => exact depotref02_Formed_l0 v cs hn hc cs.length 0 (by omega)
  unfold depotref02_Formed.f isFormula
  by_cases h0 : v < 0
  · simp only [h0, if_true]
    have := hj true
    rw [decide_eq_false (by omega)]
    simpa using this
  · simp only [h0, if_false]
    have := hj (decide (v > 1048576))
    rw [show (!decide (v > 1048576)) = decide (0 ≤ v ∧ v ≤ 1048576) by rw [Bool.eq_iff_iff]; simp; omega] at this
    exact this
theorem depotref00_SameInts_l0 (a b : List Int) (hn : a.length ≤ 17592186044416) (hl : a.length = b.length) (d : Nat) : ∀ i : Nat, i + d = a.length → Ev (fun k => depotref00_SameInts.l0 k a b (i : Int)) (a.drop i == b.drop i) := by
  induction d with
  | zero =>
    intro i hi
    refine Ev.succ ?_
    simp only [depotref00_SameInts.l0]
    have h1 : ¬ ((i : Int) < (a.length : Int)) := by omega
    simp only [h1, if_false]
    rw [List.drop_of_length_le (by omega), List.drop_of_length_le (by omega)]
    exact Ev.now _
  | succ d ih =>
    intro i hi
    refine Ev.succ ?_
    simp only [depotref00_SameInts.l0]
    have h1 : (i : Int) < (a.length : Int) := by omega
    have h2 : (i : Int) < (b.length : Int) := by omega
    have h0 : (0 : Int) ≤ (i : Int) := by omega
    simp only [h1, h2, h0, if_true]
    rw [drop_rd (show i < a.length by omega), drop_rd (show i < b.length by omega), List.cons_beq_cons]
    by_cases hx : rd a i = rd b i
    · simp only [hx, if_true, beq_self_eq_true, Bool.true_and, w64s (show (i : Int) < 9223372036854775807 by omega)]
      exact ih (i + 1) (by omega)
    · have hx2 : (rd a i == rd b i) = false := by simpa using hx
      simp only [hx, if_false, hx2, Bool.false_and]
      exact Ev.now _
theorem depotref00_SameInts_ev (a b : List Int) (hn : a.length ≤ 17592186044416) : Ev (fun k => depotref00_SameInts.f k a b) (a == b) := by
  unfold depotref00_SameInts.f
  by_cases hl : (a.length : Int) = (b.length : Int)
  · simp only [hl, if_true]
    exact depotref00_SameInts_l0 a b hn (by omega) a.length 0 (by omega)
  · simp only [hl, if_false]
    have : (a == b) = false := by
      rw [beq_eq_false_iff_ne]
      rintro rfl
      exact hl rfl
    rw [this]
    exact Ev.now _
theorem depotref01_Index_eq (l : Int) : depotref01_Index.f l = some (idxOf l) := by
  unfold depotref01_Index.f idxOf
  rw [depotref01_Formed_eq]
  simp only [Option.bind_some]
  by_cases h : formed l = true
  · have := formed_bd h
    have e1 : wrap64 (wrap64 (-2 * l) - 1) = -2 * l - 1 := by unfold wrap64; omega
    have e2 : wrap64 (wrap64 (2 * l) - 2) = 2 * l - 2 := by unfold wrap64; omega
    rw [if_pos h, if_pos h, e1, e2]
    split <;> rfl
  · rw [if_neg h, if_neg h]
theorem depotref01_Equal_l0 (a b : List Int) (hn : a.length ≤ 17592186044416) (he : a.length = b.length) (d : Nat) : ∀ i : Nat, i + d = a.length → Ev (fun k => depotref01_Equal.l0 k a b (i : Int)) (a.drop i == b.drop i) := by
  induction d with
  | zero =>
    intro i hi
    refine Ev.succ ?_
    simp only [depotref01_Equal.l0]
    have h1 : ¬ ((i : Int) < (a.length : Int)) := by omega
    simp only [h1, if_false]
    rw [List.drop_of_length_le (by omega), List.drop_of_length_le (by omega)]
    exact Ev.now _
  | succ d ih =>
    intro i hi
    refine Ev.succ ?_
    simp only [depotref01_Equal.l0]
    have h1 : (i : Int) < (a.length : Int) := by omega
    have h2 : (i : Int) < (b.length : Int) := by omega
    have h0 : (0 : Int) ≤ (i : Int) := by omega
    simp only [h1, h2, h0, if_true]
    rw [drop_rd (show i < a.length by omega), drop_rd (show i < b.length by omega)]
    by_cases hf : rd a i = rd b i
    · simp only [hf, if_true, w64s (show (i : Int) < 9223372036854775807 by omega), List.cons_beq_cons, beq_self_eq_true, Bool.true_and]
      exact ih (i + 1) (by omega)
    · have : (rd a i == rd b i) = false := by simpa using hf
      simp only [hf, if_false, List.cons_beq_cons, this, Bool.false_and]
      exact Ev.now _
theorem depotref01_Equal_ev (a b : List Int) (hn : a.length ≤ 17592186044416) : Ev (fun k => depotref01_Equal.f k a b) (a == b) := by
  unfold depotref01_Equal.f
  by_cases he : a.length = b.length
  · have : (a.length : Int) = (b.length : Int) := by omega
    simp only [this, if_true]
    exact depotref01_Equal_l0 a b hn he a.length 0 (by omega)
  · have : ¬ (a.length : Int) = (b.length : Int) := by omega
    simp only [this, if_false]
    have e : (a == b) = false := by
      simp only [beq_eq_false_iff_ne, ne_eq]
      rintro rfl; exact he rfl
    rw [e]
    exact Ev.now _
theorem depotref01_merged_l0 (a b : List Int) (hn : a.length + b.length ≤ 17592186044416) (n : Nat) : ∀ (i j : Nat) (o : List Int), i ≤ a.length → j ≤ b.length → a.length - i + (b.length - j) ≤ n → o.length + (a.length - i + (b.length - j)) ≤ 17592186044416 →
    Ev (fun k => depotref01_merged.l0 k a b o (i : Int) (j : Int)) (o ++ mg (a.drop i) (b.drop j)) := by
  induction n with
  | zero =>
    intro i j o hi hj hd ho
    refine Ev.succ ?_
    simp only [depotref01_merged.l0]
    have h1 : ¬ ((i : Int) < (a.length : Int)) := by omega
    have h2 : ¬ ((j : Int) < (b.length : Int)) := by omega
    simp only [h1, if_false, decide_eq_false h2]
    refine Ev.succ ?_
    simp only [depotref01_merged.j1, Bool.false_eq_true, if_false]
    rw [List.drop_of_length_le (by omega), List.drop_of_length_le (by omega), mg_nil, List.append_nil]
    exact Ev.now _
  | succ n ih =>
    intro i j o hi hj hd ho
    have h0i : (0 : Int) ≤ (i : Int) := by omega
    have h0j : (0 : Int) ≤ (j : Int) := by omega
    refine Ev.succ ?_
    simp only [depotref01_merged.l0]
    by_cases h1 : i < a.length
    · have h1' : (i : Int) < (a.length : Int) := by omega
      have hii : ¬ (i : Int) = (a.length : Int) := by omega
      simp only [h1', if_true]
      refine Ev.succ ?_
      simp only [depotref01_merged.j1, if_true]
      have hol : o.length < 17592186044416 := by omega
      by_cases h2 : j < b.length
      · have h2' : (j : Int) < (b.length : Int) := by omega
        have hjj : ¬ (j : Int) = (b.length : Int) := by omega
        simp only [hjj, if_false, h1', if_true, h0i, h0j, h2', depotref01_Index_eq, Option.bind_some]
        rw [drop_rd h1, drop_rd h2]
        refine Ev.succ ?_
        by_cases c1 : idxOf (rd a i) < idxOf (rd b j)
        · simp only [depotref01_merged.j2, decide_eq_true c1, if_true, h0i, h1', hol, w64s (show (i : Int) < 9223372036854775807 by omega)]
          rw [mg_lt c1, ← drop_rd h2]
          have := ih (i + 1) j (o ++ [rd a i]) (by omega) hj (by omega) (by simp only [List.length_append, List.length_singleton]; omega)
          simpa using this
        · simp only [depotref01_merged.j2, decide_eq_false c1, Bool.false_eq_true, if_false, hii, h0i, h0j, h1', h2', if_true, depotref01_Index_eq, Option.bind_some]
          by_cases c2 : idxOf (rd b j) < idxOf (rd a i)
          · simp only [c2, if_true, hol, w64s (show (j : Int) < 9223372036854775807 by omega)]
            rw [mg_gt c2, ← drop_rd h1]
            have := ih i (j + 1) (o ++ [rd b j]) hi (by omega) (by omega) (by simp only [List.length_append, List.length_singleton]; omega)
            simpa using this
          · simp only [c2, if_false, hol, if_true, w64s (show (i : Int) < 9223372036854775807 by omega), w64s (show (j : Int) < 9223372036854775807 by omega)]
            rw [mg_eq (by omega)]
            have := ih (i + 1) (j + 1) (o ++ [rd a i]) (by omega) (by omega) (by omega) (by simp only [List.length_append, List.length_singleton]; omega)
            simpa using this
      · have hjj : (j : Int) = (b.length : Int) := by omega
        simp only [hjj, if_true]
        refine Ev.succ ?_
        simp only [depotref01_merged.j2, if_true, h0i, h1', hol, w64s (show (i : Int) < 9223372036854775807 by omega)]
        rw [drop_rd h1, List.drop_of_length_le (show b.length ≤ j by omega), mg_nil']
        have := ih (i + 1) j (o ++ [rd a i]) (by omega) hj (by omega) (by simp only [List.length_append, List.length_singleton]; omega)
        rw [List.drop_of_length_le (show b.length ≤ j by omega), mg_nil', hjj] at this
        simpa using this
    · have h1' : ¬ (i : Int) < (a.length : Int) := by omega
      have hii : (i : Int) = (a.length : Int) := by omega
      simp only [h1', if_false]
      by_cases h2 : j < b.length
      · have h2' : (j : Int) < (b.length : Int) := by omega
        have hjj : ¬ (j : Int) = (b.length : Int) := by omega
        have hol : o.length < 17592186044416 := by omega
        simp only [decide_eq_true h2']
        refine Ev.succ ?_
        simp only [depotref01_merged.j1, if_true, hjj, if_false, h1']
        refine Ev.succ ?_
        simp only [depotref01_merged.j2, Bool.false_eq_true, if_false, hii, if_true, h0j, h2', hol, w64s (show (j : Int) < 9223372036854775807 by omega)]
        rw [drop_rd h2, List.drop_of_length_le (show a.length ≤ i by omega), mg_nil]
        have := ih i (j + 1) (o ++ [rd b j]) hi (by omega) (by omega) (by simp only [List.length_append, List.length_singleton]; omega)
        rw [List.drop_of_length_le (show a.length ≤ i by omega), mg_nil, hii] at this
        simpa using this
      · have h2' : ¬ ((j : Int) < (b.length : Int)) := by omega
        simp only [decide_eq_false h2']
        refine Ev.succ ?_
        simp only [depotref01_merged.j1, Bool.false_eq_true, if_false]
        rw [List.drop_of_length_le (show a.length ≤ i by omega), List.drop_of_length_le (show b.length ≤ j by omega), mg_nil, List.append_nil]
        exact Ev.now _
theorem depotref01_merged_ev (a b : List Int) (hn : a.length + b.length ≤ 17592186044416) : Ev (fun k => depotref01_merged.f k a b) (mg a b) := by
  have := depotref01_merged_l0 a b hn _ 0 0 [] (by omega) (by omega) (Nat.le_refl _) (by simp only [List.length_nil]; omega)
  simpa [depotref01_merged.f] using this
theorem depotref01_Tidy_ev (n : Nat) : ∀ l : List Int, l.length ≤ n → l.length ≤ 17592186044416 → Ev (fun k => depotref01_Tidy.f k l) (tidyOf l) := by
  induction n with
  | zero =>
    intro l h hn
    refine Ev.succ ?_
    have : l = [] := List.eq_nil_of_length_eq_zero (by omega)
    subst this
    simp only [depotref01_Tidy.f, List.length_nil]
    exact Ev.now _
  | succ n ih =>
    intro l h hn
    refine Ev.succ ?_
    match l, h, hn with
    | [], _, _ =>
      simp only [depotref01_Tidy.f, List.length_nil]
      exact Ev.now _
    | [x], _, _ =>
      have e1 : (([x] : List Int).length : Int) = 1 := rfl
      have r0 : rd [x] 0 = x := rfl
      simp only [depotref01_Tidy.f, e1, r0, show ¬ (1 : Int) = 0 by decide, if_false, if_true, show (0 : Int) < 1 by decide, depotref01_Formed_eq, tidyOf_one, Option.bind_some]
      by_cases hf : formed x = true
      · simp only [hf, if_true]; exact Ev.now _
      · simp only [hf, if_false]; exact Ev.now _
    | x :: y :: l, h, hn =>
      simp only [depotref01_Tidy.f]
      generalize hL : x :: y :: l = L at h hn ⊢
      have hL' : 2 ≤ L.length := by rw [← hL]; simp
      have h1 : ¬ (L.length : Int) = 0 := by omega
      have h2 : ¬ (L.length : Int) = 1 := by omega
      have e1 : wrap64 ((L.length : Int) / 2) = ((L.length / 2 : Nat) : Int) := by rw [w64 (by omega) (by omega)]; omega
      have h3 : (0 : Int) ≤ ((L.length / 2 : Nat) : Int) := by omega
      have h4 : ((L.length / 2 : Nat) : Int) ≤ (L.length : Int) := by omega
      simp only [h1, h2, if_false, e1, h3, h4, if_true, Int.toNat_natCast]
      refine Ev.bind (ih (L.take (L.length / 2)) (by simp only [List.length_take]; omega) (by simp only [List.length_take]; omega)) (Ev.bind (ih (L.drop (L.length / 2)) (by simp only [List.length_drop]; omega) (by simp only [List.length_drop]; omega)) ?_)
      have t1 := tidyOf_length (L.take (L.length / 2))
      have t2 := tidyOf_length (L.drop (L.length / 2))
      simp only [List.length_take, List.length_drop] at t1 t2
      refine Ev.bind (depotref01_merged_ev _ _ (by omega)) ?_
      rw [← tidyOf_append, List.take_append_drop]
      exact Ev.now _
theorem depotref01_Tidy_evl (l : List Int) (hn : l.length ≤ 17592186044416) : Ev (fun k => depotref01_Tidy.f k l) (tidyOf l) := depotref01_Tidy_ev l.length l (Nat.le_refl _) hn
theorem depotref01_Taut_l0 (t : List Int) (hf : ∀ x ∈ t, formed x = true) (hn : t.length ≤ 17592186044416) (d : Nat) : ∀ i : Nat, 0 < i → i + d = t.length → Ev (fun k => depotref01_Taut.l0 k t (i : Int)) (tautIn (t.drop (i - 1))) := by
  induction d with
  | zero =>
    intro i h0 hi
    refine Ev.succ ?_
    simp only [depotref01_Taut.l0]
    have h1 : ¬ ((i : Int) < (t.length : Int)) := by omega
    simp only [h1, if_false]
    rw [drop_rd (show i - 1 < t.length by omega), List.drop_of_length_le (by omega)]
    exact Ev.now _
  | succ d ih =>
    intro i h0 hi
    refine Ev.succ ?_
    simp only [depotref01_Taut.l0]
    have h1 : (i : Int) < (t.length : Int) := by omega
    have h2 : (0 : Int) ≤ (i : Int) := by omega
    have h3 : (0 : Int) ≤ ((i - 1 : Nat) : Int) := by omega
    have h4 : ((i - 1 : Nat) : Int) < (t.length : Int) := by omega
    have hb := formed_bd (hf _ (rd_mem (show i - 1 < t.length by omega)))
    have e1 : wrap64 (-(rd t ((i - 1 : Nat) : Int))) = -(rd t ((i - 1 : Nat) : Int)) := by unfold wrap64; omega
    simp only [h1, h2, if_true, w64p h0 (show (i : Int) < 9223372036854775807 by omega), h3, h4, e1, w64s (show (i : Int) < 9223372036854775807 by omega)]
    rw [drop_rd (show i - 1 < t.length by omega), show i - 1 + 1 = i by omega, drop_rd (show i < t.length by omega)]
    have := ih (i + 1) (by omega) (by omega)
    rw [show i + 1 - 1 = i by omega, drop_rd (show i < t.length by omega)] at this
    by_cases c : rd t (i : Int) = -(rd t ((i - 1 : Nat) : Int))
    · have : (rd t (i : Int) == -(rd t ((i - 1 : Nat) : Int))) = true := by simpa using c
      simp only [c, if_true, tautIn, beq_self_eq_true, Bool.true_or]
      exact Ev.now _
    · have e : (rd t (i : Int) == -(rd t ((i - 1 : Nat) : Int))) = false := by simpa using c
      simp only [c, if_false, tautIn, e, Bool.false_or]
      exact this
theorem depotref01_Taut_ev (l : List Int) (hn : l.length ≤ 17592186044416) : Ev (fun k => depotref01_Taut.f k l) (tautIn (tidyOf l)) := by
  unfold depotref01_Taut.f
  have ht := tidyOf_length l
  refine Ev.bind (depotref01_Tidy_evl l hn) ?_
  by_cases h : (tidyOf l).length = 0
  · rw [List.eq_nil_of_length_eq_zero h]
    refine Ev.succ ?_
    simp only [depotref01_Taut.l0]
    exact Ev.now _
  · have := depotref01_Taut_l0 (tidyOf l) (fun _ h => tidyOf_formed h) (by omega) ((tidyOf l).length - 1) 1 (by omega) (by omega)
    simpa using this
theorem depotref01_Same_ev (a b : List Int) (ha : a.length ≤ 17592186044416) (hb : b.length ≤ 17592186044416) : Ev (fun k => depotref01_Same.f k a b) (sound a && (sound b && (tidyOf a == tidyOf b))) := by
  unfold depotref01_Same.f
  have t1 := tidyOf_length a
  refine Ev.bind (depotref01_Sound_ev a ha) ?_
  cases sound a
  · simp only [Bool.false_eq_true, if_false, Bool.false_and]; exact Ev.now _
  · simp only [if_true, Bool.true_and]
    refine Ev.bind (depotref01_Sound_ev b hb) ?_
    cases sound b
    · simp only [Bool.false_eq_true, if_false, Bool.false_and]; exact Ev.now _
    · simp only [if_true, Bool.true_and]
      exact Ev.bind (depotref01_Tidy_evl a ha) (Ev.bind (depotref01_Tidy_evl b hb) (Ev.bind (depotref01_Equal_ev _ _ (by omega)) (Ev.now _)))
theorem depotref00_CopyInts_l0 (l : List Int) (hn : l.length < 17592186044416) (d : Nat) : ∀ i : Nat, i + d = l.length → Ev (fun k => depotref00_CopyInts.l0 k l (l.take i) (i : Int)) l := by
  induction d with
  | zero =>
    intro i hi
    refine Ev.succ ?_
    have h1 : ¬ ((i : Int) < (l.length : Int)) := by omega
    simp only [depotref00_CopyInts.l0, h1, if_false]
    rw [List.take_of_length_le (by omega)]
    exact Ev.now _
  | succ d ih =>
    intro i hi
    refine Ev.succ ?_
    have h1 : (i : Int) < (l.length : Int) := by omega
    have h0 : (0 : Int) ≤ (i : Int) := by omega
    have h2 : (l.take i).length < 17592186044416 := by rw [List.length_take]; omega
    simp only [depotref00_CopyInts.l0, h1, h0, h2, if_true, w64s (show (i : Int) < 9223372036854775807 by omega)]
    rw [← take_rd (show i < l.length by omega)]
    exact ih (i + 1) (by omega)
theorem depotref00_CopyInts_ev (l : List Int) (hn : l.length < 17592186044416) : Ev (fun k => depotref00_CopyInts.f k l) l := depotref00_CopyInts_l0 l hn l.length 0 (by omega)
theorem drop_L1 {l : List (List Int)} {i : Nat} (h : i < l.length) : l.drop i = rd_L1 l (i : Int) :: l.drop (i + 1) := drop_getD (z := ([] : List Int)) h
theorem rd_L1_mem {l : List (List Int)} {i : Nat} (h : i < l.length) : rd_L1 l (i : Int) ∈ l := by
  have := getD_nat (z := ([] : List Int)) h
  show l.getD ((i : Int).toNat) ([] : List Int) ∈ l
  rw [this]; exact List.getElem_mem h
theorem take_L1 {l : List (List Int)} {i : Nat} (h : i < l.length) : l.take (i + 1) = l.take i ++ [rd_L1 l (i : Int)] := take_getD (z := ([] : List Int)) h
theorem depotref00_CopyClauses_l0 (l : List (List Int)) (hn : l.length ≤ 5864062014805) (hs : ∀ x ∈ l, x.length < 17592186044416) (d : Nat) : ∀ i : Nat, i + d = l.length → Ev (fun k => depotref00_CopyClauses.l0 k l (l.take i) (i : Int)) l := by
  induction d with
  | zero =>
    intro i hi
    refine Ev.succ ?_
    have h1 : ¬ ((i : Int) < (l.length : Int)) := by omega
    simp only [depotref00_CopyClauses.l0, h1, if_false]
    rw [List.take_of_length_le (by omega)]
    exact Ev.now _
  | succ d ih =>
    intro i hi
    refine Ev.succ ?_
    have h1 : (i : Int) < (l.length : Int) := by omega
    have h0 : (0 : Int) ≤ (i : Int) := by omega
    have h2 : (l.take i).length < 5864062014805 := by rw [List.length_take]; omega
    simp only [depotref00_CopyClauses.l0, h1, h0, if_true]
    refine Ev.bind (depotref00_CopyInts_ev _ (hs _ (rd_L1_mem (show i < l.length by omega)))) ?_
    simp only [h2, if_true, w64s (show (i : Int) < 9223372036854775807 by omega)]
    rw [← take_L1 (show i < l.length by omega)]
    exact ih (i + 1) (by omega)
theorem depotref00_CopyClauses_ev (l : List (List Int)) (hn : l.length ≤ 5864062014805) (hs : ∀ x ∈ l, x.length < 17592186044416) : Ev (fun k => depotref00_CopyClauses.f k l) l := depotref00_CopyClauses_l0 l hn hs l.length 0 (by omega)
theorem depotref00_CopyFormula_ev (v : Int) (l : List (List Int)) (hn : l.length ≤ 5864062014805) (hs : ∀ x ∈ l, x.length < 17592186044416) : Ev (fun k => depotref00_CopyFormula.f k v l) (v, l) := by
  unfold depotref00_CopyFormula.f
  exact Ev.bind (depotref00_CopyClauses_ev l hn hs) (Ev.now _)
theorem depotref00_SameClauses_l0 (a b : List (List Int)) (hn : a.length ≤ 17592186044416) (hs : ∀ x ∈ a, x.length ≤ 17592186044416) (he : a.length = b.length) (d : Nat) : ∀ i : Nat, i + d = a.length → Ev (fun k => depotref00_SameClauses.l0 k a b (i : Int)) (a.drop i == b.drop i) := by
  induction d with
  | zero =>
    intro i hi
    refine Ev.succ ?_
    have h1 : ¬ ((i : Int) < (a.length : Int)) := by omega
    simp only [depotref00_SameClauses.l0, h1, if_false]
    rw [List.drop_of_length_le (by omega), List.drop_of_length_le (by omega)]
    exact Ev.now _
  | succ d ih =>
    intro i hi
    refine Ev.succ ?_
    have h1 : (i : Int) < (a.length : Int) := by omega
    have h2 : (i : Int) < (b.length : Int) := by omega
    have h0 : (0 : Int) ≤ (i : Int) := by omega
    simp only [depotref00_SameClauses.l0, h1, h2, h0, if_true]
    have hl := hs _ (rd_L1_mem (show i < a.length by omega))
    rw [drop_L1 (show i < a.length by omega), drop_L1 (show i < b.length by omega)]
    refine Ev.bind (depotref00_SameInts_ev _ _ hl) ?_
    rw [List.cons_beq_cons]
    by_cases hf : (rd_L1 a i == rd_L1 b i) = true
    · simp only [hf, if_true, w64s (show (i : Int) < 9223372036854775807 by omega), Bool.true_and]
      exact ih (i + 1) (by omega)
    · simp only [Bool.not_eq_true] at hf
      simp only [hf, Bool.false_eq_true, if_false, Bool.false_and]
      exact Ev.now _
theorem depotref00_SameClauses_ev (a b : List (List Int)) (hn : a.length ≤ 17592186044416) (hs : ∀ x ∈ a, x.length ≤ 17592186044416) : Ev (fun k => depotref00_SameClauses.f k a b) (a == b) := by
  unfold depotref00_SameClauses.f
  by_cases he : a.length = b.length
  · have : (a.length : Int) = (b.length : Int) := by omega
    simp only [this, if_true]
    exact depotref00_SameClauses_l0 a b hn hs he a.length 0 (by omega)
  · have : ¬ (a.length : Int) = (b.length : Int) := by omega
    simp only [this, if_false]
    have e : (a == b) = false := by
      simp only [beq_eq_false_iff_ne, ne_eq]
      rintro rfl; exact he rfl
    rw [e]
    exact Ev.now _
theorem depotref00_SameFormula_ev (v w : Int) (a b : List (List Int)) (hn : a.length ≤ 17592186044416) (hs : ∀ x ∈ a, x.length ≤ 17592186044416) : Ev (fun k => depotref00_SameFormula.f k v a w b) (decide (v = w) && a == b) := by
  unfold depotref00_SameFormula.f
  by_cases h : v = w
  · simp only [h, if_true, decide_true, Bool.true_and]
    exact Ev.bind (depotref00_SameClauses_ev a b hn hs) (Ev.now _)
  · simp only [h, if_false, decide_false, Bool.false_and]
    exact Ev.now _
def markOf (a b : Int) : Int := wrap64 (wrap64 (1000003 * wrap64 (a + 7)) + b)
def lentMarks : List Int := (List.range 64).map fun i : Nat => markOf 0 i
def lentOf (l : List Int) : List Int := l ++ lentMarks
theorem lentMarks_length : lentMarks.length = 64 := by simp [lentMarks]
theorem lentMarks_drop {j : Nat} (hj : j < 64) : lentMarks.drop j = markOf 0 j :: lentMarks.drop (j + 1) := by
  rw [List.drop_eq_getElem_cons (by rw [lentMarks_length]; exact hj)]
  simp [lentMarks]
theorem lentOf_length (l : List Int) : (lentOf l).length = l.length + 64 := by rw [lentOf, List.length_append, lentMarks_length]
theorem depotkit_Lent_l1 (d : Nat) : ∀ (j : Nat) (x : List Int), j + d = 64 → x.length + d < 17592186044416 → Ev (fun k => depotkit_Lent.l1 k x (j : Int)) (x ++ lentMarks.drop j) := by
  induction d with
  | zero =>
    intro j x hj hx
    refine Ev.succ ?_
    simp only [depotkit_Lent.l1]
    have h1 : ¬ ((j : Int) < 64) := by omega
    simp only [h1, if_false]
    rw [List.drop_of_length_le (by rw [lentMarks_length]; omega), List.append_nil]
    exact Ev.now _
  | succ d ih =>
    intro j x hj hx
    refine Ev.succ ?_
    simp only [depotkit_Lent.l1, depotkit_mark.f, Option.bind_some]
    have h1 : (j : Int) < 64 := by omega
    have h2 : x.length < 17592186044416 := by omega
    simp only [h1, h2, if_true, w64s (show (j : Int) < 9223372036854775807 by omega)]
    have := ih (j + 1) (x ++ [markOf 0 j]) (by omega) (by simp; omega)
    rw [lentMarks_drop (by omega)]
    rw [List.append_assoc] at this
    exact this
theorem depotkit_Lent_l0 (l : List Int) (hn : l.length + 64 < 17592186044416) (d : Nat) : ∀ (i : Nat) (x : List Int), i + d = l.length → x.length = i → Ev (fun k => depotkit_Lent.l0 k l x (i : Int)) (x ++ l.drop i ++ lentMarks) := by
  induction d with
  | zero =>
    intro i x hi hx
    refine Ev.succ ?_
    simp only [depotkit_Lent.l0]
    have h1 : ¬ ((i : Int) < (l.length : Int)) := by omega
    simp only [h1, if_false]
    rw [List.drop_of_length_le (by omega), List.append_nil]
    have := depotkit_Lent_l1 64 0 x (by omega) (by omega)
    rwa [List.drop_zero] at this
  | succ d ih =>
    intro i x hi hx
    refine Ev.succ ?_
    simp only [depotkit_Lent.l0]
    have h1 : (i : Int) < (l.length : Int) := by omega
    have h0 : (0 : Int) ≤ (i : Int) := by omega
    have h2 : x.length < 17592186044416 := by omega
    simp only [h1, h0, h2, if_true, w64s (show (i : Int) < 9223372036854775807 by omega)]
    rw [drop_rd (show i < l.length by omega)]
    have := ih (i + 1) (x ++ [rd l (i : Int)]) (by omega) (by simp [hx])
    rw [show x ++ [rd l (i : Int)] ++ l.drop (i + 1) ++ lentMarks = x ++ rd l (i : Int) :: l.drop (i + 1) ++ lentMarks by simp] at this
    exact this
theorem depotkit_Lent_ev (l : List Int) (hn : l.length + 64 < 17592186044416) : Ev (fun k => depotkit_Lent.f k l) (lentOf l) := by
  have := depotkit_Lent_l0 l hn l.length 0 [] (by omega) rfl
  simpa [depotkit_Lent.f, lentOf] using this
theorem depotkit_Kept_l1 (l : List Int) (hn : l.length + 64 < 17592186044416) (d : Nat) : ∀ j : Nat, j + d = 64 → Ev (fun k => depotkit_Kept.l1 k (lentOf l) l (j : Int)) true := by
  induction d with
  | zero =>
    intro j hj
    refine Ev.succ ?_
    simp only [depotkit_Kept.l1]
    have h1 : ¬ ((j : Int) < 64) := by omega
    simp only [h1, if_false]
    exact Ev.now _
  | succ d ih =>
    intro j hj
    refine Ev.succ ?_
    simp only [depotkit_Kept.l1, depotkit_mark.f, Option.bind_some]
    have h1 : (j : Int) < 64 := by omega
    have e1 : wrap64 ((l.length : Int) + (j : Int)) = ((l.length + j : Nat) : Int) := by rw [w64 (by omega) (by omega)]; omega
    have h2 : (0 : Int) ≤ ((l.length + j : Nat) : Int) := by omega
    have h3 : ((l.length + j : Nat) : Int) < ((lentOf l).length : Int) := by rw [lentOf_length]; omega
    have e2 : rd (lentOf l) ((l.length + j : Nat) : Int) = markOf 0 j := by
      rw [rd_nat (by rw [lentOf_length]; omega)]
      simp [lentOf, lentMarks]
    have e3 : wrap64 (wrap64 (1000003 * wrap64 (0 + 7)) + (j : Int)) = markOf 0 j := rfl
    simp only [h1, e1, h2, h3, e2, e3, if_true, w64s (show (j : Int) < 9223372036854775807 by omega)]
    exact ih (j + 1) (by omega)
theorem depotkit_Kept_l0 (l : List Int) (hn : l.length + 64 < 17592186044416) (d : Nat) : ∀ i : Nat, i + d = l.length → Ev (fun k => depotkit_Kept.l0 k (lentOf l) l (i : Int)) true := by
  induction d with
  | zero =>
    intro i hi
    refine Ev.succ ?_
    simp only [depotkit_Kept.l0]
    have h1 : ¬ ((i : Int) < (l.length : Int)) := by omega
    simp only [h1, if_false]
    exact depotkit_Kept_l1 l hn 64 0 (by omega)
  | succ d ih =>
    intro i hi
    refine Ev.succ ?_
    simp only [depotkit_Kept.l0]
    have h1 : (i : Int) < (l.length : Int) := by omega
    have h0 : (0 : Int) ≤ (i : Int) := by omega
    have h3 : (i : Int) < ((lentOf l).length : Int) := by rw [lentOf_length]; omega
    have e2 : rd (lentOf l) (i : Int) = rd l (i : Int) := by
      rw [rd_nat (by rw [lentOf_length]; omega), rd_nat (show i < l.length by omega)]
      simp only [lentOf]
      rw [List.getElem_append_left (by omega)]
    simp only [h1, h0, h3, e2, if_true, w64s (show (i : Int) < 9223372036854775807 by omega)]
    exact ih (i + 1) (by omega)
theorem depotkit_Kept_ev (l : List Int) (hn : l.length + 64 < 17592186044416) : Ev (fun k => depotkit_Kept.f k (lentOf l) l) true := by
  have h1 : ((lentOf l).length : Int) = wrap64 ((l.length : Int) + 64) := by rw [w64 (by omega) (by omega), lentOf_length]; omega
  unfold depotkit_Kept.f
  simp only [h1, if_true]
  exact depotkit_Kept_l0 l hn l.length 0 (by omega)
theorem depotkit_Over_l0 (n : Nat) (hn : n < 17592186044416) (d : Nat) : ∀ (i : Nat) (x : List Int), x.length = n → i + d = n → ∃ r : List Int, r.length = n ∧ Ev (fun k => depotkit_Over.l0 k x (i : Int)) r := by
  induction d with
  | zero =>
    intro i x hx hi
    refine ⟨x, hx, Ev.succ ?_⟩
    simp only [depotkit_Over.l0]
    have h1 : ¬ ((i : Int) < (x.length : Int)) := by omega
    simp only [h1, if_false]
    exact Ev.now _
  | succ d ih =>
    intro i x hx hi
    obtain ⟨r, hr, h⟩ := ih (i + 1) (x.set i (wrap64 (1 - Int.tmod (i : Int) 3))) (by simpa using hx) (by omega)
    refine ⟨r, hr, Ev.succ ?_⟩
    simp only [depotkit_Over.l0]
    have h1 : (i : Int) < (x.length : Int) := by omega
    have h0 : (0 : Int) ≤ (i : Int) := by omega
    simp only [h1, h0, if_true, w64s (show (i : Int) < 9223372036854775807 by omega), Int.toNat_natCast]
    exact h
theorem depotkit_Over_ev (l : List Int) (hn : l.length < 17592186044416) : ∃ r : List Int, r.length = l.length ∧ Ev (fun k => depotkit_Over.f k l) r := by
  obtain ⟨r, h1, h2⟩ := depotkit_Over_l0 l.length hn l.length 0 l rfl (by omega)
  exact ⟨r, h1, h2⟩
theorem depotref02_Tidy_l1 (i : Nat) (v v0 : Int) (cs acc : List (List Int)) (r : Int × List (List Int) × Int) (hi : i < cs.length) (hn : cs.length ≤ 5864062014805) (hs : ∀ c ∈ cs, c.length ≤ 17592186044416) (hf : ∀ c ∈ cs, sound c = true) (ha : acc.length < 5864062014805)
    (hk : Ev (fun k => depotref02_Tidy.l0 k (wrap64 ((i : Int) + 1)) v cs v0 (acc ++ (if (cs.take i).any (fun d => tidyOf d == tidyOf (rd_L1 cs (i : Int))) = true then [] else [tidyOf (rd_L1 cs (i : Int))]))) r) (d : Nat) : ∀ j : Nat, j + d = i →
    Ev (fun k => depotref02_Tidy.l1 k (i : Int) ((cs.take j).any (fun d => tidyOf d == tidyOf (rd_L1 cs (i : Int)))) (j : Int) v cs v0 acc) r := by
  have h0 : (0 : Int) ≤ (i : Int) := by omega
  have h1 : (i : Int) < (cs.length : Int) := by omega
  induction d with
  | zero =>
    intro j hj
    obtain rfl : j = i := by omega
    refine Ev.succ ?_
    have h2 : ¬ ((j : Int) < (j : Int)) := by omega
    simp only [depotref02_Tidy.l1, h0, h1, h2, if_true, if_false]
    cases ho : (cs.take j).any (fun d => tidyOf d == tidyOf (rd_L1 cs (j : Int))) with
    | true => simp only [ho, if_true, List.append_nil] at hk ⊢; exact hk
    | false =>
      simp only [ho, Bool.false_eq_true, if_false] at hk ⊢
      refine Ev.bind (depotref01_Tidy_evl _ (hs _ (rd_L1_mem hi))) ?_
      simp only [ha, if_true]
      exact hk
  | succ d ih =>
    intro j hj
    refine Ev.succ ?_
    have hlt : j < cs.length := by omega
    have h2 : (j : Int) < (i : Int) := by omega
    have h3 : (0 : Int) ≤ (j : Int) := by omega
    have h4 : (j : Int) < (cs.length : Int) := by omega
    have next := ih (j + 1) (by omega)
    have e : (cs.take (j + 1)).any (fun d => tidyOf d == tidyOf (rd_L1 cs (i : Int))) = ((cs.take j).any (fun d => tidyOf d == tidyOf (rd_L1 cs (i : Int))) || (tidyOf (rd_L1 cs (j : Int)) == tidyOf (rd_L1 cs (i : Int)))) := by
      have e2 : cs.take (j + 1) = cs.take j ++ [rd_L1 cs (j : Int)] := take_getD hlt
      rw [e2, List.any_append]
      simp
    rw [e] at next
    simp only [depotref02_Tidy.l1, h0, h1, h2, h3, h4, if_true, w64s (show (j : Int) < 9223372036854775807 by omega)]
    refine Ev.bind (depotref01_Same_ev _ _ (hs _ (rd_L1_mem hlt)) (hs _ (rd_L1_mem hi))) ?_
    rw [hf _ (rd_L1_mem hlt), hf _ (rd_L1_mem hi), Bool.true_and, Bool.true_and]
    cases hm : (tidyOf (rd_L1 cs (j : Int)) == tidyOf (rd_L1 cs (i : Int))) with
    | true => simp only [hm, Bool.or_true, if_true] at next ⊢; exact next
    | false => simp only [hm, Bool.or_false, Bool.false_eq_true, if_false] at next ⊢; exact next
theorem depotref02_Tidy_l0 (v v0 : Int) (cs : List (List Int)) (hn : cs.length ≤ 5864062014805) (hs : ∀ c ∈ cs, c.length ≤ 17592186044416) (hf : ∀ c ∈ cs, sound c = true) (d : Nat) : ∀ i : Nat, i + d = cs.length →
    Ev (fun k => depotref02_Tidy.l0 k (i : Int) v cs v0 (tidyAll (cs.take i))) (v0, tidyAll cs, 0) := by
  induction d with
  | zero =>
    intro i hi
    refine Ev.succ ?_
    have h1 : ¬ ((i : Int) < (cs.length : Int)) := by omega
    simp only [depotref02_Tidy.l0, h1, if_false]
    rw [List.take_of_length_le (by omega)]
    exact Ev.now _
  | succ d ih =>
    intro i hi
    refine Ev.succ ?_
    have hlt : i < cs.length := by omega
    have h1 : (i : Int) < (cs.length : Int) := by omega
    have h0 : (0 : Int) ≤ (i : Int) := by omega
    simp only [depotref02_Tidy.l0, h1, h0, if_true]
    have ha : (tidyAll (cs.take i)).length < 5864062014805 := by
      have := tidyAll_length (cs.take i)
      rw [List.length_take] at this
      omega
    have next := ih (i + 1) (by omega)
    have e : tidyAll (cs.take (i + 1)) = tidyAll (cs.take i) ++ (if tidyOf (rd_L1 cs (i : Int)) ∈ (cs.take i).map tidyOf ∨ tautIn (tidyOf (rd_L1 cs (i : Int))) = true then [] else [tidyOf (rd_L1 cs (i : Int))]) := tidyAll_take hlt
    rw [e] at next
    refine Ev.bind (depotref01_Taut_ev _ (hs _ (rd_L1_mem hlt))) ?_
    cases ht : tautIn (tidyOf (rd_L1 cs (i : Int))) with
    | true =>
      rw [if_pos (.inr ht), List.append_nil] at next
      simp only [if_true, w64s (show (i : Int) < 9223372036854775807 by omega)]
      exact next
    | false =>
      simp only [Bool.false_eq_true, if_false]
      have hk : Ev (fun k => depotref02_Tidy.l0 k (wrap64 ((i : Int) + 1)) v cs v0 (tidyAll (cs.take i) ++ (if (cs.take i).any (fun d => tidyOf d == tidyOf (rd_L1 cs (i : Int))) = true then [] else [tidyOf (rd_L1 cs (i : Int))]))) (v0, tidyAll cs, 0) := by
        rw [w64s (show (i : Int) < 9223372036854775807 by omega)]
        have hiff : ((cs.take i).any (fun d => tidyOf d == tidyOf (rd_L1 cs (i : Int))) = true) ↔ tidyOf (rd_L1 cs (i : Int)) ∈ (cs.take i).map tidyOf := by
          rw [List.any_eq_true, List.mem_map]
          constructor
          · rintro ⟨d, h1, h2⟩; exact ⟨d, h1, by simpa using h2⟩
          · rintro ⟨d, h1, h2⟩; exact ⟨d, h1, by simpa using h2⟩
        by_cases hm : tidyOf (rd_L1 cs (i : Int)) ∈ (cs.take i).map tidyOf
        · rw [if_pos (.inl hm)] at next
          rw [if_pos (hiff.2 hm)]
          exact next
        · rw [if_neg (by rintro (h | h); exact hm h; rw [ht] at h; cases h)] at next
          rw [if_neg (fun h => hm (hiff.1 h))]
          exact next
      have := depotref02_Tidy_l1 i v v0 cs (tidyAll (cs.take i)) _ hlt hn hs hf ha hk i 0 (by omega)
      simpa using this
theorem depotref02_Tidy_ev (v : Int) (cs : List (List Int)) (hn : cs.length ≤ 5864062014805) (hs : ∀ c ∈ cs, c.length ≤ 17592186044416) : Ev (fun k => depotref02_Tidy.f k v cs) (tidiedOf v cs) := by
  unfold depotref02_Tidy.f tidiedOf
  refine Ev.bind (depotref02_Formed_ev v cs (by omega) hs) ?_
  cases h1 : isFormula v cs with
  | false => simp only [Bool.false_eq_true, if_false]; exact Ev.now _
  | true =>
    simp only [if_true]
    have hf : ∀ c ∈ cs, sound c = true := fun c hc => by
      have := isFormula_clause h1 hc
      unfold within at this
      rw [Bool.and_eq_true] at this
      exact this.1
    have := depotref02_Tidy_l0 v v cs hn hs hf cs.length 0 (by omega)
    rw [List.take_zero] at this
    exact this
end Go.Proofs.YtggnnnddnppcpaaDoor.PCnfKeepsTidy
/-! text YtggnnnddnppcpaaDoorKjRows -/
namespace Go.Proofs.YtggnnnddnppcpaaDoor.PCnfKeepsTidy
open Go.RowKit Go.Proofs.YtggnnnddnppcpaaDoorW.PrintWords Go.Proofs.YtggnnnddnppcpaaDoorW.PrintLast Go.Proofs.YtggnnnddnppcpaaDoorMath
set_option linter.unusedVariables false
set_option linter.unusedSimpArgs false
def rowMarks : List (List Int) := (List.range 64).map fun i : Nat => [markOf 1 i]
theorem rowMarks_length : rowMarks.length = 64 := by simp [rowMarks]
theorem rd_L1_nat {l : List (List Int)} {i : Nat} (h : i < l.length) : rd_L1 l (i : Int) = l[i] := by
  simp [rd_L1, List.getD_eq_getElem?_getD, h]
theorem rd_one (q : Int) : rd [q] 0 = q := by simp [rd]
theorem mark_row (j : Nat) : depotkit_mark.f 1 (j : Int) = some (markOf 1 j) := by unfold depotkit_mark.f markOf; rfl
theorem rowMarks_get (l : List (List Int)) (j : Nat) (hj : j < 64) (h : l.length + j < (l ++ rowMarks).length) : (l ++ rowMarks)[l.length + j] = [markOf 1 j] := by
  rw [List.getElem_append_right (by omega)]
  simp only [rowMarks, List.getElem_map, List.getElem_range]
  congr 2
  omega
theorem depotkit_KeptRows_l2 (l M : List (List Int)) (R : List (List Int)) (hn : l.length + 64 < 17592186044416) (hM : (l ++ M).length = l.length + 64) (hM2 : ∀ j : Nat, j < 64 → rd_L1 (l ++ M) ((l.length + j : Nat) : Int) = [markOf 1 j]) (d : Nat) : ∀ j : Nat, j + d = 64 → Ev (fun k => depotkit_KeptRows.l2 k l (j : Int) l (l ++ M) R) true := by
  generalize l ++ M = S at hM hM2 ⊢
  induction d with
  | zero =>
    intro j hj
    refine Ev.succ ?_
    simp only [depotkit_KeptRows.l2]
    have h1 : ¬ ((j : Int) < 64) := by omega
    simp only [h1, if_false]
    exact Ev.now _
  | succ d ih =>
    intro j hj
    refine Ev.succ ?_
    have em := mark_row j
    simp only [depotkit_KeptRows.l2]
    have h1 : (j : Int) < 64 := by omega
    have e1 : wrap64 ((l.length : Int) + (j : Int)) = ((l.length + j : Nat) : Int) := by rw [w64 (by omega) (by omega)]; omega
    have h2 : (0 : Int) ≤ ((l.length + j : Nat) : Int) := by omega
    have h3 : ((l.length + j : Nat) : Int) < (S.length : Int) := by omega
    have e2 := hM2 j (by omega)
    have e6 := rd_one (markOf 1 (j : Int))
    have e4 : (([markOf 1 (j : Int)] : List Int).length : Int) = 1 := by simp
    have e5 : (0 : Int) < 1 := by omega
    generalize markOf 1 (j : Int) = q at em e2 e4 e6
    simp only [h1, e1, h2, h3, e2, e4, e5, if_true, w64s (show (j : Int) < 9223372036854775807 by omega)]
    have hev : Ev (fun _ => depotkit_mark.f 1 (j : Int)) q := by rw [em]; exact Ev.now _
    refine Ev.bind hev ?_
    rw [e6]
    have ih2 := ih (j + 1) (by omega)
    generalize depotkit_KeptRows.l2 = f2 at ih2 ⊢
    simp only [if_true]
    exact ih2
theorem depotkit_KeptRows_l1 (l : List (List Int)) (M R : List (List Int)) (x : List Int) (i : Nat) (hi : i < l.length) (hx : x = l[i]) (hn : x.length < 17592186044416) (r : Bool) (hrest : Ev (fun k => depotkit_KeptRows.l0 k l (wrap64 ((i : Int) + 1)) l M R) r) (d : Nat) :
    ∀ j : Nat, j + d = x.length → Ev (fun k => depotkit_KeptRows.l1 k l (i : Int) x (j : Int) l M R) r := by
  have e0 : rd_L1 l (i : Int) = x := by rw [rd_L1_nat hi, hx]
  induction d with
  | zero =>
    intro j hj
    refine Ev.succ ?_
    simp only [depotkit_KeptRows.l1]
    have h1 : ¬ ((j : Int) < (x.length : Int)) := by omega
    simp only [h1, if_false]
    exact hrest
  | succ d ih =>
    intro j hj
    refine Ev.succ ?_
    simp only [depotkit_KeptRows.l1]
    have h1 : (j : Int) < (x.length : Int) := by omega
    have h0 : (0 : Int) ≤ (j : Int) := by omega
    have h2 : (0 : Int) ≤ (i : Int) := by omega
    have h3 : (i : Int) < (l.length : Int) := by omega
    simp only [h1, h0, h2, h3, e0, if_true, w64s (show (j : Int) < 9223372036854775807 by omega)]
    exact ih (j + 1) (by omega)
theorem depotkit_KeptRows_l0 (l : List (List Int)) (hn : l.length + 64 < 17592186044416) (hs : ∀ x ∈ l, x.length + 64 < 17592186044416) (d : Nat) : ∀ i : Nat, i + d = l.length → Ev (fun k => depotkit_KeptRows.l0 k l (i : Int) l (l ++ rowMarks) (l.map lentOf)) true := by
  induction d with
  | zero =>
    intro i hi
    refine Ev.succ ?_
    simp only [depotkit_KeptRows.l0]
    have h1 : ¬ ((i : Int) < (l.length : Int)) := by omega
    simp only [h1, if_false]
    exact depotkit_KeptRows_l2 l rowMarks _ hn (by rw [List.length_append, rowMarks_length]) (fun j hj => by rw [rd_L1_nat (by rw [List.length_append, rowMarks_length]; omega)]; exact rowMarks_get l j hj _) 64 0 (by omega)
  | succ d ih =>
    intro i hi
    refine Ev.succ ?_
    simp only [depotkit_KeptRows.l0]
    have hlt : i < l.length := by omega
    have hl : (l ++ rowMarks).length = l.length + 64 := by rw [List.length_append, rowMarks_length]
    have h1 : (i : Int) < (l.length : Int) := by omega
    have h0 : (0 : Int) ≤ (i : Int) := by omega
    have h3 : (i : Int) < ((l ++ rowMarks).length : Int) := by rw [hl]; omega
    have h4 : (i : Int) < ((l.map lentOf).length : Int) := by rw [List.length_map]; omega
    have e1 : rd_L1 (l ++ rowMarks) (i : Int) = l[i] := by rw [rd_L1_nat (by rw [hl]; omega), List.getElem_append_left hlt]
    have e2 : rd_L1 l (i : Int) = l[i] := rd_L1_nat hlt
    have e3 : rd_L1 (l.map lentOf) (i : Int) = lentOf l[i] := by rw [rd_L1_nat (by rw [List.length_map]; omega), List.getElem_map]
    simp only [h1, h0, h3, h4, e1, e2, e3, if_true]
    refine Ev.bind (depotkit_Kept_ev _ (hs _ (List.getElem_mem hlt))) ?_
    refine Ev.succ ?_
    simp only [depotkit_KeptRows.j2, Bool.not_true, if_false]
    have hs1 := hs _ (List.getElem_mem hlt)
    refine depotkit_KeptRows_l1 l _ _ l[i] i hlt rfl (by omega) true ?_ l[i].length 0 (by omega)
    rw [w64s (show (i : Int) < 9223372036854775807 by omega)]
    exact ih (i + 1) (by omega)
theorem depotkit_KeptRows_ev (l : List (List Int)) (hn : l.length + 64 < 17592186044416) (hs : ∀ x ∈ l, x.length + 64 < 17592186044416) : Ev (fun k => depotkit_KeptRows.f k l (l ++ rowMarks) (l.map lentOf) l) true := by
  have h1 : ((l ++ rowMarks).length : Int) = wrap64 ((l.length : Int) + 64) := by rw [w64 (by omega) (by omega), List.length_append, rowMarks_length]; omega
  have h2 : (((l.map lentOf).length : Int) != (l.length : Int)) = false := by simp
  unfold depotkit_KeptRows.f
  simp only [h1, h2, if_true]
  refine Ev.succ ?_
  simp only [depotkit_KeptRows.j0, if_false]
  exact depotkit_KeptRows_l0 l hn hs l.length 0 (by omega)
end Go.Proofs.YtggnnnddnppcpaaDoor.PCnfKeepsTidy
