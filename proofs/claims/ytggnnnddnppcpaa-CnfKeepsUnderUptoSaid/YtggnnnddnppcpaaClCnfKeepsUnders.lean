/- What the law CnfKeepsUnder's own functions are told over. -/
import Derived.Test.YtggnnnddnppcpaaClCnfKeepsUnderm
import Derived.Test.YtggnnnddnppcpaaClCnfKeepsUndern
import Derived.Test.YtggnnnddnppcpaaClCnfKeepsUndero
import Derived.Test.YtggnnnddnppcpaaClCnfKeepsUnderq
import Derived.Test.YtggnnnddnppcpaaClCnfKeepsUnderr
import Derived.Test.YtggnnnddnppcpaaClCnfKeepsUnderd
import Derived.Test.YtggnnnddnppcpaaClCnfKeepsUnderh
import Derived.Test.YtggnnnddnppcpaaClCnfKeepsUnderp
/-! text YtggnnnddnppcpaaKuMod -/

/-! text YtggnnnddnppcpaaKuLib -/
namespace Go.Proofs.Ytggnnnddnppcpaa.PCnfKeepsUnder
open Go.RowKit Go.Proofs.YtggnnnddnppcpaaW.PrintWords Go.Proofs.YtggnnnddnppcpaaW.PrintLast Go.Proofs.YtggnnnddnppcpaaMath
set_option linter.unusedVariables false
set_option linter.unusedSimpArgs false
theorem depotref01_Formed_eq (l : Int) : depotref01_Formed.f l = some (formed l) := by
  unfold depotref01_Formed.f formed
  by_cases h1 : l ≥ 1
  · by_cases h2 : l ≤ 1048576
    · rw [if_pos h1, if_pos h2]; congr 1; symm; simp; omega
    · rw [if_pos h1, if_neg h2, if_pos (by omega)]; congr 1; rw [Bool.eq_iff_iff]; simp; omega
  · by_cases h2 : l ≥ -1048576
    · rw [if_neg h1, if_pos h2]; congr 1; rw [Bool.eq_iff_iff]; simp; omega
    · rw [if_neg h1, if_neg h2]; congr 1; symm; simp; omega
theorem depotref01_Sound_l0 (l : List Int) (hn : l.length ≤ 17592186044416) (d : Nat) : ∀ i : Nat, i + d = l.length → Ev (fun k => depotref01_Sound.l0 k l (i : Int)) (sound (l.drop i)) := by
  induction d with
  | zero =>
    intro i hi
    refine Ev.succ ?_
    simp only [depotref01_Sound.l0]
    have h1 : ¬ ((i : Int) < (l.length : Int)) := by omega
    simp only [h1, if_false]
    rw [List.drop_of_length_le (by omega)]
    exact Ev.now _
  | succ d ih =>
    intro i hi
    refine Ev.succ ?_
    simp only [depotref01_Sound.l0, depotref01_Formed_eq, Option.bind_some]
    have h1 : (i : Int) < (l.length : Int) := by omega
    have h0 : (0 : Int) ≤ (i : Int) := by omega
    simp only [h1, h0, if_true]
    rw [drop_rd (show i < l.length by omega)]
    by_cases hf : formed (rd l i) = true
    · simp only [hf, if_true, w64s (show (i : Int) < 9223372036854775807 by omega), sound, List.all_cons, Bool.true_and]
      exact ih (i + 1) (by omega)
    · simp only [Bool.not_eq_true] at hf
      simp only [hf, Bool.false_eq_true, if_false, sound, List.all_cons, Bool.false_and]
      exact Ev.now _
theorem depotref01_Sound_ev (l : List Int) (hn : l.length ≤ 17592186044416) : Ev (fun k => depotref01_Sound.f k l) (sound l) := depotref01_Sound_l0 l hn l.length 0 (by omega)
theorem depotref02_within_l0 (l : List Int) (v : Int) (hn : l.length ≤ 17592186044416) (hs : sound l = true) (d : Nat) : ∀ i : Nat, i + d = l.length → Ev (fun k => depotref02_within.l0 k l v (i : Int)) ((l.drop i).all fun l => decide (l ≤ v ∧ -l ≤ v)) := by
  induction d with
  | zero =>
    intro i hi
    refine Ev.succ ?_
    simp only [depotref02_within.l0]
    have h1 : ¬ ((i : Int) < (l.length : Int)) := by omega
    simp only [h1, if_false]
    rw [List.drop_of_length_le (by omega)]
    exact Ev.now _
  | succ d ih =>
    intro i hi
    refine Ev.succ ?_
    simp only [depotref02_within.l0]
    have h1 : (i : Int) < (l.length : Int) := by omega
    have h0 : (0 : Int) ≤ (i : Int) := by omega
    simp only [h1, h0, if_true]
    rw [drop_rd (show i < l.length by omega)]
    have hf : formed (rd l i) = true := sound_mem hs (rd_mem (by omega))
    have hb := formed_bd hf
    rw [w64 (x := -(rd l i)) (by omega) (by omega)]
    by_cases hc : rd l i ≤ v ∧ - rd l i ≤ v
    · have h2 : ¬ rd l i > v := by omega
      have h3 : ¬ -(rd l i) > v := by omega
      simp only [h2, h3, if_false, w64s (show (i : Int) < 9223372036854775807 by omega), List.all_cons, decide_eq_true hc, Bool.true_and]
      exact ih (i + 1) (by omega)
    · simp only [List.all_cons, decide_eq_false hc, Bool.false_and]
      by_cases h2 : rd l i > v
      · simp only [h2, if_true]
        exact Ev.now _
      · have h3 : -(rd l i) > v := by omega
        simp only [h2, h3, if_true, if_false]
        exact Ev.now _
theorem depotref02_within_ev (l : List Int) (v : Int) (hn : l.length ≤ 17592186044416) : Ev (fun k => depotref02_within.f k l v) (within l v) := by
  unfold depotref02_within.f within
  refine Ev.bind (depotref01_Sound_ev l hn) ?_
  by_cases hs : sound l = true
  · simp only [hs, if_true, Bool.true_and]
    exact depotref02_within_l0 l v hn hs l.length 0 (by omega)
  · simp only [Bool.not_eq_true] at hs
    simp only [hs, Bool.false_eq_true, if_false, Bool.false_and]
    exact Ev.now _
theorem depotref02_Formed_l0 (v : Int) (cs : List (List Int)) (hn : cs.length ≤ 17592186044416) (hc : ∀ c ∈ cs, c.length ≤ 17592186044416) (d : Nat) : ∀ i : Nat, i + d = cs.length → Ev (fun k => depotref02_Formed.l0 k (i : Int) v cs) ((cs.drop i).all fun c => within c v) := by
  induction d with
  | zero =>
    intro i hi
    refine Ev.succ ?_
    simp only [depotref02_Formed.l0]
    have h1 : ¬ ((i : Int) < (cs.length : Int)) := by omega
    simp only [h1, if_false]
    rw [List.drop_of_length_le (by omega)]
    exact Ev.now _
  | succ d ih =>
    intro i hi
    refine Ev.succ ?_
    simp only [depotref02_Formed.l0, rd_L1]
    have h1 : (i : Int) < (cs.length : Int) := by omega
    have h0 : (0 : Int) ≤ (i : Int) := by omega
    simp only [h1, h0, if_true]
    rw [drop_getD (z := ([] : List Int)) (show i < cs.length by omega), List.all_cons]
    have hm : (cs.getD ((i : Int).toNat) ([] : List Int)).length ≤ 17592186044416 := by
      rw [getD_nat (show i < cs.length by omega)]
      exact hc _ (List.getElem_mem _)
    refine Ev.bind (depotref02_within_ev _ v hm) ?_
    by_cases hf : within (cs.getD ((i : Int).toNat) ([] : List Int)) v = true
    · simp only [hf, if_true, w64s (show (i : Int) < 9223372036854775807 by omega), Bool.true_and]
      exact ih (i + 1) (by omega)
    · simp only [Bool.not_eq_true] at hf
      simp only [hf, Bool.false_eq_true, if_false, Bool.false_and]
      exact Ev.now _
theorem depotref02_Formed_ev (v : Int) (cs : List (List Int)) (hn : cs.length ≤ 17592186044416) (hc : ∀ c ∈ cs, c.length ≤ 17592186044416) : Ev (fun k => depotref02_Formed.f k v cs) (isFormula v cs) := by
  have hj : ∀ b, Ev (fun k => depotref02_Formed.j0 k b v cs) (!b && cs.all fun c => within c v) := by
    intro b
    refine Ev.succ ?_
    simp only [depotref02_Formed.j0]
    cases b with
    | true => exact Ev.now _
    | false => exact depotref02_Formed_l0 v cs hn hc cs.length 0 (by omega)
  unfold depotref02_Formed.f isFormula
  by_cases h0 : v < 0
  · simp only [h0, if_true]
    have := hj true
    rw [decide_eq_false (by omega)]
    simpa using this
  · simp only [h0, if_false]
    have := hj (decide (v > 1048576))
    rw [show (!decide (v > 1048576)) = decide (0 ≤ v ∧ v ≤ 1048576) by rw [Bool.eq_iff_iff]; simp; omega] at this
    exact this
theorem depotref01_Index_eq (l : Int) : depotref01_Index.f l = some (idxOf l) := by
  unfold depotref01_Index.f idxOf
  rw [depotref01_Formed_eq]
  simp only [Option.bind_some]
  by_cases h : formed l = true
  · have := formed_bd h
    have e1 : wrap64 (wrap64 (-2 * l) - 1) = -2 * l - 1 := by unfold wrap64; omega
    have e2 : wrap64 (wrap64 (2 * l) - 2) = 2 * l - 2 := by unfold wrap64; omega
    rw [if_pos h, if_pos h, e1, e2]
    split <;> rfl
  · rw [if_neg h, if_neg h]
theorem depotref01_merged_l0 (a b : List Int) (hn : a.length + b.length ≤ 17592186044416) (n : Nat) : ∀ (i j : Nat) (o : List Int), i ≤ a.length → j ≤ b.length → a.length - i + (b.length - j) ≤ n → o.length + (a.length - i + (b.length - j)) ≤ 17592186044416 →
    Ev (fun k => depotref01_merged.l0 k a b o (i : Int) (j : Int)) (o ++ mg (a.drop i) (b.drop j)) := by
  induction n with
  | zero =>
    intro i j o hi hj hd ho
    refine Ev.succ ?_
    simp only [depotref01_merged.l0]
    have h1 : ¬ ((i : Int) < (a.length : Int)) := by omega
    have h2 : ¬ ((j : Int) < (b.length : Int)) := by omega
    simp only [h1, if_false, decide_eq_false h2]
    refine Ev.succ ?_
    simp only [depotref01_merged.j1, Bool.false_eq_true, if_false]
    rw [List.drop_of_length_le (by omega), List.drop_of_length_le (by omega), mg_nil, List.append_nil]
    exact Ev.now _
  | succ n ih =>
    intro i j o hi hj hd ho
    have h0i : (0 : Int) ≤ (i : Int) := by omega
    have h0j : (0 : Int) ≤ (j : Int) := by omega
    refine Ev.succ ?_
    simp only [depotref01_merged.l0]
    by_cases h1 : i < a.length
    · have h1' : (i : Int) < (a.length : Int) := by omega
      have hii : ¬ (i : Int) = (a.length : Int) := by omega
      simp only [h1', if_true]
      refine Ev.succ ?_
      simp only [depotref01_merged.j1, if_true]
      have hol : o.length < 17592186044416 := by omega
      by_cases h2 : j < b.length
      · have h2' : (j : Int) < (b.length : Int) := by omega
        have hjj : ¬ (j : Int) = (b.length : Int) := by omega
        simp only [hjj, if_false, h1', if_true, h0i, h0j, h2', depotref01_Index_eq, Option.bind_some]
        rw [drop_rd h1, drop_rd h2]
        refine Ev.succ ?_
        by_cases c1 : idxOf (rd a i) < idxOf (rd b j)
        · simp only [depotref01_merged.j2, decide_eq_true c1, if_true, h0i, h1', hol, w64s (show (i : Int) < 9223372036854775807 by omega)]
          rw [mg_lt c1, ← drop_rd h2]
          have := ih (i + 1) j (o ++ [rd a i]) (by omega) hj (by omega) (by simp only [List.length_append, List.length_singleton]; omega)
          simpa using this
        · simp only [depotref01_merged.j2, decide_eq_false c1, Bool.false_eq_true, if_false, hii, h0i, h0j, h1', h2', if_true, depotref01_Index_eq, Option.bind_some]
          by_cases c2 : idxOf (rd b j) < idxOf (rd a i)
          · simp only [c2, if_true, hol, w64s (show (j : Int) < 9223372036854775807 by omega)]
            rw [mg_gt c2, ← drop_rd h1]
            have := ih i (j + 1) (o ++ [rd b j]) hi (by omega) (by omega) (by simp only [List.length_append, List.length_singleton]; omega)
            simpa using this
          · simp only [c2, if_false, hol, if_true, w64s (show (i : Int) < 9223372036854775807 by omega), w64s (show (j : Int) < 9223372036854775807 by omega)]
            rw [mg_eq (by omega)]
            have := ih (i + 1) (j + 1) (o ++ [rd a i]) (by omega) (by omega) (by omega) (by simp only [List.length_append, List.length_singleton]; omega)
            simpa using this
      · have hjj : (j : Int) = (b.length : Int) := by omega
        simp only [hjj, if_true]
        refine Ev.succ ?_
        simp only [depotref01_merged.j2, if_true, h0i, h1', hol, w64s (show (i : Int) < 9223372036854775807 by omega)]
        rw [drop_rd h1, List.drop_of_length_le (show b.length ≤ j by omega), mg_nil']
        have := ih (i + 1) j (o ++ [rd a i]) (by omega) hj (by omega) (by simp only [List.length_append, List.length_singleton]; omega)
        rw [List.drop_of_length_le (show b.length ≤ j by omega), mg_nil', hjj] at this
        simpa using this
    · have h1' : ¬ (i : Int) < (a.length : Int) := by omega
      have hii : (i : Int) = (a.length : Int) := by omega
      simp only [h1', if_false]
      by_cases h2 : j < b.length
      · have h2' : (j : Int) < (b.length : Int) := by omega
        have hjj : ¬ (j : Int) = (b.length : Int) := by omega
        have hol : o.length < 17592186044416 := by omega
        simp only [decide_eq_true h2']
        refine Ev.succ ?_
        simp only [depotref01_merged.j1, if_true, hjj, if_false, h1']
        refine Ev.succ ?_
        simp only [depotref01_merged.j2, Bool.false_eq_true, if_false, hii, if_true, h0j, h2', hol, w64s (show (j : Int) < 9223372036854775807 by omega)]
        rw [drop_rd h2, List.drop_of_length_le (show a.length ≤ i by omega), mg_nil]
        have := ih i (j + 1) (o ++ [rd b j]) hi (by omega) (by omega) (by simp only [List.length_append, List.length_singleton]; omega)
        rw [List.drop_of_length_le (show a.length ≤ i by omega), mg_nil, hii] at this
        simpa using this
      · have h2' : ¬ ((j : Int) < (b.length : Int)) := by omega
        simp only [decide_eq_false h2']
        refine Ev.succ ?_
        simp only [depotref01_merged.j1, Bool.false_eq_true, if_false]
        rw [List.drop_of_length_le (show a.length ≤ i by omega), List.drop_of_length_le (show b.length ≤ j by omega), mg_nil, List.append_nil]
        exact Ev.now _
theorem depotref01_merged_ev (a b : List Int) (hn : a.length + b.length ≤ 17592186044416) : Ev (fun k => depotref01_merged.f k a b) (mg a b) := by
  have := depotref01_merged_l0 a b hn _ 0 0 [] (by omega) (by omega) (Nat.le_refl _) (by simp only [List.length_nil]; omega)
  simpa [depotref01_merged.f] using this
theorem depotref01_Tidy_ev (n : Nat) : ∀ l : List Int, l.length ≤ n → l.length ≤ 17592186044416 → Ev (fun k => depotref01_Tidy.f k l) (tidyOf l) := by
  induction n with
  | zero =>
    intro l h hn
    refine Ev.succ ?_
    have : l = [] := List.eq_nil_of_length_eq_zero (by omega)
    subst this
    simp only [depotref01_Tidy.f, List.length_nil]
    exact Ev.now _
  | succ n ih =>
    intro l h hn
    refine Ev.succ ?_
    match l, h, hn with
    | [], _, _ =>
      simp only [depotref01_Tidy.f, List.length_nil]
      exact Ev.now _
    | [x], _, _ =>
      have e1 : (([x] : List Int).length : Int) = 1 := rfl
      have r0 : rd [x] 0 = x := rfl
      simp only [depotref01_Tidy.f, e1, r0, show ¬ (1 : Int) = 0 by decide, if_false, if_true, show (0 : Int) < 1 by decide, depotref01_Formed_eq, tidyOf_one, Option.bind_some]
      by_cases hf : formed x = true
      · simp only [hf, if_true]; exact Ev.now _
      · simp only [hf, if_false]; exact Ev.now _
    | x :: y :: l, h, hn =>
      simp only [depotref01_Tidy.f]
      generalize hL : x :: y :: l = L at h hn ⊢
      have hL' : 2 ≤ L.length := by rw [← hL]; simp
      have h1 : ¬ (L.length : Int) = 0 := by omega
      have h2 : ¬ (L.length : Int) = 1 := by omega
      have e1 : wrap64 ((L.length : Int) / 2) = ((L.length / 2 : Nat) : Int) := by rw [w64 (by omega) (by omega)]; omega
      have h3 : (0 : Int) ≤ ((L.length / 2 : Nat) : Int) := by omega
      have h4 : ((L.length / 2 : Nat) : Int) ≤ (L.length : Int) := by omega
      simp only [h1, h2, if_false, e1, h3, h4, if_true, Int.toNat_natCast]
      refine Ev.bind (ih (L.take (L.length / 2)) (by simp only [List.length_take]; omega) (by simp only [List.length_take]; omega)) (Ev.bind (ih (L.drop (L.length / 2)) (by simp only [List.length_drop]; omega) (by simp only [List.length_drop]; omega)) ?_)
      have t1 := tidyOf_length (L.take (L.length / 2))
      have t2 := tidyOf_length (L.drop (L.length / 2))
      simp only [List.length_take, List.length_drop] at t1 t2
      refine Ev.bind (depotref01_merged_ev _ _ (by omega)) ?_
      rw [← tidyOf_append, List.take_append_drop]
      exact Ev.now _
theorem depotref01_Tidy_evl (l : List Int) (hn : l.length ≤ 17592186044416) : Ev (fun k => depotref01_Tidy.f k l) (tidyOf l) := depotref01_Tidy_ev l.length l (Nat.le_refl _) hn
theorem depotref01_Taut_l0 (t : List Int) (hf : ∀ x ∈ t, formed x = true) (hn : t.length ≤ 17592186044416) (d : Nat) : ∀ i : Nat, 0 < i → i + d = t.length → Ev (fun k => depotref01_Taut.l0 k t (i : Int)) (tautIn (t.drop (i - 1))) := by
  induction d with
  | zero =>
    intro i h0 hi
    refine Ev.succ ?_
    simp only [depotref01_Taut.l0]
    have h1 : ¬ ((i : Int) < (t.length : Int)) := by omega
    simp only [h1, if_false]
    rw [drop_rd (show i - 1 < t.length by omega), List.drop_of_length_le (by omega)]
    exact Ev.now _
  | succ d ih =>
    intro i h0 hi
    refine Ev.succ ?_
    simp only [depotref01_Taut.l0]
    have h1 : (i : Int) < (t.length : Int) := by omega
    have h2 : (0 : Int) ≤ (i : Int) := by omega
    have h3 : (0 : Int) ≤ ((i - 1 : Nat) : Int) := by omega
    have h4 : ((i - 1 : Nat) : Int) < (t.length : Int) := by omega
    have hb := formed_bd (hf _ (rd_mem (show i - 1 < t.length by omega)))
    have e1 : wrap64 (-(rd t ((i - 1 : Nat) : Int))) = -(rd t ((i - 1 : Nat) : Int)) := by unfold wrap64; omega
    simp only [h1, h2, if_true, w64p h0 (show (i : Int) < 9223372036854775807 by omega), h3, h4, e1, w64s (show (i : Int) < 9223372036854775807 by omega)]
    rw [drop_rd (show i - 1 < t.length by omega), show i - 1 + 1 = i by omega, drop_rd (show i < t.length by omega)]
    have := ih (i + 1) (by omega) (by omega)
    rw [show i + 1 - 1 = i by omega, drop_rd (show i < t.length by omega)] at this
    by_cases c : rd t (i : Int) = -(rd t ((i - 1 : Nat) : Int))
    · have : (rd t (i : Int) == -(rd t ((i - 1 : Nat) : Int))) = true := by simpa using c
      simp only [c, if_true, tautIn, beq_self_eq_true, Bool.true_or]
      exact Ev.now _
    · have e : (rd t (i : Int) == -(rd t ((i - 1 : Nat) : Int))) = false := by simpa using c
      simp only [c, if_false, tautIn, e, Bool.false_or]
      exact this
theorem depotref01_Taut_ev (l : List Int) (hn : l.length ≤ 17592186044416) : Ev (fun k => depotref01_Taut.f k l) (tautIn (tidyOf l)) := by
  unfold depotref01_Taut.f
  have ht := tidyOf_length l
  refine Ev.bind (depotref01_Tidy_evl l hn) ?_
  by_cases h : (tidyOf l).length = 0
  · rw [List.eq_nil_of_length_eq_zero h]
    refine Ev.succ ?_
    simp only [depotref01_Taut.l0]
    exact Ev.now _
  · have := depotref01_Taut_l0 (tidyOf l) (fun _ h => tidyOf_formed h) (by omega) ((tidyOf l).length - 1) 1 (by omega) (by omega)
    simpa using this
theorem drop_L1 {l : List (List Int)} {i : Nat} (h : i < l.length) : l.drop i = rd_L1 l (i : Int) :: l.drop (i + 1) := drop_getD (z := ([] : List Int)) h
theorem rd_L1_mem {l : List (List Int)} {i : Nat} (h : i < l.length) : rd_L1 l (i : Int) ∈ l := by
  have := getD_nat (z := ([] : List Int)) h
  show l.getD ((i : Int).toNat) ([] : List Int) ∈ l
  rw [this]; exact List.getElem_mem h
theorem take_L1 {l : List (List Int)} {i : Nat} (h : i < l.length) : l.take (i + 1) = l.take i ++ [rd_L1 l (i : Int)] := take_getD (z := ([] : List Int)) h
theorem depotref00_HasInt_l0 (l : List Int) (x : Int) (hn : l.length ≤ 17592186044416) (d : Nat) : ∀ i : Nat, i + d = l.length → Ev (fun k => depotref00_HasInt.l0 k l x (i : Int)) ((l.drop i).contains x) := by
  induction d with
  | zero =>
    intro i hi
    refine Ev.succ ?_
    simp only [depotref00_HasInt.l0]
    have h1 : ¬ ((i : Int) < (l.length : Int)) := by omega
    simp only [h1, if_false]
    rw [List.drop_of_length_le (by omega)]
    exact Ev.now _
  | succ d ih =>
    intro i hi
    refine Ev.succ ?_
    simp only [depotref00_HasInt.l0]
    have h1 : (i : Int) < (l.length : Int) := by omega
    have h0 : (0 : Int) ≤ (i : Int) := by omega
    simp only [h1, h0, if_true]
    rw [drop_rd (show i < l.length by omega), List.contains_cons]
    by_cases hx : rd l i = x
    · simp only [hx, if_true, beq_self_eq_true, Bool.true_or]
      exact Ev.now _
    · have hx2 : (x == rd l i) = false := by simp; omega
      simp only [hx, if_false, hx2, Bool.false_or, w64s (show (i : Int) < 9223372036854775807 by omega)]
      exact ih (i + 1) (by omega)
theorem depotref00_HasInt_ev (l : List Int) (x : Int) (hn : l.length ≤ 17592186044416) : Ev (fun k => depotref00_HasInt.f k l x) (l.contains x) := by
  unfold depotref00_HasInt.f
  exact depotref00_HasInt_l0 l x hn l.length 0 (by omega)
theorem cnf_Under_eq (k : Nat) (v1 : Int) (l1 : List (List Int)) (l2 : List Int) (hn : l1.length ≤ 5864062014805) (hn2 : l2.length ≤ 17592186044416) (hs : ∀ c ∈ l1, c.length ≤ 17592186044416) : cnf_Under.f k v1 l1 l2 = some (underOf v1 l1 l2) := by
  unfold cnf_Under.f
  rw [if_pos ⟨hn, hn2, hs⟩]
theorem underP_take {part c : List Int} {j : Nat} (hj : j < c.length) : underP part (c.take (j + 1)) = underP part (c.take j) ++ (if part.contains (-(rd c (j : Int))) = true then [] else [rd c (j : Int)]) := by
  unfold underP
  rw [take_rd hj, List.filter_append]
  congr 1
  cases h : part.contains (-(rd c (j : Int))) <;> simp only [List.filter_cons, h, List.filter_nil, Bool.not_true, Bool.not_false, Bool.false_eq_true, if_true, if_false]
theorem underO_take {part c : List Int} {j : Nat} (hj : j < c.length) : underO part (c.take (j + 1)) = (underO part (c.take j) || part.contains (rd c (j : Int))) := by
  unfold underO
  rw [take_rd hj, List.any_append]
  simp
theorem underP_length (part c : List Int) : (underP part c).length ≤ c.length := List.length_filter_le _ _
theorem depotref02_Under_l1 (part : List Int) (i : Int) (v v0 : Int) (cs acc : List (List Int)) (r : Int × List (List Int) × Int) (h0 : 0 ≤ i) (h1 : i < (cs.length : Int)) (hp : part.length ≤ 17592186044416) (hc : (rd_L1 cs i).length ≤ 17592186044416) (hf : ∀ x ∈ rd_L1 cs i, formed x = true) (ha : acc.length < 5864062014805)
    (hk : Ev (fun k => depotref02_Under.l0 k part (wrap64 (i + 1)) v cs v0 (acc ++ (if underO part (rd_L1 cs i) = true then [] else [underP part (rd_L1 cs i)]))) r) (d : Nat) : ∀ j : Nat, j + d = (rd_L1 cs i).length →
    Ev (fun k => depotref02_Under.l1 k part i (underP part ((rd_L1 cs i).take j)) (underO part ((rd_L1 cs i).take j)) (j : Int) v cs v0 acc) r := by
  induction d with
  | zero =>
    intro j hj
    refine Ev.succ ?_
    have h2 : ¬ ((j : Int) < ((rd_L1 cs i).length : Int)) := by omega
    simp only [depotref02_Under.l1, h0, h1, h2, if_true, if_false]
    rw [List.take_of_length_le (by omega)]
    cases ho : underO part (rd_L1 cs i) with
    | true => simp only [ho, if_true, List.append_nil] at hk ⊢; exact hk
    | false => simp only [ho, Bool.false_eq_true, if_false, ha, if_true] at hk ⊢; exact hk
  | succ d ih =>
    intro j hj
    refine Ev.succ ?_
    have hlt : j < (rd_L1 cs i).length := by omega
    have h2 : ((j : Int) < ((rd_L1 cs i).length : Int)) := by omega
    have h3 : (0 : Int) ≤ (j : Int) := by omega
    have hb := formed_bd (hf _ (rd_mem hlt))
    have e1 : wrap64 (-(rd (rd_L1 cs i) (j : Int))) = -(rd (rd_L1 cs i) (j : Int)) := by unfold wrap64; omega
    have h4 : (underP part ((rd_L1 cs i).take j)).length < 17592186044416 := by
      have := underP_length part ((rd_L1 cs i).take j)
      rw [List.length_take] at this
      omega
    have next := ih (j + 1) (by omega)
    rw [underP_take hlt, underO_take hlt] at next
    simp only [depotref02_Under.l1, h0, h1, h2, h3, h4, if_true, e1, w64s (show (j : Int) < 9223372036854775807 by omega)]
    refine Ev.bind (depotref00_HasInt_ev part _ hp) ?_
    cases ho : part.contains (rd (rd_L1 cs i) (j : Int)) with
    | true =>
      simp only [if_true]
      refine Ev.bind (depotref00_HasInt_ev part _ hp) ?_
      cases hm : part.contains (-(rd (rd_L1 cs i) (j : Int))) with
      | true => simp only [ho, hm, if_true, Bool.or_true, List.append_nil] at next ⊢; exact next
      | false => simp only [ho, hm, Bool.false_eq_true, if_false, if_true, Bool.or_true] at next ⊢; exact next
    | false =>
      simp only [Bool.false_eq_true, if_false]
      refine Ev.bind (depotref00_HasInt_ev part _ hp) ?_
      cases hm : part.contains (-(rd (rd_L1 cs i) (j : Int))) with
      | true => simp only [ho, hm, if_true, Bool.or_false, List.append_nil] at next ⊢; exact next
      | false => simp only [ho, hm, Bool.false_eq_true, if_false, Bool.or_false] at next ⊢; exact next
theorem leftAll_rd {part : List Int} {cs : List (List Int)} {i : Nat} (hi : i < cs.length) : leftAll part (cs.take (i + 1)) = leftAll part (cs.take i) ++ (if underO part (rd_L1 cs (i : Int)) = true then [] else [underP part (rd_L1 cs (i : Int))]) := leftAll_take hi
theorem depotref02_Under_l0 (part : List Int) (v v0 : Int) (cs : List (List Int)) (hp : part.length ≤ 17592186044416) (hn : cs.length ≤ 5864062014805) (hs : ∀ c ∈ cs, c.length ≤ 17592186044416) (hf : ∀ c ∈ cs, ∀ x ∈ c, formed x = true) (d : Nat) : ∀ i : Nat, i + d = cs.length →
    Ev (fun k => depotref02_Under.l0 k part (i : Int) v cs v0 (leftAll part (cs.take i))) (v0, leftAll part cs, 0) := by
  induction d with
  | zero =>
    intro i hi
    refine Ev.succ ?_
    have h1 : ¬ ((i : Int) < (cs.length : Int)) := by omega
    simp only [depotref02_Under.l0, h1, if_false]
    rw [List.take_of_length_le (by omega)]
    exact Ev.now _
  | succ d ih =>
    intro i hi
    refine Ev.succ ?_
    have hlt : i < cs.length := by omega
    have h1 : (i : Int) < (cs.length : Int) := by omega
    simp only [depotref02_Under.l0, h1, if_true]
    have ha : (leftAll part (cs.take i)).length < 5864062014805 := by
      have := leftAll_length part (cs.take i)
      rw [List.length_take] at this
      omega
    refine depotref02_Under_l1 part (i : Int) v v0 cs _ _ (by omega) h1 hp (hs _ (rd_L1_mem hlt)) (hf _ (rd_L1_mem hlt)) ha ?_ (rd_L1 cs (i : Int)).length 0 (by omega)
    rw [w64s (show (i : Int) < 9223372036854775807 by omega), ← leftAll_rd hlt]
    exact ih (i + 1) (by omega)
theorem depotref02_Under_ev (v : Int) (cs : List (List Int)) (part : List Int) (hp : part.length ≤ 17592186044416) (hn : cs.length ≤ 5864062014805) (hs : ∀ c ∈ cs, c.length ≤ 17592186044416) : Ev (fun k => depotref02_Under.f k v cs part) (underOf v cs part) := by
  unfold depotref02_Under.f underOf
  refine Ev.bind (depotref02_Formed_ev v cs (by omega) hs) ?_
  cases h1 : isFormula v cs with
  | false =>
    simp only [Bool.false_and, Bool.false_eq_true, if_false]
    refine Ev.succ ?_
    simp only [depotref02_Under.j0, if_true]
    exact Ev.now _
  | true =>
    simp only [Bool.true_and, if_true]
    refine Ev.bind (depotref02_within_ev part v hp) ?_
    refine Ev.succ ?_
    cases h2 : within part v with
    | false =>
      simp only [depotref02_Under.j0, Bool.not_false, Bool.false_eq_true, if_true, if_false]
      exact Ev.now _
    | true =>
      simp only [depotref02_Under.j0, Bool.not_true, Bool.false_eq_true, if_true, if_false]
      refine Ev.bind (depotref01_Taut_ev part hp) ?_
      cases h3 : tautIn (tidyOf part) with
      | true => simp only [if_true]; exact Ev.now _
      | false =>
        simp only [Bool.false_eq_true, if_false]
        have hf : ∀ c ∈ cs, ∀ x ∈ c, formed x = true := by
          unfold isFormula at h1
          rw [Bool.and_eq_true, List.all_eq_true] at h1
          intro c hc x hx
          have := h1.2 c hc
          unfold within at this
          rw [Bool.and_eq_true] at this
          exact sound_mem this.1 hx
        have := depotref02_Under_l0 part v v cs hp hn hs hf cs.length 0 (by omega)
        rw [List.take_zero] at this
        exact this
end Go.Proofs.Ytggnnnddnppcpaa.PCnfKeepsUnder
/-! text YtggnnnddnppcpaaKuBase -/
namespace Go.Proofs.YtggnnnddnppcpaaHand
open Go.RowKit Go.Proofs.YtggnnnddnppcpaaW.PrintWords Go.Proofs.YtggnnnddnppcpaaW.PrintLast Go.Proofs.YtggnnnddnppcpaaMath Go.Proofs.YtggnnnddnppcpaaOwn
set_option linter.unusedVariables false
set_option linter.unusedSimpArgs false
theorem lit1_C (W : World) (x : Int) : Kd.C (Kd.int .i64) (W.alloc (.cells #[.int .i64 x] 3 (0, 0))) (some ⟨W.heap.size, 0, none⟩) 1 [x] := by
  have h : Kd.R (Kd.int .i64) 3 (W.alloc (.cells #[.int .i64 x] 3 (0, 0))) 0 (fun _ => True) (.slice (some ⟨W.heap.size, 0, none⟩) 1 1) [x] := Kd.R_of_own (own_lit W 0 3 .i64 [x] (Nat.zero_le _) (show 1 ≤ 9223372036854775807 by decide)) fun _ _ => trivial
  exact (Kd.R_reads' h).2.2
theorem underOf_sm {v : Int} {l : List (List Int)} {part : List Int} (h : l.length ≤ 1048576 ∧ ∀ x ∈ l, x.length ≤ 1099511627776) : Sm (underOf v l part).2.1 := by
  unfold underOf
  split
  · split
    · exact ⟨Nat.zero_le _, fun x hx => by simp at hx⟩
    · refine ⟨Nat.le_trans (leftAll_length part l) (by omega), fun c hc => ?_⟩
      unfold leftAll at hc
      rw [List.mem_map] at hc
      obtain ⟨d, hd, rfl⟩ := hc
      exact Nat.le_trans (Go.Proofs.Ytggnnnddnppcpaa.PCnfKeepsUnder.underP_length part d) (h.2 d (List.mem_filter.1 hd).1)
  · exact ⟨Nat.zero_le _, fun x hx => by simp at hx⟩
theorem small_under : (underOf 2 [[1, 2], [-1]] [2]).2.2 = 0 := by
  have h : (isFormula 2 [[1, 2], [-1]] && within [2] 2) = true := by decide
  have t : tautIn (tidyOf [2]) = false := by
    cases ht : tautIn (tidyOf [2]) with
    | false => rfl
    | true =>
      obtain ⟨x, h1, h2⟩ := (tautIn_iff _ (rising_tidyOf [2]) (fun _ h => tidyOf_formed h)).1 ht
      have a := ((mem_tidyOf _ _).1 h1).1
      have b := ((mem_tidyOf _ _).1 h2).1
      simp at a b
      omega
  unfold underOf
  rw [h, t]
  rfl
theorem under_n {n m : Nat} {l ul : List (List Int)} {part : List Int} {v uv ue : Int} (hU : underOf v l part = (uv, ul, ue)) (h1 : n = l.length) (h2 : m = part.length) (A1 A2 : Option Addr) (c1 c2 : Nat) (w : World) (hr1 : Kd.C kC w A1 n l) (hc1 : n ≤ c1) (hr2 : Kd.C (Kd.int .i64) w A2 m part) (hc2 : m ≤ c2)
    (hb1 : l.length ≤ 1048576 ∧ ∀ x ∈ l, x.length ≤ 1099511627776) (hb2 : part.length ≤ 1099511627776) :
    Calls Try.prog 53 #[.agg #[.int .i64 v, .slice A1 n c1], .slice A2 m c2] w fun e w' => ∃ (A : Option Addr) (c : Nat), e = .returned (.tuple #[.agg #[.int .i64 uv, .slice A ul.length c], .int .i64 ue]) ∧ (sC (.slice A ul.length c) ul).P w' (fun b => w.heap.size ≤ b) ∧ Below w.heap.size w w' := by
  subst h1 h2
  have hf := Go.Proofs.Ytggnnnddnppcpaa.PCnfKeepsUnder.cnf_Under_eq 0 v l part (by omega) (by omega) (fun x hx => by have := hb1.2 x hx; omega)
  rw [hU] at hf
  refine (Go.Proofs.Ytggnnnddnppcpaa.PCnfKeepsUnder.cnf_Under.calls 0 v A1 c1 l A2 c2 part _ _ _ w hr1 hc1 hr2 hc2 hf).mono ?_
  rintro e w' ⟨v, rfl, hS, hB⟩
  obtain ⟨A, c, rfl⟩ := Kd.S_slice hS
  exact ⟨A, c, rfl, rows_of hS, hB⟩
theorem refUnder_n {n m : Nat} {l ul : List (List Int)} {part : List Int} {v uv ue : Int} (hU : underOf v l part = (uv, ul, ue)) (h1 : n = l.length) (h2 : m = part.length) (A1 A2 : Option Addr) (c1 c2 : Nat) (w : World) (hr1 : Kd.C kC w A1 n l) (hc1 : n ≤ c1) (hr2 : Kd.C (Kd.int .i64) w A2 m part) (hc2 : m ≤ c2)
    (hb1 : l.length ≤ 1048576 ∧ ∀ x ∈ l, x.length ≤ 1099511627776) (hb2 : part.length ≤ 1099511627776) :
    Calls Try.prog 54 #[.agg #[.int .i64 v, .slice A1 n c1], .slice A2 m c2] w fun e w' => ∃ (A : Option Addr) (c : Nat), e = .returned (.tuple #[.agg #[.int .i64 uv, .slice A ul.length c], .int .i64 ue]) ∧ (sC (.slice A ul.length c) ul).P w' (fun b => w.heap.size ≤ b) ∧ Below w.heap.size w w' := by
  subst h1 h2
  obtain ⟨k, hk⟩ := (Go.Proofs.Ytggnnnddnppcpaa.PCnfKeepsUnder.depotref02_Under_ev v l part (by omega) (by omega) (fun x hx => by have := hb1.2 x hx; omega)).rounds
  rw [hU] at hk
  refine (Go.Proofs.Ytggnnnddnppcpaa.PCnfKeepsUnder.depotref02_Under.calls k v A1 c1 l A2 c2 part _ _ _ w hr1 hc1 hr2 hc2 hk).mono ?_
  rintro e w' ⟨v, rfl, hS, hB⟩
  obtain ⟨A, c, rfl⟩ := Kd.S_slice hS
  exact ⟨A, c, rfl, rows_of hS, hB⟩
open Go.Proofs.Ytggnnnddnppcpaa.PCnfKeepsJoin
theorem lent_take' (l : List Int) : (lentOf l).take l.length = l := List.take_left
/-- a list that is lent -/
theorem lent1_n (A : Option Addr) (c : Nat) (l : List Int) (w : World) (hr : Kd.C (Kd.int .i64) w A l.length l) (hc : l.length ≤ c) (hn : l.length ≤ 1099511627776) :
    Calls Try.prog 46 #[.slice A l.length c] w fun e w' => ∃ (A' : Option Addr) (n c' : Nat), e = .returned (.slice A' n c') ∧ (l.length : Int) ≤ (c' : Int) ∧ (Asr.row (Kd.int .i64) 3 (.slice A' n c') (lentOf l)).P w' (fun b => w.heap.size ≤ b) ∧ Below w.heap.size w w' := by
  refine (lentD_calls A c l w hr hc hn).mono ?_
  rintro e w' ⟨v, rfl, hR, hB⟩
  obtain ⟨A', c', rfl⟩ := Kd.R_slice hR
  have h1 := (Kd.R_reads' hR).2.1
  rw [lentOf_length] at h1
  exact ⟨A', _, c', rfl, by omega, row_of hR, hB⟩
theorem part_C {w W : World} {X : Nat → Prop} {L : List Asr} {A : Option Addr} {n c : Nat} {l : List Int} (h : Sep w X L W) (i : Nat) (hi : L[i]? = some (.row (Kd.int .i64) 3 (.slice A n c) (lentOf l))) : Kd.C (Kd.int .i64) W A l.length l ∧ l.length ≤ c := by
  have h2 := Kd.R_reads' (h.get i hi)
  have h3 := Kd.C_take h2.2.2 (m := l.length) (by rw [lentOf_length]; omega)
  rw [lent_take'] at h3
  refine ⟨h3, ?_⟩
  have h4 := h2.1
  rw [lentOf_length] at h4
  have := h2.2.1
  omega
theorem kept1_n {w W : World} {X : Nat → Prop} {L : List Asr} {A B : Option Addr} {n c d : Nat} {l : List Int} (h : Sep w X L W) (i : Nat) (hi : L[i]? = some (.row (Kd.int .i64) 3 (.slice A n c) (lentOf l))) (hs : Kd.C (Kd.int .i64) W B l.length l) (hd : l.length ≤ d) (hn : l.length ≤ 1099511627776) :
    Calls Try.prog 48 #[.slice A n c, .slice B l.length d] W fun e w' => e = .returned (.bool true) ∧ Below W.heap.size W w' := by
  obtain ⟨h1, h2, h3⟩ := Kd.R_reads' (h.get i hi)
  obtain ⟨k, hk⟩ := (depotkit_Kept_ev l (by omega)).rounds
  subst h1
  refine (depotkit_Kept.calls k A c (lentOf l) B d l _ W h3 h2 hs hd hk).mono ?_
  rintro e w' ⟨rfl, hd⟩
  exact ⟨rfl, hd.below⟩
/-- a lent list is written over -/
theorem over1_n {w0 w : World} {X : Nat → Prop} {l : List Asr} {v : Value} {xs : List Int} (h : Sep w0 X l w) (i : Nat) (hi : l[i]? = some (.row (Kd.int .i64) 3 v xs)) (hX : ∀ b, X b → b < w.heap.size) (hn : xs.length < 17592186044416) :
    Calls Try.prog 55 #[v] w fun e w' => e = .returned (.tuple #[]) ∧ Sep w0 X (l.set i .emp) w' := by
  obtain ⟨r, hr, hev⟩ := depotkit_Over_ev xs hn
  obtain ⟨k, hk⟩ := hev.rounds
  have hR := Kd.R_tight rfl (R_raiseD (base := w0.heap.size) (h.get i hi) (fun k hk => hk.1))
  refine (depotkit_Over.calls k (fun k => some k = v.ownBlock) v xs r w0 w h.hB hR hk).mono ?_
  rintro e w' ⟨rfl, hR', hB', hK⟩
  exact ⟨rfl, h.upd i hi (M := fun k => some k = v.ownBlock) ⟨hB'.os.trans h.hB.os.symm, hB'.tape.trans h.hB.tape.symm, hB'.output.trans h.hB.output.symm, hK.1, fun k h1 h2 => hK.2 k h1 h2⟩ hX (fun ok hA k hk _ => hA.1 k hk.symm) fun ok hA hnew => trivial⟩
end Go.Proofs.YtggnnnddnppcpaaHand
