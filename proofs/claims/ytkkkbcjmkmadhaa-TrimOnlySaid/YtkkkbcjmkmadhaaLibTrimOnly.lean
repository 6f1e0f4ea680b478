/- What the functions that TrimOnly reaches compute, on numbers and lists. Laid by lib.py. -/
import Derived.Test.YtkkkbcjmkmadhaaGTrimOnlyx4
import Derived.Test.YtkkkbcjmkmadhaaMath
namespace Go.Proofs.Ytkkkbcjmkmadhaa.PTrimOnly
open Go.RowKit Go.Proofs.YtkkkbcjmkmadhaaW.PrintWords Go.Proofs.YtkkkbcjmkmadhaaW.PrintLast Go.Proofs.YtkkkbcjmkmadhaaMath
set_option linter.unusedVariables false
set_option linter.unusedSimpArgs false
theorem lits_Formed_eq (l : Int) : lits_Formed.f l = some (formed l) := by
  unfold lits_Formed.f formed
  by_cases h0 : l = 0
  · simp [h0]
  · by_cases h1 : l ≥ -1048576
    · rw [if_neg h0, if_pos h1]; congr 1; rw [Bool.eq_iff_iff]; simp; omega
    · rw [if_neg h0, if_neg h1]; congr 1; symm; simp; omega
theorem depotref01_Formed_eq (l : Int) : depotref01_Formed.f l = some (formed l) := by
  unfold depotref01_Formed.f formed
  by_cases h1 : l ≥ 1
  · by_cases h2 : l ≤ 1048576
    · rw [if_pos h1, if_pos h2]; congr 1; symm; simp; omega
    · rw [if_pos h1, if_neg h2, if_pos (by omega)]; congr 1; rw [Bool.eq_iff_iff]; simp; omega
  · by_cases h2 : l ≥ -1048576
    · rw [if_neg h1, if_pos h2]; congr 1; rw [Bool.eq_iff_iff]; simp; omega
    · rw [if_neg h1, if_neg h2]; congr 1; symm; simp; omega
theorem lits_Var_eq (l : Int) : lits_Var.f l = some (varOf l) := by
  unfold lits_Var.f varOf
  rw [lits_Formed_eq]
  simp only [Option.bind_some]
  by_cases h : formed l = true
  · have := formed_bd h
    rw [if_pos h, if_pos h, w64 (by omega) (by omega)]
    split <;> rfl
  · rw [if_neg h, if_neg h]
theorem lits_Sound_l0 (l : List Int) (hn : l.length ≤ 17592186044416) (d : Nat) : ∀ i : Nat, i + d = l.length → Ev (fun k => lits_Sound.l0 k l (l.length : Int) (i : Int)) (sound (l.drop i)) := by
  induction d with
  | zero =>
    intro i hi
    refine Ev.succ ?_
    simp only [lits_Sound.l0]
    have h1 : ¬ ((i : Int) < (l.length : Int)) := by omega
    simp only [h1, if_false]
    rw [List.drop_of_length_le (by omega)]
    exact Ev.now _
  | succ d ih =>
    intro i hi
    refine Ev.succ ?_
    simp only [lits_Sound.l0, lits_Formed_eq, Option.bind_some]
    have h1 : (i : Int) < (l.length : Int) := by omega
    have h0 : (0 : Int) ≤ (i : Int) := by omega
    simp only [h1, h0, if_true]
    rw [drop_rd (show i < l.length by omega)]
    by_cases hf : formed (rd l i) = true
    · simp only [hf, if_true, w64s (show (i : Int) < 9223372036854775807 by omega), sound, List.all_cons, Bool.true_and]
      exact ih (i + 1) (by omega)
    · simp only [Bool.not_eq_true] at hf
      simp only [hf, Bool.false_eq_true, if_false, sound, List.all_cons, Bool.false_and]
      exact Ev.now _
theorem lits_Sound_ev (l : List Int) (hn : l.length ≤ 17592186044416) : Ev (fun k => lits_Sound.f k l) (sound l) := lits_Sound_l0 l hn l.length 0 (by omega)
theorem depotref01_Sound_l0 (l : List Int) (hn : l.length ≤ 17592186044416) (d : Nat) : ∀ i : Nat, i + d = l.length → Ev (fun k => depotref01_Sound.l0 k l (i : Int)) (sound (l.drop i)) := by
  induction d with
  | zero =>
    intro i hi
    refine Ev.succ ?_
    simp only [depotref01_Sound.l0]
    have h1 : ¬ ((i : Int) < (l.length : Int)) := by omega
    simp only [h1, if_false]
    rw [List.drop_of_length_le (by omega)]
    exact Ev.now _
  | succ d ih =>
    intro i hi
    refine Ev.succ ?_
    simp only [depotref01_Sound.l0, depotref01_Formed_eq, Option.bind_some]
    have h1 : (i : Int) < (l.length : Int) := by omega
    have h0 : (0 : Int) ≤ (i : Int) := by omega
    simp only [h1, h0, if_true]
    rw [drop_rd (show i < l.length by omega)]
    by_cases hf : formed (rd l i) = true
    · simp only [hf, if_true, w64s (show (i : Int) < 9223372036854775807 by omega), sound, List.all_cons, Bool.true_and]
      exact ih (i + 1) (by omega)
    · simp only [Bool.not_eq_true] at hf
      simp only [hf, Bool.false_eq_true, if_false, sound, List.all_cons, Bool.false_and]
      exact Ev.now _
theorem depotref01_Sound_ev (l : List Int) (hn : l.length ≤ 17592186044416) : Ev (fun k => depotref01_Sound.f k l) (sound l) := depotref01_Sound_l0 l hn l.length 0 (by omega)
theorem cnf_within_l0 (l : List Int) (v : Int) (hn : l.length ≤ 17592186044416) (hs : sound l = true) (d : Nat) : ∀ i : Nat, i + d = l.length → Ev (fun k => cnf_within.l0 k v l (l.length : Int) (i : Int)) ((l.drop i).all fun l => decide (l ≤ v ∧ -l ≤ v)) := by
  induction d with
  | zero =>
    intro i hi
    refine Ev.succ ?_
    simp only [cnf_within.l0]
    have h1 : ¬ ((i : Int) < (l.length : Int)) := by omega
    simp only [h1, if_false]
    rw [List.drop_of_length_le (by omega)]
    exact Ev.now _
  | succ d ih =>
    intro i hi
    refine Ev.succ ?_
    simp only [cnf_within.l0, lits_Var_eq, Option.bind_some]
    have h1 : (i : Int) < (l.length : Int) := by omega
    have h0 : (0 : Int) ≤ (i : Int) := by omega
    simp only [h1, h0, if_true]
    rw [drop_rd (show i < l.length by omega)]
    have hf : formed (rd l i) = true := sound_mem hs (rd_mem (by omega))
    have hv : varOf (rd l i) > v ↔ ¬ (rd l i ≤ v ∧ - rd l i ≤ v) := by
      unfold varOf
      rw [if_pos hf]
      split <;> omega
    by_cases hc : rd l i ≤ v ∧ - rd l i ≤ v
    · have h2 : ¬ varOf (rd l i) > v := fun h => hv.1 h hc
      simp only [h2, if_false, w64s (show (i : Int) < 9223372036854775807 by omega), List.all_cons, decide_eq_true hc, Bool.true_and]
      exact ih (i + 1) (by omega)
    · have h2 : varOf (rd l i) > v := hv.2 hc
      simp only [h2, if_true, List.all_cons, decide_eq_false hc, Bool.false_and]
      exact Ev.now _
theorem cnf_within_ev (l : List Int) (v : Int) (hn : l.length ≤ 17592186044416) : Ev (fun k => cnf_within.f k l v) (within l v) := by
  unfold cnf_within.f within
  refine Ev.bind (lits_Sound_ev l hn) ?_
  by_cases hs : sound l = true
  · simp only [hs, if_true, Bool.true_and]
    exact cnf_within_l0 l v hn hs l.length 0 (by omega)
  · simp only [Bool.not_eq_true] at hs
    simp only [hs, Bool.false_eq_true, if_false, Bool.false_and]
    exact Ev.now _
theorem depotref02_within_l0 (l : List Int) (v : Int) (hn : l.length ≤ 17592186044416) (hs : sound l = true) (d : Nat) : ∀ i : Nat, i + d = l.length → Ev (fun k => depotref02_within.l0 k l v (i : Int)) ((l.drop i).all fun l => decide (l ≤ v ∧ -l ≤ v)) := by
  induction d with
  | zero =>
    intro i hi
    refine Ev.succ ?_
    simp only [depotref02_within.l0]
    have h1 : ¬ ((i : Int) < (l.length : Int)) := by omega
    simp only [h1, if_false]
    rw [List.drop_of_length_le (by omega)]
    exact Ev.now _
  | succ d ih =>
    intro i hi
    refine Ev.succ ?_
    simp only [depotref02_within.l0]
    have h1 : (i : Int) < (l.length : Int) := by omega
    have h0 : (0 : Int) ≤ (i : Int) := by omega
    simp only [h1, h0, if_true]
    rw [drop_rd (show i < l.length by omega)]
    have hf : formed (rd l i) = true := sound_mem hs (rd_mem (by omega))
    have hb := formed_bd hf
    rw [w64 (x := -(rd l i)) (by omega) (by omega)]
    by_cases hc : rd l i ≤ v ∧ - rd l i ≤ v
    · have h2 : ¬ rd l i > v := by omega
      have h3 : ¬ -(rd l i) > v := by omega
      simp only [h2, h3, if_false, w64s (show (i : Int) < 9223372036854775807 by omega), List.all_cons, decide_eq_true hc, Bool.true_and]
      exact ih (i + 1) (by omega)
    · simp only [List.all_cons, decide_eq_false hc, Bool.false_and]
      by_cases h2 : rd l i > v
      · simp only [h2, if_true]
        exact Ev.now _
      · have h3 : -(rd l i) > v := by omega
        simp only [h2, h3, if_true, if_false]
        exact Ev.now _
theorem depotref02_within_ev (l : List Int) (v : Int) (hn : l.length ≤ 17592186044416) : Ev (fun k => depotref02_within.f k l v) (within l v) := by
  unfold depotref02_within.f within
  refine Ev.bind (depotref01_Sound_ev l hn) ?_
  by_cases hs : sound l = true
  · simp only [hs, if_true, Bool.true_and]
    exact depotref02_within_l0 l v hn hs l.length 0 (by omega)
  · simp only [Bool.not_eq_true] at hs
    simp only [hs, Bool.false_eq_true, if_false, Bool.false_and]
    exact Ev.now _
theorem cnf_Formed_l0 (v : Int) (cs : List (List Int)) (hn : cs.length ≤ 17592186044416) (hc : ∀ c ∈ cs, c.length ≤ 17592186044416) (d : Nat) : ∀ i : Nat, i + d = cs.length → Ev (fun k => cnf_Formed.l0 k cs (cs.length : Int) (i : Int) v cs) ((cs.drop i).all fun c => within c v) := by
  induction d with
  | zero =>
    intro i hi
    refine Ev.succ ?_
    simp only [cnf_Formed.l0]
    have h1 : ¬ ((i : Int) < (cs.length : Int)) := by omega
    simp only [h1, if_false]
    rw [List.drop_of_length_le (by omega)]
    exact Ev.now _
  | succ d ih =>
    intro i hi
    refine Ev.succ ?_
    simp only [cnf_Formed.l0, rd_L1]
    have h1 : (i : Int) < (cs.length : Int) := by omega
    have h0 : (0 : Int) ≤ (i : Int) := by omega
    simp only [h1, h0, if_true]
    rw [drop_getD (z := ([] : List Int)) (show i < cs.length by omega), List.all_cons]
    have hm : (cs.getD ((i : Int).toNat) ([] : List Int)).length ≤ 17592186044416 := by
      rw [getD_nat (show i < cs.length by omega)]
      exact hc _ (List.getElem_mem _)
    refine Ev.bind (cnf_within_ev _ v hm) ?_
    by_cases hf : within (cs.getD ((i : Int).toNat) ([] : List Int)) v = true
    · simp only [hf, if_true, w64s (show (i : Int) < 9223372036854775807 by omega), Bool.true_and]
      exact ih (i + 1) (by omega)
    · simp only [Bool.not_eq_true] at hf
      simp only [hf, Bool.false_eq_true, if_false, Bool.false_and]
      exact Ev.now _
theorem cnf_Formed_ev (v : Int) (cs : List (List Int)) (hn : cs.length ≤ 17592186044416) (hc : ∀ c ∈ cs, c.length ≤ 17592186044416) : Ev (fun k => cnf_Formed.f k v cs) (isFormula v cs) := by
  have hj : ∀ b, Ev (fun k => cnf_Formed.j0 k b v cs) (!b && cs.all fun c => within c v) := by
    intro b
    refine Ev.succ ?_
    simp only [cnf_Formed.j0]
    cases b with
    | true => exact Ev.now _
    | false => exact cnf_Formed_l0 v cs hn hc cs.length 0 (by omega)
  unfold cnf_Formed.f isFormula
  by_cases h0 : v < 0
  · simp only [h0, if_true]
    have := hj true
    rw [decide_eq_false (by omega)]
    simpa using this
  · simp only [h0, if_false]
    have := hj (decide (v > 1048576))
    rw [show (!decide (v > 1048576)) = decide (0 ≤ v ∧ v ≤ 1048576) by rw [Bool.eq_iff_iff]; simp; omega] at this
    exact this
theorem depotref02_Formed_l0 (v : Int) (cs : List (List Int)) (hn : cs.length ≤ 17592186044416) (hc : ∀ c ∈ cs, c.length ≤ 17592186044416) (d : Nat) : ∀ i : Nat, i + d = cs.length → Ev (fun k => depotref02_Formed.l0 k (i : Int) v cs) ((cs.drop i).all fun c => within c v) := by
  induction d with
  | zero =>
    intro i hi
    refine Ev.succ ?_
    simp only [depotref02_Formed.l0]
    have h1 : ¬ ((i : Int) < (cs.length : Int)) := by omega
    simp only [h1, if_false]
    rw [List.drop_of_length_le (by omega)]
    exact Ev.now _
  | succ d ih =>
    intro i hi
    refine Ev.succ ?_
    simp only [depotref02_Formed.l0, rd_L1]
    have h1 : (i : Int) < (cs.length : Int) := by omega
    have h0 : (0 : Int) ≤ (i : Int) := by omega
    simp only [h1, h0, if_true]
    rw [drop_getD (z := ([] : List Int)) (show i < cs.length by omega), List.all_cons]
    have hm : (cs.getD ((i : Int).toNat) ([] : List Int)).length ≤ 17592186044416 := by
      rw [getD_nat (show i < cs.length by omega)]
      exact hc _ (List.getElem_mem _)
    refine Ev.bind (depotref02_within_ev _ v hm) ?_
    by_cases hf : within (cs.getD ((i : Int).toNat) ([] : List Int)) v = true
    · simp only [hf, if_true, w64s (show (i : Int) < 9223372036854775807 by omega), Bool.true_and]
      exact ih (i + 1) (by omega)
    · simp only [Bool.not_eq_true] at hf
      simp only [hf, Bool.false_eq_true, if_false, Bool.false_and]
      exact Ev.now _
theorem depotref02_Formed_ev (v : Int) (cs : List (List Int)) (hn : cs.length ≤ 17592186044416) (hc : ∀ c ∈ cs, c.length ≤ 17592186044416) : Ev (fun k => depotref02_Formed.f k v cs) (isFormula v cs) := by
  have hj : ∀ b, Ev (fun k => depotref02_Formed.j0 k b v cs) (!b && cs.all fun c => within c v) := by
    intro b
    refine Ev.succ ?_
    simp only [depotref02_Formed.j0]
    cases b with
    | true => exact Ev.now _
    | false => exact depotref02_Formed_l0 v cs hn hc cs.length 0 (by omega)
  unfold depotref02_Formed.f isFormula
  by_cases h0 : v < 0
  · simp only [h0, if_true]
    have := hj true
    rw [decide_eq_false (by omega)]
    simpa using this
  · simp only [h0, if_false]
    have := hj (decide (v > 1048576))
    rw [show (!decide (v > 1048576)) = decide (0 ≤ v ∧ v ≤ 1048576) by rw [Bool.eq_iff_iff]; simp; omega] at this
    exact this
theorem depotref00_SameInts_l0 (a b : List Int) (hn : a.length ≤ 17592186044416) (hl : a.length = b.length) (d : Nat) : ∀ i : Nat, i + d = a.length → Ev (fun k => depotref00_SameInts.l0 k a b (i : Int)) (a.drop i == b.drop i) := by
  induction d with
  | zero =>
    intro i hi
    refine Ev.succ ?_
    simp only [depotref00_SameInts.l0]
    have h1 : ¬ ((i : Int) < (a.length : Int)) := by omega
    simp only [h1, if_false]
    rw [List.drop_of_length_le (by omega), List.drop_of_length_le (by omega)]
    exact Ev.now _
  | succ d ih =>
    intro i hi
    refine Ev.succ ?_
    simp only [depotref00_SameInts.l0]
    have h1 : (i : Int) < (a.length : Int) := by omega
    have h2 : (i : Int) < (b.length : Int) := by omega
    have h0 : (0 : Int) ≤ (i : Int) := by omega
    simp only [h1, h2, h0, if_true]
    rw [drop_rd (show i < a.length by omega), drop_rd (show i < b.length by omega), List.cons_beq_cons]
    by_cases hx : rd a i = rd b i
    · simp only [hx, if_true, beq_self_eq_true, Bool.true_and, w64s (show (i : Int) < 9223372036854775807 by omega)]
      exact ih (i + 1) (by omega)
    · have hx2 : (rd a i == rd b i) = false := by simpa using hx
      simp only [hx, if_false, hx2, Bool.false_and]
      exact Ev.now _
theorem depotref00_SameInts_ev (a b : List Int) (hn : a.length ≤ 17592186044416) : Ev (fun k => depotref00_SameInts.f k a b) (a == b) := by
  unfold depotref00_SameInts.f
  by_cases hl : (a.length : Int) = (b.length : Int)
  · simp only [hl, if_true]
    exact depotref00_SameInts_l0 a b hn (by omega) a.length 0 (by omega)
  · simp only [hl, if_false]
    have : (a == b) = false := by
      rw [beq_eq_false_iff_ne]
      rintro rfl
      exact hl rfl
    rw [this]
    exact Ev.now _
theorem depotref00_CopyInts_l0 (l : List Int) (hn : l.length < 17592186044416) (d : Nat) : ∀ i : Nat, i + d = l.length → Ev (fun k => depotref00_CopyInts.l0 k l (l.take i) (i : Int)) l := by
  induction d with
  | zero =>
    intro i hi
    refine Ev.succ ?_
    have h1 : ¬ ((i : Int) < (l.length : Int)) := by omega
    simp only [depotref00_CopyInts.l0, h1, if_false]
    rw [List.take_of_length_le (by omega)]
    exact Ev.now _
  | succ d ih =>
    intro i hi
    refine Ev.succ ?_
    have h1 : (i : Int) < (l.length : Int) := by omega
    have h0 : (0 : Int) ≤ (i : Int) := by omega
    have h2 : (l.take i).length < 17592186044416 := by rw [List.length_take]; omega
    simp only [depotref00_CopyInts.l0, h1, h0, h2, if_true, w64s (show (i : Int) < 9223372036854775807 by omega)]
    rw [← take_rd (show i < l.length by omega)]
    exact ih (i + 1) (by omega)
theorem depotref00_CopyInts_ev (l : List Int) (hn : l.length < 17592186044416) : Ev (fun k => depotref00_CopyInts.f k l) l := depotref00_CopyInts_l0 l hn l.length 0 (by omega)
theorem drop_L1 {l : List (List Int)} {i : Nat} (h : i < l.length) : l.drop i = rd_L1 l (i : Int) :: l.drop (i + 1) := drop_getD (z := ([] : List Int)) h
theorem rd_L1_mem {l : List (List Int)} {i : Nat} (h : i < l.length) : rd_L1 l (i : Int) ∈ l := by
  have := getD_nat (z := ([] : List Int)) h
  show l.getD ((i : Int).toNat) ([] : List Int) ∈ l
  rw [this]; exact List.getElem_mem h
theorem take_L1 {l : List (List Int)} {i : Nat} (h : i < l.length) : l.take (i + 1) = l.take i ++ [rd_L1 l (i : Int)] := take_getD (z := ([] : List Int)) h
theorem depotref00_CopyClauses_l0 (l : List (List Int)) (hn : l.length ≤ 5864062014805) (hs : ∀ x ∈ l, x.length < 17592186044416) (d : Nat) : ∀ i : Nat, i + d = l.length → Ev (fun k => depotref00_CopyClauses.l0 k l (l.take i) (i : Int)) l := by
  induction d with
  | zero =>
    intro i hi
    refine Ev.succ ?_
    have h1 : ¬ ((i : Int) < (l.length : Int)) := by omega
    simp only [depotref00_CopyClauses.l0, h1, if_false]
    rw [List.take_of_length_le (by omega)]
    exact Ev.now _
  | succ d ih =>
    intro i hi
    refine Ev.succ ?_
    have h1 : (i : Int) < (l.length : Int) := by omega
    have h0 : (0 : Int) ≤ (i : Int) := by omega
    have h2 : (l.take i).length < 5864062014805 := by rw [List.length_take]; omega
    simp only [depotref00_CopyClauses.l0, h1, h0, if_true]
    refine Ev.bind (depotref00_CopyInts_ev _ (hs _ (rd_L1_mem (show i < l.length by omega)))) ?_
    simp only [h2, if_true, w64s (show (i : Int) < 9223372036854775807 by omega)]
    rw [← take_L1 (show i < l.length by omega)]
    exact ih (i + 1) (by omega)
theorem depotref00_CopyClauses_ev (l : List (List Int)) (hn : l.length ≤ 5864062014805) (hs : ∀ x ∈ l, x.length < 17592186044416) : Ev (fun k => depotref00_CopyClauses.f k l) l := depotref00_CopyClauses_l0 l hn hs l.length 0 (by omega)
theorem depotref00_CopyFormula_ev (v : Int) (l : List (List Int)) (hn : l.length ≤ 5864062014805) (hs : ∀ x ∈ l, x.length < 17592186044416) : Ev (fun k => depotref00_CopyFormula.f k v l) (v, l) := by
  unfold depotref00_CopyFormula.f
  exact Ev.bind (depotref00_CopyClauses_ev l hn hs) (Ev.now _)
theorem depotref00_SameClauses_l0 (a b : List (List Int)) (hn : a.length ≤ 17592186044416) (hs : ∀ x ∈ a, x.length ≤ 17592186044416) (he : a.length = b.length) (d : Nat) : ∀ i : Nat, i + d = a.length → Ev (fun k => depotref00_SameClauses.l0 k a b (i : Int)) (a.drop i == b.drop i) := by
  induction d with
  | zero =>
    intro i hi
    refine Ev.succ ?_
    have h1 : ¬ ((i : Int) < (a.length : Int)) := by omega
    simp only [depotref00_SameClauses.l0, h1, if_false]
    rw [List.drop_of_length_le (by omega), List.drop_of_length_le (by omega)]
    exact Ev.now _
  | succ d ih =>
    intro i hi
    refine Ev.succ ?_
    have h1 : (i : Int) < (a.length : Int) := by omega
    have h2 : (i : Int) < (b.length : Int) := by omega
    have h0 : (0 : Int) ≤ (i : Int) := by omega
    simp only [depotref00_SameClauses.l0, h1, h2, h0, if_true]
    have hl := hs _ (rd_L1_mem (show i < a.length by omega))
    rw [drop_L1 (show i < a.length by omega), drop_L1 (show i < b.length by omega)]
    refine Ev.bind (depotref00_SameInts_ev _ _ hl) ?_
    rw [List.cons_beq_cons]
    by_cases hf : (rd_L1 a i == rd_L1 b i) = true
    · simp only [hf, if_true, w64s (show (i : Int) < 9223372036854775807 by omega), Bool.true_and]
      exact ih (i + 1) (by omega)
    · simp only [Bool.not_eq_true] at hf
      simp only [hf, Bool.false_eq_true, if_false, Bool.false_and]
      exact Ev.now _
theorem depotref00_SameClauses_ev (a b : List (List Int)) (hn : a.length ≤ 17592186044416) (hs : ∀ x ∈ a, x.length ≤ 17592186044416) : Ev (fun k => depotref00_SameClauses.f k a b) (a == b) := by
  unfold depotref00_SameClauses.f
  by_cases he : a.length = b.length
  · have : (a.length : Int) = (b.length : Int) := by omega
    simp only [this, if_true]
    exact depotref00_SameClauses_l0 a b hn hs he a.length 0 (by omega)
  · have : ¬ (a.length : Int) = (b.length : Int) := by omega
    simp only [this, if_false]
    have e : (a == b) = false := by
      simp only [beq_eq_false_iff_ne, ne_eq]
      rintro rfl; exact he rfl
    rw [e]
    exact Ev.now _
theorem depotref00_SameFormula_ev (v w : Int) (a b : List (List Int)) (hn : a.length ≤ 17592186044416) (hs : ∀ x ∈ a, x.length ≤ 17592186044416) : Ev (fun k => depotref00_SameFormula.f k v a w b) (decide (v = w) && a == b) := by
  unfold depotref00_SameFormula.f
  by_cases h : v = w
  · simp only [h, if_true, decide_true, Bool.true_and]
    exact Ev.bind (depotref00_SameClauses_ev a b hn hs) (Ev.now _)
  · simp only [h, if_false, decide_false, Bool.false_and]
    exact Ev.now _
theorem slices_Clone_int_int_ev (l : List Int) (hn : l.length ≤ 17592186044416) : Ev (fun k => slices_Clone_int_int.f k l) l := by
  unfold slices_Clone_int_int.f; simp only [hn, if_true]; exact Ev.now _
def risesIn (n : Int) : Int → List Int → Bool
  | _, [] => true
  | last, x :: t => decide (last < x ∧ x < n) && risesIn n x t
theorem risesIn_length (n : Int) : ∀ (l : List Int) (last : Int), -1 ≤ last → last < n → risesIn n last l = true → (l.length : Int) ≤ n - 1 - last := by
  intro l
  induction l with
  | nil => intro last _ h _; simp; omega
  | cons x t ih =>
    intro last h0 h1 h
    simp only [risesIn, Bool.and_eq_true, decide_eq_true_eq] at h
    have := ih x (by omega) h.1.2 h.2
    simp only [List.length_cons]; omega
theorem trim_Only_l0 (v : Int) (cs : List (List Int)) (l : List Int) (hl : l.length ≤ 17592186044416) (hn : cs.length < 5864062014805) (hs : ∀ c ∈ cs, c.length < 17592186044416) (d : Nat) :
    ∀ (i : Nat) (last : Int) (o : List (List Int)), i + d = l.length → (o.length : Int) ≤ last + 1 → last + 1 ≤ cs.length → Ev (fun k => trim_Only.l0 k last l (l.length : Int) (i : Int) v cs v o) (if risesIn cs.length last (l.drop i) = true then (v, o ++ (l.drop i).map (rd_L1 cs), 0) else (0, ([] : List (List Int)), 2)) := by
  induction d with
  | zero =>
    intro i last o hi ho hlast
    refine Ev.succ ?_
    have h1 : ¬ ((i : Int) < (l.length : Int)) := by omega
    simp only [trim_Only.l0, h1, if_false]
    rw [List.drop_of_length_le (by omega)]
    simp only [risesIn, if_true, List.map_nil, List.append_nil]
    exact Ev.now _
  | succ d ih =>
    intro i last o hi ho hlast
    refine Ev.succ ?_
    have h1 : (i : Int) < (l.length : Int) := by omega
    have h0 : (0 : Int) ≤ (i : Int) := by omega
    simp only [trim_Only.l0, h1, h0, if_true]
    rw [drop_rd (show i < l.length by omega)]
    have ih := ih (i + 1)
    generalize rd l (i : Int) = x at *
    by_cases c1 : x ≤ last
    · have : risesIn cs.length last (x :: l.drop (i + 1)) = false := by
        simp only [risesIn, Bool.and_eq_false_iff, decide_eq_false_iff_not]; left; omega
      simp only [c1, if_true, this, Bool.false_eq_true, if_false]
      exact Ev.now _
    · by_cases c2 : x ≥ (cs.length : Int)
      · have : risesIn cs.length last (x :: l.drop (i + 1)) = false := by
          simp only [risesIn, Bool.and_eq_false_iff, decide_eq_false_iff_not]; left; omega
        simp only [c1, c2, if_true, if_false, this, Bool.false_eq_true]
        exact Ev.now _
      · have h2 : (0 : Int) ≤ x := by omega
        have h3 : x < (cs.length : Int) := by omega
        have h4 : o.length < 5864062014805 := by omega
        have hm : rd_L1 cs x ∈ cs := by
          have := rd_L1_mem (l := cs) (i := x.toNat) (by omega)
          rwa [show ((x.toNat : Nat) : Int) = x by omega] at this
        simp only [c1, c2, if_false, h2, h3, if_true]
        refine Ev.bind (slices_Clone_int_int_ev _ (Nat.le_of_lt (hs _ hm))) ?_
        simp only [h4, if_true, w64s (show (i : Int) < 9223372036854775807 by omega)]
        have := ih x (o ++ [rd_L1 cs x]) (by omega) (by rw [List.length_append, List.length_singleton]; omega) (by omega)
        have e : risesIn cs.length last (x :: l.drop (i + 1)) = risesIn cs.length x (l.drop (i + 1)) := by
          simp only [risesIn, show (last < x ∧ x < (cs.length : Int)) by omega, and_self, decide_true, Bool.true_and]
        rw [e, List.map_cons]
        rwa [List.append_assoc, List.singleton_append] at this
def onlyOf (v : Int) (cs : List (List Int)) (l : List Int) : Int × (List (List Int)) × Int :=
  if isFormula v cs = true then (if risesIn cs.length (-1) l = true then (v, l.map (rd_L1 cs), 0) else (0, [], 2)) else (0, [], 1)
theorem trim_Only_ev (v : Int) (cs : List (List Int)) (l : List Int) (hl : l.length ≤ 17592186044416) (hn : cs.length < 5864062014805) (hs : ∀ c ∈ cs, c.length < 17592186044416) : Ev (fun k => trim_Only.f k v cs l) (onlyOf v cs l) := by
  unfold trim_Only.f onlyOf
  refine Ev.bind (cnf_Formed_ev v cs (by omega) (fun c hc => Nat.le_of_lt (hs c hc))) ?_
  cases isFormula v cs
  · simp only [Bool.false_eq_true, if_false]; exact Ev.now _
  · simp only [if_true]
    exact trim_Only_l0 v cs l hl hn hs l.length 0 (-1) [] (by omega) (by simp) (by omega)
theorem depotref00_Rising_l0 (l : List Int) (n : Int) (hl : l.length ≤ 17592186044416) (d : Nat) : ∀ (i : Nat) (last : Int), i + d = l.length → -1 ≤ last → (i = 0 → last = -1) → (0 < i → last = rd l ((i - 1 : Nat) : Int)) → Ev (fun k => depotref00_Rising.l0 k l n (i : Int)) (risesIn n last (l.drop i)) := by
  induction d with
  | zero =>
    intro i last hi h _ _
    refine Ev.succ ?_
    have h1 : ¬ ((i : Int) < (l.length : Int)) := by omega
    simp only [depotref00_Rising.l0, h1, if_false]
    rw [List.drop_of_length_le (by omega)]
    exact Ev.now _
  | succ d ih =>
    intro i last hi h g0 g1
    refine Ev.succ ?_
    have h1 : (i : Int) < (l.length : Int) := by omega
    have h0 : (0 : Int) ≤ (i : Int) := by omega
    simp only [depotref00_Rising.l0, h1, h0, if_true]
    rw [drop_rd (show i < l.length by omega)]
    have no : ¬ (last < rd l (i : Int) ∧ rd l (i : Int) < n) → risesIn n last (rd l (i : Int) :: l.drop (i + 1)) = false := by
      intro hh
      simp only [risesIn, Bool.and_eq_false_iff, decide_eq_false_iff_not]; exact .inl hh
    by_cases c1 : rd l (i : Int) < 0
    · rw [no (by omega)]
      simp only [c1, if_true]
      exact Ev.now _
    · by_cases c2 : rd l (i : Int) ≥ n
      · rw [no (by omega)]
        simp only [c1, c2, if_true, if_false]
        exact Ev.now _
      · have go : last < rd l (i : Int) → Ev (fun k => depotref00_Rising.l0 k l n ((i + 1 : Nat) : Int)) (risesIn n last (rd l (i : Int) :: l.drop (i + 1))) := by
          intro hlt
          have e : risesIn n last (rd l (i : Int) :: l.drop (i + 1)) = risesIn n (rd l (i : Int)) (l.drop (i + 1)) := by
            simp only [risesIn, show (last < rd l (i : Int) ∧ rd l (i : Int) < n) by omega, and_self, decide_true, Bool.true_and]
          rw [e]
          exact ih (i + 1) (rd l (i : Int)) (by omega) (by omega) (by omega) (fun _ => by rw [show i + 1 - 1 = i by omega])
        simp only [c1, c2, if_false]
        by_cases c3 : (i : Int) > 0
        · have e := g1 (by omega)
          have h2 : (0 : Int) ≤ ((i - 1 : Nat) : Int) := by omega
          have h3 : ((i - 1 : Nat) : Int) < (l.length : Int) := by omega
          simp only [c3, if_true, w64p (show 0 < i by omega) (show (i : Int) < 9223372036854775807 by omega), h2, h3, w64s (show (i : Int) < 9223372036854775807 by omega)]
          rw [← e]
          by_cases c4 : rd l (i : Int) ≤ last
          · rw [no (by omega)]
            simp only [c4, if_true]
            exact Ev.now _
          · simp only [c4, if_false]
            exact go (by omega)
        · have e := g0 (by omega)
          simp only [c3, if_false, w64s (show (i : Int) < 9223372036854775807 by omega)]
          exact go (by omega)
theorem depotref00_Rising_ev (l : List Int) (n : Int) (hl : l.length ≤ 17592186044416) : Ev (fun k => depotref00_Rising.f k l n) (risesIn n (-1) l) := depotref00_Rising_l0 l n hl l.length 0 (-1) (by omega) (by omega) (fun _ => rfl) (by omega)
theorem risesIn_mem (n : Int) : ∀ (l : List Int) (last : Int), -1 ≤ last → risesIn n last l = true → ∀ x ∈ l, 0 ≤ x ∧ x < n := by
  intro l
  induction l with
  | nil => intro _ _ _ x hx; cases hx
  | cons y t ih =>
    intro last h0 h x hx
    simp only [risesIn, Bool.and_eq_true, decide_eq_true_eq] at h
    rcases List.mem_cons.1 hx with rfl | hx
    · omega
    · exact ih y (by omega) h.2 x hx
theorem depotref12_Only_l0 (v : Int) (cs : List (List Int)) (l : List Int) (hl : l.length ≤ cs.length) (hn : cs.length < 5864062014805) (hs : ∀ c ∈ cs, c.length < 17592186044416) (hr : ∀ x ∈ l, 0 ≤ x ∧ x < (cs.length : Int)) (d : Nat) :
    ∀ (i : Nat) (o : List (List Int)), i + d = l.length → o.length ≤ i → Ev (fun k => depotref12_Only.l0 k l (i : Int) v cs v o) (v, o ++ (l.drop i).map (rd_L1 cs), 0) := by
  induction d with
  | zero =>
    intro i o hi ho
    refine Ev.succ ?_
    have h1 : ¬ ((i : Int) < (l.length : Int)) := by omega
    simp only [depotref12_Only.l0, h1, if_false]
    rw [List.drop_of_length_le (by omega), List.map_nil, List.append_nil]
    exact Ev.now _
  | succ d ih =>
    intro i o hi ho
    refine Ev.succ ?_
    have h1 : (i : Int) < (l.length : Int) := by omega
    have h0 : (0 : Int) ≤ (i : Int) := by omega
    obtain ⟨h2, h3⟩ := hr _ (rd_mem (show i < l.length by omega))
    have h4 : o.length < 5864062014805 := by omega
    simp only [depotref12_Only.l0, h1, h0, h2, h3, if_true]
    have hm : rd_L1 cs (rd l (i : Int)) ∈ cs := by
      have := rd_L1_mem (l := cs) (i := (rd l (i : Int)).toNat) (by omega)
      rwa [show (((rd l (i : Int)).toNat : Nat) : Int) = rd l (i : Int) by omega] at this
    refine Ev.bind (depotref00_CopyInts_ev _ (hs _ hm)) ?_
    simp only [h4, if_true, w64s (show (i : Int) < 9223372036854775807 by omega)]
    have := ih (i + 1) (o ++ [rd_L1 cs (rd l (i : Int))]) (by omega) (by rw [List.length_append, List.length_singleton]; omega)
    rw [drop_rd (show i < l.length by omega), List.map_cons]
    rwa [List.append_assoc, List.singleton_append] at this
theorem depotref12_Only_ev (v : Int) (cs : List (List Int)) (l : List Int) (hl : l.length ≤ 17592186044416) (hn : cs.length < 5864062014805) (hs : ∀ c ∈ cs, c.length < 17592186044416) : Ev (fun k => depotref12_Only.f k v cs l) (onlyOf v cs l) := by
  unfold depotref12_Only.f onlyOf
  refine Ev.bind (depotref02_Formed_ev v cs (by omega) (fun c hc => Nat.le_of_lt (hs c hc))) ?_
  cases isFormula v cs
  · simp only [Bool.false_eq_true, if_false]; exact Ev.now _
  · simp only [if_true]
    refine Ev.bind (depotref00_Rising_ev l _ hl) ?_
    by_cases h : risesIn cs.length (-1) l = true
    · simp only [h, if_true]
      have h1 := risesIn_length cs.length l (-1) (by omega) (by omega) h
      exact depotref12_Only_l0 v cs l (by omega) hn hs (risesIn_mem _ l (-1) (by omega) h) l.length 0 [] (by omega) (by simp)
    · simp only [h, if_false]; exact Ev.now _
end Go.Proofs.Ytkkkbcjmkmadhaa.PTrimOnly
