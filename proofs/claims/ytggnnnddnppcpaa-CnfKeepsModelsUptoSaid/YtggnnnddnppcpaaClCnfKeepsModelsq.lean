/- What the functions that CnfKeepsModels reaches compute, on numbers and lists. Laid by lib.py. -/
import Derived.Test.YtggnnnddnppcpaaClCnfKeepsModelsp
import Derived.Test.YtggnnnddnppcpaaClCnfKeepsModelsc
import Derived.Test.YtggnnnddnppcpaaClCnfKeepsModelsf
import Derived.Test.YtggnnnddnppcpaaClCnfKeepsModelsj
import Derived.RangeFuncWrites
import Derived.RangeFuncCalls
/-! text YtggnnnddnppcpaaKmLib -/
namespace Go.Proofs.Ytggnnnddnppcpaa.PCnfKeepsModels
open Go.RowKit Go.Proofs.YtggnnnddnppcpaaW.PrintWords Go.Proofs.YtggnnnddnppcpaaW.PrintLast Go.Proofs.YtggnnnddnppcpaaMath
set_option linter.unusedVariables false
set_option linter.unusedSimpArgs false
theorem lits_Formed_eq (l : Int) : lits_Formed.f l = some (formed l) := by
  unfold lits_Formed.f formed
  by_cases h0 : l = 0
  · simp [h0]
  · by_cases h1 : l ≥ -1048576
    · rw [if_neg h0, if_pos h1]; congr 1; rw [Bool.eq_iff_iff]; simp; omega
    · rw [if_neg h0, if_neg h1]; congr 1; symm; simp; omega
theorem depotref01_Formed_eq (l : Int) : depotref01_Formed.f l = some (formed l) := by
  unfold depotref01_Formed.f formed
  by_cases h1 : l ≥ 1
  · by_cases h2 : l ≤ 1048576
    · rw [if_pos h1, if_pos h2]; congr 1; symm; simp; omega
    · rw [if_pos h1, if_neg h2, if_pos (by omega)]; congr 1; rw [Bool.eq_iff_iff]; simp; omega
  · by_cases h2 : l ≥ -1048576
    · rw [if_neg h1, if_pos h2]; congr 1; rw [Bool.eq_iff_iff]; simp; omega
    · rw [if_neg h1, if_neg h2]; congr 1; symm; simp; omega
theorem lits_Var_eq (l : Int) : lits_Var.f l = some (varOf l) := by
  unfold lits_Var.f varOf
  rw [lits_Formed_eq]
  simp only [Option.bind_some]
  by_cases h : formed l = true
  · have := formed_bd h
    rw [if_pos h, if_pos h, w64 (by omega) (by omega)]
    split <;> rfl
  · rw [if_neg h, if_neg h]
theorem lits_Sound_l0 (l : List Int) (hn : l.length ≤ 17592186044416) (d : Nat) : ∀ i : Nat, i + d = l.length → Ev (fun k => lits_Sound.l0 k l (l.length : Int) (i : Int)) (sound (l.drop i)) := by
  induction d with
  | zero =>
    intro i hi
    refine Ev.succ ?_
    simp only [lits_Sound.l0]
    have h1 : ¬ ((i : Int) < (l.length : Int)) := by omega
    simp only [h1, if_false]
    rw [List.drop_of_length_le (by omega)]
    exact Ev.now _
  | succ d ih =>
    intro i hi
    refine Ev.succ ?_
    simp only [lits_Sound.l0, lits_Formed_eq, Option.bind_some]
    have h1 : (i : Int) < (l.length : Int) := by omega
    have h0 : (0 : Int) ≤ (i : Int) := by omega
    simp only [h1, h0, if_true]
    rw [drop_rd (show i < l.length by omega)]
    by_cases hf : formed (rd l i) = true
    · simp only [hf, if_true, w64s (show (i : Int) < 9223372036854775807 by omega), sound, List.all_cons, Bool.true_and]
      exact ih (i + 1) (by omega)
    · simp only [Bool.not_eq_true] at hf
      simp only [hf, Bool.false_eq_true, if_false, sound, List.all_cons, Bool.false_and]
      exact Ev.now _
theorem lits_Sound_ev (l : List Int) (hn : l.length ≤ 17592186044416) : Ev (fun k => lits_Sound.f k l) (sound l) := lits_Sound_l0 l hn l.length 0 (by omega)
theorem depotref01_Sound_l0 (l : List Int) (hn : l.length ≤ 17592186044416) (d : Nat) : ∀ i : Nat, i + d = l.length → Ev (fun k => depotref01_Sound.l0 k l (i : Int)) (sound (l.drop i)) := by
  induction d with
  | zero =>
    intro i hi
    refine Ev.succ ?_
    simp only [depotref01_Sound.l0]
    have h1 : ¬ ((i : Int) < (l.length : Int)) := by omega
    simp only [h1, if_false]
    rw [List.drop_of_length_le (by omega)]
    exact Ev.now _
  | succ d ih =>
    intro i hi
    refine Ev.succ ?_
    simp only [depotref01_Sound.l0, depotref01_Formed_eq, Option.bind_some]
    have h1 : (i : Int) < (l.length : Int) := by omega
    have h0 : (0 : Int) ≤ (i : Int) := by omega
    simp only [h1, h0, if_true]
    rw [drop_rd (show i < l.length by omega)]
    by_cases hf : formed (rd l i) = true
    · simp only [hf, if_true, w64s (show (i : Int) < 9223372036854775807 by omega), sound, List.all_cons, Bool.true_and]
      exact ih (i + 1) (by omega)
    · simp only [Bool.not_eq_true] at hf
      simp only [hf, Bool.false_eq_true, if_false, sound, List.all_cons, Bool.false_and]
      exact Ev.now _
theorem depotref01_Sound_ev (l : List Int) (hn : l.length ≤ 17592186044416) : Ev (fun k => depotref01_Sound.f k l) (sound l) := depotref01_Sound_l0 l hn l.length 0 (by omega)
theorem cnf_within_l0 (l : List Int) (v : Int) (hn : l.length ≤ 17592186044416) (hs : sound l = true) (d : Nat) : ∀ i : Nat, i + d = l.length → Ev (fun k => cnf_within.l0 k v l (l.length : Int) (i : Int)) ((l.drop i).all fun l => decide (l ≤ v ∧ -l ≤ v)) := by
  induction d with
  | zero =>
    intro i hi
    refine Ev.succ ?_
    simp only [cnf_within.l0]
    have h1 : ¬ ((i : Int) < (l.length : Int)) := by omega
    simp only [h1, if_false]
    rw [List.drop_of_length_le (by omega)]
    exact Ev.now _
  | succ d ih =>
    intro i hi
    refine Ev.succ ?_
    simp only [cnf_within.l0, lits_Var_eq, Option.bind_some]
    have h1 : (i : Int) < (l.length : Int) := by omega
    have h0 : (0 : Int) ≤ (i : Int) := by omega
    simp only [h1, h0, if_true]
    rw [drop_rd (show i < l.length by omega)]
    have hf : formed (rd l i) = true := sound_mem hs (rd_mem (by omega))
    have hv : varOf (rd l i) > v ↔ ¬ (rd l i ≤ v ∧ - rd l i ≤ v) := by
      unfold varOf
      rw [if_pos hf]
      split <;> omega
    by_cases hc : rd l i ≤ v ∧ - rd l i ≤ v
    · have h2 : ¬ varOf (rd l i) > v := fun h => hv.1 h hc
      simp only [h2, if_false, w64s (show (i : Int) < 9223372036854775807 by omega), List.all_cons, decide_eq_true hc, Bool.true_and]
      exact ih (i + 1) (by omega)
    · have h2 : varOf (rd l i) > v := hv.2 hc
      simp only [h2, if_true, List.all_cons, decide_eq_false hc, Bool.false_and]
      exact Ev.now _
theorem cnf_within_ev (l : List Int) (v : Int) (hn : l.length ≤ 17592186044416) : Ev (fun k => cnf_within.f k l v) (within l v) := by
  unfold cnf_within.f within
  refine Ev.bind (lits_Sound_ev l hn) ?_
  by_cases hs : sound l = true
  · simp only [hs, if_true, Bool.true_and]
    exact cnf_within_l0 l v hn hs l.length 0 (by omega)
  · simp only [Bool.not_eq_true] at hs
    simp only [hs, Bool.false_eq_true, if_false, Bool.false_and]
    exact Ev.now _
theorem depotref02_within_l0 (l : List Int) (v : Int) (hn : l.length ≤ 17592186044416) (hs : sound l = true) (d : Nat) : ∀ i : Nat, i + d = l.length → Ev (fun k => depotref02_within.l0 k l v (i : Int)) ((l.drop i).all fun l => decide (l ≤ v ∧ -l ≤ v)) := by
  induction d with
  | zero =>
    intro i hi
    refine Ev.succ ?_
    simp only [depotref02_within.l0]
    have h1 : ¬ ((i : Int) < (l.length : Int)) := by omega
    simp only [h1, if_false]
    rw [List.drop_of_length_le (by omega)]
    exact Ev.now _
  | succ d ih =>
    intro i hi
    refine Ev.succ ?_
    simp only [depotref02_within.l0]
    have h1 : (i : Int) < (l.length : Int) := by omega
    have h0 : (0 : Int) ≤ (i : Int) := by omega
    simp only [h1, h0, if_true]
    rw [drop_rd (show i < l.length by omega)]
    have hf : formed (rd l i) = true := sound_mem hs (rd_mem (by omega))
    have hb := formed_bd hf
    rw [w64 (x := -(rd l i)) (by omega) (by omega)]
    by_cases hc : rd l i ≤ v ∧ - rd l i ≤ v
    · have h2 : ¬ rd l i > v := by omega
      have h3 : ¬ -(rd l i) > v := by omega
      simp only [h2, h3, if_false, w64s (show (i : Int) < 9223372036854775807 by omega), List.all_cons, decide_eq_true hc, Bool.true_and]
      exact ih (i + 1) (by omega)
    · simp only [List.all_cons, decide_eq_false hc, Bool.false_and]
      by_cases h2 : rd l i > v
      · simp only [h2, if_true]
        exact Ev.now _
      · have h3 : -(rd l i) > v := by omega
        simp only [h2, h3, if_true, if_false]
        exact Ev.now _
theorem depotref02_within_ev (l : List Int) (v : Int) (hn : l.length ≤ 17592186044416) : Ev (fun k => depotref02_within.f k l v) (within l v) := by
  unfold depotref02_within.f within
  refine Ev.bind (depotref01_Sound_ev l hn) ?_
  by_cases hs : sound l = true
  · simp only [hs, if_true, Bool.true_and]
    exact depotref02_within_l0 l v hn hs l.length 0 (by omega)
  · simp only [Bool.not_eq_true] at hs
    simp only [hs, Bool.false_eq_true, if_false, Bool.false_and]
    exact Ev.now _
theorem cnf_Formed_l0 (v : Int) (cs : List (List Int)) (hn : cs.length ≤ 17592186044416) (hc : ∀ c ∈ cs, c.length ≤ 17592186044416) (d : Nat) : ∀ i : Nat, i + d = cs.length → Ev (fun k => cnf_Formed.l0 k cs (cs.length : Int) (i : Int) v cs) ((cs.drop i).all fun c => within c v) := by
  induction d with
  | zero =>
    intro i hi
    refine Ev.succ ?_
    simp only [cnf_Formed.l0]
    have h1 : ¬ ((i : Int) < (cs.length : Int)) := by omega
    simp only [h1, if_false]
    rw [List.drop_of_length_le (by omega)]
    exact Ev.now _
  | succ d ih =>
    intro i hi
    refine Ev.succ ?_
    simp only [cnf_Formed.l0, rd_L1]
    have h1 : (i : Int) < (cs.length : Int) := by omega
    have h0 : (0 : Int) ≤ (i : Int) := by omega
    simp only [h1, h0, if_true]
    rw [drop_getD (z := ([] : List Int)) (show i < cs.length by omega), List.all_cons]
    have hm : (cs.getD ((i : Int).toNat) ([] : List Int)).length ≤ 17592186044416 := by
      rw [getD_nat (show i < cs.length by omega)]
      exact hc _ (List.getElem_mem _)
    refine Ev.bind (cnf_within_ev _ v hm) ?_
    by_cases hf : within (cs.getD ((i : Int).toNat) ([] : List Int)) v = true
    · simp only [hf, if_true, w64s (show (i : Int) < 9223372036854775807 by omega), Bool.true_and]
      exact ih (i + 1) (by omega)
    · simp only [Bool.not_eq_true] at hf
      simp only [hf, Bool.false_eq_true, if_false, Bool.false_and]
      exact Ev.now _
theorem cnf_Formed_ev (v : Int) (cs : List (List Int)) (hn : cs.length ≤ 17592186044416) (hc : ∀ c ∈ cs, c.length ≤ 17592186044416) : Ev (fun k => cnf_Formed.f k v cs) (isFormula v cs) := by
  have hj : ∀ b, Ev (fun k => cnf_Formed.j0 k b v cs) (!b && cs.all fun c => within c v) := by
    intro b
    refine Ev.succ ?_
    simp only [cnf_Formed.j0]
    cases b with
    | true => exact Ev.now _
    | false => exact cnf_Formed_l0 v cs hn hc cs.length 0 (by omega)
  unfold cnf_Formed.f isFormula
  by_cases h0 : v < 0
  · simp only [h0, if_true]
    have := hj true
    rw [decide_eq_false (by omega)]
    simpa using this
  · simp only [h0, if_false]
    have := hj (decide (v > 1048576))
    rw [show (!decide (v > 1048576)) = decide (0 ≤ v ∧ v ≤ 1048576) by rw [Bool.eq_iff_iff]; simp; omega] at this
    exact this
theorem depotref02_Formed_l0 (v : Int) (cs : List (List Int)) (hn : cs.length ≤ 17592186044416) (hc : ∀ c ∈ cs, c.length ≤ 17592186044416) (d : Nat) : ∀ i : Nat, i + d = cs.length → Ev (fun k => depotref02_Formed.l0 k (i : Int) v cs) ((cs.drop i).all fun c => within c v) := by
  induction d with
  | zero =>
    intro i hi
    refine Ev.succ ?_
    simp only [depotref02_Formed.l0]
    have h1 : ¬ ((i : Int) < (cs.length : Int)) := by omega
    simp only [h1, if_false]
    rw [List.drop_of_length_le (by omega)]
    exact Ev.now _
  | succ d ih =>
    intro i hi
    refine Ev.succ ?_
    simp only [depotref02_Formed.l0, rd_L1]
    have h1 : (i : Int) < (cs.length : Int) := by omega
    have h0 : (0 : Int) ≤ (i : Int) := by omega
    simp only [h1, h0, if_true]
    rw [drop_getD (z := ([] : List Int)) (show i < cs.length by omega), List.all_cons]
    have hm : (cs.getD ((i : Int).toNat) ([] : List Int)).length ≤ 17592186044416 := by
      rw [getD_nat (show i < cs.length by omega)]
      exact hc _ (List.getElem_mem _)
    refine Ev.bind (depotref02_within_ev _ v hm) ?_
    by_cases hf : within (cs.getD ((i : Int).toNat) ([] : List Int)) v = true
    · simp only [hf, if_true, w64s (show (i : Int) < 9223372036854775807 by omega), Bool.true_and]
      exact ih (i + 1) (by omega)
    · simp only [Bool.not_eq_true] at hf
      simp only [hf, Bool.false_eq_true, if_false, Bool.false_and]
      exact Ev.now _
theorem depotref02_Formed_ev (v : Int) (cs : List (List Int)) (hn : cs.length ≤ 17592186044416) (hc : ∀ c ∈ cs, c.length ≤ 17592186044416) : Ev (fun k => depotref02_Formed.f k v cs) (isFormula v cs) := by
  have hj : ∀ b, Ev (fun k => depotref02_Formed.j0 k b v cs) (!b && cs.all fun c => within c v) := by
    intro b
    refine Ev.succ ?_
    simp only [depotref02_Formed.j0]
    cases b with
    | true => exact Ev.now _
    | false => exact depotref02_Formed_l0 v cs hn hc cs.length 0 (by omega)
  unfold depotref02_Formed.f isFormula
  by_cases h0 : v < 0
  · simp only [h0, if_true]
    have := hj true
    rw [decide_eq_false (by omega)]
    simpa using this
  · simp only [h0, if_false]
    have := hj (decide (v > 1048576))
    rw [show (!decide (v > 1048576)) = decide (0 ≤ v ∧ v ≤ 1048576) by rw [Bool.eq_iff_iff]; simp; omega] at this
    exact this
theorem depotref00_SameInts_l0 (a b : List Int) (hn : a.length ≤ 17592186044416) (hl : a.length = b.length) (d : Nat) : ∀ i : Nat, i + d = a.length → Ev (fun k => depotref00_SameInts.l0 k a b (i : Int)) (a.drop i == b.drop i) := by
  induction d with
  | zero =>
    intro i hi
    refine Ev.succ ?_
    simp only [depotref00_SameInts.l0]
    have h1 : ¬ ((i : Int) < (a.length : Int)) := by omega
    simp only [h1, if_false]
    rw [List.drop_of_length_le (by omega), List.drop_of_length_le (by omega)]
    exact Ev.now _
  | succ d ih =>
    intro i hi
    refine Ev.succ ?_
    simp only [depotref00_SameInts.l0]
    have h1 : (i : Int) < (a.length : Int) := by omega
    have h2 : (i : Int) < (b.length : Int) := by omega
    have h0 : (0 : Int) ≤ (i : Int) := by omega
    simp only [h1, h2, h0, if_true]
    rw [drop_rd (show i < a.length by omega), drop_rd (show i < b.length by omega), List.cons_beq_cons]
    by_cases hx : rd a i = rd b i
    · simp only [hx, if_true, beq_self_eq_true, Bool.true_and, w64s (show (i : Int) < 9223372036854775807 by omega)]
      exact ih (i + 1) (by omega)
    · have hx2 : (rd a i == rd b i) = false := by simpa using hx
      simp only [hx, if_false, hx2, Bool.false_and]
      exact Ev.now _
theorem depotref00_SameInts_ev (a b : List Int) (hn : a.length ≤ 17592186044416) : Ev (fun k => depotref00_SameInts.f k a b) (a == b) := by
  unfold depotref00_SameInts.f
  by_cases hl : (a.length : Int) = (b.length : Int)
  · simp only [hl, if_true]
    exact depotref00_SameInts_l0 a b hn (by omega) a.length 0 (by omega)
  · simp only [hl, if_false]
    have : (a == b) = false := by
      rw [beq_eq_false_iff_ne]
      rintro rfl
      exact hl rfl
    rw [this]
    exact Ev.now _
theorem cnf_Size_l0 (cs : List (List Int)) (hn : cs.length ≤ 17592186044416) (d : Nat) : ∀ (i : Nat) (a : Int), i + d = cs.length → Ev (fun k => cnf_Size.l0 k a cs (cs.length : Int) (i : Int)) (sizeFrom a (cs.drop i)) := by
  induction d with
  | zero =>
    intro i a hi
    refine Ev.succ ?_
    simp only [cnf_Size.l0]
    have h1 : ¬ ((i : Int) < (cs.length : Int)) := by omega
    simp only [h1, if_false]
    rw [List.drop_of_length_le (by omega)]
    exact Ev.now _
  | succ d ih =>
    intro i a hi
    refine Ev.succ ?_
    simp only [cnf_Size.l0, rd_L1]
    have h1 : (i : Int) < (cs.length : Int) := by omega
    have h0 : (0 : Int) ≤ (i : Int) := by omega
    simp only [h1, h0, if_true]
    rw [drop_getD (z := ([] : List Int)) (show i < cs.length by omega), sizeFrom]
    simp only [w64s (show (i : Int) < 9223372036854775807 by omega)]
    exact ih (i + 1) _ (by omega)
theorem cnf_Size_ev (v : Int) (cs : List (List Int)) (hn : cs.length ≤ 17592186044416) : Ev (fun k => cnf_Size.f k v cs) (sizeFrom 0 cs) := cnf_Size_l0 cs hn cs.length 0 0 (by omega)
theorem cnf_holds_l0 (c : List Int) (m : List Bool) (v : Int) (hv : (m.length : Int) = v) (hw : within c v = true) (hn : c.length ≤ 17592186044416) (d : Nat) : ∀ i : Nat, i + d = c.length → Ev (fun k => cnf_holds.l0 k m c (c.length : Int) (i : Int)) (holdsIn (c.drop i) m) := by
  induction d with
  | zero =>
    intro i hi
    refine Ev.succ ?_
    simp only [cnf_holds.l0]
    have h1 : ¬ ((i : Int) < (c.length : Int)) := by omega
    simp only [h1, if_false]
    rw [List.drop_of_length_le (by omega)]
    exact Ev.now _
  | succ d ih =>
    intro i hi
    refine Ev.succ ?_
    simp only [cnf_holds.l0, lits_Var_eq, Option.bind_some]
    have h1 : (i : Int) < (c.length : Int) := by omega
    have h0 : (0 : Int) ≤ (i : Int) := by omega
    obtain ⟨hf, g1, g2⟩ := within_lit hw (rd_mem (l := c) (i := i) (by omega))
    have hb := formed_iff.1 hf
    have ev : varOf (rd c i) = ((rd c i).natAbs : Int) := by
      unfold varOf
      rw [if_pos hf]
      split <;> omega
    have e1 : wrap64 (varOf (rd c i) - 1) = ((rd c i).natAbs : Int) - 1 := by rw [ev, w64 (by omega) (by omega)]
    have h2 : (0 : Int) ≤ ((rd c i).natAbs : Int) - 1 := by omega
    have h3 : ((rd c i).natAbs : Int) - 1 < (m.length : Int) := by omega
    simp only [h1, h0, e1, h2, h3, if_true, rdOf_truth hf]
    rw [drop_rd (show i < c.length by omega)]
    simp only [holdsIn, List.any_cons]
    by_cases ht : truth m (rd c i) = true
    · simp only [ht, if_true, Bool.true_or]
      exact Ev.now _
    · simp only [Bool.not_eq_true] at ht
      simp only [ht, Bool.false_eq_true, if_false, Bool.false_or, w64s (show (i : Int) < 9223372036854775807 by omega)]
      exact ih (i + 1) (by omega)
theorem cnf_holds_ev (c : List Int) (m : List Bool) (v : Int) (hv : (m.length : Int) = v) (hw : within c v = true) (hn : c.length ≤ 17592186044416) : Ev (fun k => cnf_holds.f k c m) (holdsIn c m) := cnf_holds_l0 c m v hv hw hn c.length 0 (by omega)
theorem cnf_all_l0 (cs : List (List Int)) (m : List Bool) (v : Int) (hv : (m.length : Int) = v) (hw : ∀ c ∈ cs, within c v = true) (hn : cs.length ≤ 17592186044416) (hc : ∀ c ∈ cs, c.length ≤ 17592186044416) (d : Nat) : ∀ i : Nat, i + d = cs.length → Ev (fun k => cnf_all.l0 k m cs (cs.length : Int) (i : Int)) (allIn (cs.drop i) m) := by
  induction d with
  | zero =>
    intro i hi
    refine Ev.succ ?_
    simp only [cnf_all.l0]
    have h1 : ¬ ((i : Int) < (cs.length : Int)) := by omega
    simp only [h1, if_false]
    rw [List.drop_of_length_le (by omega)]
    exact Ev.now _
  | succ d ih =>
    intro i hi
    refine Ev.succ ?_
    simp only [cnf_all.l0, rd_L1]
    have h1 : (i : Int) < (cs.length : Int) := by omega
    have h0 : (0 : Int) ≤ (i : Int) := by omega
    simp only [h1, h0, if_true]
    have hm : cs.getD ((i : Int).toNat) ([] : List Int) ∈ cs := by
      rw [getD_nat (show i < cs.length by omega)]
      exact List.getElem_mem _
    rw [drop_getD (z := ([] : List Int)) (show i < cs.length by omega)]
    simp only [allIn, List.all_cons]
    refine Ev.bind (cnf_holds_ev _ m v hv (hw _ hm) (hc _ hm)) ?_
    by_cases ht : holdsIn (cs.getD ((i : Int).toNat) ([] : List Int)) m = true
    · simp only [ht, if_true, Bool.true_and, w64s (show (i : Int) < 9223372036854775807 by omega)]
      exact ih (i + 1) (by omega)
    · simp only [Bool.not_eq_true] at ht
      simp only [ht, Bool.false_eq_true, if_false, Bool.false_and]
      exact Ev.now _
theorem cnf_all_ev (v : Int) (cs : List (List Int)) (m : List Bool) (hv : (m.length : Int) = v) (hw : ∀ c ∈ cs, within c v = true) (hn : cs.length ≤ 17592186044416) (hc : ∀ c ∈ cs, c.length ≤ 17592186044416) (u : Int) : Ev (fun k => cnf_all.f k u cs m) (allIn cs m) := cnf_all_l0 cs m v hv hw hn hc cs.length 0 (by omega)
theorem cnf_fits_ev (v : Int) (cs : List (List Int)) (m : List Bool) (hn : cs.length ≤ 17592186044416) (hc : ∀ c ∈ cs, c.length ≤ 17592186044416) : Ev (fun k => cnf_fits.f k v cs m) (fitsIn v cs m) := by
  unfold cnf_fits.f fitsIn
  refine Ev.bind (cnf_Formed_ev v cs hn hc) ?_
  by_cases h : isFormula v cs = true
  · simp only [h, if_true, Bool.true_and]
    exact Ev.now _
  · simp only [Bool.not_eq_true] at h
    simp only [h, Bool.false_eq_true, if_false, Bool.false_and]
    exact Ev.now _
theorem fitsIn_and {v : Int} {cs : List (List Int)} {m : List Bool} (h : fitsIn v cs m = true) : isFormula v cs = true ∧ (m.length : Int) = v := by
  unfold fitsIn at h
  rw [Bool.and_eq_true] at h
  simpa using h
theorem cnf_Satisfies_ev (v : Int) (cs : List (List Int)) (m : List Bool) (hn : cs.length ≤ 17592186044416) (hc : ∀ c ∈ cs, c.length ≤ 17592186044416) : Ev (fun k => cnf_Satisfies.f k v cs m) (satisfies v cs m) := by
  unfold cnf_Satisfies.f satisfies
  refine Ev.bind (cnf_fits_ev v cs m hn hc) ?_
  by_cases h : fitsIn v cs m = true
  · obtain ⟨h1, h2⟩ := fitsIn_and h
    simp only [h, if_true, Bool.true_and]
    exact Ev.bind (cnf_all_ev v cs m h2 (fun c hm => isFormula_clause h1 hm) hn hc v) (Ev.now _)
  · simp only [Bool.not_eq_true] at h
    simp only [h, Bool.false_eq_true, if_false, Bool.false_and]
    exact Ev.now _
theorem cnf_False_l0 (cs : List (List Int)) (m : List Bool) (v : Int) (hv : (m.length : Int) = v) (hw : ∀ c ∈ cs, within c v = true) (hn : cs.length ≤ 5864062014805) (hc : ∀ c ∈ cs, c.length ≤ 17592186044416) (d : Nat) : ∀ (i : Nat) (out : List Int), out.length ≤ i → i + d = cs.length → Ev (fun k => cnf_False.l0 k m out cs (cs.length : Int) (i : Int)) (out ++ idxs (fun c => !holdsIn c m) i (cs.drop i)) := by
  induction d with
  | zero =>
    intro i out ho hi
    refine Ev.succ ?_
    simp only [cnf_False.l0]
    have h1 : ¬ ((i : Int) < (cs.length : Int)) := by omega
    simp only [h1, if_false]
    rw [List.drop_of_length_le (by omega), idxs, List.append_nil]
    exact Ev.now _
  | succ d ih =>
    intro i out ho hi
    refine Ev.succ ?_
    simp only [cnf_False.l0, rd_L1]
    have h1 : (i : Int) < (cs.length : Int) := by omega
    have h0 : (0 : Int) ≤ (i : Int) := by omega
    simp only [h1, h0, if_true]
    have hm : cs.getD ((i : Int).toNat) ([] : List Int) ∈ cs := by
      rw [getD_nat (show i < cs.length by omega)]
      exact List.getElem_mem _
    rw [drop_getD (z := ([] : List Int)) (show i < cs.length by omega), idxs]
    refine Ev.bind (cnf_holds_ev _ m v hv (hw _ hm) (hc _ hm)) ?_
    have h2 : out.length < 17592186044416 := by omega
    by_cases ht : holdsIn (cs.getD ((i : Int).toNat) ([] : List Int)) m = true
    · simp only [ht, if_true, Bool.not_true, Bool.false_eq_true, if_false, w64s (show (i : Int) < 9223372036854775807 by omega)]
      exact ih (i + 1) out (by omega) (by omega)
    · simp only [Bool.not_eq_true] at ht
      simp only [ht, Bool.false_eq_true, if_false, Bool.not_false, if_true, h2, w64s (show (i : Int) < 9223372036854775807 by omega)]
      have := ih (i + 1) (out ++ [(i : Int)]) (by simp; omega) (by omega)
      rw [List.append_assoc] at this
      exact this
theorem cnf_False_ev (v : Int) (cs : List (List Int)) (m : List Bool) (hn : cs.length ≤ 5864062014805) (hc : ∀ c ∈ cs, c.length ≤ 17592186044416) : Ev (fun k => cnf_False.f k v cs m) (falses v cs m) := by
  unfold cnf_False.f falses
  refine Ev.bind (cnf_fits_ev v cs m (by omega) hc) ?_
  by_cases h : fitsIn v cs m = true
  · obtain ⟨h1, h2⟩ := fitsIn_and h
    simp only [h, if_true]
    exact cnf_False_l0 cs m v h2 (fun c hm => isFormula_clause h1 hm) hn hc cs.length 0 [] (by simp) (by omega)
  · simp only [Bool.not_eq_true] at h
    simp only [h, Bool.false_eq_true, if_false]
    exact Ev.now _
theorem depotref02_True_l0 (c : List Int) (m : List Bool) (v : Int) (hv : (m.length : Int) = v) (hw : within c v = true) (hn : c.length ≤ 17592186044416) (d : Nat) : ∀ i : Nat, i + d = c.length → Ev (fun k => depotref02_True.l0 k c m (i : Int)) (holdsIn (c.drop i) m) := by
  induction d with
  | zero =>
    intro i hi
    refine Ev.succ ?_
    simp only [depotref02_True.l0]
    have h1 : ¬ ((i : Int) < (c.length : Int)) := by omega
    simp only [h1, if_false]
    rw [List.drop_of_length_le (by omega)]
    exact Ev.now _
  | succ d ih =>
    intro i hi
    refine Ev.succ ?_
    simp only [depotref02_True.l0]
    have h1 : (i : Int) < (c.length : Int) := by omega
    have h0 : (0 : Int) ≤ (i : Int) := by omega
    obtain ⟨hf, g1, g2⟩ := within_lit hw (rd_mem (l := c) (i := i) (by omega))
    have hb := formed_iff.1 hf
    simp only [h1, h0, if_true]
    rw [drop_rd (show i < c.length by omega)]
    simp only [holdsIn, List.any_cons]
    have ht := rdOf_truth (m := m) hf
    by_cases hp : rd c i > 0
    · have e1 : wrap64 (rd c i - 1) = ((rd c i).natAbs : Int) - 1 := by rw [w64 (by omega) (by omega)]; omega
      have h2 : (0 : Int) ≤ ((rd c i).natAbs : Int) - 1 := by omega
      have h3 : ((rd c i).natAbs : Int) - 1 < (m.length : Int) := by omega
      have h4 : ¬ rd c i < 0 := by omega
      simp only [hp, e1, h2, h3, h4, if_true, if_false]
      rw [decide_eq_true hp] at ht
      by_cases hr : rdOf false m (((rd c i).natAbs : Int) - 1) = true
      · rw [hr] at ht
        simp only [hr, if_true, ← ht]
        exact Ev.now _
      · simp only [Bool.not_eq_true] at hr
        rw [hr] at ht
        simp only [hr, Bool.false_eq_true, if_false, ← ht, w64s (show (i : Int) < 9223372036854775807 by omega)]
        exact ih (i + 1) (by omega)
    · have hneg : rd c i < 0 := by omega
      have e1 : wrap64 (wrap64 (-(rd c i)) - 1) = ((rd c i).natAbs : Int) - 1 := by rw [w64 (x := -(rd c i)) (by omega) (by omega), w64 (by omega) (by omega)]; omega
      have h2 : (0 : Int) ≤ ((rd c i).natAbs : Int) - 1 := by omega
      have h3 : ((rd c i).natAbs : Int) - 1 < (m.length : Int) := by omega
      simp only [hp, hneg, e1, h2, h3, if_true, if_false]
      rw [decide_eq_false hp] at ht
      by_cases hr : rdOf false m (((rd c i).natAbs : Int) - 1) = true
      · rw [hr] at ht
        simp only [hr, if_true, ← ht, w64s (show (i : Int) < 9223372036854775807 by omega)]
        exact ih (i + 1) (by omega)
      · simp only [Bool.not_eq_true] at hr
        rw [hr] at ht
        simp only [hr, Bool.false_eq_true, if_false, ← ht]
        exact Ev.now _
theorem depotref02_True_ev (c : List Int) (m : List Bool) (v : Int) (hv : (m.length : Int) = v) (hw : within c v = true) (hn : c.length ≤ 17592186044416) : Ev (fun k => depotref02_True.f k c m) (holdsIn c m) := depotref02_True_l0 c m v hv hw hn c.length 0 (by omega)
theorem depotref02_satisfied_l0 (cs : List (List Int)) (m : List Bool) (v : Int) (hv : (m.length : Int) = v) (hw : ∀ c ∈ cs, within c v = true) (hn : cs.length ≤ 17592186044416) (hc : ∀ c ∈ cs, c.length ≤ 17592186044416) (u : Int) (d : Nat) : ∀ i : Nat, i + d = cs.length → Ev (fun k => depotref02_satisfied.l0 k m (i : Int) u cs) (allIn (cs.drop i) m) := by
  induction d with
  | zero =>
    intro i hi
    refine Ev.succ ?_
    simp only [depotref02_satisfied.l0]
    have h1 : ¬ ((i : Int) < (cs.length : Int)) := by omega
    simp only [h1, if_false]
    rw [List.drop_of_length_le (by omega)]
    exact Ev.now _
  | succ d ih =>
    intro i hi
    refine Ev.succ ?_
    simp only [depotref02_satisfied.l0, rd_L1]
    have h1 : (i : Int) < (cs.length : Int) := by omega
    have h0 : (0 : Int) ≤ (i : Int) := by omega
    simp only [h1, h0, if_true]
    have hm : cs.getD ((i : Int).toNat) ([] : List Int) ∈ cs := by
      rw [getD_nat (show i < cs.length by omega)]
      exact List.getElem_mem _
    rw [drop_getD (z := ([] : List Int)) (show i < cs.length by omega)]
    simp only [allIn, List.all_cons]
    refine Ev.bind (depotref02_True_ev _ m v hv (hw _ hm) (hc _ hm)) ?_
    by_cases ht : holdsIn (cs.getD ((i : Int).toNat) ([] : List Int)) m = true
    · simp only [ht, if_true, Bool.true_and, w64s (show (i : Int) < 9223372036854775807 by omega)]
      exact ih (i + 1) (by omega)
    · simp only [Bool.not_eq_true] at ht
      simp only [ht, Bool.false_eq_true, if_false, Bool.false_and]
      exact Ev.now _
theorem depotref02_satisfied_ev (v : Int) (cs : List (List Int)) (m : List Bool) (hv : (m.length : Int) = v) (hw : ∀ c ∈ cs, within c v = true) (hn : cs.length ≤ 17592186044416) (hc : ∀ c ∈ cs, c.length ≤ 17592186044416) (u : Int) : Ev (fun k => depotref02_satisfied.f k u cs m) (allIn cs m) := depotref02_satisfied_l0 cs m v hv hw hn hc u cs.length 0 (by omega)
theorem depotref02_False_l0 (cs : List (List Int)) (m : List Bool) (v : Int) (hv : (m.length : Int) = v) (hw : ∀ c ∈ cs, within c v = true) (hn : cs.length ≤ 5864062014805) (hc : ∀ c ∈ cs, c.length ≤ 17592186044416) (u : Int) (d : Nat) : ∀ (i : Nat) (out : List Int), out.length ≤ i → i + d = cs.length → Ev (fun k => depotref02_False.l0 k m out (i : Int) u cs) (out ++ idxs (fun c => !holdsIn c m) i (cs.drop i)) := by
  induction d with
  | zero =>
    intro i out ho hi
    refine Ev.succ ?_
    simp only [depotref02_False.l0]
    have h1 : ¬ ((i : Int) < (cs.length : Int)) := by omega
    simp only [h1, if_false]
    rw [List.drop_of_length_le (by omega), idxs, List.append_nil]
    exact Ev.now _
  | succ d ih =>
    intro i out ho hi
    refine Ev.succ ?_
    simp only [depotref02_False.l0, rd_L1]
    have h1 : (i : Int) < (cs.length : Int) := by omega
    have h0 : (0 : Int) ≤ (i : Int) := by omega
    simp only [h1, h0, if_true]
    have hm : cs.getD ((i : Int).toNat) ([] : List Int) ∈ cs := by
      rw [getD_nat (show i < cs.length by omega)]
      exact List.getElem_mem _
    rw [drop_getD (z := ([] : List Int)) (show i < cs.length by omega), idxs]
    refine Ev.bind (depotref02_True_ev _ m v hv (hw _ hm) (hc _ hm)) ?_
    have h2 : out.length < 17592186044416 := by omega
    by_cases ht : holdsIn (cs.getD ((i : Int).toNat) ([] : List Int)) m = true
    · simp only [ht, if_true, Bool.not_true, Bool.false_eq_true, if_false, w64s (show (i : Int) < 9223372036854775807 by omega)]
      exact ih (i + 1) out (by omega) (by omega)
    · simp only [Bool.not_eq_true] at ht
      simp only [ht, Bool.false_eq_true, if_false, Bool.not_false, if_true, h2, w64s (show (i : Int) < 9223372036854775807 by omega)]
      have := ih (i + 1) (out ++ [(i : Int)]) (by simp; omega) (by omega)
      rw [List.append_assoc] at this
      exact this
theorem depotref02_False_ev (v : Int) (cs : List (List Int)) (m : List Bool) (hn : cs.length ≤ 5864062014805) (hc : ∀ c ∈ cs, c.length ≤ 17592186044416) : Ev (fun k => depotref02_False.f k v cs m) (falses v cs m) := by
  unfold depotref02_False.f falses fitsIn
  refine Ev.bind (depotref02_Formed_ev v cs (by omega) hc) ?_
  by_cases h : isFormula v cs = true
  · simp only [h, if_true, Bool.true_and]
    refine Ev.succ ?_
    simp only [depotref02_False.j0]
    by_cases h2 : (m.length : Int) = v
    · have h3 : ((m.length : Int) != v) = false := by simp [h2]
      simp only [h3, Bool.false_eq_true, if_false, decide_eq_true h2, if_true]
      exact depotref02_False_l0 cs m v h2 (fun c hm => isFormula_clause h hm) hn hc v cs.length 0 [] (by simp) (by omega)
    · have h3 : ((m.length : Int) != v) = true := by simp [h2]
      simp only [h3, if_true, decide_eq_false h2, Bool.false_eq_true, if_false]
      exact Ev.now _
  · simp only [Bool.not_eq_true] at h
    simp only [h, Bool.false_eq_true, if_false, Bool.false_and]
    refine Ev.succ ?_
    simp only [depotref02_False.j0, if_true]
    exact Ev.now _
theorem depotref00_SameBools_l0 (a b : List Bool) (hn : a.length ≤ 140737488355328) (hl : a.length = b.length) (d : Nat) : ∀ i : Nat, i + d = a.length → Ev (fun k => depotref00_SameBools.l0 k a b (i : Int)) (a.drop i == b.drop i) := by
  induction d with
  | zero =>
    intro i hi
    refine Ev.succ ?_
    simp only [depotref00_SameBools.l0]
    have h1 : ¬ ((i : Int) < (a.length : Int)) := by omega
    simp only [h1, if_false]
    rw [List.drop_of_length_le (by omega), List.drop_of_length_le (by omega)]
    exact Ev.now _
  | succ d ih =>
    intro i hi
    refine Ev.succ ?_
    simp only [depotref00_SameBools.l0]
    have h1 : (i : Int) < (a.length : Int) := by omega
    have h2 : (i : Int) < (b.length : Int) := by omega
    have h0 : (0 : Int) ≤ (i : Int) := by omega
    simp only [h1, h2, h0, if_true]
    rw [drop_rdOf (z := false) (show i < a.length by omega), drop_rdOf (z := false) (show i < b.length by omega), List.cons_beq_cons]
    by_cases hx : rdOf false a i = rdOf false b i
    · have hx2 : (rdOf false a i != rdOf false b i) = false := by simp [hx]
      simp only [hx2, Bool.false_eq_true, if_false, w64s (show (i : Int) < 9223372036854775807 by omega)]
      rw [hx, beq_self_eq_true, Bool.true_and]
      exact ih (i + 1) (by omega)
    · have hx3 : (rdOf false a i != rdOf false b i) = true := by simp [hx]
      have hx2 : (rdOf false a i == rdOf false b i) = false := by simpa using hx
      simp only [hx3, if_true, hx2, Bool.false_and]
      exact Ev.now _
theorem depotref00_SameBools_ev (a b : List Bool) (hn : a.length ≤ 140737488355328) : Ev (fun k => depotref00_SameBools.f k a b) (a == b) := by
  unfold depotref00_SameBools.f
  by_cases hl : (a.length : Int) = (b.length : Int)
  · simp only [hl, if_true]
    exact depotref00_SameBools_l0 a b hn (by omega) a.length 0 (by omega)
  · simp only [hl, if_false]
    have : (a == b) = false := by
      rw [beq_eq_false_iff_ne]
      rintro rfl
      exact hl rfl
    rw [this]
    exact Ev.now _
theorem depotref02_Counted_l0 (v : Nat) (hv : v ≤ 16) (d : Nat) : ∀ (i n : Nat) (acc : List Bool), i + d = v → acc.length = i → n ≤ 9223372036854775807 → Ev (fun k => depotref02_Counted.l0 k (n : Int) (v : Int) acc (i : Int)) (acc ++ counted d n) := by
  induction d with
  | zero =>
    intro i n acc hi ha hn
    refine Ev.succ ?_
    simp only [depotref02_Counted.l0]
    have h1 : ¬ ((i : Int) < (v : Int)) := by omega
    simp only [h1, if_false, counted, List.append_nil]
    exact Ev.now _
  | succ d ih =>
    intro i n acc hi ha hn
    refine Ev.succ ?_
    simp only [depotref02_Counted.l0]
    have h1 : (i : Int) < (v : Int) := by omega
    have h2 : acc.length < 140737488355328 := by omega
    have e1 : wrap64 (Int.tdiv (n : Int) 2) = ((n / 2 : Nat) : Int) := by
      have : Int.tdiv (n : Int) 2 = ((n / 2 : Nat) : Int) := rfl
      rw [this, w64 (by omega) (by omega)]
    have e2 : (Int.tmod (n : Int) 2 == 1) = (n % 2 == 1) := by
      have : Int.tmod (n : Int) 2 = ((n % 2 : Nat) : Int) := rfl
      rw [this, Bool.eq_iff_iff, beq_iff_eq, beq_iff_eq]
      omega
    simp only [h1, h2, if_true, e1, e2, w64s (show (i : Int) < 9223372036854775807 by omega)]
    have := ih (i + 1) (n / 2) (acc ++ [n % 2 == 1]) (by omega) (by simp [ha]) (by omega)
    rw [List.append_assoc] at this
    exact this
theorem depotref02_Counted_ev (v n : Nat) (hv : v ≤ 16) (hn : n ≤ 9223372036854775807) : Ev (fun k => depotref02_Counted.f k (n : Int) (v : Int)) (counted v n) := depotref02_Counted_l0 v hv v 0 n [] (by omega) rfl hn
theorem ev_cast {α : Type} {g : Nat → Option α} {r r' : α} (h : Ev g r) (e : r = r') : Ev g r' := e ▸ h
theorem shl_one (v : Nat) (hv : v ≤ 16) : Go.Proofs.YtggnnnddnppcpaaW.PrintWords.shl .i64 1 (v : Int) = ((2 ^ v : Nat) : Int) := by
  have : v = 0 ∨ v = 1 ∨ v = 2 ∨ v = 3 ∨ v = 4 ∨ v = 5 ∨ v = 6 ∨ v = 7 ∨ v = 8 ∨ v = 9 ∨ v = 10 ∨ v = 11 ∨ v = 12 ∨ v = 13 ∨ v = 14 ∨ v = 15 ∨ v = 16 := by omega
  rcases this with h | h | h | h | h | h | h | h | h | h | h | h | h | h | h | h | h <;> subst h <;> decide
theorem depotref02_Models_l0 (v : Nat) (cs : List (List Int)) (hv : v ≤ 16) (hw : ∀ c ∈ cs, within c (v : Int) = true) (hn : cs.length ≤ 17592186044416) (hc : ∀ c ∈ cs, c.length ≤ 17592186044416) (d : Nat) : ∀ i : Nat, i + d = 2 ^ v → Ev (fun k => depotref02_Models.l0 k (modelsTo v cs i) (i : Int) (v : Int) cs) (modelsIn v cs) := by
  have hp : 2 ^ v ≤ 65536 := Nat.pow_le_pow_right (n := 2) (by omega) hv
  induction d with
  | zero =>
    intro i hi
    refine Ev.succ ?_
    simp only [depotref02_Models.l0, shl_one v hv]
    have h0 : (0 : Int) ≤ (v : Int) := by omega
    have h1 : ¬ ((i : Int) < ((2 ^ v : Nat) : Int)) := by omega
    simp only [h0, h1, if_true, if_false]
    obtain rfl : i = 2 ^ v := by omega
    exact Ev.now _
  | succ d ih =>
    intro i hi
    refine Ev.succ ?_
    simp only [depotref02_Models.l0, shl_one v hv]
    have h0 : (0 : Int) ≤ (v : Int) := by omega
    have h1 : (i : Int) < ((2 ^ v : Nat) : Int) := by omega
    simp only [h0, h1, if_true]
    refine Ev.bind (depotref02_Counted_ev v i hv (by omega)) ?_
    refine Ev.bind (depotref02_satisfied_ev (v : Int) cs (counted v i) (by rw [counted_length]) hw hn hc _) ?_
    have hl := modelsTo_length v cs i
    have h2 : (modelsTo v cs i).length < 5864062014805 := by omega
    have hs := modelsTo_succ v cs i
    have := ih (i + 1) (by omega)
    by_cases ha : allIn cs (counted v i) = true
    · rw [if_pos ha] at hs
      simp only [ha, h2, if_true, w64s (show (i : Int) < 9223372036854775807 by omega), ← hs]
      exact this
    · rw [if_neg ha, List.append_nil] at hs
      simp only [ha, if_false, w64s (show (i : Int) < 9223372036854775807 by omega), ← hs, Bool.false_eq_true]
      exact this
theorem depotref02_Models_j0 (v : Int) (cs : List (List Int)) (hn : cs.length ≤ 17592186044416) (hc : ∀ c ∈ cs, c.length ≤ 17592186044416) (hf : isFormula v cs = true) : Ev (fun k => depotref02_Models.j0 k [] (decide (v > 16)) v cs) (if 16 < v then [] else modelsIn v.toNat cs) := by
  refine Ev.succ ?_
  simp only [depotref02_Models.j0]
  by_cases hv : 16 < v
  · have h1 : decide (v > 16) = true := decide_eq_true hv
    simp only [h1, if_true, hv]
    exact Ev.now _
  · have h1 : decide (v > 16) = false := decide_eq_false hv
    simp only [h1, if_false, hv, Bool.false_eq_true]
    have hb := isFormula_bd hf
    obtain ⟨u, rfl⟩ := Int.eq_ofNat_of_zero_le hb.1
    exact depotref02_Models_l0 u cs (by omega) (fun c h => isFormula_clause hf h) hn hc (2 ^ u) 0 (by omega)
theorem depotref02_Models_ev (v : Int) (cs : List (List Int)) (hn : cs.length ≤ 17592186044416) (hc : ∀ c ∈ cs, c.length ≤ 17592186044416) : Ev (fun k => depotref02_Models.f k v cs) (if (isFormula v cs && decide (v ≤ 16)) = true then modelsIn v.toNat cs else []) := by
  simp only [depotref02_Models.f]
  refine Ev.bind (depotref02_Formed_ev v cs hn hc) ?_
  by_cases hf : isFormula v cs = true
  · simp only [hf, if_true, Bool.true_and]
    refine ev_cast (depotref02_Models_j0 v cs hn hc hf) ?_
    by_cases hv : 16 < v
    · rw [if_pos hv, decide_eq_false (by omega)]; rfl
    · rw [if_neg hv, decide_eq_true (by omega)]; rfl
  · simp only [Bool.not_eq_true] at hf
    simp only [hf, Bool.false_and, Bool.false_eq_true, if_false]
    refine Ev.succ ?_
    simp only [depotref02_Models.j0, if_true]
    exact Ev.now _
def lentMarksB : List Bool := (List.range 64).map fun i : Nat => (Int.tmod (i : Int) 3 == 0)
def lentB (l : List Bool) : List Bool := l ++ lentMarksB
theorem lentMarksB_length : lentMarksB.length = 64 := by simp [lentMarksB]
theorem lentMarksB_drop {j : Nat} (hj : j < 64) : lentMarksB.drop j = (Int.tmod (j : Int) 3 == 0) :: lentMarksB.drop (j + 1) := by
  rw [List.drop_eq_getElem_cons (by rw [lentMarksB_length]; exact hj)]
  simp [lentMarksB]
theorem lentB_length (l : List Bool) : (lentB l).length = l.length + 64 := by rw [lentB, List.length_append, lentMarksB_length]
theorem depotkit_LentBools_l1 (d : Nat) : ∀ (j : Nat) (x : List Bool), j + d = 64 → x.length + d < 140737488355328 → Ev (fun k => depotkit_LentBools.l1 k x (j : Int)) (x ++ lentMarksB.drop j) := by
  induction d with
  | zero =>
    intro j x hj hx
    refine Ev.succ ?_
    simp only [depotkit_LentBools.l1]
    have h1 : ¬ ((j : Int) < 64) := by omega
    simp only [h1, if_false]
    rw [List.drop_of_length_le (by rw [lentMarksB_length]; omega), List.append_nil]
    exact Ev.now _
  | succ d ih =>
    intro j x hj hx
    refine Ev.succ ?_
    simp only [depotkit_LentBools.l1]
    have h1 : (j : Int) < 64 := by omega
    have h2 : x.length < 140737488355328 := by omega
    simp only [h1, h2, if_true, w64s (show (j : Int) < 9223372036854775807 by omega)]
    have := ih (j + 1) (x ++ [(Int.tmod (j : Int) 3 == 0)]) (by omega) (by simp; omega)
    rw [lentMarksB_drop (by omega)]
    rw [List.append_assoc] at this
    exact this
theorem depotkit_LentBools_l0 (l : List Bool) (hn : l.length + 64 < 140737488355328) (d : Nat) : ∀ (i : Nat) (x : List Bool), i + d = l.length → x.length = i → Ev (fun k => depotkit_LentBools.l0 k l x (i : Int)) (x ++ l.drop i ++ lentMarksB) := by
  induction d with
  | zero =>
    intro i x hi hx
    refine Ev.succ ?_
    simp only [depotkit_LentBools.l0]
    have h1 : ¬ ((i : Int) < (l.length : Int)) := by omega
    simp only [h1, if_false]
    rw [List.drop_of_length_le (by omega), List.append_nil]
    have := depotkit_LentBools_l1 64 0 x (by omega) (by omega)
    rwa [List.drop_zero] at this
  | succ d ih =>
    intro i x hi hx
    refine Ev.succ ?_
    simp only [depotkit_LentBools.l0]
    have h1 : (i : Int) < (l.length : Int) := by omega
    have h0 : (0 : Int) ≤ (i : Int) := by omega
    have h2 : x.length < 140737488355328 := by omega
    simp only [h1, h0, h2, if_true, w64s (show (i : Int) < 9223372036854775807 by omega)]
    rw [drop_rdOf (z := false) (show i < l.length by omega)]
    have := ih (i + 1) (x ++ [rdOf false l (i : Int)]) (by omega) (by simp [hx])
    rw [show x ++ [rdOf false l (i : Int)] ++ l.drop (i + 1) ++ lentMarksB = x ++ rdOf false l (i : Int) :: l.drop (i + 1) ++ lentMarksB by simp] at this
    exact this
theorem depotkit_LentBools_ev (l : List Bool) (hn : l.length + 64 < 140737488355328) : Ev (fun k => depotkit_LentBools.f k l) (lentB l) := by
  have := depotkit_LentBools_l0 l hn l.length 0 [] (by omega) rfl
  simpa [depotkit_LentBools.f, lentB] using this
theorem depotkit_KeptBools_l1 (l : List Bool) (hn : l.length + 64 < 140737488355328) (d : Nat) : ∀ j : Nat, j + d = 64 → Ev (fun k => depotkit_KeptBools.l1 k (lentB l) l (j : Int)) true := by
  induction d with
  | zero =>
    intro j hj
    refine Ev.succ ?_
    simp only [depotkit_KeptBools.l1]
    have h1 : ¬ ((j : Int) < 64) := by omega
    simp only [h1, if_false]
    exact Ev.now _
  | succ d ih =>
    intro j hj
    refine Ev.succ ?_
    simp only [depotkit_KeptBools.l1]
    have h1 : (j : Int) < 64 := by omega
    have e1 : wrap64 ((l.length : Int) + (j : Int)) = ((l.length + j : Nat) : Int) := by rw [w64 (by omega) (by omega)]; omega
    have h2 : (0 : Int) ≤ ((l.length + j : Nat) : Int) := by omega
    have h3 : ((l.length + j : Nat) : Int) < ((lentB l).length : Int) := by rw [lentB_length]; omega
    have e2 : rdOf false (lentB l) ((l.length + j : Nat) : Int) = (Int.tmod (j : Int) 3 == 0) := by
      rw [rdOf_nat (by rw [lentB_length]; omega)]
      simp [lentB, lentMarksB]
    simp only [h1, e1, h2, h3, e2, if_true, bne_self_eq_false, Bool.false_eq_true, if_false, w64s (show (j : Int) < 9223372036854775807 by omega)]
    exact ih (j + 1) (by omega)
theorem depotkit_KeptBools_l0 (l : List Bool) (hn : l.length + 64 < 140737488355328) (d : Nat) : ∀ i : Nat, i + d = l.length → Ev (fun k => depotkit_KeptBools.l0 k (lentB l) l (i : Int)) true := by
  induction d with
  | zero =>
    intro i hi
    refine Ev.succ ?_
    simp only [depotkit_KeptBools.l0]
    have h1 : ¬ ((i : Int) < (l.length : Int)) := by omega
    simp only [h1, if_false]
    exact depotkit_KeptBools_l1 l hn 64 0 (by omega)
  | succ d ih =>
    intro i hi
    refine Ev.succ ?_
    simp only [depotkit_KeptBools.l0]
    have h1 : (i : Int) < (l.length : Int) := by omega
    have h0 : (0 : Int) ≤ (i : Int) := by omega
    have h3 : (i : Int) < ((lentB l).length : Int) := by rw [lentB_length]; omega
    have e2 : rdOf false (lentB l) (i : Int) = rdOf false l (i : Int) := by
      rw [rdOf_nat (by rw [lentB_length]; omega), rdOf_nat (show i < l.length by omega)]
      simp only [lentB]
      rw [List.getElem_append_left (by omega)]
    simp only [h1, h0, h3, e2, if_true, bne_self_eq_false, Bool.false_eq_true, if_false, w64s (show (i : Int) < 9223372036854775807 by omega)]
    exact ih (i + 1) (by omega)
theorem depotkit_KeptBools_ev (l : List Bool) (hn : l.length + 64 < 140737488355328) : Ev (fun k => depotkit_KeptBools.f k (lentB l) l) true := by
  have h1 : ((lentB l).length : Int) = wrap64 ((l.length : Int) + 64) := by rw [w64 (by omega) (by omega), lentB_length]; omega
  unfold depotkit_KeptBools.f
  simp only [h1, if_true]
  exact depotkit_KeptBools_l0 l hn l.length 0 (by omega)
theorem depotkit_OverBools_l0 (n : Nat) (hn : n < 140737488355328) (d : Nat) : ∀ (i : Nat) (x : List Bool), x.length = n → i + d = n → ∃ r : List Bool, r.length = n ∧ Ev (fun k => depotkit_OverBools.l0 k x (i : Int)) r := by
  induction d with
  | zero =>
    intro i x hx hi
    refine ⟨x, hx, Ev.succ ?_⟩
    simp only [depotkit_OverBools.l0]
    have h1 : ¬ ((i : Int) < (x.length : Int)) := by omega
    simp only [h1, if_false]
    exact Ev.now _
  | succ d ih =>
    intro i x hx hi
    obtain ⟨r, hr, h⟩ := ih (i + 1) (x.set i (!(rdOf false x (i : Int)))) (by simpa using hx) (by omega)
    refine ⟨r, hr, Ev.succ ?_⟩
    simp only [depotkit_OverBools.l0]
    have h1 : (i : Int) < (x.length : Int) := by omega
    have h0 : (0 : Int) ≤ (i : Int) := by omega
    simp only [h1, h0, if_true, w64s (show (i : Int) < 9223372036854775807 by omega), Int.toNat_natCast]
    exact h
theorem depotkit_OverBools_ev (l : List Bool) (hn : l.length < 140737488355328) : ∃ r : List Bool, r.length = l.length ∧ Ev (fun k => depotkit_OverBools.f k l) r := by
  obtain ⟨r, h1, h2⟩ := depotkit_OverBools_l0 l.length hn l.length 0 l rfl (by omega)
  exact ⟨r, h1, h2⟩
end Go.Proofs.Ytggnnnddnppcpaa.PCnfKeepsModels
/-! text YtggnnnddnppcpaaRangeCells -/
namespace Go.Proofs.YtggnnnddnppcpaaCells
open Go Go.RowKit
set_option linter.unusedVariables false
variable {F : Fence} {n : Nat} {P : Program}

/-- J abides whatever grows, and each turn of block B. -/
def AbidesM {β : Type} (B : Nat) (J : β → World → Prop) : Prop := ∀ s W W' row, J s W → W.grownBy W' row → (∀ r, row = some r → r = B) → J s W'
/-- the iterator's contract: block W.heap.size is its own -/
def SeqStopsM {α : Type} (F : Fence) (n : Nat) (P : Program) (g : Nat) (lb : Array Value) (encs : α → Array Value) (Hd : α → World → Prop) (Kp : World → World → Prop) (S Sp : List α → Prop) (N : Nat) (w : World) : Prop :=
  ∀ (l : Nat) (J Jx : List α → World → Prop) (W : World), Below w.heap.size w W → AbidesM W.heap.size J → AbidesM W.heap.size Jx →
    (∀ pre x W1, J pre W1 → Hd x W1 → pre.length < N → YieldAt F (n - 1) P l (encs x) W1 fun e W' =>
      (e = .returned (.bool true) ∧ J (pre ++ [x]) W' ∧ Kp W1 W') ∨ (e = .returned (.bool false) ∧ Jx (pre ++ [x]) W')) →
    J [] W →
    CallsIn F n P g (#[.func (.yield l) #[] #[]] ++ lb) W fun e W' => (∃ v, e = .returned v) ∧ ((∃ xs, S xs ∧ J xs W') ∨ (∃ pre, Sp pre ∧ Jx pre W'))
/-- the caller's invariant: it abides turns of blocks from B on that hold no cells, and of block B + 2 -/
def OwnM {β : Type} (B : Nat) (I : β → World → Prop) : Prop :=
  ∀ s W W' row, I s W → W.grownBy W' row → (∀ r, row = some r → B ≤ r ∧ (r = B + 2 ∨ ∃ o : Obj, W.heap[r]? = some o ∧ o.isCells = false)) → I s W'
theorem OwnM.put {β : Type} {B : Nat} {I : β → World → Prop} (h : OwnM B I) {s : β} {W : World} {l : Nat} {o : Obj} (o' : Obj) (hs : I s W) (hB : B ≤ l) (hl : W.heap[l]? = some o) (ho : o.isCells = false) : I s (W.putObj l o') :=
  h s W _ (some l) hs (grownBy_putObj' W l o') (fun r e => by cases e; exact ⟨hB, .inr ⟨o, hl, ho⟩⟩)
theorem OwnM.new {β : Type} {B : Nat} {I : β → World → Prop} (h : OwnM B I) {s : β} {W : World} (o : Obj) (hs : I s W) : I s (W.alloc o) :=
  h s W _ none hs (World.grownBy_alloc W o none) (fun r e => by cases e)
theorem OwnM.and {β : Type} {B : Nat} {I I' : β → World → Prop} (h : OwnM B I) (h' : OwnM B I') : OwnM B (fun s W => I s W ∧ I' s W) := fun s W W' row hs hg hr => ⟨h s W W' row hs.1 hg hr, h' s W W' row hs.2 hg hr⟩

theorem wpIn_range_cells {α : Type} {g : Operand} {ps : Array Tmp} {assign body : Code} {Q : Exit → Act → World → Prop} {a : Act} {w : World}
    (hro : F.round = none) (h1 : 1 ≤ n) {gf : Nat} {lb : Array Value} (hg : a.eval g = .func (.func gf) #[] lb) (hFg : F.fn gf) (eg : ∀ args w, (callFunc gf args).run P w = .ok (.enter gf args) w)
    {encs : α → Array Value} {Hd : α → World → Prop} {Kp : World → World → Prop} {S Sp : List α → Prop} {N : Nat} {w0 : World} (hseq : SeqStopsM F (n - 1) P gf lb encs Hd Kp S Sp N w0)
    (hKt : ∀ {A B C : World}, Kp A B → Kp B C → Kp A C) (hKb : ∀ (W : World) (l : Nat) (o o' : Obj), w.heap.size ≤ l → W.heap[l]? = some o → o.isCells = false → Kp W (W.putObj l o'))
    (hHd : ∀ x (W : World) (l : Nat) (o o' : Obj), W.heap[l]? = some o → o.isCells = false → Hd x W → Hd x (W.putObj l o'))
    (hb0 : Below w0.heap.size w0 w) (hps : ∀ x, (encs x).size = ps.size)
    (I : List α → World → Prop) (Ix : Code → List α → World → Prop) (hI : OwnM w.heap.size I) (hIx : ∀ c, OwnM w.heap.size (Ix c)) (h0 : I [] w) (a₁ : α → Act)
    (hassign : ∀ (l : Nat) (x : α) (W : World) (K : Act → World → Prop), K (a₁ x) W →
      assign.wpIn (F.inRound l) (n - 1 - 1) P (Exit.then K (fun _ _ _ => False)) { tmps := (ps.zip (encs x)).foldl (fun t (p, v) => t.setIfInBounds p v) a.tmps, defers := [] } W)
    (hbody : ∀ (l : Nat) (pre : List α) (x : α) (W : World), I pre W → Hd x W → pre.length < N → body.wpIn (F.inRound l) (n - 1 - 1) P (ownPostG w.heap.size Kp I Ix (pre ++ [x]) W) (a₁ x) W)
    (hdone : ∀ (D : Nat) (xs : List α) (W : World), w.heap.size ≤ D → S xs → I xs W → W.heap[D]? = some (.deferred (some [])) → Q .normal { a with defers := { target := .collected D, args := #[] } :: a.defers } W)
    (hstop : ∀ (D : Nat) (c : Code) (pre : List α) (W : World), w.heap.size ≤ D → Sp pre → Ix c pre W → W.heap[D]? = some (.deferred (some [])) → c.wpIn F n P Q { a with defers := { target := .collected D, args := #[] } :: a.defers } W) :
    (Code.rangeFunc g ps assign body).wpIn F n P Q a w := by
  refine wpIn_rangeFunc ?_
  intro fn hfn
  rw [hro]
  obtain ⟨rec, hrec⟩ : ∃ rec : LoopState → Option Code → Loop, rec = fun st pe => { state := st, pending := pe, fn, tmps := a.tmps, params := ps, assign, body, defers := w.heap.size } := ⟨_, rfl⟩
  obtain ⟨W1, hW1⟩ : ∃ W1, (w.alloc (.deferred (some []))).alloc (.loop (rec .ready none)) = W1 := ⟨_, rfl⟩
  have hz1 : W1.heap.size = w.heap.size + 2 := by rw [← hW1]; simp
  have hL1 : W1.heap[w.heap.size + 1]? = some (.loop (rec .ready none)) := by
    rw [← hW1]
    have := World.alloc_heap_new (w.alloc (.deferred (some []))) (.loop (rec .ready none))
    rwa [World.size_alloc] at this
  have hK1 : W1.heap[w.heap.size]? = some (.deferred (some [])) := by
    rw [← hW1]
    exact (Below.heap_alloc _ _ _ (by simp)).trans (World.alloc_heap_new w _)
  have hI1 : I [] W1 := by rw [← hW1]; exact hI.new _ (hI.new _ h0)
  have hb1 : Below w0.heap.size w0 W1 := by
    rw [← hW1]
    exact hb0.trans ((((Below.refl _ w).alloc (Nat.le_refl _) _).alloc (by simp) _).mono hb0.size)
  have hrow : ∀ {row : Option Nat} {A : World}, (∀ r, row = some r → r = W1.heap.size) → (∀ r, row = some r → w.heap.size ≤ r ∧ (r = w.heap.size + 2 ∨ ∃ o : Obj, A.heap[r]? = some o ∧ o.isCells = false)) :=
    fun hr r e => by have := hr r e; exact ⟨by omega, .inl (by omega)⟩
  have hold : ∀ {row : Option Nat} {A B : World} {k : Nat} {o : Obj}, A.grownBy B row → (∀ r, row = some r → r = W1.heap.size) → k < w.heap.size + 2 → A.heap[k]? = some o → B.heap[k]? = some o :=
    fun hg' hr hk ho => (hg'.block _ (Array.getElem?_eq_some_iff.1 ho).1 (fun e => by have := hr _ e.symm; omega)).trans ho
  refine ⟨w.heap.size + 1, [{ target := .collected w.heap.size, args := #[] }], W1, { target := .fn (.func gf) lb, args := #[.func (.yield (w.heap.size + 1)) #[] #[]] }, W1, gf,
    #[.func (.yield (w.heap.size + 1)) #[] #[]] ++ lb, W1, ?_, ?_, ?_, ?_, fun _ => h1, ?_⟩
  · rw [← hW1, hrec]; exact run_enterLoop_outer _ _ _ _ _
  · simp only [resolve, hg]
    simp [go_sem]
  · intro f' hf'
    simp [Target.leads] at hf'
    subst hf'
    exact hFg
  · simp [invoke, go_sem, eg]
  · refine (hseq (w.heap.size + 1)
      (fun pre W => I pre W ∧ W.heap[w.heap.size + 1]? = some (.loop (rec .ready none)) ∧ W.heap[w.heap.size]? = some (.deferred (some [])))
      (fun pre W => ∃ c, Ix c pre W ∧ W.heap[w.heap.size + 1]? = some (.loop (rec .done (some c))) ∧ W.heap[w.heap.size]? = some (.deferred (some [])))
      W1 hb1
      (fun s A B row hs hg' hr => ⟨hI s A B row hs.1 hg' (hrow hr), hold hg' hr (by omega) hs.2.1, hold hg' hr (by omega) hs.2.2⟩)
      (fun s A B row hs hg' hr => by
        obtain ⟨c, hc, hl, hk⟩ := hs
        exact ⟨c, hIx c s A B row hc hg' (hrow hr), hold hg' hr (by omega) hl, hold hg' hr (by omega) hk⟩)
      ?_ ⟨hI1, hL1, hK1⟩).mono ?_
    · rintro pre x W ⟨hi, hl, hk⟩ hx hlen
      have hlt : w.heap.size + 1 < W.heap.size := (Array.getElem?_eq_some_iff.1 hl).1
      have hy := run_yield (P := P) (args := encs x) hl (by rw [hrec]; exact hps x)
      rw [hrec] at hy
      refine ⟨fn, _, assign, body, hy, roundIn_of_wpIn hfn (hassign _ x W _ ⟨_, run_beginRound hl (by rw [hrec]), ?_⟩)⟩
      have hl2 : (W.putObj (w.heap.size + 1) (.loop { rec .ready none with state := .busy })).heap[w.heap.size + 1]? = some (.loop { rec .ready none with state := .busy }) := World.putObj_heap_same hlt
      have hk2 : (W.putObj (w.heap.size + 1) (.loop { rec .ready none with state := .busy })).heap[w.heap.size]? = some (.deferred (some [])) := (World.putObj_heap_other (by omega)).trans hk
      have hw2 : Kp W (W.putObj (w.heap.size + 1) (.loop { rec .ready none with state := .busy })) := hKb _ _ _ _ (by omega) hl rfl
      refine wpIn_mono (hbody _ pre x _ (hI.put _ hi (by omega) hl rfl) (hHd _ _ _ _ _ hl rfl hx) hlen) ?_
      have fin : ∀ (jump : Option Code) (W3 : World), KeepsFrom w.heap.size (W.putObj (w.heap.size + 1) (.loop { rec .ready none with state := .busy })) W3 →
          (Instr.endRound (w.heap.size + 1) jump).run P W3 = .ok (.bool jump.isNone) (W3.putObj (w.heap.size + 1) (.loop (rec (if jump.isNone then .ready else .done) jump))) ∧
          W3.heap[w.heap.size + 1]? = some (.loop { rec .ready none with state := .busy }) ∧
          (W3.putObj (w.heap.size + 1) (.loop (rec (if jump.isNone then .ready else .done) jump))).heap[w.heap.size + 1]? = some (.loop (rec (if jump.isNone then .ready else .done) jump)) ∧
          (W3.putObj (w.heap.size + 1) (.loop (rec (if jump.isNone then .ready else .done) jump))).heap[w.heap.size]? = some (.deferred (some [])) := fun jump W3 hk3 => by
        have hl3 := hk3.same _ _ (by omega) hl2 rfl
        have := run_endRound (P := P) jump hl3
        rw [hrec] at this ⊢
        exact ⟨this, by rw [hrec] at hl3; exact hl3, World.putObj_heap_same (Array.getElem?_eq_some_iff.1 hl3).1, (World.putObj_heap_other (by omega)).trans (hk3.same _ _ (Nat.le_refl _) hk2 rfl)⟩
      have left : ∀ (c : Code) (W3 : World), KeepsFrom w.heap.size (W.putObj (w.heap.size + 1) (.loop { rec .ready none with state := .busy })) W3 → Ix c (pre ++ [x]) W3 → _ := fun c W3 hk3 hi3 => by
        obtain ⟨hr, hl3, hl4, hk4⟩ := fin (some c) W3 hk3
        exact (⟨_, _, hr, .inr ⟨rfl, c, (hIx _).put _ hi3 (by omega) hl3 rfl, hl4, hk4⟩⟩ : ∃ v W4, (Instr.endRound (w.heap.size + 1) (some c)).run P W3 = .ok v W4 ∧ ((Ending.returned v = .returned (.bool true) ∧ (I (pre ++ [x]) W4 ∧ W4.heap[w.heap.size + 1]? = some (.loop (rec .ready none)) ∧ W4.heap[w.heap.size]? = some (.deferred (some []))) ∧ Kp W W4) ∨ (Ending.returned v = .returned (.bool false) ∧ ∃ c, Ix c (pre ++ [x]) W4 ∧ W4.heap[w.heap.size + 1]? = some (.loop (rec .done (some c))) ∧ W4.heap[w.heap.size]? = some (.deferred (some [])))))
      rintro e a3 W3 hp
      cases e with
      | normal =>
        obtain ⟨hk3, hkp3, hi3⟩ := hp
        obtain ⟨hr, hl3, hl4, hk4⟩ := fin none W3 hk3
        exact ⟨_, _, hr, .inl ⟨rfl, ⟨hI.put _ hi3 (by omega) hl3 rfl, hl4, hk4⟩, hKt (hKt hw2 hkp3) (hKb _ _ _ _ (by omega) hl3 rfl)⟩⟩
      | ret => exact left .ret W3 hp.1 hp.2
      | exit id => exact left (.exit id) W3 hp.1 hp.2
      | goto t => exact left (.goto t) W3 hp.1 hp.2
      | panic ch => exact hp.elim
      | outgrown => exact hp.elim
    · rintro e W2 ⟨⟨v, rfl⟩, (⟨xs, hS, hi, hl, hk⟩ | ⟨pre, hSp, c, hi, hl, hk⟩)⟩
      · exact ⟨none, _, by have := run_endLoop (P := P) hl (by rw [hrec]; simp); rw [hrec] at this; exact this, hdone _ xs _ (Nat.le_refl _) hS (hI.put _ hi (by omega) hl rfl) ((World.putObj_heap_other (by omega)).trans hk)⟩
      · exact ⟨some c, _, by have := run_endLoop (P := P) hl (by rw [hrec]; simp); rw [hrec] at this; exact this, hstop _ c pre _ (Nat.le_refl _) hSp ((hIx c).put _ hi (by omega) hl rfl) ((World.putObj_heap_other (by omega)).trans hk)⟩
end Go.Proofs.YtggnnnddnppcpaaCells
