/- What the functions that CnfModels reaches compute, on numbers and lists. Laid by lib.py. -/
import Derived.Test.YtggnnnddnppcpaaClCnfModelsl
import Derived.Test.YtggnnnddnppcpaaClCnfModelse
import Derived.Test.YtggnnnddnppcpaaClCnfModelsg
import Derived.Test.YtggnnnddnppcpaaWWords
import Derived.Test.YtggnnnddnppcpaaClCnfModelsk
import Derived.Maps.AppendAt
import Derived.OwnWalkIn
/-! text YtggnnnddnppcpaaModelsLib -/
namespace Go.Proofs.Ytggnnnddnppcpaa.PCnfModels
open Go.RowKit Go.Proofs.YtggnnnddnppcpaaW.PrintWords Go.Proofs.YtggnnnddnppcpaaW.PrintLast Go.Proofs.YtggnnnddnppcpaaMath
set_option linter.unusedVariables false
set_option linter.unusedSimpArgs false
theorem depotref01_Formed_eq (l : Int) : depotref01_Formed.f l = some (formed l) := by
  unfold depotref01_Formed.f formed
  by_cases h1 : l ≥ 1
  · by_cases h2 : l ≤ 1048576
    · rw [if_pos h1, if_pos h2]; congr 1; symm; simp; omega
    · rw [if_pos h1, if_neg h2, if_pos (by omega)]; congr 1; rw [Bool.eq_iff_iff]; simp; omega
  · by_cases h2 : l ≥ -1048576
    · rw [if_neg h1, if_pos h2]; congr 1; rw [Bool.eq_iff_iff]; simp; omega
    · rw [if_neg h1, if_neg h2]; congr 1; symm; simp; omega
theorem depotref01_Sound_l0 (l : List Int) (hn : l.length ≤ 17592186044416) (d : Nat) : ∀ i : Nat, i + d = l.length → Ev (fun k => depotref01_Sound.l0 k l (i : Int)) (sound (l.drop i)) := by
  induction d with
  | zero =>
    intro i hi
    refine Ev.succ ?_
    simp only [depotref01_Sound.l0]
    have h1 : ¬ ((i : Int) < (l.length : Int)) := by omega
    simp only [h1, if_false]
    rw [List.drop_of_length_le (by omega)]
    exact Ev.now _
  | succ d ih =>
    intro i hi
    refine Ev.succ ?_
    simp only [depotref01_Sound.l0, depotref01_Formed_eq, Option.bind_some]
    have h1 : (i : Int) < (l.length : Int) := by omega
    have h0 : (0 : Int) ≤ (i : Int) := by omega
    simp only [h1, h0, if_true]
    rw [drop_rd (show i < l.length by omega)]
    by_cases hf : formed (rd l i) = true
    · simp only [hf, if_true, w64s (show (i : Int) < 9223372036854775807 by omega), sound, List.all_cons, Bool.true_and]
      exact ih (i + 1) (by omega)
    · simp only [Bool.not_eq_true] at hf
      simp only [hf, Bool.false_eq_true, if_false, sound, List.all_cons, Bool.false_and]
      exact Ev.now _
theorem depotref01_Sound_ev (l : List Int) (hn : l.length ≤ 17592186044416) : Ev (fun k => depotref01_Sound.f k l) (sound l) := depotref01_Sound_l0 l hn l.length 0 (by omega)
theorem depotref02_within_l0 (l : List Int) (v : Int) (hn : l.length ≤ 17592186044416) (hs : sound l = true) (d : Nat) : ∀ i : Nat, i + d = l.length → Ev (fun k => depotref02_within.l0 k l v (i : Int)) ((l.drop i).all fun l => decide (l ≤ v ∧ -l ≤ v)) := by
  induction d with
  | zero =>
    intro i hi
    refine Ev.succ ?_
    simp only [depotref02_within.l0]
    have h1 : ¬ ((i : Int) < (l.length : Int)) := by omega
    simp only [h1, if_false]
    rw [List.drop_of_length_le (by omega)]
    exact Ev.now _
  | succ d ih =>
    intro i hi
    refine Ev.succ ?_
    simp only [depotref02_within.l0]
    have h1 : (i : Int) < (l.length : Int) := by omega
    have h0 : (0 : Int) ≤ (i : Int) := by omega
    simp only [h1, h0, if_true]
    rw [drop_rd (show i < l.length by omega)]
    have hf : formed (rd l i) = true := sound_mem hs (rd_mem (by omega))
    have hb := formed_bd hf
    rw [w64 (x := -(rd l i)) (by omega) (by omega)]
    by_cases hc : rd l i ≤ v ∧ - rd l i ≤ v
    · have h2 : ¬ rd l i > v := by omega
      have h3 : ¬ -(rd l i) > v := by omega
      simp only [h2, h3, if_false, w64s (show (i : Int) < 9223372036854775807 by omega), List.all_cons, decide_eq_true hc, Bool.true_and]
      exact ih (i + 1) (by omega)
    · simp only [List.all_cons, decide_eq_false hc, Bool.false_and]
      by_cases h2 : rd l i > v
      · simp only [h2, if_true]
        exact Ev.now _
      · have h3 : -(rd l i) > v := by omega
        simp only [h2, h3, if_true, if_false]
        exact Ev.now _
theorem depotref02_within_ev (l : List Int) (v : Int) (hn : l.length ≤ 17592186044416) : Ev (fun k => depotref02_within.f k l v) (within l v) := by
  unfold depotref02_within.f within
  refine Ev.bind (depotref01_Sound_ev l hn) ?_
  by_cases hs : sound l = true
  · simp only [hs, if_true, Bool.true_and]
    exact depotref02_within_l0 l v hn hs l.length 0 (by omega)
  · simp only [Bool.not_eq_true] at hs
    simp only [hs, Bool.false_eq_true, if_false, Bool.false_and]
    exact Ev.now _
theorem depotref02_Formed_l0 (v : Int) (cs : List (List Int)) (hn : cs.length ≤ 17592186044416) (hc : ∀ c ∈ cs, c.length ≤ 17592186044416) (d : Nat) : ∀ i : Nat, i + d = cs.length → Ev (fun k => depotref02_Formed.l0 k (i : Int) v cs) ((cs.drop i).all fun c => within c v) := by
  induction d with
  | zero =>
    intro i hi
    refine Ev.succ ?_
    simp only [depotref02_Formed.l0]
    have h1 : ¬ ((i : Int) < (cs.length : Int)) := by omega
    simp only [h1, if_false]
    rw [List.drop_of_length_le (by omega)]
    exact Ev.now _
  | succ d ih =>
    intro i hi
    refine Ev.succ ?_
    simp only [depotref02_Formed.l0, rd_L1]
    have h1 : (i : Int) < (cs.length : Int) := by omega
    have h0 : (0 : Int) ≤ (i : Int) := by omega
    simp only [h1, h0, if_true]
    rw [drop_getD (z := ([] : List Int)) (show i < cs.length by omega), List.all_cons]
    have hm : (cs.getD ((i : Int).toNat) ([] : List Int)).length ≤ 17592186044416 := by
      rw [getD_nat (show i < cs.length by omega)]
      exact hc _ (List.getElem_mem _)
    refine Ev.bind (depotref02_within_ev _ v hm) ?_
    by_cases hf : within (cs.getD ((i : Int).toNat) ([] : List Int)) v = true
    · simp only [hf, if_true, w64s (show (i : Int) < 9223372036854775807 by omega), Bool.true_and]
      exact ih (i + 1) (by omega)
    · simp only [Bool.not_eq_true] at hf
      simp only [hf, Bool.false_eq_true, if_false, Bool.false_and]
      exact Ev.now _
theorem depotref02_Formed_ev (v : Int) (cs : List (List Int)) (hn : cs.length ≤ 17592186044416) (hc : ∀ c ∈ cs, c.length ≤ 17592186044416) : Ev (fun k => depotref02_Formed.f k v cs) (isFormula v cs) := by
  have hj : ∀ b, Ev (fun k => depotref02_Formed.j0 k b v cs) (!b && cs.all fun c => within c v) := by
    intro b
    refine Ev.succ ?_
    simp only [depotref02_Formed.j0]
    cases b with
    | true => exact Ev.now _
    | false => exact depotref02_Formed_l0 v cs hn hc cs.length 0 (by omega)
  unfold depotref02_Formed.f isFormula
  by_cases h0 : v < 0
  · simp only [h0, if_true]
    have := hj true
    rw [decide_eq_false (by omega)]
    simpa using this
  · simp only [h0, if_false]
    have := hj (decide (v > 1048576))
    rw [show (!decide (v > 1048576)) = decide (0 ≤ v ∧ v ≤ 1048576) by rw [Bool.eq_iff_iff]; simp; omega] at this
    exact this
theorem depotref02_True_l0 (c : List Int) (m : List Bool) (v : Int) (hv : (m.length : Int) = v) (hw : within c v = true) (hn : c.length ≤ 17592186044416) (d : Nat) : ∀ i : Nat, i + d = c.length → Ev (fun k => depotref02_True.l0 k c m (i : Int)) (holdsIn (c.drop i) m) := by
  induction d with
  | zero =>
    intro i hi
    refine Ev.succ ?_
    simp only [depotref02_True.l0]
    have h1 : ¬ ((i : Int) < (c.length : Int)) := by omega
    simp only [h1, if_false]
    rw [List.drop_of_length_le (by omega)]
    exact Ev.now _
  | succ d ih =>
    intro i hi
    refine Ev.succ ?_
    simp only [depotref02_True.l0]
    have h1 : (i : Int) < (c.length : Int) := by omega
    have h0 : (0 : Int) ≤ (i : Int) := by omega
    obtain ⟨hf, g1, g2⟩ := within_lit hw (rd_mem (l := c) (i := i) (by omega))
    have hb := formed_iff.1 hf
    simp only [h1, h0, if_true]
    rw [drop_rd (show i < c.length by omega)]
    simp only [holdsIn, List.any_cons]
    have ht := rdOf_truth (m := m) hf
    by_cases hp : rd c i > 0
    · have e1 : wrap64 (rd c i - 1) = ((rd c i).natAbs : Int) - 1 := by rw [w64 (by omega) (by omega)]; omega
      have h2 : (0 : Int) ≤ ((rd c i).natAbs : Int) - 1 := by omega
      have h3 : ((rd c i).natAbs : Int) - 1 < (m.length : Int) := by omega
      have h4 : ¬ rd c i < 0 := by omega
      simp only [hp, e1, h2, h3, h4, if_true, if_false]
      rw [decide_eq_true hp] at ht
      by_cases hr : rdOf false m (((rd c i).natAbs : Int) - 1) = true
      · rw [hr] at ht
        simp only [hr, if_true, ← ht]
        exact Ev.now _
      · simp only [Bool.not_eq_true] at hr
        rw [hr] at ht
        simp only [hr, Bool.false_eq_true, if_false, ← ht, w64s (show (i : Int) < 9223372036854775807 by omega)]
        exact ih (i + 1) (by omega)
    · have hneg : rd c i < 0 := by omega
      have e1 : wrap64 (wrap64 (-(rd c i)) - 1) = ((rd c i).natAbs : Int) - 1 := by rw [w64 (x := -(rd c i)) (by omega) (by omega), w64 (by omega) (by omega)]; omega
      have h2 : (0 : Int) ≤ ((rd c i).natAbs : Int) - 1 := by omega
      have h3 : ((rd c i).natAbs : Int) - 1 < (m.length : Int) := by omega
      simp only [hp, hneg, e1, h2, h3, if_true, if_false]
      rw [decide_eq_false hp] at ht
      by_cases hr : rdOf false m (((rd c i).natAbs : Int) - 1) = true
      · rw [hr] at ht
        simp only [hr, if_true, ← ht, w64s (show (i : Int) < 9223372036854775807 by omega)]
        exact ih (i + 1) (by omega)
      · simp only [Bool.not_eq_true] at hr
        rw [hr] at ht
        simp only [hr, Bool.false_eq_true, if_false, ← ht]
        exact Ev.now _
theorem depotref02_True_ev (c : List Int) (m : List Bool) (v : Int) (hv : (m.length : Int) = v) (hw : within c v = true) (hn : c.length ≤ 17592186044416) : Ev (fun k => depotref02_True.f k c m) (holdsIn c m) := depotref02_True_l0 c m v hv hw hn c.length 0 (by omega)
theorem depotref02_satisfied_l0 (cs : List (List Int)) (m : List Bool) (v : Int) (hv : (m.length : Int) = v) (hw : ∀ c ∈ cs, within c v = true) (hn : cs.length ≤ 17592186044416) (hc : ∀ c ∈ cs, c.length ≤ 17592186044416) (u : Int) (d : Nat) : ∀ i : Nat, i + d = cs.length → Ev (fun k => depotref02_satisfied.l0 k m (i : Int) u cs) (allIn (cs.drop i) m) := by
  induction d with
  | zero =>
    intro i hi
    refine Ev.succ ?_
    simp only [depotref02_satisfied.l0]
    have h1 : ¬ ((i : Int) < (cs.length : Int)) := by omega
    simp only [h1, if_false]
    rw [List.drop_of_length_le (by omega)]
    exact Ev.now _
  | succ d ih =>
    intro i hi
    refine Ev.succ ?_
    simp only [depotref02_satisfied.l0, rd_L1]
    have h1 : (i : Int) < (cs.length : Int) := by omega
    have h0 : (0 : Int) ≤ (i : Int) := by omega
    simp only [h1, h0, if_true]
    have hm : cs.getD ((i : Int).toNat) ([] : List Int) ∈ cs := by
      rw [getD_nat (show i < cs.length by omega)]
      exact List.getElem_mem _
    rw [drop_getD (z := ([] : List Int)) (show i < cs.length by omega)]
    simp only [allIn, List.all_cons]
    refine Ev.bind (depotref02_True_ev _ m v hv (hw _ hm) (hc _ hm)) ?_
    by_cases ht : holdsIn (cs.getD ((i : Int).toNat) ([] : List Int)) m = true
    · simp only [ht, if_true, Bool.true_and, w64s (show (i : Int) < 9223372036854775807 by omega)]
      exact ih (i + 1) (by omega)
    · simp only [Bool.not_eq_true] at ht
      simp only [ht, Bool.false_eq_true, if_false, Bool.false_and]
      exact Ev.now _
theorem depotref02_satisfied_ev (v : Int) (cs : List (List Int)) (m : List Bool) (hv : (m.length : Int) = v) (hw : ∀ c ∈ cs, within c v = true) (hn : cs.length ≤ 17592186044416) (hc : ∀ c ∈ cs, c.length ≤ 17592186044416) (u : Int) : Ev (fun k => depotref02_satisfied.f k u cs m) (allIn cs m) := depotref02_satisfied_l0 cs m v hv hw hn hc u cs.length 0 (by omega)
theorem depotref00_SameBools_l0 (a b : List Bool) (hn : a.length ≤ 140737488355328) (hl : a.length = b.length) (d : Nat) : ∀ i : Nat, i + d = a.length → Ev (fun k => depotref00_SameBools.l0 k a b (i : Int)) (a.drop i == b.drop i) := by
  induction d with
  | zero =>
    intro i hi
    refine Ev.succ ?_
    simp only [depotref00_SameBools.l0]
    have h1 : ¬ ((i : Int) < (a.length : Int)) := by omega
    simp only [h1, if_false]
    rw [List.drop_of_length_le (by omega), List.drop_of_length_le (by omega)]
    exact Ev.now _
  | succ d ih =>
    intro i hi
    refine Ev.succ ?_
    simp only [depotref00_SameBools.l0]
    have h1 : (i : Int) < (a.length : Int) := by omega
    have h2 : (i : Int) < (b.length : Int) := by omega
    have h0 : (0 : Int) ≤ (i : Int) := by omega
    simp only [h1, h2, h0, if_true]
    rw [drop_rdOf (z := false) (show i < a.length by omega), drop_rdOf (z := false) (show i < b.length by omega), List.cons_beq_cons]
    by_cases hx : rdOf false a i = rdOf false b i
    · have hx2 : (rdOf false a i != rdOf false b i) = false := by simp [hx]
      simp only [hx2, Bool.false_eq_true, if_false, w64s (show (i : Int) < 9223372036854775807 by omega)]
      rw [hx, beq_self_eq_true, Bool.true_and]
      exact ih (i + 1) (by omega)
    · have hx3 : (rdOf false a i != rdOf false b i) = true := by simp [hx]
      have hx2 : (rdOf false a i == rdOf false b i) = false := by simpa using hx
      simp only [hx3, if_true, hx2, Bool.false_and]
      exact Ev.now _
theorem depotref00_SameBools_ev (a b : List Bool) (hn : a.length ≤ 140737488355328) : Ev (fun k => depotref00_SameBools.f k a b) (a == b) := by
  unfold depotref00_SameBools.f
  by_cases hl : (a.length : Int) = (b.length : Int)
  · simp only [hl, if_true]
    exact depotref00_SameBools_l0 a b hn (by omega) a.length 0 (by omega)
  · simp only [hl, if_false]
    have : (a == b) = false := by
      rw [beq_eq_false_iff_ne]
      rintro rfl
      exact hl rfl
    rw [this]
    exact Ev.now _
theorem depotref00_CopyInts_l0 (l : List Int) (hn : l.length < 17592186044416) (d : Nat) : ∀ i : Nat, i + d = l.length → Ev (fun k => depotref00_CopyInts.l0 k l (l.take i) (i : Int)) l := by
  induction d with
  | zero =>
    intro i hi
    refine Ev.succ ?_
    have h1 : ¬ ((i : Int) < (l.length : Int)) := by omega
    simp only [depotref00_CopyInts.l0, h1, if_false]
    rw [List.take_of_length_le (by omega)]
    exact Ev.now _
  | succ d ih =>
    intro i hi
    refine Ev.succ ?_
    have h1 : (i : Int) < (l.length : Int) := by omega
    have h0 : (0 : Int) ≤ (i : Int) := by omega
    have h2 : (l.take i).length < 17592186044416 := by rw [List.length_take]; omega
    simp only [depotref00_CopyInts.l0, h1, h0, h2, if_true, w64s (show (i : Int) < 9223372036854775807 by omega)]
    rw [← take_rd (show i < l.length by omega)]
    exact ih (i + 1) (by omega)
theorem depotref00_CopyInts_ev (l : List Int) (hn : l.length < 17592186044416) : Ev (fun k => depotref00_CopyInts.f k l) l := depotref00_CopyInts_l0 l hn l.length 0 (by omega)
theorem drop_L1 {l : List (List Int)} {i : Nat} (h : i < l.length) : l.drop i = rd_L1 l (i : Int) :: l.drop (i + 1) := drop_getD (z := ([] : List Int)) h
theorem rd_L1_mem {l : List (List Int)} {i : Nat} (h : i < l.length) : rd_L1 l (i : Int) ∈ l := by
  have := getD_nat (z := ([] : List Int)) h
  show l.getD ((i : Int).toNat) ([] : List Int) ∈ l
  rw [this]; exact List.getElem_mem h
theorem take_L1 {l : List (List Int)} {i : Nat} (h : i < l.length) : l.take (i + 1) = l.take i ++ [rd_L1 l (i : Int)] := take_getD (z := ([] : List Int)) h
theorem depotref00_CopyClauses_l0 (l : List (List Int)) (hn : l.length ≤ 5864062014805) (hs : ∀ x ∈ l, x.length < 17592186044416) (d : Nat) : ∀ i : Nat, i + d = l.length → Ev (fun k => depotref00_CopyClauses.l0 k l (l.take i) (i : Int)) l := by
  induction d with
  | zero =>
    intro i hi
    refine Ev.succ ?_
    have h1 : ¬ ((i : Int) < (l.length : Int)) := by omega
    simp only [depotref00_CopyClauses.l0, h1, if_false]
    rw [List.take_of_length_le (by omega)]
    exact Ev.now _
  | succ d ih =>
    intro i hi
    refine Ev.succ ?_
    have h1 : (i : Int) < (l.length : Int) := by omega
    have h0 : (0 : Int) ≤ (i : Int) := by omega
    have h2 : (l.take i).length < 5864062014805 := by rw [List.length_take]; omega
    simp only [depotref00_CopyClauses.l0, h1, h0, if_true]
    refine Ev.bind (depotref00_CopyInts_ev _ (hs _ (rd_L1_mem (show i < l.length by omega)))) ?_
    simp only [h2, if_true, w64s (show (i : Int) < 9223372036854775807 by omega)]
    rw [← take_L1 (show i < l.length by omega)]
    exact ih (i + 1) (by omega)
theorem depotref00_CopyClauses_ev (l : List (List Int)) (hn : l.length ≤ 5864062014805) (hs : ∀ x ∈ l, x.length < 17592186044416) : Ev (fun k => depotref00_CopyClauses.f k l) l := depotref00_CopyClauses_l0 l hn hs l.length 0 (by omega)
theorem depotref00_CopyFormula_ev (v : Int) (l : List (List Int)) (hn : l.length ≤ 5864062014805) (hs : ∀ x ∈ l, x.length < 17592186044416) : Ev (fun k => depotref00_CopyFormula.f k v l) (v, l) := by
  unfold depotref00_CopyFormula.f
  exact Ev.bind (depotref00_CopyClauses_ev l hn hs) (Ev.now _)
theorem depotref02_Counted_l0 (v : Nat) (hv : v ≤ 16) (d : Nat) : ∀ (i n : Nat) (acc : List Bool), i + d = v → acc.length = i → n ≤ 9223372036854775807 → Ev (fun k => depotref02_Counted.l0 k (n : Int) (v : Int) acc (i : Int)) (acc ++ counted d n) := by
  induction d with
  | zero =>
    intro i n acc hi ha hn
    refine Ev.succ ?_
    simp only [depotref02_Counted.l0]
    have h1 : ¬ ((i : Int) < (v : Int)) := by omega
    simp only [h1, if_false, counted, List.append_nil]
    exact Ev.now _
  | succ d ih =>
    intro i n acc hi ha hn
    refine Ev.succ ?_
    simp only [depotref02_Counted.l0]
    have h1 : (i : Int) < (v : Int) := by omega
    have h2 : acc.length < 140737488355328 := by omega
    have e1 : wrap64 (Int.tdiv (n : Int) 2) = ((n / 2 : Nat) : Int) := by
      have : Int.tdiv (n : Int) 2 = ((n / 2 : Nat) : Int) := rfl
      rw [this, w64 (by omega) (by omega)]
    have e2 : (Int.tmod (n : Int) 2 == 1) = (n % 2 == 1) := by
      have : Int.tmod (n : Int) 2 = ((n % 2 : Nat) : Int) := rfl
      rw [this, Bool.eq_iff_iff, beq_iff_eq, beq_iff_eq]
      omega
    simp only [h1, h2, if_true, e1, e2, w64s (show (i : Int) < 9223372036854775807 by omega)]
    have := ih (i + 1) (n / 2) (acc ++ [n % 2 == 1]) (by omega) (by simp [ha]) (by omega)
    rw [List.append_assoc] at this
    exact this
theorem depotref02_Counted_ev (v n : Nat) (hv : v ≤ 16) (hn : n ≤ 9223372036854775807) : Ev (fun k => depotref02_Counted.f k (n : Int) (v : Int)) (counted v n) := depotref02_Counted_l0 v hv v 0 n [] (by omega) rfl hn
theorem ev_cast {α : Type} {g : Nat → Option α} {r r' : α} (h : Ev g r) (e : r = r') : Ev g r' := e ▸ h
theorem shl_one (v : Nat) (hv : v ≤ 16) : Go.Proofs.YtggnnnddnppcpaaW.PrintWords.shl .i64 1 (v : Int) = ((2 ^ v : Nat) : Int) := by
  have : v = 0 ∨ v = 1 ∨ v = 2 ∨ v = 3 ∨ v = 4 ∨ v = 5 ∨ v = 6 ∨ v = 7 ∨ v = 8 ∨ v = 9 ∨ v = 10 ∨ v = 11 ∨ v = 12 ∨ v = 13 ∨ v = 14 ∨ v = 15 ∨ v = 16 := by omega
  rcases this with h | h | h | h | h | h | h | h | h | h | h | h | h | h | h | h | h <;> subst h <;> decide
theorem depotref02_Models_l0 (v : Nat) (cs : List (List Int)) (hv : v ≤ 16) (hw : ∀ c ∈ cs, within c (v : Int) = true) (hn : cs.length ≤ 17592186044416) (hc : ∀ c ∈ cs, c.length ≤ 17592186044416) (d : Nat) : ∀ i : Nat, i + d = 2 ^ v → Ev (fun k => depotref02_Models.l0 k (modelsTo v cs i) (i : Int) (v : Int) cs) (modelsIn v cs) := by
  have hp : 2 ^ v ≤ 65536 := Nat.pow_le_pow_right (n := 2) (by omega) hv
  induction d with
  | zero =>
    intro i hi
    refine Ev.succ ?_
    simp only [depotref02_Models.l0, shl_one v hv]
    have h0 : (0 : Int) ≤ (v : Int) := by omega
    have h1 : ¬ ((i : Int) < ((2 ^ v : Nat) : Int)) := by omega
    simp only [h0, h1, if_true, if_false]
    obtain rfl : i = 2 ^ v := by omega
    exact Ev.now _
  | succ d ih =>
    intro i hi
    refine Ev.succ ?_
    simp only [depotref02_Models.l0, shl_one v hv]
    have h0 : (0 : Int) ≤ (v : Int) := by omega
    have h1 : (i : Int) < ((2 ^ v : Nat) : Int) := by omega
    simp only [h0, h1, if_true]
    refine Ev.bind (depotref02_Counted_ev v i hv (by omega)) ?_
    refine Ev.bind (depotref02_satisfied_ev (v : Int) cs (counted v i) (by rw [counted_length]) hw hn hc _) ?_
    have hl := modelsTo_length v cs i
    have h2 : (modelsTo v cs i).length < 5864062014805 := by omega
    have hs := modelsTo_succ v cs i
    have := ih (i + 1) (by omega)
    by_cases ha : allIn cs (counted v i) = true
    · rw [if_pos ha] at hs
      simp only [ha, h2, if_true, w64s (show (i : Int) < 9223372036854775807 by omega), ← hs]
      exact this
    · rw [if_neg ha, List.append_nil] at hs
      simp only [ha, if_false, w64s (show (i : Int) < 9223372036854775807 by omega), ← hs, Bool.false_eq_true]
      exact this
theorem depotref02_Models_j0 (v : Int) (cs : List (List Int)) (hn : cs.length ≤ 17592186044416) (hc : ∀ c ∈ cs, c.length ≤ 17592186044416) (hf : isFormula v cs = true) : Ev (fun k => depotref02_Models.j0 k [] (decide (v > 16)) v cs) (if 16 < v then [] else modelsIn v.toNat cs) := by
  refine Ev.succ ?_
  simp only [depotref02_Models.j0]
  by_cases hv : 16 < v
  · have h1 : decide (v > 16) = true := decide_eq_true hv
    simp only [h1, if_true, hv]
    exact Ev.now _
  · have h1 : decide (v > 16) = false := decide_eq_false hv
    simp only [h1, if_false, hv, Bool.false_eq_true]
    have hb := isFormula_bd hf
    obtain ⟨u, rfl⟩ := Int.eq_ofNat_of_zero_le hb.1
    exact depotref02_Models_l0 u cs (by omega) (fun c h => isFormula_clause hf h) hn hc (2 ^ u) 0 (by omega)
theorem depotref02_Models_ev (v : Int) (cs : List (List Int)) (hn : cs.length ≤ 17592186044416) (hc : ∀ c ∈ cs, c.length ≤ 17592186044416) : Ev (fun k => depotref02_Models.f k v cs) (if (isFormula v cs && decide (v ≤ 16)) = true then modelsIn v.toNat cs else []) := by
  simp only [depotref02_Models.f]
  refine Ev.bind (depotref02_Formed_ev v cs hn hc) ?_
  by_cases hf : isFormula v cs = true
  · simp only [hf, if_true, Bool.true_and]
    refine ev_cast (depotref02_Models_j0 v cs hn hc hf) ?_
    by_cases hv : 16 < v
    · rw [if_pos hv, decide_eq_false (by omega)]; rfl
    · rw [if_neg hv, decide_eq_true (by omega)]; rfl
  · simp only [Bool.not_eq_true] at hf
    simp only [hf, Bool.false_and, Bool.false_eq_true, if_false]
    refine Ev.succ ?_
    simp only [depotref02_Models.j0, if_true]
    exact Ev.now _
end Go.Proofs.Ytggnnnddnppcpaa.PCnfModels
/-! text YtggnnnddnppcpaaFrames -/
namespace Go.Proofs.YtggnnnddnppcpaaOwn
open Go Go.RowKit Go.Proofs.YtggnnnddnppcpaaW.PrintWords
set_option linter.unusedVariables false
/-- since w: new blocks alone; those of l lie as told -/
structure St (w : World) (l : List (Nat × Obj)) (W : World) : Prop where
  hB : Below w.heap.size w W
  nd : (l.map (·.1)).Nodup
  held : ∀ p ∈ l, w.heap.size ≤ p.1 ∧ W.heap[p.1]? = some p.2
section
variable {w W W1 : World} {l : List (Nat × Obj)}
theorem St.start (h : Below w.heap.size w W) : St w [] W := ⟨h, List.nodup_nil, fun _ h => by cases h⟩
theorem St.lt (h : St w l W) {p : Nat × Obj} (hp : p ∈ l) : p.1 < W.heap.size := (Array.getElem?_eq_some_iff.1 (h.held p hp).2).1
theorem St.blk (h : St w l W) (i : Nat) {b : Nat} {o : Obj} (hi : l[i]? = some (b, o)) : W.heap[b]? = some o := (h.held (b, o) (List.mem_of_getElem? hi)).2
theorem St.ge (h : St w l W) (i : Nat) {b : Nat} {o : Obj} (hi : l[i]? = some (b, o)) : w.heap.size ≤ b := (h.held (b, o) (List.mem_of_getElem? hi)).1
theorem St.blt (h : St w l W) (i : Nat) {b : Nat} {o : Obj} (hi : l[i]? = some (b, o)) : b < W.heap.size := h.lt (List.mem_of_getElem? hi)
theorem St.move (h : St w l W) (hb : Below w.heap.size w W1) (hm : ∀ p ∈ l, W1.heap[p.1]? = W.heap[p.1]?) : St w l W1 := ⟨hb, h.nd, fun p hp => ⟨(h.held p hp).1, (hm p hp).trans (h.held p hp).2⟩⟩
theorem St.new (h : St w l W) (o : Obj) : St w ((W.heap.size, o) :: l) (W.alloc o) := by
  refine ⟨below_alloc h.hB o, ?_, fun p hp => ?_⟩
  · rw [List.map_cons, List.nodup_cons]
    refine ⟨fun hm => ?_, h.nd⟩
    obtain ⟨q, hq, e⟩ := List.mem_map.1 hm
    have := h.lt hq
    simp only at e
    omega
  · rcases List.mem_cons.1 hp with rfl | hp
    · exact ⟨h.hB.size, World.alloc_heap_new W o⟩
    · exact ⟨(h.held p hp).1, (Below.heap_alloc W o p.1 (h.lt hp)).trans (h.held p hp).2⟩
theorem St.keep (h : St w l W) (k : Below W.heap.size W W1) : St w l W1 := h.move (below_step h.hB k) fun p hp => k.block p.1 (h.lt hp)
theorem St.grow {M : Nat → Prop} (h : St w l W) (hg : Grow M W W1) (hM : ∀ k, M k → w.heap.size ≤ k ∧ ∀ p ∈ l, p.1 ≠ k) : St w l W1 :=
  h.move (h.hB.trans (hg.below h.hB.size fun k hk => (hM k hk).1)) fun p hp => hg.block p.1 (h.lt hp) fun hk => (hM _ hk).2 p hp rfl
theorem St.growN {M : Nat → Prop} (h : St w l W) (hg : Grow M W W1) {n : Nat} (hM : ∀ k, M k → n ≤ k) (hw : w.heap.size ≤ n) (hl : ∀ p ∈ l, p.1 < n) : St w l W1 := h.grow hg fun k hk => ⟨Nat.le_trans hw (hM k hk), fun p hp => by have := hl p hp; have := hM k hk; omega⟩
theorem St.far (h : St w l W) {p : Addr} (hp : w.heap.size ≤ p.block) (hl : ∀ q ∈ l, q.1 ≠ p.block) (u : Value) : St w l (W.setCell p u) := h.move (h.hB.setCell hp u) fun q hq => Below.heap_setCell W p u q.1 (hl q hq)
theorem St.grown {row : Option Nat} (h : St w l W) (hg : W.grownBy W1 row) (hr : ∀ k, row = some k → w.heap.size ≤ k ∧ ∀ p ∈ l, p.1 ≠ k) : St w l W1 := h.grow (M := fun k => row = some k) (Grow.of_grownBy hg fun _ e => e) hr
theorem St.put (h : St w l W) (i : Nat) {b t : Nat} {cs cs' : Array Value} (hi : l[i]? = some (b, .cells cs t (0, 0))) (j : Nat) (u : Value) (e : cs.setIfInBounds j u = cs') : St w (l.set i (b, .cells cs' t (0, 0))) (W.setCell ⟨b, j, none⟩ u) := by
  have hm := List.mem_of_getElem? hi
  obtain ⟨hil, hie⟩ := List.getElem?_eq_some_iff.1 hi
  have hkeys : (l.set i (b, .cells cs' t (0, 0))).map (·.1) = l.map (·.1) := by
    rw [List.map_set]
    apply List.ext_getElem?
    intro k
    rw [List.getElem?_set]
    split
    · rename_i hk
      subst hk
      split
      · rw [List.getElem?_map, hi]; rfl
      · rename_i hn
        simp at hn
        omega
    · rfl
  refine ⟨h.hB.setCell (p := ⟨b, j, none⟩) (h.held _ hm).1 u, by rw [hkeys]; exact h.nd, fun p hp => ?_⟩
  obtain ⟨k, hk⟩ := List.getElem?_of_mem hp
  rw [List.getElem?_set] at hk
  split at hk
  · rename_i hik
    subst hik
    injection hk with hk
    subst hk
    exact ⟨(h.held _ hm).1, blk_put (h.held _ hm).2 j u e⟩
  · rename_i hik
    have hpm := List.mem_of_getElem? hk
    refine ⟨(h.held p hpm).1, (Below.heap_setCell W ⟨b, j, none⟩ u p.1 ?_).trans (h.held p hpm).2⟩
    intro e2
    apply hik
    have hnd := h.nd
    have h1 : (l.map (·.1))[i]? = some b := by rw [List.getElem?_map, hi]; rfl
    have h2 : (l.map (·.1))[k]? = some b := by rw [List.getElem?_map, hk]; exact congrArg some e2
    have hi' : i < (l.map (·.1)).length := (List.getElem?_eq_some_iff.1 h1).1
    have hk' : k < (l.map (·.1)).length := (List.getElem?_eq_some_iff.1 h2).1
    have e3 : (l.map (·.1))[i] = (l.map (·.1))[k] := by
      have a1 := (List.getElem?_eq_some_iff.1 h1).2
      have a2 := (List.getElem?_eq_some_iff.1 h2).2
      rw [a1, a2]
    have hp2 := List.pairwise_iff_getElem.1 hnd
    rcases Nat.lt_trichotomy i k with h4 | h4 | h4
    · exact absurd e3 (hp2 i k hi' hk' h4)
    · exact h4
    · exact absurd e3.symm (hp2 k i hk' hi' h4)
theorem St.cell (h : St w l W) (i j : Nat) {b t : Nat} {cs : Array Value} (hi : l[i]? = some (b, .cells cs t (0, 0))) : W.cell? ⟨b, j, none⟩ = cs[j]? := blk_cell (h.blk i hi) j
theorem St.frozen (h : St w l W) (i j : Nat) {b t : Nat} {cs : Array Value} (hi : l[i]? = some (b, .cells cs t (0, 0))) : W.frozen? ⟨b, j, none⟩ = false := blk_frozen (h.blk i hi) j
theorem St.sub {l' : List (Nat × Obj)} (h : St w l W) (hs : l'.Sublist l) : St w l' W := ⟨h.hB, (hs.map _).nodup h.nd, fun p hp => h.held p (hs.subset hp)⟩
end
/-- blocks told one by one, and what holds as long as the blocks of FP lie as they lie -/
structure Fr (w : World) (l : List (Nat × Obj)) (FP : Nat → Prop) (X : World → Prop) (W : World) : Prop where
  st : St w l W
  fp : ∀ k, FP k → k < W.heap.size
  stable : ∀ W1 : World, W.heap.size ≤ W1.heap.size → (∀ k, FP k → W1.heap[k]? = W.heap[k]?) → X W1
section
variable {w W W1 : World} {l : List (Nat × Obj)} {FP : Nat → Prop} {X : World → Prop}
theorem Fr.x (h : Fr w l FP X W) : X W := h.stable W (Nat.le_refl _) fun _ _ => rfl
theorem Fr.move (h : Fr w l FP X W) (hs : St w l W1) (hz : W.heap.size ≤ W1.heap.size) (hm : ∀ k, FP k → W1.heap[k]? = W.heap[k]?) : Fr w l FP X W1 :=
  ⟨hs, fun k hk => Nat.lt_of_lt_of_le (h.fp k hk) hz, fun W2 h2 hm2 => h.stable W2 (Nat.le_trans hz h2) fun k hk => (hm2 k hk).trans (hm k hk)⟩
theorem Fr.move' {l' : List (Nat × Obj)} (h : Fr w l FP X W) (hs : St w l' W1) (hz : W.heap.size ≤ W1.heap.size) (hm : ∀ k, FP k → W1.heap[k]? = W.heap[k]?) : Fr w l' FP X W1 :=
  ⟨hs, fun k hk => Nat.lt_of_lt_of_le (h.fp k hk) hz, fun W2 h2 hm2 => h.stable W2 (Nat.le_trans hz h2) fun k hk => (hm2 k hk).trans (hm k hk)⟩
theorem Fr.new (h : Fr w l FP X W) (o : Obj) : Fr w ((W.heap.size, o) :: l) FP X (W.alloc o) := h.move' (h.st.new o) (by simp) fun k hk => Below.heap_alloc W o k (h.fp k hk)
theorem Fr.keep (h : Fr w l FP X W) (k : Below W.heap.size W W1) : Fr w l FP X W1 := h.move (h.st.keep k) k.size fun j hj => k.block j (h.fp j hj)
theorem Fr.grow {M : Nat → Prop} (h : Fr w l FP X W) (hg : Grow M W W1) (hM : ∀ k, M k → w.heap.size ≤ k ∧ ¬ FP k ∧ ∀ p ∈ l, p.1 ≠ k) : Fr w l FP X W1 :=
  h.move (h.st.grow hg fun k hk => ⟨(hM k hk).1, (hM k hk).2.2⟩) hg.size fun k hk => hg.block k (h.fp k hk) fun hk2 => (hM k hk2).2.1 hk
theorem Fr.growN {M : Nat → Prop} (h : Fr w l FP X W) (hg : Grow M W W1) {n : Nat} (hM : ∀ k, M k → n ≤ k) (hw : w.heap.size ≤ n) (hf : ∀ k, FP k → k < n) (hl : ∀ p ∈ l, p.1 < n) : Fr w l FP X W1 :=
  h.grow hg fun k hk => ⟨Nat.le_trans hw (hM k hk), fun h2 => by have := hf k h2; have := hM k hk; omega, fun p hp => by have := hl p hp; have := hM k hk; omega⟩
theorem Fr.far (h : Fr w l FP X W) {p : Addr} (hp : w.heap.size ≤ p.block) (hf : ¬ FP p.block) (hl : ∀ q ∈ l, q.1 ≠ p.block) (u : Value) : Fr w l FP X (W.setCell p u) :=
  h.move (h.st.far hp hl u) ((Below.refl 0 W).setCell (p := p) (Nat.zero_le _) u).size fun k hk => Below.heap_setCell W p u k fun e => hf (by have e2 : k = _ := e; subst e2; exact hk)
theorem Fr.put (h : Fr w l FP X W) (i : Nat) {b t : Nat} {cs cs' : Array Value} (hi : l[i]? = some (b, .cells cs t (0, 0))) (hf : ¬ FP b) (j : Nat) (u : Value) (e : cs.setIfInBounds j u = cs') : Fr w (l.set i (b, .cells cs' t (0, 0))) FP X (W.setCell ⟨b, j, none⟩ u) :=
  h.move' (h.st.put i hi j u e) ((Below.refl 0 W).setCell (p := ⟨b, j, none⟩) (Nat.zero_le _) u).size fun k hk => Below.heap_setCell W ⟨b, j, none⟩ u k fun e => hf (by have e2 : k = _ := e; subst e2; exact hk)
theorem Fr.sub {l' : List (Nat × Obj)} (h : Fr w l FP X W) (hs : l'.Sublist l) : Fr w l' FP X W := ⟨h.st.sub hs, h.fp, h.stable⟩
/-- facts with footprints, taken together -/
theorem Fr.and {FP' : Nat → Prop} {X' : World → Prop} (h : Fr w l FP X W) (hf : ∀ k, FP' k → k < W.heap.size) (hx : ∀ W1 : World, W.heap.size ≤ W1.heap.size → (∀ k, FP' k → W1.heap[k]? = W.heap[k]?) → X' W1) : Fr w l (fun k => FP k ∨ FP' k) (fun W => X W ∧ X' W) W :=
  ⟨h.st, fun k hk => hk.elim (h.fp k) (hf k), fun W1 hz hm => ⟨h.stable W1 hz fun k hk => hm k (.inl hk), hx W1 hz fun k hk => hm k (.inr hk)⟩⟩
theorem Fr.start (h : St w l W) : Fr w l (fun _ => False) (fun _ => True) W := ⟨h, fun _ h => h.elim, fun _ _ _ => trivial⟩
theorem Fr.x_of {FP' : Nat → Prop} {X' : World → Prop} (h : Fr w l FP X W) (hf : ∀ k, FP k → FP' k) (hx : ∀ W, X W → X' W) (hz : ∀ k, FP' k → k < W.heap.size) : Fr w l FP' X' W :=
  ⟨h.st, hz, fun W1 h1 h2 => hx W1 (h.stable W1 h1 fun k hk => h2 k (hf k hk))⟩
end
/-- a sequence that gives what S says, as long as its blocks Rd lie as they lie -/
def SQg {α : Type} (F : Fence) (n : Nat) (P : Program) (g : Nat) (lb : Array Value) (encs : α → Array Value) (Hd : World → (Nat → Prop) → α → World → Prop) (Rd : Nat → Prop) (S Sp : List α → Prop) (N : Nat) (W : World) : Prop :=
  (∀ k, Rd k → k < W.heap.size) ∧ ∀ W1 : World, W.heap.size ≤ W1.heap.size → (∀ k, Rd k → W1.heap[k]? = W.heap[k]?) → SeqD F n P g lb encs Hd Rd S Sp N W1
theorem SQg.step {α : Type} {F : Fence} {n : Nat} {P : Program} {g : Nat} {lb : Array Value} {encs : α → Array Value} {Hd : World → (Nat → Prop) → α → World → Prop} {Rd : Nat → Prop} {S Sp : List α → Prop} {N : Nat} {W W1 : World} (h : SQg F n P g lb encs Hd Rd S Sp N W) (hz : W.heap.size ≤ W1.heap.size) (hm : ∀ k, Rd k → W1.heap[k]? = W.heap[k]?) : SQg F n P g lb encs Hd Rd S Sp N W1 :=
  ⟨fun k hk => Nat.lt_of_lt_of_le (h.1 k hk) hz, fun W2 h2 hm2 => h.2 W2 (Nat.le_trans hz h2) fun k hk => (hm2 k hk).trans (hm k hk)⟩
theorem SQg.now {α : Type} {F : Fence} {n : Nat} {P : Program} {g : Nat} {lb : Array Value} {encs : α → Array Value} {Hd : World → (Nat → Prop) → α → World → Prop} {Rd : Nat → Prop} {S Sp : List α → Prop} {N : Nat} {W : World} (h : SQg F n P g lb encs Hd Rd S Sp N W) : SeqD F n P g lb encs Hd Rd S Sp N W := h.2 W (Nat.le_refl _) fun _ _ => rfl
/-- one element more behind a row of one's own: the element lies in a new block -/
theorem R_push {α : Type} {P : Program} (d : Kd α) (t ty e : TypeId) (z : Value) (bytes : Nat) (ht : P.underlying t = some (.slice e)) (hinfo : (P.info? e).map (fun i => (i.zero, i.size, i.bytes)) = some (some z, d.sz, bytes)) (hz : z.cells.size = d.sz) (hs0 : 0 < d.sz)
    {W : World} {base : Nat} {ok okp : Nat → Prop} {v : Value} {xs : List α} {p : α} {cs : List Value} (hR : d.R e W base ok v xs) (hp : d.M W base okp p cs) (hokp : ∀ k, okp k → ok k ∧ some k ≠ v.ownBlock) (hfresh : ∀ k, W.heap.size ≤ k → ok k) (hbase : base ≤ W.heap.size) (hl : (xs.length + 1) * bytes ≤ 140737488355328) (hb0 : 0 < bytes) :
    ∃ v1 w1, (Builtin.append_ #[t, t] ty #[v, .slice (some ⟨W.heap.size, 0, none⟩) 1 1]).run P (W.alloc (.cells cs.toArray e)) = .ok v1 w1 ∧ d.R e w1 base ok v1 (xs ++ [p]) ∧ W.grownBy w1 v.ownBlock ∧ (v1.ownBlock = v.ownBlock ∨ ∃ b, v1.ownBlock = some b ∧ W.heap.size ≤ b) := by
  obtain ⟨h0, inner, hown, hr⟩ := hR
  obtain ⟨i0, hi, hzz⟩ := Option.map_eq_some_iff.1 hinfo
  simp only [Prod.mk.injEq] at hzz
  obtain ⟨hz0, hz1, hz2⟩ := hzz
  have hcl := d.K_len (d.K_of_M hp)
  have hone := d.K_one (d.K_of_M hp)
  have hown2 : (W.alloc (.cells cs.toArray e)).ownsRow base e d.sz v xs.length inner := own_move hown fun k hk => Below.heap_alloc _ _ _ (own_lt hown k hk)
  obtain ⟨v1, w1, hrun, ho1, hg1, _, hat⟩ := run_append_own_at (P := P) (W.alloc (.cells cs.toArray e)) base t ty e i0 z d.sz bytes ht hi hz0 hz1 hz2 hz hs0 v xs.length inner hown2 ⟨W.heap.size, 0, none⟩ 1 1 cs (by omega) (fun j u hj => by
    have hb := World.alloc_heap_new W (.cells cs.toArray e)
    have hc := blk_cell (t := e) hb j
    have ha : (⟨W.heap.size, 0, none⟩ : Addr).add j = ⟨W.heap.size, j, none⟩ := by rw [add_at, Nat.zero_add]
    rw [ha, hc]
    simpa using hj) hone (by
      have : xs.length + 1 ≤ (xs.length + 1) * bytes := Nat.le_mul_of_pos_right _ hb0
      simp only [maxLen]
      omega) hl (by simp; omega)
  have hgW : W.grownBy w1 v.ownBlock := (World.grownBy_alloc W (.cells cs.toArray e) v.ownBlock).trans hg1
  have hatW : v1.ownBlock = v.ownBlock ∨ ∃ b, v1.ownBlock = some b ∧ W.heap.size ≤ b := by
    rcases hat with h | h
    · exact .inl h
    · exact .inr ⟨_, h, by simp⟩
  exact ⟨v1, w1, hrun, Kd.R_appended h0 hr hp hokp hfresh ho1 hgW hatW, hgW, hatW⟩
/-- an append whose run is known -/
theorem wpIn_append_run {F : Fence} {n : Nat} {P : Program} {o : Oper} {a : Act} {w w' : World} {K : Act → World → Prop} {Q : Exit → Act → World → Prop} (s x : Operand) (t : TypeId) (hop : o.op = Op.call { callee := Callee.builtin Builtin.append, args := #[s, x], argTypes := #[t, t] })
    {v vx v' : Value} (hs : a.eval s = v) (hx : a.eval x = vx) (hrun : (Builtin.append_ #[t, t] o.type #[v, vx]).run P w = .ok v' w') (h : K (a.put o.dst v') w') : Oper.wpIn F n P o a w K Q := by
  unfold Oper.wpIn
  refine ⟨?_, ?_⟩
  · simp [Oper.about, hop, resolve, Target.leads, Sem.run_pure]
  · rw [Oper.semAt_plain F _ _ (by rw [hop]; intro c hc'; cases hc')]
    simp [execOp, hop, resolve, invoke, builtin, hs, hx, hrun, Result.andThen]
    exact h
theorem wpListIn_append_run {F : Fence} {n : Nat} {P : Program} {ops : Array Oper} {rest : List Oper} {o : Oper} {a : Act} {w w' : World} {Q : Exit → Act → World → Prop} (hg : o.guard = none) (s x : Operand) (t : TypeId) (hop : o.op = Op.call { callee := Callee.builtin Builtin.append, args := #[s, x], argTypes := #[t, t] })
    {v vx v' : Value} (hs : a.eval s = v) (hx : a.eval x = vx) (hrun : (Builtin.append_ #[t, t] o.type #[v, vx]).run P w = .ok v' w') (h : wpListIn F n P ops Q rest (a.put o.dst v') w') : wpListIn F n P ops Q (o :: rest) a w :=
  wpListIn_plain hg fun K hK' => wpIn_append_run s x t hop hs hx hrun (hK' _ _ h)
end Go.Proofs.YtggnnnddnppcpaaOwn
