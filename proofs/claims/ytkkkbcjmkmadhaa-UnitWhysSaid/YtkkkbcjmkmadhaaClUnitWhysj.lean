/- What the functions that UnitWhys reaches compute, on numbers and lists. Laid by lib.py. -/
import Derived.Test.YtkkkbcjmkmadhaaClUnitWhysi
import Derived.Test.YtkkkbcjmkmadhaaClUnitWhysa
import Derived.Test.YtkkkbcjmkmadhaaClUnitWhysb
import Derived.Test.YtkkkbcjmkmadhaaClUnitWhysd
import Derived.Test.YtkkkbcjmkmadhaaClUnitWhysc
import Derived.Test.YtkkkbcjmkmadhaaWApart
/-! text YtkkkbcjmkmadhaaUnitLib -/
namespace Go.Proofs.Ytkkkbcjmkmadhaa.PUnitWhys
open Go.RowKit Go.Proofs.YtkkkbcjmkmadhaaW.PrintWords Go.Proofs.YtkkkbcjmkmadhaaW.PrintLast Go.Proofs.YtkkkbcjmkmadhaaMath
set_option linter.unusedVariables false
set_option linter.unusedSimpArgs false
theorem depotref01_Formed_eq (l : Int) : depotref01_Formed.f l = some (formed l) := by
  unfold depotref01_Formed.f formed
  by_cases h1 : l ≥ 1
  · by_cases h2 : l ≤ 1048576
    · rw [if_pos h1, if_pos h2]; congr 1; symm; simp; omega
    · rw [if_pos h1, if_neg h2, if_pos (by omega)]; congr 1; rw [Bool.eq_iff_iff]; simp; omega
  · by_cases h2 : l ≥ -1048576
    · rw [if_neg h1, if_pos h2]; congr 1; rw [Bool.eq_iff_iff]; simp; omega
    · rw [if_neg h1, if_neg h2]; congr 1; symm; simp; omega
theorem depotref01_Sound_l0 (l : List Int) (hn : l.length ≤ 17592186044416) (d : Nat) : ∀ i : Nat, i + d = l.length → Ev (fun k => depotref01_Sound.l0 k l (i : Int)) (sound (l.drop i)) := by
  induction d with
  | zero =>
    intro i hi
    refine Ev.succ ?_
    simp only [depotref01_Sound.l0]
    have h1 : ¬ ((i : Int) < (l.length : Int)) := by omega
    simp only [h1, if_false]
    rw [List.drop_of_length_le (by omega)]
    exact Ev.now _
  | succ d ih =>
    intro i hi
    refine Ev.succ ?_
    simp only [depotref01_Sound.l0, depotref01_Formed_eq, Option.bind_some]
    have h1 : (i : Int) < (l.length : Int) := by omega
    have h0 : (0 : Int) ≤ (i : Int) := by omega
    simp only [h1, h0, if_true]
    rw [drop_rd (show i < l.length by omega)]
    by_cases hf : formed (rd l i) = true
    · simp only [hf, if_true, w64s (show (i : Int) < 9223372036854775807 by omega), sound, List.all_cons, Bool.true_and]
      exact ih (i + 1) (by omega)
    · simp only [Bool.not_eq_true] at hf
      simp only [hf, Bool.false_eq_true, if_false, sound, List.all_cons, Bool.false_and]
      exact Ev.now _
theorem depotref01_Sound_ev (l : List Int) (hn : l.length ≤ 17592186044416) : Ev (fun k => depotref01_Sound.f k l) (sound l) := depotref01_Sound_l0 l hn l.length 0 (by omega)
theorem depotref02_within_l0 (l : List Int) (v : Int) (hn : l.length ≤ 17592186044416) (hs : sound l = true) (d : Nat) : ∀ i : Nat, i + d = l.length → Ev (fun k => depotref02_within.l0 k l v (i : Int)) ((l.drop i).all fun l => decide (l ≤ v ∧ -l ≤ v)) := by
  induction d with
  | zero =>
    intro i hi
    refine Ev.succ ?_
    simp only [depotref02_within.l0]
    have h1 : ¬ ((i : Int) < (l.length : Int)) := by omega
    simp only [h1, if_false]
    rw [List.drop_of_length_le (by omega)]
    exact Ev.now _
  | succ d ih =>
    intro i hi
    refine Ev.succ ?_
    simp only [depotref02_within.l0]
    have h1 : (i : Int) < (l.length : Int) := by omega
    have h0 : (0 : Int) ≤ (i : Int) := by omega
    simp only [h1, h0, if_true]
    rw [drop_rd (show i < l.length by omega)]
    have hf : formed (rd l i) = true := sound_mem hs (rd_mem (by omega))
    have hb := formed_bd hf
    rw [w64 (x := -(rd l i)) (by omega) (by omega)]
    by_cases hc : rd l i ≤ v ∧ - rd l i ≤ v
    · have h2 : ¬ rd l i > v := by omega
      have h3 : ¬ -(rd l i) > v := by omega
      simp only [h2, h3, if_false, w64s (show (i : Int) < 9223372036854775807 by omega), List.all_cons, decide_eq_true hc, Bool.true_and]
      exact ih (i + 1) (by omega)
    · simp only [List.all_cons, decide_eq_false hc, Bool.false_and]
      by_cases h2 : rd l i > v
      · simp only [h2, if_true]
        exact Ev.now _
      · have h3 : -(rd l i) > v := by omega
        simp only [h2, h3, if_true, if_false]
        exact Ev.now _
theorem depotref02_within_ev (l : List Int) (v : Int) (hn : l.length ≤ 17592186044416) : Ev (fun k => depotref02_within.f k l v) (within l v) := by
  unfold depotref02_within.f within
  refine Ev.bind (depotref01_Sound_ev l hn) ?_
  by_cases hs : sound l = true
  · simp only [hs, if_true, Bool.true_and]
    exact depotref02_within_l0 l v hn hs l.length 0 (by omega)
  · simp only [Bool.not_eq_true] at hs
    simp only [hs, Bool.false_eq_true, if_false, Bool.false_and]
    exact Ev.now _
theorem depotref02_Formed_l0 (v : Int) (cs : List (List Int)) (hn : cs.length ≤ 17592186044416) (hc : ∀ c ∈ cs, c.length ≤ 17592186044416) (d : Nat) : ∀ i : Nat, i + d = cs.length → Ev (fun k => depotref02_Formed.l0 k (i : Int) v cs) ((cs.drop i).all fun c => within c v) := by
  induction d with
  | zero =>
    intro i hi
    refine Ev.succ ?_
    simp only [depotref02_Formed.l0]
    have h1 : ¬ ((i : Int) < (cs.length : Int)) := by omega
    simp only [h1, if_false]
    rw [List.drop_of_length_le (by omega)]
    exact Ev.now _
  | succ d ih =>
    intro i hi
    refine Ev.succ ?_
    simp only [depotref02_Formed.l0, rd_L1]
    have h1 : (i : Int) < (cs.length : Int) := by omega
    have h0 : (0 : Int) ≤ (i : Int) := by omega
    simp only [h1, h0, if_true]
    rw [drop_getD (z := ([] : List Int)) (show i < cs.length by omega), List.all_cons]
    have hm : (cs.getD ((i : Int).toNat) ([] : List Int)).length ≤ 17592186044416 := by
      rw [getD_nat (show i < cs.length by omega)]
      exact hc _ (List.getElem_mem _)
    refine Ev.bind (depotref02_within_ev _ v hm) ?_
    by_cases hf : within (cs.getD ((i : Int).toNat) ([] : List Int)) v = true
    · simp only [hf, if_true, w64s (show (i : Int) < 9223372036854775807 by omega), Bool.true_and]
      exact ih (i + 1) (by omega)
    · simp only [Bool.not_eq_true] at hf
      simp only [hf, Bool.false_eq_true, if_false, Bool.false_and]
      exact Ev.now _
theorem depotref02_Formed_ev (v : Int) (cs : List (List Int)) (hn : cs.length ≤ 17592186044416) (hc : ∀ c ∈ cs, c.length ≤ 17592186044416) : Ev (fun k => depotref02_Formed.f k v cs) (isFormula v cs) := by
  have hj : ∀ b, Ev (fun k => depotref02_Formed.j0 k b v cs) (!b && cs.all fun c => within c v) := by
    intro b
    refine Ev.succ ?_
    simp only [depotref02_Formed.j0]
    cases b with
    | true => exact Ev.now _
    | false => exact depotref02_Formed_l0 v cs hn hc cs.length 0 (by omega)
  unfold depotref02_Formed.f isFormula
  by_cases h0 : v < 0
  · simp only [h0, if_true]
    have := hj true
    rw [decide_eq_false (by omega)]
    simpa using this
  · simp only [h0, if_false]
    have := hj (decide (v > 1048576))
    rw [show (!decide (v > 1048576)) = decide (0 ≤ v ∧ v ≤ 1048576) by rw [Bool.eq_iff_iff]; simp; omega] at this
    exact this
theorem depotref00_CopyInts_l0 (l : List Int) (hn : l.length < 17592186044416) (d : Nat) : ∀ i : Nat, i + d = l.length → Ev (fun k => depotref00_CopyInts.l0 k l (l.take i) (i : Int)) l := by
  induction d with
  | zero =>
    intro i hi
    refine Ev.succ ?_
    have h1 : ¬ ((i : Int) < (l.length : Int)) := by omega
    simp only [depotref00_CopyInts.l0, h1, if_false]
    rw [List.take_of_length_le (by omega)]
    exact Ev.now _
  | succ d ih =>
    intro i hi
    refine Ev.succ ?_
    have h1 : (i : Int) < (l.length : Int) := by omega
    have h0 : (0 : Int) ≤ (i : Int) := by omega
    have h2 : (l.take i).length < 17592186044416 := by rw [List.length_take]; omega
    simp only [depotref00_CopyInts.l0, h1, h0, h2, if_true, w64s (show (i : Int) < 9223372036854775807 by omega)]
    rw [← take_rd (show i < l.length by omega)]
    exact ih (i + 1) (by omega)
theorem depotref00_CopyInts_ev (l : List Int) (hn : l.length < 17592186044416) : Ev (fun k => depotref00_CopyInts.f k l) l := depotref00_CopyInts_l0 l hn l.length 0 (by omega)
theorem drop_L1 {l : List (List Int)} {i : Nat} (h : i < l.length) : l.drop i = rd_L1 l (i : Int) :: l.drop (i + 1) := drop_getD (z := ([] : List Int)) h
theorem rd_L1_mem {l : List (List Int)} {i : Nat} (h : i < l.length) : rd_L1 l (i : Int) ∈ l := by
  have := getD_nat (z := ([] : List Int)) h
  show l.getD ((i : Int).toNat) ([] : List Int) ∈ l
  rw [this]; exact List.getElem_mem h
theorem take_L1 {l : List (List Int)} {i : Nat} (h : i < l.length) : l.take (i + 1) = l.take i ++ [rd_L1 l (i : Int)] := take_getD (z := ([] : List Int)) h
theorem depotref00_CopyClauses_l0 (l : List (List Int)) (hn : l.length ≤ 5864062014805) (hs : ∀ x ∈ l, x.length < 17592186044416) (d : Nat) : ∀ i : Nat, i + d = l.length → Ev (fun k => depotref00_CopyClauses.l0 k l (l.take i) (i : Int)) l := by
  induction d with
  | zero =>
    intro i hi
    refine Ev.succ ?_
    have h1 : ¬ ((i : Int) < (l.length : Int)) := by omega
    simp only [depotref00_CopyClauses.l0, h1, if_false]
    rw [List.take_of_length_le (by omega)]
    exact Ev.now _
  | succ d ih =>
    intro i hi
    refine Ev.succ ?_
    have h1 : (i : Int) < (l.length : Int) := by omega
    have h0 : (0 : Int) ≤ (i : Int) := by omega
    have h2 : (l.take i).length < 5864062014805 := by rw [List.length_take]; omega
    simp only [depotref00_CopyClauses.l0, h1, h0, if_true]
    refine Ev.bind (depotref00_CopyInts_ev _ (hs _ (rd_L1_mem (show i < l.length by omega)))) ?_
    simp only [h2, if_true, w64s (show (i : Int) < 9223372036854775807 by omega)]
    rw [← take_L1 (show i < l.length by omega)]
    exact ih (i + 1) (by omega)
theorem depotref00_CopyClauses_ev (l : List (List Int)) (hn : l.length ≤ 5864062014805) (hs : ∀ x ∈ l, x.length < 17592186044416) : Ev (fun k => depotref00_CopyClauses.f k l) l := depotref00_CopyClauses_l0 l hn hs l.length 0 (by omega)
theorem depotref00_CopyFormula_ev (v : Int) (l : List (List Int)) (hn : l.length ≤ 5864062014805) (hs : ∀ x ∈ l, x.length < 17592186044416) : Ev (fun k => depotref00_CopyFormula.f k v l) (v, l) := by
  unfold depotref00_CopyFormula.f
  exact Ev.bind (depotref00_CopyClauses_ev l hn hs) (Ev.now _)
end Go.Proofs.Ytkkkbcjmkmadhaa.PUnitWhys
/-! text YtkkkbcjmkmadhaaUnitRef -/
namespace Go.Proofs.Ytkkkbcjmkmadhaa.PUnitWhys
open Go.RowKit Go.Proofs.YtkkkbcjmkmadhaaW.PrintWords Go.Proofs.YtkkkbcjmkmadhaaW.PrintLast Go.Proofs.YtkkkbcjmkmadhaaMath
set_option linter.unusedVariables false
set_option linter.unusedSimpArgs false
/-- of a literal: 1 where it is known, -1 where its opposite is -/
def valK (K : List Int) (l : Int) : Int := if l ∈ K then 1 else if -l ∈ K then -1 else 0
def Fits (K : List Int) : Prop := 0 ∉ K ∧ ∀ x ∈ K, -x ∉ K
structure Vals (V : List Int) (K : List Int) (top : Nat) : Prop where
  len : V.length = top + 1
  at_ : ∀ i : Nat, i ≤ top → rd V (i : Int) = valK K (i : Int)
theorem Vals.congr {V K K' : List Int} {top : Nat} (h : Vals V K top) (e : ∀ x, x ∈ K ↔ x ∈ K') : Vals V K' top := ⟨h.len, fun i hi => by rw [h.at_ i hi]; unfold valK; simp only [e]⟩
theorem valK_neg {K : List Int} (h : Fits K) (l : Int) : valK K (-l) = -valK K l := by
  unfold valK
  rw [Int.neg_neg]
  by_cases h1 : l ∈ K
  · rw [if_pos h1, if_neg (h.2 l h1), if_pos h1]
  · rw [if_neg h1, if_neg h1]
    by_cases h2 : -l ∈ K
    · rw [if_pos h2, if_pos h2]; rfl
    · rw [if_neg h2, if_neg h2]; rfl
theorem value_eq {V K : List Int} {top : Nat} (h : Vals V K top) (hf : Fits K) (ht : top ≤ 1048576) {l : Int} (hl : l.natAbs ≤ top) : depotref06_Value.f V l = some (valK K l) := by
  have hv : (V.length : Int) = (top : Int) + 1 := by have := h.len; omega
  unfold depotref06_Value.f
  by_cases h1 : l < 0
  · have e1 : wrap64 (-l) = -l := w64 (by omega) (by omega)
    have e2 := h.at_ l.natAbs hl
    have e3 : ((l.natAbs : Nat) : Int) = -l := by omega
    rw [e3] at e2
    have hb : -1 ≤ valK K l ∧ valK K l ≤ 1 := by unfold valK; split <;> (try split) <;> omega
    rw [if_pos h1, e1, if_pos (by omega), if_pos (by omega), e2, valK_neg hf, Int.neg_neg, w64 (by omega) (by omega)]
  · have e2 := h.at_ l.natAbs hl
    have e3 : ((l.natAbs : Nat) : Int) = l := by omega
    rw [e3] at e2
    rw [if_neg h1, if_pos (by omega), if_pos (by omega), e2]
theorem rd_set (V : List Int) (i j : Nat) (hj : j < V.length) (v : Int) : rd (V.set i v) (j : Int) = if i = j then v else rd V (j : Int) := by
  have hj2 : j < (V.set i v).length := by rw [List.length_set]; exact hj
  rw [rd_nat hj2, List.getElem_set]
  split
  · rfl
  · rw [rd_nat hj]
theorem put_ev {V K : List Int} {top : Nat} (h : Vals V K top) (hf : Fits K) (ht : top ≤ 1048576) {l : Int} (hl : l.natAbs ≤ top) (h0 : l ≠ 0) (hn : -l ∉ K) : ∃ V', Ev (fun k => depotref06_Put.f k V l) V' ∧ Vals V' (l :: K) top := by
  have hv : (V.length : Int) = (top : Int) + 1 := by have := h.len; omega
  by_cases h1 : l < 0
  · have e1 : wrap64 (-l) = -l := w64 (by omega) (by omega)
    refine ⟨V.set (-l).toNat (-1), ?_, ?_, fun i hi => ?_⟩
    · unfold depotref06_Put.f
      have h2 : -l < (V.length : Int) := by omega
      simp only [h1, if_true, e1, decide_eq_true h2]
      refine Ev.succ ?_
      have h3 : (0 : Int) ≤ -l := by omega
      have h4 : ¬ l ≥ 0 := by omega
      simp only [depotref06_Put.j0, e1, h3, h2, h4, if_true, if_false, Option.bind_some]
      exact Ev.now _
    · rw [List.length_set]; exact h.len
    · rw [rd_set V _ i (by have := h.len; omega)]
      unfold valK
      by_cases hi2 : (-l).toNat = i
      · have e : (i : Int) = -l := by omega
        rw [if_pos hi2, e, Int.neg_neg, if_neg (by simp only [List.mem_cons]; rintro (h5 | h5); omega; exact hn h5), if_pos (by simp)]
      · rw [if_neg hi2, h.at_ i hi]
        have e1 : (i : Int) ≠ l := by omega
        have e2 : -(i : Int) ≠ l := by omega
        unfold valK
        simp only [List.mem_cons, e1, e2, false_or]
  · refine ⟨V.set l.toNat 1, ?_, ?_, fun i hi => ?_⟩
    · unfold depotref06_Put.f
      have h2 : l < (V.length : Int) := by omega
      simp only [h1, if_false]
      refine Ev.succ ?_
      have h3 : (0 : Int) ≤ l := by omega
      have h4 : l ≥ 0 := by omega
      simp only [depotref06_Put.j0, h3, h2, h4, if_true, if_false, Bool.false_eq_true]
      exact Ev.now _
    · rw [List.length_set]; exact h.len
    · rw [rd_set V _ i (by have := h.len; omega)]
      unfold valK
      by_cases hi2 : l.toNat = i
      · have e : (i : Int) = l := by omega
        rw [if_pos hi2, e, if_pos (by simp)]
      · rw [if_neg hi2, h.at_ i hi]
        have e1 : (i : Int) ≠ l := by omega
        have e2 : -(i : Int) ≠ l := by omega
        unfold valK
        simp only [List.mem_cons, e1, e2, false_or]
/-! greatest -/
def topOf (l : List Int) (a : Nat) : Nat := l.foldl (fun a x => max a x.natAbs) a
theorem topOf_ge (l : List Int) : ∀ a, a ≤ topOf l a := by
  induction l with
  | nil => intro a; exact Nat.le_refl _
  | cons x r ih =>
    intro a
    have h1 := ih (max a x.natAbs)
    have : topOf (x :: r) a = topOf r (max a x.natAbs) := rfl
    omega
theorem topOf_mem {l : List Int} {x : Int} (h : x ∈ l) : ∀ a, x.natAbs ≤ topOf l a := by
  induction l with
  | nil => cases h
  | cons y r ih =>
    intro a
    have e : topOf (y :: r) a = topOf r (max a y.natAbs) := rfl
    rcases List.mem_cons.1 h with rfl | h
    · have h1 := topOf_ge r (max a x.natAbs)
      omega
    · rw [e]; exact ih h _
theorem topOf_le {l : List Int} {b : Nat} (h : ∀ x ∈ l, x.natAbs ≤ b) : ∀ a, a ≤ b → topOf l a ≤ b := by
  induction l with
  | nil => intro a ha; exact ha
  | cons y r ih =>
    intro a ha
    have e : topOf (y :: r) a = topOf r (max a y.natAbs) := rfl
    rw [e]
    exact ih (fun x hx => h x (List.mem_cons_of_mem _ hx)) _ (by have := h y List.mem_cons_self; omega)
theorem greatest_l0 (l : List Int) (hb : ∀ x ∈ l, x.natAbs ≤ 1048576) (hn : l.length ≤ 17592186044416) (d : Nat) : ∀ (i a : Nat), i + d = l.length → a ≤ 1048576 → Ev (fun k => depotref06_greatest.l0 k l (a : Int) (i : Int)) ((topOf (l.drop i) a : Nat) : Int) := by
  induction d with
  | zero =>
    intro i a hi ha
    refine Ev.succ ?_
    have h1 : ¬ ((i : Int) < (l.length : Int)) := by omega
    simp only [depotref06_greatest.l0, h1, if_false]
    rw [List.drop_of_length_le (by omega)]
    exact Ev.now _
  | succ d ih =>
    intro i a hi ha
    refine Ev.succ ?_
    have hlt : i < l.length := by omega
    have h1 : (i : Int) < (l.length : Int) := by omega
    have h0 : (0 : Int) ≤ (i : Int) := by omega
    have hx := hb _ (rd_mem hlt)
    have e1 : wrap64 (-(rd l (i : Int))) = -(rd l (i : Int)) := w64 (by omega) (by omega)
    have next := ih (i + 1) (max a (rd l (i : Int)).natAbs) (by omega) (by omega)
    have e2 : topOf (l.drop i) a = topOf (l.drop (i + 1)) (max a (rd l (i : Int)).natAbs) := by rw [drop_rd hlt]; rfl
    rw [e2]
    simp only [depotref06_greatest.l0, h1, h0, if_true, e1, w64s (show (i : Int) < 9223372036854775807 by omega)]
    by_cases c1 : rd l (i : Int) > (a : Int)
    · have c2 : ¬ -(rd l (i : Int)) > rd l (i : Int) := by omega
      simp only [c1, c2, if_true, if_false]
      have e3 : ((max a (rd l (i : Int)).natAbs : Nat) : Int) = rd l (i : Int) := by omega
      rw [e3] at next
      exact next
    · by_cases c2 : -(rd l (i : Int)) > (a : Int)
      · simp only [c1, c2, if_true, if_false]
        have e3 : ((max a (rd l (i : Int)).natAbs : Nat) : Int) = -(rd l (i : Int)) := by omega
        rw [e3] at next
        exact next
      · simp only [c1, c2, if_false]
        have e3 : max a (rd l (i : Int)).natAbs = a := by omega
        rw [e3] at next ⊢
        exact next
theorem greatest_ev (l : List Int) (a : Nat) (hb : ∀ x ∈ l, x.natAbs ≤ 1048576) (hn : l.length ≤ 17592186044416) (ha : a ≤ 1048576) : Ev (fun k => depotref06_greatest.f k l (a : Int)) ((topOf l a : Nat) : Int) := by
  unfold depotref06_greatest.f
  have := greatest_l0 l hb hn l.length 0 a (by omega) ha
  rwa [List.drop_zero] at this
def topAll (cs : List (List Int)) (a : Nat) : Nat := cs.foldl (fun a c => topOf c a) a
theorem topAll_ge (cs : List (List Int)) : ∀ a, a ≤ topAll cs a := by
  induction cs with
  | nil => intro a; exact Nat.le_refl _
  | cons c r ih => intro a; exact Nat.le_trans (topOf_ge c a) (ih _)
theorem topAll_mem {cs : List (List Int)} {c : List Int} (h : c ∈ cs) {x : Int} (hx : x ∈ c) : ∀ a, x.natAbs ≤ topAll cs a := by
  induction cs with
  | nil => cases h
  | cons d r ih =>
    intro a
    rcases List.mem_cons.1 h with rfl | h
    · exact Nat.le_trans (topOf_mem hx a) (topAll_ge r _)
    · exact ih h _
theorem topAll_le {cs : List (List Int)} {b : Nat} (h : ∀ c ∈ cs, ∀ x ∈ c, x.natAbs ≤ b) : ∀ a, a ≤ b → topAll cs a ≤ b := by
  induction cs with
  | nil => intro a ha; exact ha
  | cons c r ih => intro a ha; exact ih (fun d hd => h d (List.mem_cons_of_mem _ hd)) _ (topOf_le (h c List.mem_cons_self) a ha)
theorem values_l0 (v : Int) (cs : List (List Int)) (hb : ∀ c ∈ cs, ∀ x ∈ c, x.natAbs ≤ 1048576) (hn : cs.length ≤ 5864062014805) (hs : ∀ c ∈ cs, c.length ≤ 17592186044416) (d : Nat) : ∀ (i a : Nat), i + d = cs.length → a ≤ 1048576 →
    Ev (fun k => depotref06_Values.l0 k (a : Int) (i : Int) v cs) (List.replicate (topAll (cs.drop i) a + 1) 0) := by
  induction d with
  | zero =>
    intro i a hi ha
    refine Ev.succ ?_
    have h1 : ¬ ((i : Int) < (cs.length : Int)) := by omega
    have e1 : wrap64 ((a : Int) + 1) = ((a + 1 : Nat) : Int) := w64s (by omega)
    have h2 : (0 : Int) ≤ ((a + 1 : Nat) : Int) := by omega
    have h3 : a + 1 ≤ 35184372088832 := by omega
    simp only [depotref06_Values.l0, h1, if_false, e1, h2, if_true, Int.toNat_natCast, h3]
    rw [List.drop_of_length_le (by omega)]
    exact Ev.now _
  | succ d ih =>
    intro i a hi ha
    refine Ev.succ ?_
    have hlt : i < cs.length := by omega
    have h1 : (i : Int) < (cs.length : Int) := by omega
    have h0 : (0 : Int) ≤ (i : Int) := by omega
    have hm := rd_L1_mem hlt
    have e2 : topAll (cs.drop i) a = topAll (cs.drop (i + 1)) (topOf (rd_L1 cs (i : Int)) a) := by
      have e : cs.drop i = rd_L1 cs (i : Int) :: cs.drop (i + 1) := drop_getD hlt
      rw [e]; rfl
    rw [e2]
    simp only [depotref06_Values.l0, h1, h0, if_true, w64s (show (i : Int) < 9223372036854775807 by omega)]
    refine Ev.bind (greatest_ev _ a (hb _ hm) (hs _ hm) ha) ?_
    exact ih (i + 1) _ (by omega) (topOf_le (hb _ hm) a ha)
theorem values_ev (v : Int) (cs : List (List Int)) (facts : List Int) (hb : ∀ c ∈ cs, ∀ x ∈ c, x.natAbs ≤ 1048576) (hn : cs.length ≤ 5864062014805) (hs : ∀ c ∈ cs, c.length ≤ 17592186044416) (hf : ∀ x ∈ facts, x.natAbs ≤ 1048576) (hl : facts.length ≤ 17592186044416) :
    Ev (fun k => depotref06_Values.f k v cs facts) (List.replicate (topAll cs (topOf facts 0) + 1) 0) := by
  unfold depotref06_Values.f
  refine Ev.bind (greatest_ev facts 0 hf hl (by omega)) ?_
  have := values_l0 v cs hb hn hs cs.length 0 (topOf facts 0) (by omega) (topOf_le hf 0 (by omega))
  rwa [List.drop_zero] at this
theorem vals_zero (top : Nat) : Vals (List.replicate (top + 1) 0) [] top := ⟨List.length_replicate, fun i hi => by
  have hl : i < (List.replicate (top + 1) (0 : Int)).length := by rw [List.length_replicate]; omega
  rw [rd_nat hl, List.getElem_replicate]; simp [valK]⟩
theorem fits_cons {K : List Int} {l : Int} (h : Fits K) (h0 : l ≠ 0) (hn : -l ∉ K) : Fits (l :: K) := by
  refine ⟨by simp only [List.mem_cons, not_or]; exact ⟨fun e => h0 e.symm, h.1⟩, fun x hx => ?_⟩
  simp only [List.mem_cons, not_or] at hx ⊢
  rcases hx with rfl | hx
  · exact ⟨by omega, hn⟩
  · refine ⟨fun e => hn (by rw [← e, Int.neg_neg]; exact hx), h.2 x hx⟩
/-! given -/
theorem given_l0 (facts : List Int) (top : Nat) (ht : top ≤ 1048576) (hl : facts.length ≤ 17592186044416) (hb : ∀ x ∈ facts, x.natAbs ≤ top ∧ x ≠ 0) (d : Nat) : ∀ (i : Nat) (V K : List Int), i + d = facts.length → Vals V K top → Fits K →
    ∃ V' b, Ev (fun k => depotref06_given.l0 k facts V (i : Int)) (V', b) ∧ (b = true ↔ Fits ((facts.drop i).reverse ++ K)) ∧ (b = true → Vals V' ((facts.drop i).reverse ++ K) top) := by
  induction d with
  | zero =>
    intro i V K hi hV hK
    refine ⟨V, true, ?_, ?_⟩
    · refine Ev.succ ?_
      have h1 : ¬ ((i : Int) < (facts.length : Int)) := by omega
      simp only [depotref06_given.l0, h1, if_false]
      exact Ev.now _
    · rw [List.drop_of_length_le (by omega)]
      exact ⟨⟨fun _ => hK, fun _ => rfl⟩, fun _ => hV⟩
  | succ d ih =>
    intro i V K hi hV hK
    have hlt : i < facts.length := by omega
    have h1 : (i : Int) < (facts.length : Int) := by omega
    have h0 : (0 : Int) ≤ (i : Int) := by omega
    obtain ⟨hx, hx0⟩ := hb _ (rd_mem hlt)
    have hd : (facts.drop i).reverse ++ K = (facts.drop (i + 1)).reverse ++ (rd facts (i : Int) :: K) := by rw [drop_rd hlt]; simp
    rw [hd]
    by_cases hn : -(rd facts (i : Int)) ∈ K
    · refine ⟨V, false, ?_, ⟨fun h => Bool.noConfusion h, fun h => ?_⟩, fun h => Bool.noConfusion h⟩
      · refine Ev.succ ?_
        have hv : valK K (rd facts (i : Int)) = -1 := by
          unfold valK
          rw [if_neg, if_pos hn]
          intro h2
          exact hK.2 _ h2 hn
        simp only [depotref06_given.l0, h1, h0, if_true, value_eq hV hK ht hx, Option.bind_some, hv]
        exact Ev.now _
      · exact absurd (List.mem_append_right _ (List.mem_cons_of_mem _ hn)) (h.2 _ (List.mem_append_right _ List.mem_cons_self))
    · obtain ⟨V1, hE, hV1⟩ := put_ev hV hK ht hx hx0 hn
      obtain ⟨V', b, h2, h3, h4⟩ := ih (i + 1) V1 _ (by omega) hV1 (fits_cons hK hx0 hn)
      refine ⟨V', b, ?_, h3, h4⟩
      refine Ev.succ ?_
      have hv : ¬ valK K (rd facts (i : Int)) = -1 := by
        unfold valK
        rw [if_neg hn]
        split <;> omega
      simp only [depotref06_given.l0, h1, h0, if_true, value_eq hV hK ht hx, Option.bind_some, hv, if_false, w64s (show (i : Int) < 9223372036854775807 by omega)]
      exact Ev.bind hE h2
/-! Stands, first -/
theorem stands_l0 {V K : List Int} {top : Nat} (hV : Vals V K top) (hK : Fits K) (ht : top ≤ 1048576) (c : List Int) (hn : c.length ≤ 17592186044416) (hc : ∀ x ∈ c, x.natAbs ≤ top ∧ x ≠ 0) (d : Nat) : ∀ (i : Nat) (o : Int), i + d = c.length → Ev (fun k => depotref06_Stands.l0 k c V o (i : Int)) (standGo K (c.drop i) o) := by
  induction d with
  | zero =>
    intro i o hi
    refine Ev.succ ?_
    have h1 : ¬ ((i : Int) < (c.length : Int)) := by omega
    simp only [depotref06_Stands.l0, h1, if_false]
    rw [List.drop_of_length_le (by omega)]
    simp only [standGo]
    split <;> exact Ev.now _
  | succ d ih =>
    intro i o hi
    have hlt : i < c.length := by omega
    have h1 : (i : Int) < (c.length : Int) := by omega
    have h0 : (0 : Int) ≤ (i : Int) := by omega
    obtain ⟨hx, hx0⟩ := hc _ (rd_mem hlt)
    rw [drop_rd hlt]
    simp only [standGo]
    refine Ev.succ ?_
    simp only [depotref06_Stands.l0, h1, h0, if_true, value_eq hV hK ht hx, Option.bind_some]
    have w1 := w64s (show (i : Int) < 9223372036854775807 by omega)
    by_cases m1 : rd c (i : Int) ∈ K
    · have hv : valK K (rd c (i : Int)) = 1 := by unfold valK; rw [if_pos m1]
      simp only [hv, m1, if_true]
      exact Ev.now _
    · by_cases m2 : -(rd c (i : Int)) ∈ K
      · have hv : valK K (rd c (i : Int)) = -1 := by unfold valK; rw [if_neg m1, if_pos m2]
        have e1 : ¬ (-1 : Int) = 1 := by omega
        have e2 : ¬ (-1 : Int) = 0 := by omega
        simp only [hv, m1, m2, e1, e2, if_true, if_false]
        refine Ev.succ ?_
        simp only [depotref06_Stands.j1, e2, if_false, Bool.false_eq_true, w1]
        exact ih (i + 1) o (by omega)
      · have hv : valK K (rd c (i : Int)) = 0 := by unfold valK; rw [if_neg m1, if_neg m2]
        have e1 : ¬ (0 : Int) = 1 := by omega
        simp only [hv, m1, m2, e1, if_true, if_false]
        by_cases o0 : o = 0
        · have e3 : ¬ (o ≠ 0 ∧ o ≠ rd c (i : Int)) := fun h => h.1 o0
          simp only [o0, if_true, e3, if_false]
          have e4 : ¬ ((0 : Int) ≠ 0 ∧ (0 : Int) ≠ rd c (i : Int)) := fun h => h.1 rfl
          simp only [e4, if_false]
          refine Ev.succ ?_
          simp only [depotref06_Stands.j1, h0, h1, if_true, if_false, Bool.false_eq_true, w1]
          exact ih (i + 1) _ (by omega)
        · simp only [o0, if_false]
          by_cases o1 : o = rd c (i : Int)
          · have e3 : ¬ (o ≠ 0 ∧ o ≠ rd c (i : Int)) := fun h => h.2 o1
            have e4 : (o != rd c (i : Int)) = false := by simp [o1]
            simp only [e3, if_false, e4]
            refine Ev.succ ?_
            simp only [depotref06_Stands.j1, h0, h1, if_true, if_false, Bool.false_eq_true, w1]
            exact ih (i + 1) _ (by omega)
          · have e3 : o ≠ 0 ∧ o ≠ rd c (i : Int) := ⟨o0, o1⟩
            have e4 : (o != rd c (i : Int)) = true := by simp [o1]
            rw [if_pos e3, e4]
            refine Ev.succ ?_
            simp only [depotref06_Stands.j1, if_true]
            exact Ev.now _
theorem first_l0 {V K : List Int} {top : Nat} (v : Int) (hV : Vals V K top) (hK : Fits K) (ht : top ≤ 1048576) (cs : List (List Int)) (hn : cs.length ≤ 5864062014805) (hs : ∀ c ∈ cs, c.length ≤ 17592186044416) (hc : ∀ c ∈ cs, ∀ x ∈ c, x.natAbs ≤ top ∧ x ≠ 0) (d : Nat) : ∀ i : Nat, i + d = cs.length → Ev (fun k => depotref06_first.l0 k V (i : Int) v cs) (firstGo K (cs.drop i) (i : Int)) := by
  induction d with
  | zero =>
    intro i hi
    refine Ev.succ ?_
    have h1 : ¬ ((i : Int) < (cs.length : Int)) := by omega
    simp only [depotref06_first.l0, h1, if_false]
    rw [List.drop_of_length_le (by omega)]
    exact Ev.now _
  | succ d ih =>
    intro i hi
    have hlt : i < cs.length := by omega
    have h1 : (i : Int) < (cs.length : Int) := by omega
    have h0 : (0 : Int) ≤ (i : Int) := by omega
    have hm := rd_L1_mem hlt
    have e : cs.drop i = rd_L1 cs (i : Int) :: cs.drop (i + 1) := drop_getD hlt
    rw [e]
    simp only [firstGo]
    refine Ev.succ ?_
    simp only [depotref06_first.l0, h1, h0, if_true]
    have hst := stands_l0 hV hK ht (rd_L1 cs (i : Int)) (hs _ hm) (hc _ hm) (rd_L1 cs (i : Int)).length 0 0 (by omega)
    rw [List.drop_zero] at hst
    refine Ev.bind (show Ev (fun k => depotref06_Stands.f k (rd_L1 cs (i : Int)) V) _ from hst) ?_
    generalize standGo K (rd_L1 cs (i : Int)) 0 = q
    by_cases c2 : q.1 = 2
    · simp only [c2, if_true, true_or]
      exact Ev.now _
    · by_cases c3 : q.1 = 3
      · simp only [c2, c3, if_true, if_false, or_true]
        have e5 : ¬ (3 : Int) = 2 := by omega
        simp only [e5, if_false]
        exact Ev.now _
      · simp only [c2, c3, if_false, or_self, w64s (show (i : Int) < 9223372036854775807 by omega)]
        exact ih (i + 1) (by omega)
/-! Why -/
def causes (l : List (Int × Int)) : List S129 := l.map fun p => ⟨p.1, p.2⟩
theorem why_l0 (v v2 : Int) (cs : List (List Int)) (top : Nat) (ht : top ≤ 1048576) (hn : cs.length ≤ 5864062014805) (hs : ∀ c ∈ cs, c.length ≤ 17592186044416) (hc : ∀ c ∈ cs, ∀ x ∈ c, x.natAbs ≤ top ∧ x ≠ 0) : ∀ (n : Nat) (V K : List Int) (acc : List (Int × Int)) (r : List (Int × Int) × Int), Vals V K top → Fits K → acc.length + n ≤ 1048577 → whyGo cs n K acc = some r →
    Ev (fun k => depotref06_Why.l0 k V (causes acc) v cs) (causes r.1, r.2, 0) := by
  intro n
  induction n with
  | zero => intro V K acc r _ _ _ h; simp [whyGo] at h
  | succ n ih =>
    intro V K acc r hV hK ha h
    have hfst := first_l0 v hV hK ht cs hn hs hc cs.length 0 (by omega)
    rw [List.drop_zero, show ((0 : Nat) : Int) = 0 from rfl] at hfst
    refine Ev.succ ?_
    simp only [depotref06_Why.l0]
    refine Ev.bind (show Ev (fun k => depotref06_first.f k v cs V) _ from hfst) ?_
    simp only [whyGo] at h
    show Ev (fun k => if (firstGo K cs 0).2.1 = 2 then _ else _) _
    by_cases c2 : (firstGo K cs 0).2.1 = 2
    · rw [if_pos c2] at h
      obtain rfl := Option.some.inj h
      simp only [c2, if_true]
      exact Ev.now _
    · rw [if_neg c2] at h
      by_cases c3 : (firstGo K cs 0).2.1 = 3
      · rw [if_pos c3] at h
        obtain ⟨c, h1, h2, h3, h4⟩ := firstGo_unit K cs 0 c3
        obtain ⟨hx, hx0⟩ := hc c h1 _ h2
        obtain ⟨V1, hE, hV1⟩ := put_ev hV hK ht hx hx0 h4
        have e5 : ¬ (3 : Int) = 2 := by omega
        have e6 : (causes acc).length < 8796093022208 := by unfold causes; rw [List.length_map]; omega
        simp only [c3, e5, if_true, if_false]
        refine Ev.bind hE ?_
        simp only [e6, if_true]
        have next := ih V1 _ _ r hV1 (fits_cons hK hx0 h4) (by rw [List.length_append, List.length_singleton]; omega) h
        unfold causes at next ⊢
        rw [List.map_append] at next
        exact next
      · rw [if_neg c3] at h
        obtain rfl := Option.some.inj h
        simp only [c2, c3, if_false]
        exact Ev.now _
theorem whyGo_congr (cs : List (List Int)) : ∀ (n : Nat) (K K' : List Int) (acc : List (Int × Int)), (∀ x, x ∈ K ↔ x ∈ K') → whyGo cs n K acc = whyGo cs n K' acc := by
  have h1 : ∀ (K K' : List Int), (∀ x, x ∈ K ↔ x ∈ K') → ∀ c o, standGo K c o = standGo K' c o := by
    intro K K' e c
    induction c with
    | nil => intro o; rfl
    | cons x r ih => intro o; simp only [standGo, e, ih]
  have h2 : ∀ (K K' : List Int), (∀ x, x ∈ K ↔ x ∈ K') → ∀ cs i, firstGo K cs i = firstGo K' cs i := by
    intro K K' e cs
    induction cs with
    | nil => intro i; rfl
    | cons c r ih => intro i; simp only [firstGo, h1 K K' e, ih]
  intro n
  induction n with
  | zero => intro K K' acc e; rfl
  | succ n ih =>
    intro K K' acc e
    simp only [whyGo, h2 K K' e]
    rw [ih _ ((firstGo K' cs 0).2.2 :: K') _ fun x => by simp only [List.mem_cons, e]]
theorem fits_iff {facts : List Int} (hs : sound facts = true) : Fits facts ↔ tautIn (tidyOf facts) = false := by
  constructor
  · intro h
    cases ht : tautIn (tidyOf facts) with
    | false => rfl
    | true =>
      obtain ⟨x, h1, h2⟩ := (tautIn_iff _ (rising_tidyOf facts) (fun _ h => tidyOf_formed h)).1 ht
      exact absurd ((mem_tidyOf _ _).1 h2).1 (h.2 x ((mem_tidyOf _ _).1 h1).1)
  · intro h
    refine ⟨fun h0 => ?_, fun x hx hx2 => ?_⟩
    · have := sound_mem hs h0
      cases this
    · have h1 : tautIn (tidyOf facts) = true := (tautIn_iff (tidyOf facts) (rising_tidyOf facts) (fun _ h => tidyOf_formed h)).2 ⟨x, (mem_tidyOf x facts).2 ⟨hx, sound_mem hs hx⟩, (mem_tidyOf (-x) facts).2 ⟨hx2, sound_mem hs hx2⟩⟩
      rw [h] at h1
      cases h1
theorem why_ev (v : Int) (cs : List (List Int)) (facts : List Int) (hn : cs.length ≤ 5864062014805) (hs : ∀ c ∈ cs, c.length ≤ 17592186044416) (hl : facts.length ≤ 17592186044416) : Ev (fun k => depotref06_Why.f k v cs facts) (causes (whyOf v cs facts).1, (whyOf v cs facts).2.1, (whyOf v cs facts).2.2) := by
  unfold depotref06_Why.f whyOf
  refine Ev.bind (depotref02_Formed_ev v cs (by omega) hs) ?_
  cases h1 : isFormula v cs with
  | false =>
    simp only [Bool.false_and, Bool.false_eq_true, if_false]
    refine Ev.succ ?_
    simp only [depotref06_Why.j0, if_true]
    exact Ev.now _
  | true =>
    simp only [Bool.true_and, if_true]
    refine Ev.bind (depotref01_Sound_ev facts hl) ?_
    refine Ev.succ ?_
    cases h2 : sound facts with
    | false =>
      simp only [depotref06_Why.j0, Bool.not_false, Bool.false_eq_true, if_true, if_false]
      exact Ev.now _
    | true =>
      simp only [depotref06_Why.j0, Bool.not_true, Bool.false_eq_true, if_true, if_false]
      have hbc : ∀ c ∈ cs, ∀ x ∈ c, x.natAbs ≤ 1048576 ∧ x ≠ 0 := fun c hc x hx => by
        have h3 := formed_iff.1 (within_lit (isFormula_clause h1 hc) hx).1
        omega
      have hbf : ∀ x ∈ facts, x.natAbs ≤ 1048576 ∧ x ≠ 0 := fun x hx => by
        have h3 := formed_iff.1 (sound_mem h2 hx)
        omega
      have hV := values_ev v cs facts (fun c hc x hx => (hbc c hc x hx).1) hn hs (fun x hx => (hbf x hx).1) hl
      obtain ⟨top, htop⟩ : ∃ t, t = topAll cs (topOf facts 0) := ⟨_, rfl⟩
      have ht : top ≤ 1048576 := by rw [htop]; exact topAll_le (fun c hc x hx => (hbc c hc x hx).1) _ (topOf_le (fun x hx => (hbf x hx).1) 0 (by omega))
      have hc2 : ∀ c ∈ cs, ∀ x ∈ c, x.natAbs ≤ top ∧ x ≠ 0 := fun c hc x hx => ⟨by rw [htop]; exact topAll_mem hc hx _, (hbc c hc x hx).2⟩
      have hf2 : ∀ x ∈ facts, x.natAbs ≤ top ∧ x ≠ 0 := fun x hx => ⟨by rw [htop]; exact Nat.le_trans (topOf_mem hx 0) (topAll_ge cs _), (hbf x hx).2⟩
      rw [← htop] at hV
      obtain ⟨V', b, h3, h4, h5⟩ := given_l0 facts top ht hl hf2 facts.length 0 _ [] (by omega) (vals_zero top) ⟨by simp, by simp⟩
      rw [List.drop_zero, List.append_nil] at h4 h5
      have hg : Ev (fun k => depotref06_given.f k v cs facts) (V', b) := by
        unfold depotref06_given.f
        exact Ev.bind hV h3
      refine Ev.bind hg ?_
      have e : ∀ x, x ∈ facts.reverse ↔ x ∈ facts := fun x => List.mem_reverse
      have hF : Fits facts.reverse ↔ Fits facts := by unfold Fits; simp only [e]
      rw [hF, fits_iff h2] at h4
      cases hb : b with
      | false =>
        have ht2 : tautIn (tidyOf facts) = true := by
          cases h6 : tautIn (tidyOf facts) with
          | true => rfl
          | false => rw [h6] at h4; rw [h4.2 rfl] at hb; cases hb
        simp only [ht2, Bool.false_eq_true, if_false, if_true]
        exact Ev.now _
      | true =>
        have ht2 := h4.1 hb
        obtain ⟨r, hr⟩ := why_some h1 facts
        rw [ht2, hr]
        simp only [Bool.false_eq_true, if_true, if_false, Option.getD_some]
        exact why_l0 v v cs top ht hn hs hc2 1048577 V' facts [] r ((h5 hb).congr e) ((fits_iff h2).2 ht2) (by simp) hr
/-! same -/
theorem same_l0 (a b : List S129) (hn : a.length ≤ 17592186044416) (hab : a = b) (d : Nat) : ∀ i : Nat, i + d = a.length → Ev (fun k => depotlaw06_same.l0 k a b (i : Int)) true := by
  subst hab
  induction d with
  | zero =>
    intro i hi
    refine Ev.succ ?_
    have h1 : ¬ ((i : Int) < (a.length : Int)) := by omega
    simp only [depotlaw06_same.l0, h1, if_false]
    exact Ev.now _
  | succ d ih =>
    intro i hi
    refine Ev.succ ?_
    have h1 : (i : Int) < (a.length : Int) := by omega
    have h0 : (0 : Int) ≤ (i : Int) := by omega
    simp only [depotlaw06_same.l0, h1, h0, if_true, beq_self_eq_true, Bool.not_true, Bool.or_self, Bool.false_eq_true, if_false, w64s (show (i : Int) < 9223372036854775807 by omega)]
    exact ih (i + 1) (by omega)
theorem same_ev (a : List S129) (hn : a.length ≤ 17592186044416) : Ev (fun k => depotlaw06_same.f k a a) true := by
  unfold depotlaw06_same.f
  simp only [if_true]
  exact same_l0 a a hn rfl a.length 0 (by omega)
end Go.Proofs.Ytkkkbcjmkmadhaa.PUnitWhys
/-! text YtkkkbcjmkmadhaaUnitClip -/
namespace Go.Proofs.YtkkkbcjmkmadhaaHand
open Go.RowKit Go.Proofs.YtkkkbcjmkmadhaaW.PrintWords Go.Proofs.YtkkkbcjmkmadhaaW.PrintLast Go.Proofs.YtkkkbcjmkmadhaaMath
set_option linter.unusedVariables false
set_option linter.unusedSimpArgs false
set_option maxHeartbeats 4000000 in
theorem clip_calls (A : Option Addr) (n c : Nat) (w : World) (h : n ≤ c) : Calls Try.prog 84 #[.slice A n c] w fun e w' => e = .returned (.slice A n n) ∧ w' = w := by
  have p1 : (0 : Int) ≤ (n : Int) := by omega
  have p2 : (n : Int) ≤ (c : Int) := by omega
  go_enter Try.func84, Try.ntmps84
  go_wp2
  go_ret
  exact ⟨rfl, rfl⟩
end Go.Proofs.YtkkkbcjmkmadhaaHand
/-! text YtkkkbcjmkmadhaaLaid0 -/
namespace Go.Proofs.YtkkkbcjmkmadhaaHand
open Go.RowKit Go.Proofs.YtkkkbcjmkmadhaaW.PrintWords Go.Proofs.YtkkkbcjmkmadhaaW.PrintLast Go.Proofs.YtkkkbcjmkmadhaaMath
set_option linter.unusedVariables false
set_option linter.unusedSimpArgs false

theorem infoRow : (Try.prog.info? 27).map (fun i => (i.zero, i.size, i.bytes)) = some (some (.slice none 0 0), 1, 24) := by kernel_rfl
theorem row_at {w : World} {A : Option Addr} {n : Nat} {xs : List (List Int)} (h : Kd.C (Kd.slice 3 (Kd.int .i64)) w A n xs) (i : Int) (h0 : 0 ≤ i) (h1 : i < n) : ∃ ad A0 c0, A = some ad ∧ w.cell? (ad.add i.toNat) = some (.slice A0 (xs.getD i.toNat []).length c0) ∧ (xs.getD i.toNat []).length ≤ c0 ∧ (Kd.int .i64).C w A0 (xs.getD i.toNat []).length (xs.getD i.toNat []) := by
  obtain ⟨ad, c, e, _, hK, hc0⟩ := Kd.C_get h ([] : List Int) i h0 h1
  have hc : ∀ j u, c[j]? = some u → w.cell? (ad.add (i.toNat * 1 + j)) = some u := hc0
  obtain ⟨A0, c0, rfl, l0, g0⟩ := hK
  exact ⟨ad, A0, c0, e, by have hq := hc 0 _ rfl; rwa [Nat.mul_one, Nat.add_zero] at hq, l0, g0⟩
theorem below_grown_none {W W1 : World} (hg : W.grownBy W1 (Value.slice none 0 0).ownBlock) : Below W.heap.size W W1 := ⟨hg.os, hg.tape, hg.output, hg.size, fun k hk => hg.block k hk (by simp [Value.ownBlock])⟩
theorem elder {n k : Nat} {v1 : Value} (hat : v1.ownBlock = (Value.slice none 0 0).ownBlock ∨ ∃ b, v1.ownBlock = some b ∧ n ≤ b) (hk : v1.ownBlock = some k) : n ≤ k := by
  rcases hat with h | ⟨b, h, hb⟩
  · rw [hk] at h; simp [Value.ownBlock] at h
  · rw [hk] at h; cases h; exact hb
def rowAt (xs : List (List Int)) (i : Int) : List Int := xs.getD i.toNat []

end Go.Proofs.YtkkkbcjmkmadhaaHand
