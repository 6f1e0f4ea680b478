/- The statement of LitsSets over numbers and lists. -/
import Derived.Test.YtamefocngapkpaaStatLitsSets
import Derived.Test.YtamefocngapkpaaLibLitsSets
namespace Go.Proofs.Ytamefocngapkpaa.Pure
open Go.RowKit Go.Proofs.Ytamefocngapkpaa.PLitsSets Go.Proofs.YtamefocngapkpaaW.PrintWords Go.Proofs.YtamefocngapkpaaW.PrintLast Go.Proofs.YtamefocngapkpaaOpens Go.Proofs.YtamefocngapkpaaMath
set_option linter.unusedVariables false
set_option linter.unusedSimpArgs false

abbrev wo (c : List Int) (l : Int) : List Int := (tidyOf c).filter fun x => !(x == l)
theorem tidy_small (c : List Int) : (tidyOf c).length ≤ 2097152 := formed_count (tidyOf c) (rising_tidyOf _) (fun _ h => tidyOf_formed h)
theorem wo_small (c : List Int) (l : Int) : (wo c l).length ≤ 2097152 := Nat.le_trans (List.length_filter_le _ _) (tidy_small c)
theorem one_tidy : tidyOf [3, -1, 3] = [-1, 3] := by
  simp [tidyOf, ins, formed, idxOf]

theorem sets_end (c d : List Int) (l : Int) (hc : c.length < 17592186044416) (hd : d.length < 17592186044416) (n : Nat) :
    ∀ i : Nat, i + n = (tidyOf (c ++ d)).length → Ev (fun k => depotlaw01_LitsSets.l3 k c d (tidyOf c) (wo c l) (tidyOf (c ++ d)) (i : Int)) true := by
  have t1 := tidy_small c
  have t2 := tidy_small (c ++ d)
  have t3 := wo_small c l
  induction n with
  | zero =>
    intro i hi
    refine Ev.succ ?_
    have h1 : ¬ ((i : Int) < ((tidyOf (c ++ d)).length : Int)) := by omega
    simp only [depotlaw01_LitsSets.l3, h1, if_false]
    have ct := depotlaw01_copied_eq (show (tidyOf c).length < 17592186044416 by omega)
    have cj := depotlaw01_copied_eq (show (tidyOf (c ++ d)).length < 17592186044416 by omega)
    have cw := depotlaw01_copied_eq (show (wo c l).length < 17592186044416 by omega)
    refine Ev.bound ct (Ev.bound (lits_Tidy_eq (by omega)) (Ev.bound (lits_Tidy_eq (by simp)) ?_))
    rw [tidyOf_tidyOf, one_tidy]
    refine Ev.bind (depotlaw01_same_ev _ _ (by omega)) ?_
    simp only [beq_self_eq_true, if_true]
    refine Ev.bound ct (Ev.bind (lits_Join_ev (l := tidyOf c) (m := []) (by simp only [List.length_nil]; omega)) ?_)
    rw [List.append_nil, tidyOf_tidyOf]
    refine Ev.bind (depotlaw01_same_ev _ _ (by omega)) ?_
    simp only [beq_self_eq_true, if_true]
    refine Ev.bound cj (Ev.bound (lits_Tidy_eq (by omega)) ?_)
    rw [tidyOf_tidyOf]
    refine Ev.bind (depotlaw01_same_ev _ _ (by omega)) ?_
    simp only [beq_self_eq_true, if_true]
    refine Ev.bound cw (Ev.bound (lits_Tidy_eq (by omega)) ?_)
    rw [withoutOf_tidy]
    refine Ev.bind (depotlaw01_same_ev (wo c l) (wo c l) (by omega)) ?_
    simp only [beq_self_eq_true, if_true]
    exact Ev.bind (depotlaw01_same_ev _ _ (by simp)) (Ev.now _)
  | succ n ih =>
    intro i hi
    have hlt : i < (tidyOf (c ++ d)).length := by omega
    refine Ev.succ ?_
    have h1 : (i : Int) < ((tidyOf (c ++ d)).length : Int) := by omega
    have h0 : (0 : Int) ≤ (i : Int) := by omega
    have hm := ((mem_tidyOf _ _).1 (rd_mem hlt)).1
    simp only [depotlaw01_LitsSets.l3, h1, h0, if_true, w64s (show (i : Int) < 9223372036854775807 by omega)]
    refine Ev.bind (depotlaw01_within_ev c _ (by omega)) ?_
    cases hw : c.contains (rd (tidyOf (c ++ d)) (i : Int)) with
    | true =>
      simp only [if_true]
      exact ih (i + 1) (by omega)
    | false =>
      simp only [Bool.false_eq_true, if_false]
      refine Ev.bind (depotlaw01_within_ev d _ (by omega)) ?_
      have : d.contains (rd (tidyOf (c ++ d)) (i : Int)) = true := by
        rcases List.mem_append.1 hm with h | h
        · rw [List.contains_iff_mem.2 h] at hw
          cases hw
        · exact List.contains_iff_mem.2 h
      rw [this]
      simp only [if_true]
      exact ih (i + 1) (by omega)

theorem sets_l2 (c d : List Int) (l : Int) (hc : c.length < 17592186044416) (hd : d.length < 17592186044416) (n : Nat) :
    ∀ i : Nat, i + n = d.length → Ev (fun k => depotlaw01_LitsSets.l2 k c d (tidyOf c) (wo c l) (tidyOf (c ++ d)) (i : Int)) true := by
  have t2 := tidy_small (c ++ d)
  induction n with
  | zero =>
    intro i hi
    refine Ev.succ ?_
    have h1 : ¬ ((i : Int) < (d.length : Int)) := by omega
    simp only [depotlaw01_LitsSets.l2, h1, if_false]
    exact sets_end c d l hc hd _ 0 (Nat.zero_add _)
  | succ n ih =>
    intro i hi
    have hlt : i < d.length := by omega
    refine Ev.succ ?_
    have h1 : (i : Int) < (d.length : Int) := by omega
    have h0 : (0 : Int) ≤ (i : Int) := by omega
    have hm := rd_mem hlt
    simp only [depotlaw01_LitsSets.l2, h1, h0, if_true, w64s (show (i : Int) < 9223372036854775807 by omega)]
    refine Ev.bind (depotlaw01_within_ev _ _ (by omega)) (Ev.bound (lits_Formed_eq _) ?_)
    have e : (tidyOf (c ++ d)).contains (rd d (i : Int)) = formed (rd d (i : Int)) := by
      rw [Bool.eq_iff_iff, List.contains_iff_mem, mem_tidyOf]
      exact ⟨fun h => h.2, fun h => ⟨List.mem_append_right _ hm, h⟩⟩
    rw [e]
    simp only [bne_self_eq_false, Bool.false_eq_true, if_false]
    exact ih (i + 1) (by omega)

theorem sets_l1 (c d : List Int) (l : Int) (hc : c.length < 17592186044416) (hd : d.length < 17592186044416) (n : Nat) :
    ∀ i : Nat, i + n = c.length → Ev (fun k => depotlaw01_LitsSets.l1 k c d l (tidyOf c) (wo c l) (tidyOf (c ++ d)) (i : Int)) true := by
  have t1 := tidy_small c
  have t2 := tidy_small (c ++ d)
  have t3 := wo_small c l
  induction n with
  | zero =>
    intro i hi
    refine Ev.succ ?_
    have h1 : ¬ ((i : Int) < (c.length : Int)) := by omega
    simp only [depotlaw01_LitsSets.l1, h1, if_false]
    exact sets_l2 c d l hc hd _ 0 (Nat.zero_add _)
  | succ n ih =>
    intro i hi
    have hlt : i < c.length := by omega
    refine Ev.succ ?_
    have h1 : (i : Int) < (c.length : Int) := by omega
    have h0 : (0 : Int) ≤ (i : Int) := by omega
    have hm := rd_mem hlt
    simp only [depotlaw01_LitsSets.l1, h1, h0, if_true, w64s (show (i : Int) < 9223372036854775807 by omega)]
    refine Ev.bound (lits_Formed_eq _) (Ev.bind (depotlaw01_within_ev _ _ (by omega)) ?_)
    have e1 : (tidyOf c).contains (rd c (i : Int)) = formed (rd c (i : Int)) := by
      rw [Bool.eq_iff_iff, List.contains_iff_mem, mem_tidyOf]
      exact ⟨fun h => h.2, fun h => ⟨hm, h⟩⟩
    have e2 : (tidyOf (c ++ d)).contains (rd c (i : Int)) = formed (rd c (i : Int)) := by
      rw [Bool.eq_iff_iff, List.contains_iff_mem, mem_tidyOf]
      exact ⟨fun h => h.2, fun h => ⟨List.mem_append_left _ hm, h⟩⟩
    have e3 : (wo c l).contains (rd c (i : Int)) = (formed (rd c (i : Int)) && (rd c (i : Int) != l)) := by
      rw [Bool.eq_iff_iff, List.contains_iff_mem, List.mem_filter, mem_tidyOf, Bool.and_eq_true]
      exact ⟨fun h => ⟨h.1.2, h.2⟩, fun h => ⟨⟨hm, h.1⟩, h.2⟩⟩
    rw [e1]
    simp only [bne_self_eq_false, Bool.false_eq_true, if_false]
    refine Ev.bind (depotlaw01_within_ev _ _ (by omega)) ?_
    rw [e2]
    simp only [bne_self_eq_false, Bool.false_eq_true, if_false]
    refine Ev.bind (depotlaw01_within_ev _ _ (by omega)) ?_
    rw [e3]
    cases formed (rd c (i : Int)) with
    | true =>
      simp only [if_true, Bool.true_and, bne_self_eq_false, Bool.false_eq_true, if_false]
      exact ih (i + 1) (by omega)
    | false =>
      simp only [Bool.false_eq_true, if_false, Bool.false_and, bne_self_eq_false]
      exact ih (i + 1) (by omega)

theorem sets_l0 (c d : List Int) (l : Int) (hc : c.length < 17592186044416) (hd : d.length < 17592186044416) (n : Nat) :
    ∀ (i : Nat) (last : Int), i + n = (tidyOf c).length → (∀ x ∈ (tidyOf c).drop i, last < idxOf x) → Ev (fun k => depotlaw01_LitsSets.l0 k c d l (tidyOf c) (wo c l) (tidyOf (c ++ d)) last (i : Int)) true := by
  have t1 := tidy_small c
  induction n with
  | zero =>
    intro i last hi hl
    refine Ev.succ ?_
    have h1 : ¬ ((i : Int) < ((tidyOf c).length : Int)) := by omega
    simp only [depotlaw01_LitsSets.l0, h1, if_false]
    exact sets_l1 c d l hc hd _ 0 (Nat.zero_add _)
  | succ n ih =>
    intro i last hi hl
    have hlt : i < (tidyOf c).length := by omega
    refine Ev.succ ?_
    have h1 : (i : Int) < ((tidyOf c).length : Int) := by omega
    have h0 : (0 : Int) ≤ (i : Int) := by omega
    have hm := ((mem_tidyOf _ _).1 (rd_mem hlt)).1
    have hr : Rising ((tidyOf c).drop i) := List.Pairwise.drop (rising_tidyOf c)
    rw [drop_rd hlt] at hl hr
    obtain ⟨r1, r2⟩ := List.pairwise_cons.1 hr
    have hlast := hl _ (List.mem_cons_self ..)
    simp only [depotlaw01_LitsSets.l0, h1, h0, if_true, w64s (show (i : Int) < 9223372036854775807 by omega)]
    refine Ev.bound (lits_Index_eq _) ?_
    have h2 : ¬ idxOf (rd (tidyOf c) (i : Int)) ≤ last := by omega
    simp only [h2, if_false]
    refine Ev.bind (depotlaw01_within_ev _ _ (by omega)) ?_
    rw [List.contains_iff_mem.2 hm]
    simp only [if_true]
    exact ih (i + 1) _ (by omega) r1

theorem LitsSets : PLitsSets.Stmt := by
  intro c d l h0 h1 hl
  have n0 : c.length < 17592186044416 := by have := h0.1; omega
  have n1 : d.length < 17592186044416 := by have := h1.1; omega
  have c0 := depotlaw01_copied_eq n0
  have c1 := depotlaw01_copied_eq n1
  refine Ev.rounds ?_
  unfold depotlaw01_LitsSets.f
  refine Ev.bound c0 (Ev.bound (lits_Tidy_eq (by omega)) (Ev.bound c0 (Ev.bind (lits_Without_ev l (by omega)) (Ev.bound c0 (Ev.bound c1 (Ev.bind (lits_Join_ev (by omega)) ?_))))))
  refine sets_l0 c d l n0 n1 _ 0 (-1) (Nat.zero_add _) fun x hx => ?_
  have := idx_formed (tidyOf_formed (List.mem_of_mem_drop hx))
  omega

end Go.Proofs.Ytamefocngapkpaa.Pure
