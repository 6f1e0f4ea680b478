/- Whatever the helpers are, the clauses hold only if at most k literals do; and then they do with Fill's helpers: the law answers true. -/
import Derived.Test.YtlemkghpcbkcpaaStatAtmostCounts
import Derived.Test.YtlemkghpcbkcpaaLibAtmostCounts
namespace Go.Proofs.Ytlemkghpcbkcpaa.Pure
open Go.RowKit Go.Proofs.Ytlemkghpcbkcpaa.PAtmostCounts Go.Proofs.YtlemkghpcbkcpaaW.PrintWords Go.Proofs.YtlemkghpcbkcpaaW.PrintLast Go.Proofs.YtlemkghpcbkcpaaOpens Go.Proofs.YtlemkghpcbkcpaaMath
set_option linter.unusedVariables false
set_option linter.unusedSimpArgs false

theorem fit_lit {l : List Int} {a : Int} (P : FitP l a) {i : Nat} (h : i < l.length) : rd l (i : Int) ≠ 0 ∧ absI (rd l (i : Int)) ≤ 60 ∧ 1 ≤ absI (rd l (i : Int)) ∧ -60 ≤ rd l (i : Int) ∧ rd l (i : Int) ≤ 60 := by
  obtain ⟨h1, h2, h3, _⟩ := P.all i h
  unfold absI
  split <;> omega
theorem sv_range {l : List Int} {a : Int} (P : FitP l a) {i j : Nat} (hi : 1 ≤ i) (hi2 : i < l.length) (hj : 1 ≤ j) (hj2 : j ≤ a.toNat) : sv a.toNat 61 i j = 61 + (((i - 1) * a.toNat + (j - 1) : Nat) : Int) ∧ 61 ≤ sv a.toNat 61 i j ∧ sv a.toNat 61 i j ≤ 4000 := by
  have k1 := P.k1
  have len := P.len
  have e : sv a.toNat 61 i j = 61 + (((i - 1) * a.toNat + (j - 1) : Nat) : Int) := by
    unfold sv
    rw [Int.natCast_add, Int.natCast_mul, show ((i - 1 : Nat) : Int) = (i : Int) - 1 by omega, show ((j - 1 : Nat) : Int) = (j : Int) - 1 by omega]
    omega
  have b : (i - 1) * a.toNat ≤ 60 * 60 := Nat.mul_le_mul (by omega) (by omega)
  exact ⟨e, by omega, by omega⟩
theorem says_of {l : List Int} {a : Int} (P : FitP l a) (on hp : List Bool) : Says (saysL on hp) l a.toNat 61 (fun i => (heldOf on l).getD i false) (fun i j => hp.getD ((i - 1) * a.toNat + (j - 1)) false) := by
  have hlit : ∀ i, i < l.length → saysL on hp (rd l (i : Int)) = (heldOf on l).getD i false := by
    intro i hi
    have h := fit_lit P hi
    rw [saysL_lit on hp h.2.1 h.1]
    unfold heldOf
    rw [rd_nat hi]
    simp [List.getD_eq_getElem?_getD, List.getElem?_map, List.getElem?_eq_getElem hi]
  have hpos : ∀ i j, 1 ≤ i → i < l.length → 1 ≤ j → j ≤ a.toNat → saysL on hp (sv a.toNat 61 i j) = hp.getD ((i - 1) * a.toNat + (j - 1)) false := by
    intro i j h1 h2 h3 h4
    obtain ⟨e, e1, e2⟩ := sv_range P h1 h2 h3 h4
    unfold saysL
    rw [decide_eq_true (show sv a.toNat 61 i j > 0 by omega)]
    have ea : absI (sv a.toNat 61 i j) = sv a.toNat 61 i j := by unfold absI; rw [if_neg (by omega)]
    rw [ea]
    unfold yesOf
    rw [if_neg (by omega)]
    generalize (i - 1) * a.toNat + (j - 1) = q at *
    by_cases hq : q < hp.length
    · rw [if_pos ⟨by omega, by omega⟩, show sv a.toNat 61 i j - 61 = (q : Int) by omega, rdOf_nat hq]
      simp [List.getD_eq_getElem?_getD, List.getElem?_eq_getElem hq]
    · rw [if_neg (by omega)]
      simp [List.getD_eq_getElem?_getD, List.getElem?_eq_none (show hp.length ≤ q by omega)]
  refine ⟨?_, hpos, ?_⟩
  · intro i hi
    rw [saysL_neg on hp (fit_lit P hi).1, hlit i hi]
  · intro i j h1 h2 h3 h4
    obtain ⟨e, e1, e2⟩ := sv_range P h1 h2 h3 h4
    rw [saysL_neg on hp (show sv a.toNat 61 i j ≠ 0 by omega), hpos i j h1 h2 h3 h4]
theorem held_length (on : List Bool) (l : List Int) : (heldOf on l).length = l.length := by simp [heldOf]
theorem upto_held (on : List Bool) (l : List Int) (i : Nat) (h : i ≤ l.length) : upto (fun i => (heldOf on l).getD i false) i = cnt ((heldOf on l).take i) :=
  upto_cnt _ _ (fun _ _ => rfl) i (by rw [held_length]; exact h)
/-- the clauses of AtMost, k below the number of literals -/
def csOf (l : List Int) (a : Int) : List (List Int) := if a < (l.length : Int) then clausesOf l a.toNat 61 else []
theorem cs_zero (on hp : List Bool) (l : List Int) (h : ∀ x ∈ l, absI x ≤ 60 ∧ x ≠ 0) : allC (saysL on hp) (l.map fun x => [-x]) = decide (cnt (heldOf on l) = 0) := by
  induction l with
  | nil => rfl
  | cons x l ih =>
    have hx := h x (by simp)
    have e := ih (fun y hy => h y (by simp [hy]))
    have e2 : allC (saysL on hp) ((x :: l).map fun x => [-x]) = (saysL on hp (-x) && allC (saysL on hp) (l.map fun x => [-x])) := by simp [allC, holdsC]
    rw [e2, e, saysL_neg on hp hx.2, saysL_lit on hp hx.1 hx.2]
    have e3 : cnt (heldOf on (x :: l)) = (if saysL on [] x = true then 1 else 0) + cnt (heldOf on l) := rfl
    rw [e3]
    cases saysL on [] x <;> simp
theorem bound_of {l : List Int} {a : Int} (P : FitP l a) (on hp : List Bool) (h : allC (saysL on hp) (csOf l a) = true) : (cnt (heldOf on l) : Int) ≤ a := by
  have k0 := P.k0
  have hc := cnt_le (heldOf on l)
  rw [held_length] at hc
  unfold csOf at h
  split at h
  · rename_i hlt
    by_cases hk : 0 < a.toNat
    · have := at_most (says_of P on hp) hk (by omega) h
      rw [upto_held on l l.length (Nat.le_refl _), List.take_of_length_le (by rw [held_length]; exact Nat.le_refl _)] at this
      omega
    · have e : a.toNat = 0 := by omega
      rw [e, clausesOf_zero, cs_zero on hp l (fun x hx => by
        obtain ⟨i, hi, rfl⟩ := List.getElem_of_mem hx
        have := fit_lit P hi
        rw [rd_nat hi] at this
        exact ⟨this.2.1, this.1⟩)] at h
      have := of_decide_eq_true h
      omega
  · omega
theorem filled {l : List Int} {a : Int} (P : FitP l a) (on : List Bool) (h : (cnt (heldOf on l) : Int) ≤ a) : allC (saysL on (fillOf (heldOf on l) a).1) (csOf l a) = true := by
  have k0 := P.k0
  unfold csOf
  split
  · rename_i hlt
    by_cases hk : 0 < a.toNat
    · refine all_hold (says_of P on _) hk (by omega) ?_ ?_
      · intro i j h1 h2 h3 h4
        have e : (fillOf (heldOf on l) a).1 = fillF a.toNat 0 ((heldOf on l).take (l.length - 1)) := by
          unfold fillOf
          rw [if_neg (by omega), if_neg (by rw [held_length]; omega), held_length]
        rw [e]
        have hl : ((heldOf on l).take (l.length - 1)).length = l.length - 1 := by rw [List.length_take, held_length]; omega
        rw [fillF_get a.toNat _ 0 (i - 1) (j - 1) (by omega) (by omega), upto_held on l i (by omega), List.take_take, show i - 1 + 1 = i by omega, Nat.min_eq_left (by omega)]
        congr 1
        simp only [eq_iff_iff]
        omega
      · rw [upto_held on l l.length (Nat.le_refl _), List.take_of_length_le (by rw [held_length]; exact Nat.le_refl _)]
        omega
    · have e : a.toNat = 0 := by omega
      rw [e, clausesOf_zero, cs_zero on _ l (fun x hx => by
        obtain ⟨i, hi, rfl⟩ := List.getElem_of_mem hx
        have := fit_lit P hi
        rw [rd_nat hi] at this
        exact ⟨this.2.1, this.1⟩)]
      exact decide_eq_true (by omega)
  · rfl
theorem cs_ok {l : List Int} {a : Int} (P : FitP l a) : (csOf l a).length ≤ 1000000 ∧ ∀ c ∈ csOf l a, c.length ≤ 1000 ∧ ∀ x ∈ c, -2000000 ≤ x ∧ x ≤ 2000000 ∧ x ≠ 0 := by
  have k0 := P.k0
  have k1 := P.k1
  have len := P.len
  unfold csOf
  split
  · rename_i hlt
    by_cases hk : 0 < a.toNat
    · have hc := clausesOf_length l a.toNat 61 hk (by omega)
      have b1 : (l.length - 2) * (2 * a.toNat + 1) ≤ 60 * 121 := Nat.mul_le_mul (by omega) (by omega)
      refine ⟨by omega, fun c hc => ?_⟩
      have := clauses_all (fun x => -2000000 ≤ x ∧ x ≤ 2000000 ∧ x ≠ 0) l a.toNat 61 hk (by omega) (fun i hi => by
        have := fit_lit P hi
        omega) (fun i j h1 h2 h3 h4 => by
        obtain ⟨e, e1, e2⟩ := sv_range P h1 h2 h3 h4
        omega) c hc
      exact ⟨by omega, this.2⟩
    · have e : a.toNat = 0 := by omega
      rw [e, clausesOf_zero]
      refine ⟨by simp; omega, fun c hc => ?_⟩
      obtain ⟨y, hy, rfl⟩ := List.mem_map.1 hc
      obtain ⟨i, hi, rfl⟩ := List.getElem_of_mem hy
      have := fit_lit P hi
      rw [rd_nat hi] at this
      refine ⟨by simp, fun x hx => ?_⟩
      rw [List.mem_singleton] at hx
      omega
  · exact ⟨by simp, by simp⟩
theorem counts_j2 {l : List Int} {a : Int} (P : FitP l a) (on hp : List Bool) : Ev (fun k => depotlaw27_AtmostCounts.j2 k a on (csOf l a) (heldOf on l) (cnt (heldOf on l) : Int) false) true := by
  have k0 := P.k0
  have k1 := P.k1
  have len := P.len
  have hl := held_length on l
  refine Ev.succ ?_
  simp only [depotlaw27_AtmostCounts.j2, Bool.false_eq_true, if_false]
  refine Ev.bind (depotref00_CopyBools_ev _ (by rw [hl]; omega)) ?_
  refine Ev.bind (atmost_Fill_ev (heldOf on l) a (by rw [hl]; omega) (fun h0 h1 => by
    rw [hl]
    have : (l.length : Int) * a ≤ 60 * 60 := Int.mul_le_mul (by omega) k1 k0 (by omega)
    omega)) ?_
  by_cases h : (cnt (heldOf on l) : Int) > a
  · have e : fillOf (heldOf on l) a = ([], 2) := by unfold fillOf; rw [if_pos (.inr h)]
    simp only [h, e, if_true]
    exact Ev.now _
  · have e : (fillOf (heldOf on l) a).2 = 0 := by
      unfold fillOf
      rw [if_neg (by omega)]
      split <;> rfl
    simp only [h, e, if_true, if_false]
    have := depotlaw27_made_ev (csOf l a) on (fillOf (heldOf on l) a).1 (cs_ok P).1 (cs_ok P).2
    rw [filled P on (by omega)] at this
    exact Ev.bind this (Ev.now _)
theorem counts_l0 {l : List Int} {a : Int} (P : FitP l a) (on hp : List Bool) (hon : on.length ≤ 140737488351232) (d : Nat) : ∀ i : Nat, i + d = l.length →
    Ev (fun k => depotlaw27_AtmostCounts.l0 k l a on hp (csOf l a) (heldOf on (l.take i)) ((cnt (heldOf on (l.take i)) : Nat) : Int) (i : Int)) true := by
  have len := P.len
  induction d with
  | zero =>
    intro i hi
    rw [List.take_of_length_le (by omega)]
    refine Ev.succ ?_
    have h1 : ¬ ((i : Int) < (l.length : Int)) := by omega
    simp only [depotlaw27_AtmostCounts.l0, h1, if_false]
    refine Ev.bind (depotlaw27_made_ev (csOf l a) on hp (cs_ok P).1 (cs_ok P).2) ?_
    cases hm : allC (saysL on hp) (csOf l a) with
    | false =>
      simp only [Bool.false_eq_true, if_false]
      exact counts_j2 P on hp
    | true =>
      have := bound_of P on hp hm
      simp only [if_true, decide_eq_false (show ¬ (cnt (heldOf on l) : Int) > a by omega)]
      exact counts_j2 P on hp
  | succ d ih =>
    intro i hi
    have hlt : i < l.length := by omega
    have h60 : (i : Int) < 60 := by omega
    have ei : wrap64 ((i : Int) + 1) = ((i + 1 : Nat) : Int) := w64s (Int.lt_trans h60 (by decide))
    have ih' := ih (i + 1) (by omega)
    have hs := held_step on hlt
    obtain ⟨f1, f2, f3, f4, f5⟩ := fit_lit P hlt
    have hlen : (heldOf on (l.take i)).length = i := by rw [held_length, List.length_take]; omega
    have hcl := cnt_le (heldOf on (l.take i))
    have hc : cnt (heldOf on (l.take (i + 1))) = cnt (heldOf on (l.take i)) + (if saysL on [] (rd l (i : Int)) = true then 1 else 0) := by
      rw [hs, cnt_append]
      simp [cnt]
    refine Ev.succ ?_
    have h1 : (i : Int) < (l.length : Int) := by omega
    have h2 : (0 : Int) ≤ (i : Int) := by omega
    have h3 : (heldOf on (l.take i)).length < 140737488355328 := by omega
    have hcn : cnt (heldOf on (l.take i)) ≤ 60 := by omega
    have ec : wrap64 (((cnt (heldOf on (l.take i)) : Nat) : Int) + 1) = ((cnt (heldOf on (l.take i)) + 1 : Nat) : Int) := by
      generalize cnt (heldOf on (l.take i)) = q at hcn ⊢
      exact w64s (Int.lt_of_le_of_lt (Int.ofNat_le.2 hcn) (by decide))
    simp only [depotlaw27_AtmostCounts.l0, h1, h2, if_true]
    generalize hx : rd l (i : Int) = x at *
    have go : ∀ b : Bool, b = saysL on [] x → Ev (fun k => (some (heldOf on (l.take i) ++ [b] : List Bool)).bind fun y => if b = true then depotlaw27_AtmostCounts.l0 k l a on hp (csOf l a) y (wrap64 (((cnt (heldOf on (l.take i)) : Nat) : Int) + 1)) (wrap64 ((i : Int) + 1)) else depotlaw27_AtmostCounts.l0 k l a on hp (csOf l a) y ((cnt (heldOf on (l.take i)) : Nat) : Int) (wrap64 ((i : Int) + 1))) true := by
      rintro b rfl
      simp only [Option.bind_some, ← hs, ei, ec]
      cases hv : saysL on [] x with
      | true =>
        rw [hv] at hc
        simp only [if_true] at hc ⊢
        rw [← hc]
        exact ih'
      | false =>
        rw [hv] at hc
        simp only [Bool.false_eq_true, if_false, Nat.add_zero] at hc ⊢
        rw [← hc]
        exact ih'
    have hv : saysL on [] x = ((if absI x ≤ (on.length : Int) then rdOf false on (absI x - 1) else false) == decide (x > 0)) := by
      unfold saysL yesOf
      by_cases hq : absI x ≤ (on.length : Int)
      · rw [if_pos ⟨f3, f2, hq⟩, if_pos hq]
      · rw [if_neg (by omega), if_neg (by omega), if_neg hq]
    by_cases c : x < 0
    · have ea : absI x = -x := by unfold absI; rw [if_pos c]
      have en : wrap64 (-x) = -x := w64 (by omega) (by omega)
      have en1 : wrap64 (-x - 1) = -x - 1 := w64 (by omega) (by omega)
      rw [ea] at hv f2 f3
      by_cases c2 : -x ≤ (on.length : Int)
      · have b1 : (0 : Int) ≤ -x - 1 := by omega
        have b2 : -x - 1 < (on.length : Int) := by omega
        rw [if_pos c2] at hv
        simp only [c, en, c2, en1, b1, b2, h3, if_true]
        exact go _ hv.symm
      · rw [if_neg c2] at hv
        simp only [c, en, c2, h3, if_true, if_false]
        exact go _ hv.symm
    · have ea : absI x = x := by unfold absI; rw [if_neg c]
      have en1 : wrap64 (x - 1) = x - 1 := w64 (by omega) (by omega)
      rw [ea] at hv f2 f3
      by_cases c2 : x ≤ (on.length : Int)
      · have b1 : (0 : Int) ≤ x - 1 := by omega
        have b2 : x - 1 < (on.length : Int) := by omega
        rw [if_pos c2] at hv
        simp only [c, c2, en1, b1, b2, h3, if_true, if_false]
        exact go _ hv.symm
      · rw [if_neg c2] at hv
        simp only [c, c2, h3, if_true, if_false]
        exact go _ hv.symm

theorem AtmostCounts : PAtmostCounts.Stmt := by
  intro l a on hp hl ha hon hhp
  have hb := wf_lo ha
  refine Ev.rounds ?_
  unfold depotlaw27_AtmostCounts.f
  have haw : Ev (fun k => depotlaw27_awake.f k) true := by
    simp only [depotlaw27_awake_eq]
    exact Ev.now _
  refine Ev.bind haw ?_
  simp only [if_true]
  obtain ⟨b, hf, hp'⟩ := depotlaw27_fit_ev l a
  refine Ev.bind hf ?_
  cases b with
  | false =>
    refine Ev.succ ?_
    simp only [depotlaw27_AtmostCounts.j0, Bool.not_false, if_true]
    exact Ev.bind haw (Ev.now _)
  | true =>
    have P := hp' rfl
    have len := P.len
    refine Ev.succ ?_
    simp only [depotlaw27_AtmostCounts.j0, Bool.not_true, Bool.false_eq_true, if_false]
    refine Ev.bind (depotref00_CopyInts_ev l (by omega)) ?_
    have e2 : Ev (fun k => atmost_AtMost.f k l a 61) (csOf l a, 61 + helpersOf l.length a, 0) := by
      simp only [atmost_AtMost_eq _ l a 61 (by omega) (by omega), P.most]
      exact Ev.now _
    refine Ev.bind e2 ?_
    simp only [if_true]
    have := counts_l0 P on hp (by have := hon.1; omega) l.length 0 (by omega)
    simpa [heldOf, cnt] using this

end Go.Proofs.Ytlemkghpcbkcpaa.Pure
