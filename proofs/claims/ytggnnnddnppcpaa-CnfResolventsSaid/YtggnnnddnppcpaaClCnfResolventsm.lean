/- CnfResolventsSaid: for every input the law CnfResolvents returns true, and what came in reads as before. Condition: none. Written by row.py. -/
import Derived.Test.YtggnnnddnppcpaaClCnfResolventsl
import Derived.Test.YtggnnnddnppcpaaClCnfResolventsd
import Derived.Test.YtggnnnddnppcpaaClCnfResolventsc
import Derived.Test.YtggnnnddnppcpaaClCnfResolventse
import Derived.Test.YtggnnnddnppcpaaRows
import Derived.WalkKit
import Derived.ProofKit
import Derived.OpenShut
import Derived.ShutString
import Derived.ChangeOld
import Derived.Below
import Derived.SizedLaws
import Derived.Lib.SmallJoins
/-! text YtggnnnddnppcpaaStatCnfResolvents -/
namespace Go.Proofs.Ytggnnnddnppcpaa.PCnfResolvents
open Go.RowKit Go.Proofs.YtggnnnddnppcpaaW.PrintWords Go.Proofs.YtggnnnddnppcpaaW.PrintLast Go.Proofs.YtggnnnddnppcpaaW.PrintMore Go.Proofs.YtggnnnddnppcpaaOpens
set_option linter.unusedVariables false
set_option linter.unusedSimpArgs false
def Stmt : Prop := ∀ (a0_0_0 : Int) (l0_0_1 : List (List (Int))) (a0_1 : Int) (a0_2 : Int) (a0_3 : Int), ((((Lit.int .i64 a0_0_0).wf = true) ∧ (l0_0_1.length * 24 ≤ 140737488351232 ∧ ∀ y1 ∈ l0_0_1, y1.length * 8 ≤ 140737488351232 ∧ ∀ y2 ∈ y1, (Lit.int .i64 y2).wf = true)) ∧ ((Lit.int .i64 a0_1).wf = true) ∧ ((Lit.int .i64 a0_2).wf = true) ∧ ((Lit.int .i64 a0_3).wf = true)) → ∃ k, depotlaw02_CnfResolvents.f k a0_0_0 l0_0_1 a0_1 a0_2 a0_3 = some true
theorem walk (P : Stmt) (a0_0_0 : Int) (A0_0_1 : Option Addr) (c0_0_1 : Nat) (l0_0_1 : List (List (Int))) (a0_1 : Int) (a0_2 : Int) (a0_3 : Int) (w : World) (hr0_0_1 : Kd.C (Kd.slice 3 (Kd.int .i64)) w A0_0_1 l0_0_1.length l0_0_1) (hc0_0_1 : l0_0_1.length ≤ c0_0_1) (ok0 : (((Lit.int .i64 a0_0_0).wf = true) ∧ (l0_0_1.length * 24 ≤ 140737488351232 ∧ ∀ y1 ∈ l0_0_1, y1.length * 8 ≤ 140737488351232 ∧ ∀ y2 ∈ y1, (Lit.int .i64 y2).wf = true)) ∧ ((Lit.int .i64 a0_1).wf = true) ∧ ((Lit.int .i64 a0_2).wf = true) ∧ ((Lit.int .i64 a0_3).wf = true)) :
    Calls Try.prog 15 #[.agg #[.int .i64 a0_0_0, .slice A0_0_1 l0_0_1.length c0_0_1, .int .i64 a0_1, .int .i64 a0_2, .int .i64 a0_3]] w fun e w' => e = .returned (.bool true) ∧ Below w.heap.size w w' := by
  obtain ⟨k, h⟩ := P a0_0_0 l0_0_1 a0_1 a0_2 a0_3 ok0
  refine (depotlaw02_CnfResolvents.calls k a0_0_0 A0_0_1 c0_0_1 l0_0_1 a0_1 a0_2 a0_3 true w hr0_0_1 hc0_0_1 h).mono ?_
  rintro e w' ⟨rfl, hd⟩
  exact ⟨rfl, hd⟩
end Go.Proofs.Ytggnnnddnppcpaa.PCnfResolvents
/-! text YtggnnnddnppcpaaLibCnfResolvents -/
namespace Go.Proofs.Ytggnnnddnppcpaa.PCnfResolvents
open Go.RowKit Go.Proofs.YtggnnnddnppcpaaW.PrintWords Go.Proofs.YtggnnnddnppcpaaW.PrintLast Go.Proofs.YtggnnnddnppcpaaMath
set_option linter.unusedVariables false
set_option linter.unusedSimpArgs false
theorem lits_Formed_eq (l : Int) : lits_Formed.f l = some (formed l) := by
  unfold lits_Formed.f formed
  by_cases h0 : l = 0
  · simp [h0]
  · by_cases h1 : l ≥ -1048576
    · rw [if_neg h0, if_pos h1]; congr 1; rw [Bool.eq_iff_iff]; simp; omega
    · rw [if_neg h0, if_neg h1]; congr 1; symm; simp; omega
theorem lits_Var_eq (l : Int) : lits_Var.f l = some (varOf l) := by
  unfold lits_Var.f varOf
  rw [lits_Formed_eq]
  simp only [Option.bind_some]
  by_cases h : formed l = true
  · have := formed_bd h
    rw [if_pos h, if_pos h, w64 (by omega) (by omega)]
    split <;> rfl
  · rw [if_neg h, if_neg h]
theorem lits_Sound_l0 (l : List Int) (hn : l.length ≤ 17592186044416) (d : Nat) : ∀ i : Nat, i + d = l.length → Ev (fun k => lits_Sound.l0 k l (l.length : Int) (i : Int)) (sound (l.drop i)) := by
  induction d with
  | zero =>
    intro i hi
    refine Ev.succ ?_
    simp only [lits_Sound.l0]
    have h1 : ¬ ((i : Int) < (l.length : Int)) := by omega
    simp only [h1, if_false]
    rw [List.drop_of_length_le (by omega)]
    exact Ev.now _
  | succ d ih =>
    intro i hi
    refine Ev.succ ?_
    simp only [lits_Sound.l0, lits_Formed_eq, Option.bind_some]
    have h1 : (i : Int) < (l.length : Int) := by omega
    have h0 : (0 : Int) ≤ (i : Int) := by omega
    simp only [h1, h0, if_true]
    rw [drop_rd (show i < l.length by omega)]
    by_cases hf : formed (rd l i) = true
    · simp only [hf, if_true, w64s (show (i : Int) < 9223372036854775807 by omega), sound, List.all_cons, Bool.true_and]
      exact ih (i + 1) (by omega)
    · simp only [Bool.not_eq_true] at hf
      simp only [hf, Bool.false_eq_true, if_false, sound, List.all_cons, Bool.false_and]
      exact Ev.now _
theorem lits_Sound_ev (l : List Int) (hn : l.length ≤ 17592186044416) : Ev (fun k => lits_Sound.f k l) (sound l) := lits_Sound_l0 l hn l.length 0 (by omega)
theorem cnf_within_l0 (l : List Int) (v : Int) (hn : l.length ≤ 17592186044416) (hs : sound l = true) (d : Nat) : ∀ i : Nat, i + d = l.length → Ev (fun k => cnf_within.l0 k v l (l.length : Int) (i : Int)) ((l.drop i).all fun l => decide (l ≤ v ∧ -l ≤ v)) := by
  induction d with
  | zero =>
    intro i hi
    refine Ev.succ ?_
    simp only [cnf_within.l0]
    have h1 : ¬ ((i : Int) < (l.length : Int)) := by omega
    simp only [h1, if_false]
    rw [List.drop_of_length_le (by omega)]
    exact Ev.now _
  | succ d ih =>
    intro i hi
    refine Ev.succ ?_
    simp only [cnf_within.l0, lits_Var_eq, Option.bind_some]
    have h1 : (i : Int) < (l.length : Int) := by omega
    have h0 : (0 : Int) ≤ (i : Int) := by omega
    simp only [h1, h0, if_true]
    rw [drop_rd (show i < l.length by omega)]
    have hf : formed (rd l i) = true := sound_mem hs (rd_mem (by omega))
    have hv : varOf (rd l i) > v ↔ ¬ (rd l i ≤ v ∧ - rd l i ≤ v) := by
      unfold varOf
      rw [if_pos hf]
      split <;> omega
    by_cases hc : rd l i ≤ v ∧ - rd l i ≤ v
    · have h2 : ¬ varOf (rd l i) > v := fun h => hv.1 h hc
      simp only [h2, if_false, w64s (show (i : Int) < 9223372036854775807 by omega), List.all_cons, decide_eq_true hc, Bool.true_and]
      exact ih (i + 1) (by omega)
    · have h2 : varOf (rd l i) > v := hv.2 hc
      simp only [h2, if_true, List.all_cons, decide_eq_false hc, Bool.false_and]
      exact Ev.now _
theorem cnf_within_ev (l : List Int) (v : Int) (hn : l.length ≤ 17592186044416) : Ev (fun k => cnf_within.f k l v) (within l v) := by
  unfold cnf_within.f within
  refine Ev.bind (lits_Sound_ev l hn) ?_
  by_cases hs : sound l = true
  · simp only [hs, if_true, Bool.true_and]
    exact cnf_within_l0 l v hn hs l.length 0 (by omega)
  · simp only [Bool.not_eq_true] at hs
    simp only [hs, Bool.false_eq_true, if_false, Bool.false_and]
    exact Ev.now _
theorem cnf_Formed_l0 (v : Int) (cs : List (List Int)) (hn : cs.length ≤ 17592186044416) (hc : ∀ c ∈ cs, c.length ≤ 17592186044416) (d : Nat) : ∀ i : Nat, i + d = cs.length → Ev (fun k => cnf_Formed.l0 k cs (cs.length : Int) (i : Int) v cs) ((cs.drop i).all fun c => within c v) := by
  induction d with
  | zero =>
    intro i hi
    refine Ev.succ ?_
    simp only [cnf_Formed.l0]
    have h1 : ¬ ((i : Int) < (cs.length : Int)) := by omega
    simp only [h1, if_false]
    rw [List.drop_of_length_le (by omega)]
    exact Ev.now _
  | succ d ih =>
    intro i hi
    refine Ev.succ ?_
    simp only [cnf_Formed.l0, rd_L1]
    have h1 : (i : Int) < (cs.length : Int) := by omega
    have h0 : (0 : Int) ≤ (i : Int) := by omega
    simp only [h1, h0, if_true]
    rw [drop_getD (z := ([] : List Int)) (show i < cs.length by omega), List.all_cons]
    have hm : (cs.getD ((i : Int).toNat) ([] : List Int)).length ≤ 17592186044416 := by
      rw [getD_nat (show i < cs.length by omega)]
      exact hc _ (List.getElem_mem _)
    refine Ev.bind (cnf_within_ev _ v hm) ?_
    by_cases hf : within (cs.getD ((i : Int).toNat) ([] : List Int)) v = true
    · simp only [hf, if_true, w64s (show (i : Int) < 9223372036854775807 by omega), Bool.true_and]
      exact ih (i + 1) (by omega)
    · simp only [Bool.not_eq_true] at hf
      simp only [hf, Bool.false_eq_true, if_false, Bool.false_and]
      exact Ev.now _
theorem cnf_Formed_ev (v : Int) (cs : List (List Int)) (hn : cs.length ≤ 17592186044416) (hc : ∀ c ∈ cs, c.length ≤ 17592186044416) : Ev (fun k => cnf_Formed.f k v cs) (isFormula v cs) := by
  have hj : ∀ b, Ev (fun k => cnf_Formed.j0 k b v cs) (!b && cs.all fun c => within c v) := by
    intro b
    refine Ev.succ ?_
    simp only [cnf_Formed.j0]
    cases b with
    | true => exact Ev.now _
    | false => exact cnf_Formed_l0 v cs hn hc cs.length 0 (by omega)
  unfold cnf_Formed.f isFormula
  by_cases h0 : v < 0
  · simp only [h0, if_true]
    have := hj true
    rw [decide_eq_false (by omega)]
    simpa using this
  · simp only [h0, if_false]
    have := hj (decide (v > 1048576))
    rw [show (!decide (v > 1048576)) = decide (0 ≤ v ∧ v ≤ 1048576) by rw [Bool.eq_iff_iff]; simp; omega] at this
    exact this
theorem drop_L1 {l : List (List Int)} {i : Nat} (h : i < l.length) : l.drop i = rd_L1 l (i : Int) :: l.drop (i + 1) := drop_getD (z := ([] : List Int)) h
theorem rd_L1_mem {l : List (List Int)} {i : Nat} (h : i < l.length) : rd_L1 l (i : Int) ∈ l := by
  have := getD_nat (z := ([] : List Int)) h
  show l.getD ((i : Int).toNat) ([] : List Int) ∈ l
  rw [this]; exact List.getElem_mem h
theorem take_L1 {l : List (List Int)} {i : Nat} (h : i < l.length) : l.take (i + 1) = l.take i ++ [rd_L1 l (i : Int)] := take_getD (z := ([] : List Int)) h
theorem lits_Resolve_ev {a b : List Int} (v : Int) (ha : a.length ≤ 17592186044416) (hb : b.length ≤ 17592186044416) : Ev (fun k => lits_Resolve.f k a b v) (resOf a b v) := by
  unfold lits_Resolve.f; simp only [ha, hb, and_self, if_true]; exact Ev.now _
theorem cnf_Entails_ev (v : Int) (cs : List (List Int)) (c : List Int) (hn : cs.length ≤ 5864062014805) (hc : ∀ c ∈ cs, c.length ≤ 17592186044416) (hl : c.length ≤ 17592186044416) : Ev (fun k => cnf_Entails.f k v cs c) (entailsOf v cs c) := by
  simp only [cnf_Entails.f]
  rw [if_pos ⟨hn, hl, hc⟩]
  exact Ev.now _
end Go.Proofs.Ytggnnnddnppcpaa.PCnfResolvents
/-! text YtggnnnddnppcpaaPureCnfResolvents -/
namespace Go.Proofs.Ytggnnnddnppcpaa.Pure
open Go.RowKit Go.Proofs.Ytggnnnddnppcpaa.PCnfResolvents Go.Proofs.YtggnnnddnppcpaaW.PrintWords Go.Proofs.YtggnnnddnppcpaaW.PrintLast Go.Proofs.YtggnnnddnppcpaaOpens Go.Proofs.YtggnnnddnppcpaaMath
set_option linter.unusedVariables false
set_option linter.unusedSimpArgs false

theorem truth_neg {m : List Bool} {l : Int} (h : l ≠ 0) : truth m (-l) = !truth m l := by
  unfold truth
  rw [Int.natAbs_neg]
  generalize m.getD (l.natAbs - 1) false = b
  by_cases hp : l > 0
  · rw [decide_eq_true hp, decide_eq_false (show ¬ -l > 0 by omega)]
    cases b <;> rfl
  · rw [decide_eq_false hp, decide_eq_true (show -l > 0 by omega)]
    cases b <;> rfl
theorem mem_onOf {a b : List Int} {v x : Int} : x ∈ onOf a b v ↔ formed x = true ∧ ((x ∈ a ∧ x ≠ v) ∨ (x ∈ b ∧ x ≠ -v)) := by
  unfold onOf lessOf
  rw [mem_tidyOf, List.mem_append, List.mem_filter, List.mem_filter, mem_tidyOf, mem_tidyOf]
  by_cases hf : formed x = true <;> simp [hf]
theorem on_within {a b : List Int} {v u : Int} (ha : within a u = true) (hb : within b u = true) : within (onOf a b v) u = true := by
  have h : ∀ x ∈ onOf a b v, formed x = true ∧ x ≤ u ∧ -x ≤ u := by
    intro x hx
    rcases (mem_onOf.1 hx).2 with h | h
    · exact within_lit ha h.1
    · exact within_lit hb h.1
  unfold within sound
  rw [Bool.and_eq_true, List.all_eq_true, List.all_eq_true]
  exact ⟨fun x hx => (h x hx).1, fun x hx => decide_eq_true (h x hx).2⟩
theorem on_holds {a b : List Int} {v u : Int} {m : List Bool} (hv : v ≠ 0) (ha : within a u = true) (hb : within b u = true) (h1 : holdsIn a m = true) (h2 : holdsIn b m = true) : holdsIn (onOf a b v) m = true := by
  unfold holdsIn at h1 h2 ⊢
  rw [List.any_eq_true] at h1 h2 ⊢
  obtain ⟨x, hx, tx⟩ := h1
  obtain ⟨y, hy, ty⟩ := h2
  by_cases e : x = v
  · by_cases e2 : y = -v
    · subst e2
      rw [truth_neg hv, ← e, tx] at ty
      cases ty
    · exact ⟨y, mem_onOf.2 ⟨(within_lit hb hy).1, .inr ⟨hy, e2⟩⟩, ty⟩
  · exact ⟨x, mem_onOf.2 ⟨(within_lit ha hx).1, .inl ⟨hx, e⟩⟩, tx⟩
theorem modelsIn_holds {v : Nat} {cs : List (List Int)} {m : List Bool} (h : m ∈ modelsIn v cs) {c : List Int} (hc : c ∈ cs) : holdsIn c m = true := by
  unfold modelsIn modelsTo at h
  exact List.all_eq_true.1 (List.mem_filter.1 h).2 c hc

theorem resolvents_j1 (v : Int) (l : List (List Int)) (i j x : Int) (a b c : Int) (f : List (List Int)) (t : Bool) (hn : l.length ≤ 5864062014805) (hs : ∀ c ∈ l, c.length ≤ 17592186044416) (h : t = true ∨ (isFormula v l = true ∧ v ≤ 16 ∧ 0 ≤ i ∧ i < l.length ∧ 0 ≤ j ∧ j < l.length)) :
    Ev (fun k => depotlaw02_CnfResolvents.j1 k i j t a f b c x v l) true := by
  refine Ev.succ ?_
  cases t with
  | true =>
    simp only [depotlaw02_CnfResolvents.j1, if_true]
    exact Ev.now _
  | false =>
    obtain ⟨hf, hv, h0, h1, h2, h3⟩ := h.resolve_left (by simp)
    simp only [depotlaw02_CnfResolvents.j1, Bool.false_eq_true, if_false, h0, h1, h2, h3, if_true]
    obtain ⟨i, rfl⟩ := Int.eq_ofNat_of_zero_le h0
    obtain ⟨j, rfl⟩ := Int.eq_ofNat_of_zero_le h2
    have m1 := rd_L1_mem (l := l) (i := i) (by omega)
    have m2 := rd_L1_mem (l := l) (i := j) (by omega)
    have w1 := isFormula_clause hf m1
    have w2 := isFormula_clause hf m2
    have n1 := hs _ m1
    have n2 := hs _ m2
    have k1 := fun (m : List Bool) (hm : m ∈ modelsIn v.toNat l) => modelsIn_holds hm m1
    have k2 := fun (m : List Bool) (hm : m ∈ modelsIn v.toNat l) => modelsIn_holds hm m2
    generalize rd_L1 l (i : Int) = p at *
    generalize rd_L1 l (j : Int) = q at *
    refine Ev.bind (lits_Resolve_ev x n1 n2) ?_
    by_cases hr : (resOf p q x).2 = 0
    · have hb : (resOf p q x).1 = onOf p q x ∧ x ≠ 0 := by
        unfold resOf at hr ⊢
        split at hr
        · rename_i hc
          rw [if_pos hc]
          rw [Bool.and_eq_true, decide_eq_true_eq] at hc
          split at hr
          · rename_i hd
            rw [if_pos hd]
            exact ⟨rfl, by omega⟩
          · cases hr
        · cases hr
      simp only [hr, if_true]
      have hlen : (resOf p q x).1.length ≤ 17592186044416 := by
        rw [hb.1]
        have := formed_count (onOf p q x) (rising_tidyOf _) (fun _ h => tidyOf_formed h)
        omega
      refine Ev.bind (cnf_Entails_ev v l _ hn hs hlen) ?_
      have : entailsOf v l (resOf p q x).1 = (true, 0) := by
        rw [hb.1]
        unfold entailsOf
        rw [hf, on_within w1 w2, Bool.and_self, if_pos rfl, if_neg (by omega)]
        congr 1
        rw [List.all_eq_true]
        exact fun m hm => on_holds hb.2 w1 w2 (k1 m hm) (k2 m hm)
      rw [this]
      simp only [if_true, beq_self_eq_true]
      exact Ev.now _
    · simp only [hr, if_false]
      exact Ev.now _

theorem CnfResolvents : PCnfResolvents.Stmt := by
  intro v l i j x ok
  obtain ⟨ok1, ok2, ok3, ok4⟩ := ok
  have hn : l.length ≤ 5864062014805 := by have := ok1.2.1; omega
  have hs : ∀ c ∈ l, c.length ≤ 17592186044416 := fun c hc => by have := (ok1.2.2 c hc).1; omega
  refine Ev.rounds ?_
  unfold depotlaw02_CnfResolvents.f
  have e1 : entailsOf 2 [[1, 2], [-1, 2]] [2] = (true, 0) := by decide
  refine Ev.bind (cnf_Entails_ev 2 _ _ (by simp) (by simp) (by simp)) ?_
  rw [e1]
  simp only [if_true, bne_self_eq_false]
  refine Ev.succ ?_
  simp only [depotlaw02_CnfResolvents.j0, Bool.false_eq_true, if_false]
  refine Ev.bind (cnf_Formed_ev v l (by omega) hs) ?_
  by_cases hf : isFormula v l = true
  · simp only [hf, if_true]
    by_cases hv : v > 16
    · simp only [hv, if_true]
      exact resolvents_j1 v l i j x _ _ _ _ _ hn hs (.inl rfl)
    · simp only [hv, if_false]
      by_cases h0 : i < 0
      · simp only [h0, if_true]
        exact resolvents_j1 v l i j x _ _ _ _ _ hn hs (.inl rfl)
      · simp only [h0, if_false]
        by_cases h1 : i ≥ (l.length : Int)
        · simp only [h1, if_true]
          exact resolvents_j1 v l i j x _ _ _ _ _ hn hs (.inl rfl)
        · simp only [h1, if_false]
          by_cases h2 : j < 0
          · simp only [h2, if_true]
            exact resolvents_j1 v l i j x _ _ _ _ _ hn hs (.inl rfl)
          · simp only [h2, if_false]
            refine resolvents_j1 v l i j x _ _ _ _ _ hn hs ?_
            by_cases h3 : j ≥ (l.length : Int)
            · exact .inl (decide_eq_true h3)
            · exact .inr ⟨hf, by omega, by omega, by omega, by omega, by omega⟩
  · simp only [hf, Bool.false_eq_true, if_false]
    exact resolvents_j1 v l i j x _ _ _ _ _ hn hs (.inl rfl)

end Go.Proofs.Ytggnnnddnppcpaa.Pure
/-! text YtggnnnddnppcpaaRowCnfResolvents -/
namespace Go.Proofs.Ytggnnnddnppcpaa.cnfResolvents
open Go.ChangeShapes Go.WideShapes Go.ChangeAt Go.RowKit Go.Joins
open Go.Proofs.YtggnnnddnppcpaaOpens Go.Proofs.YtggnnnddnppcpaaW.PrintWords Go.Proofs.Ytggnnnddnppcpaa.PCnfResolvents
set_option linter.unusedVariables false
set_option linter.unusedSimpArgs false
theorem own : ownKnob Try.prog.godebug = none := by kernel_rfl
theorem laidOut : laidOutB Try.prog = true := by kernel_rfl
set_option maxRecDepth 100000 in
theorem contract (H : Type) (enc : TypeId × Value → H) (W : World) (base : Nat) (args : Array Value) (ds gs : List (DataW H)) (before : List MemPlace)
    (hval0 : ∀ (j : Nat) t v, Try.f15.params[j]? = some t → args[j]? = some v → Value.okWide Try.prog W .any base t v)
    (hW : DataW.Whole enc Try.prog Try.f15.params.toList Rows.cnfResolventsSpec.vars false W args.toList ds gs before)
    (hsz0 : (DataW.weightsEach Try.prog (Try.f15.params.toList ++ Rows.cnfResolventsSpec.plain.varTypes Try.prog) (ds ++ gs)).all (· ≤ reachBytes) = true) :
    Calls Try.prog 15 args W fun e W' => ∃ v, e = .returned v ∧ Rows.cnfResolventsSpec.post enc Try.prog Try.f15 false true false false W args v W' := by
  have hsz := hsz0
  have hval : ∀ (j : Nat) t v, Try.f15.params[j]? = some t → args[j]? = some v → Value.okWide Try.prog W .any base t v := hval0
  have hW' := hW
  obtain ⟨p, q, hA0, hV, rfl, hfz, hnd⟩ := hW
  have hA : DataW.TrodAll enc Try.prog W 0 (fun _ => true) true Try.f15.params.toList args.toList ds p := hA0
  rw [Try.params15] at hA hval hsz
  obtain ⟨v0, vs0, d0, ds0, p0, q0, hargs, rfl, rfl, h0, r0⟩ := trodAll_cons hA
  obtain ⟨rfl, rfl, rfl⟩ := trodAll_nil r0
  obtain rfl : args = #[v0] := by cases args; simp_all
  obtain ⟨rfl, rfl⟩ := trodVars_none hV
  obtain ⟨cs0, rfl, _⟩ := okWide_struct Try.underlying70 (hval 0 70 v0 rfl rfl)
  have k0 := h0
  have lt0 : ∀ x ∈ p0, x.block < W.heap.size := by obtain ⟨m, hm⟩ := k0; exact DataW.trod_lt m _ _ _ hm
  obtain ⟨a0, hK0, ok0, m0⟩ := struct_arg (opens_struct (opensF_cons (opens_struct (opensF_cons (opens_int Try.underlying3 (by kernel_rfl)) (by kernel_rfl) (opensF_last (opens_slice (B := 24) (opens_slice (B := 8) (opens_int Try.underlying3 (by kernel_rfl)) Try.underlying43 (by kernel_rfl) (by kernel_rfl)) Try.underlying22 (by kernel_rfl) (by kernel_rfl)) (by kernel_rfl))) Try.underlying24 (by kernel_rfl)) (by kernel_rfl) (opensF_cons (opens_int Try.underlying3 (by kernel_rfl)) (by kernel_rfl) (opensF_cons (opens_int Try.underlying3 (by kernel_rfl)) (by kernel_rfl) (opensF_last (opens_int Try.underlying3 (by kernel_rfl)) (by kernel_rfl))))) Try.underlying70 (by kernel_rfl)) h0 (reach_of hsz (j := 0) (t := 70) rfl rfl)
  obtain ⟨_, _, hcs0, ⟨_, _, rfl, rfl, ⟨A0_0_1, c0_0_1, rfl, hc0_0_1, hr0_0_1⟩⟩, ⟨_, _, rfl, rfl, ⟨_, _, rfl, rfl, rfl⟩⟩⟩ := hK0
  obtain rfl : cs0 = #[.int .i64 a0.1.1, .slice A0_0_1 a0.1.2.length c0_0_1, .int .i64 a0.2.1, .int .i64 a0.2.2.1, .int .i64 a0.2.2.2] := by cases cs0; simpa using hcs0
  clear hA0 hval0 hsz0 hsz
  refine (PCnfResolvents.walk Pure.CnfResolvents a0.1.1 A0_0_1 c0_0_1 a0.1.2 a0.2.1 a0.2.2.1 a0.2.2.2 W hr0_0_1 hc0_0_1 ok0).mono fun e W' ⟨he, bel⟩ => ?_
  subst he
  exact ⟨_, rfl, _, _, _, [], _, [], hW', trodAll_mk1 (shut_bool Try.underlying4 _), (trodAll_cons_mk (Below.trod laidOut (by kernel_rfl) (of_decide_eq_true (by kernel_rfl)) k0 bel lt0) trodAll_mk0), rfl, bel.frame _, fun h => by cases h⟩
set_option maxRecDepth 100000 in
theorem lifted (os : Os) (started : os.Started) (H : Type) (enc : TypeId × Value → H) :
    ReturnsInHanded {} Try.checked os 15 .any (Rows.cnfResolventsSpec.pre6 enc Try.prog Try.f15 Rows.cnfResolventsRow.domain false) (Rows.cnfResolventsSpec.post enc Try.prog Try.f15 false true false false) := by
  refine returnsInHanded_of_change_sized (C := Try.checked) own started (by kernel_rfl) Try.func15
    (ChangeSpec.witness6 (enc := enc) (C := Try.checked) false ⟨#[], #[.agg #[.int .i64 0, .slice none 0 0, .int .i64 0, .int .i64 0, .int .i64 0]], []⟩ 8 (by kernel_rfl) (by kernel_rfl) (by kernel_rfl) (by kernel_rfl)) ?_
  intro W base args ds gs before hval hW _ hsz _
  exact contract H enc W base args ds gs before hval hW hsz
set_option maxRecDepth 100000 in
theorem over : Rows.cnfResolventsRow.holds Try.pinned (OpenSpec.ofChange Rows.cnfResolventsSpec) :=
  OpenClaim.holds_of_wide 15 Try.f15 rfl rfl rfl rfl rfl rfl rfl ⟨rfl, rfl, rfl, rfl, rfl⟩ rfl rfl rfl rfl rfl (by kernel_rfl) Try.func15 (by kernel_rfl)
    (of_decide_eq_true (by kernel_rfl)) (by unfold Func.isWrapper; first | (rw [if_pos (by decide +kernel)]; kernel_rfl) | (rw [if_neg (by decide +kernel)]; exact ⟨rfl, rfl⟩))
    (fun os started H enc _ => lifted os started H enc)
theorem proved : Rows.CnfResolventsSaid := over
#print axioms proved
end Go.Proofs.Ytggnnnddnppcpaa.cnfResolvents
namespace Go.Proofs.Ytggnnnddnppcpaa
theorem cnfResolvents_holds : Rows.CnfResolventsSaid := cnfResolvents.proved
end Go.Proofs.Ytggnnnddnppcpaa
