/- CnfMeansUptoSaid: for every input the law CnfMeans returns true, and what came in reads as before. Condition: what comes in is of bulk at most 1048576. Written by row.py. -/
import Derived.Test.YtggnnnddnppcpaaDoorClCnfMeansUptoCardl
import Derived.Test.YtggnnnddnppcpaaDoorClCnfMeansUptoCarde
import Derived.Test.YtggnnnddnppcpaaDoorClCnfMeansUptoCardi
import Derived.Test.YtggnnnddnppcpaaDoorClCnfMeansUptoCardj
import Derived.Test.YtggnnnddnppcpaaDoorClCnfMeansUptoCardf
import Derived.Test.YtggnnnddnppcpaaDoorCards
import Derived.Test.YtggnnnddnppcpaaDoorTie
import Derived.Deep.DeepHandedRow
import Derived.Lib.LaidTab
import Derived.Stop.LaidErr
import Derived.SevenTiedAt
import Derived.LaidMore
import Derived.Test.YtggnnnddnppcpaaDoorRows
import Derived.WalkKit
import Derived.ProofKit
import Derived.OpenShut
import Derived.ShutString
import Derived.ChangeOld
import Derived.Below
import Derived.SizedLaws
import Derived.Lib.SmallJoins
import Derived.JoinedCond
import Derived.Deep.CondSized
/-! text YtggnnnddnppcpaaDoorStatCnfMeans -/
namespace Go.Proofs.YtggnnnddnppcpaaDoor.PCnfMeans
open Go.RowKit Go.Proofs.YtggnnnddnppcpaaDoorW.PrintWords Go.Proofs.YtggnnnddnppcpaaDoorW.PrintLast Go.Proofs.YtggnnnddnppcpaaDoorW.PrintMore Go.Proofs.YtggnnnddnppcpaaDoorOpens
set_option linter.unusedVariables false
set_option linter.unusedSimpArgs false
def Stmt : Prop := ∀ (a0_0_0 : Int) (l0_0_1 : List (List (Int))) (a0_1_0 : Int) (l0_1_1 : List (List (Int))) (l0_2 : List (Int)) (l0_3 : List (Bool)), ((((Lit.int .i64 a0_0_0).wf = true) ∧ (l0_0_1.length * 24 ≤ 140737488351232 ∧ ∀ y1 ∈ l0_0_1, y1.length * 8 ≤ 140737488351232 ∧ ∀ y2 ∈ y1, (Lit.int .i64 y2).wf = true)) ∧ (((Lit.int .i64 a0_1_0).wf = true) ∧ (l0_1_1.length * 24 ≤ 140737488351232 ∧ ∀ y3 ∈ l0_1_1, y3.length * 8 ≤ 140737488351232 ∧ ∀ y4 ∈ y3, (Lit.int .i64 y4).wf = true)) ∧ (l0_2.length * 8 ≤ 140737488351232 ∧ ∀ y5 ∈ l0_2, (Lit.int .i64 y5).wf = true) ∧ (l0_3.length * 1 ≤ 140737488351232 ∧ ∀ y6 ∈ l0_3, True)) → ((((1 + (sumOf (fun y7 => (sumOf (fun y8 => 1) y7 + 1)) l0_0_1 + 1)) + 1) + (((1 + (sumOf (fun y9 => (sumOf (fun y10 => 1) y9 + 1)) l0_1_1 + 1)) + 1) + ((sumOf (fun y11 => 1) l0_2 + 1) + (sumOf (fun y12 => 1) l0_3 + 1)))) + 1) ≤ 1048576 → ∃ k, depotlaw02_CnfMeans.f k a0_0_0 l0_0_1 a0_1_0 l0_1_1 l0_2 l0_3 = some true
theorem walk (P : Stmt) (a0_0_0 : Int) (A0_0_1 : Option Addr) (c0_0_1 : Nat) (l0_0_1 : List (List (Int))) (a0_1_0 : Int) (A0_1_1 : Option Addr) (c0_1_1 : Nat) (l0_1_1 : List (List (Int))) (A0_2 : Option Addr) (c0_2 : Nat) (l0_2 : List (Int)) (A0_3 : Option Addr) (c0_3 : Nat) (l0_3 : List (Bool)) (w : World) (hr0_0_1 : Kd.C (Kd.slice 3 (Kd.int .i64)) w A0_0_1 l0_0_1.length l0_0_1) (hc0_0_1 : l0_0_1.length ≤ c0_0_1) (hr0_1_1 : Kd.C (Kd.slice 3 (Kd.int .i64)) w A0_1_1 l0_1_1.length l0_1_1) (hc0_1_1 : l0_1_1.length ≤ c0_1_1) (hr0_2 : Kd.C (Kd.int .i64) w A0_2 l0_2.length l0_2) (hc0_2 : l0_2.length ≤ c0_2) (hr0_3 : Kd.C Kd.bool w A0_3 l0_3.length l0_3) (hc0_3 : l0_3.length ≤ c0_3) (ht : Go.Proofs.YtggnnnddnppcpaaDoorHand.Tab w) (ok0 : (((Lit.int .i64 a0_0_0).wf = true) ∧ (l0_0_1.length * 24 ≤ 140737488351232 ∧ ∀ y1 ∈ l0_0_1, y1.length * 8 ≤ 140737488351232 ∧ ∀ y2 ∈ y1, (Lit.int .i64 y2).wf = true)) ∧ (((Lit.int .i64 a0_1_0).wf = true) ∧ (l0_1_1.length * 24 ≤ 140737488351232 ∧ ∀ y3 ∈ l0_1_1, y3.length * 8 ≤ 140737488351232 ∧ ∀ y4 ∈ y3, (Lit.int .i64 y4).wf = true)) ∧ (l0_2.length * 8 ≤ 140737488351232 ∧ ∀ y5 ∈ l0_2, (Lit.int .i64 y5).wf = true) ∧ (l0_3.length * 1 ≤ 140737488351232 ∧ ∀ y6 ∈ l0_3, True)) (hm : ((((1 + (sumOf (fun y7 => (sumOf (fun y8 => 1) y7 + 1)) l0_0_1 + 1)) + 1) + (((1 + (sumOf (fun y9 => (sumOf (fun y10 => 1) y9 + 1)) l0_1_1 + 1)) + 1) + ((sumOf (fun y11 => 1) l0_2 + 1) + (sumOf (fun y12 => 1) l0_3 + 1)))) + 1) ≤ 1048576) :
    Calls Tryd.prog 4 #[.agg #[.int .i64 a0_0_0, .slice A0_0_1 l0_0_1.length c0_0_1, .int .i64 a0_1_0, .slice A0_1_1 l0_1_1.length c0_1_1, .slice A0_2 l0_2.length c0_2, .slice A0_3 l0_3.length c0_3]] w fun e w' => e = .returned (.bool true) ∧ Below w.heap.size w w' := by
  obtain ⟨k, h⟩ := P a0_0_0 l0_0_1 a0_1_0 l0_1_1 l0_2 l0_3 ok0 hm
  refine (depotlaw02_CnfMeans.calls k a0_0_0 A0_0_1 c0_0_1 l0_0_1 a0_1_0 A0_1_1 c0_1_1 l0_1_1 A0_2 c0_2 l0_2 A0_3 c0_3 l0_3 true w hr0_0_1 hc0_0_1 hr0_1_1 hc0_1_1 hr0_2 hc0_2 hr0_3 hc0_3 ht h).mono ?_
  rintro e w' ⟨rfl, hd⟩
  exact ⟨rfl, hd⟩
end Go.Proofs.YtggnnnddnppcpaaDoor.PCnfMeans
/-! text YtggnnnddnppcpaaDoorMeansMath -/
namespace Go.Proofs.YtggnnnddnppcpaaDoorMath
set_option linter.unusedVariables false
set_option linter.unusedSimpArgs false
theorem truth_neg {m : List Bool} {l : Int} (h : l ≠ 0) : truth m (-l) = !truth m l := by
  unfold truth
  have e : decide (-l > 0) = !decide (l > 0) := by
    by_cases h1 : l > 0
    · rw [decide_eq_true h1, decide_eq_false (show ¬ (-l > 0) by omega)]; rfl
    · rw [decide_eq_false h1, decide_eq_true (show -l > 0 by omega)]; rfl
  rw [Int.natAbs_neg, e]
  cases m.getD (l.natAbs - 1) false <;> cases decide (l > 0) <;> rfl
theorem within_sound {c : List Int} {v : Int} (h : within c v = true) : sound c = true := by
  unfold within at h
  rw [Bool.and_eq_true] at h
  exact h.1
theorem within_of {c : List Int} {v : Int} (h : ∀ l ∈ c, formed l = true ∧ l ≤ v ∧ -l ≤ v) : within c v = true := by
  unfold within sound
  rw [Bool.and_eq_true, List.all_eq_true, List.all_eq_true]
  exact ⟨fun l hl => (h l hl).1, fun l hl => decide_eq_true (h l hl).2⟩
theorem isFormula_of {v : Int} {cs : List (List Int)} (h0 : 0 ≤ v ∧ v ≤ 1048576) (h : ∀ c ∈ cs, within c v = true) : isFormula v cs = true := by
  unfold isFormula
  rw [Bool.and_eq_true, List.all_eq_true]
  exact ⟨decide_eq_true h0, h⟩
theorem tidy_formula {v : Int} {cs : List (List Int)} (h : isFormula v cs = true) : isFormula v (tidyAll cs) = true := by
  refine isFormula_of (isFormula_bd h) fun c hc => ?_
  obtain ⟨d, hd, rfl, _⟩ := tidyAll_mem hc
  exact within_of fun l hl => within_lit (isFormula_clause h hd) ((mem_tidyOf l d).1 hl).1
theorem holds_tidy {c : List Int} {m : List Bool} (h : sound c = true) : holdsIn (tidyOf c) m = holdsIn c m := by
  unfold holdsIn
  rw [Bool.eq_iff_iff, List.any_eq_true, List.any_eq_true]
  constructor
  · rintro ⟨x, h1, h2⟩
    exact ⟨x, ((mem_tidyOf x c).1 h1).1, h2⟩
  · rintro ⟨x, h1, h2⟩
    exact ⟨x, (mem_tidyOf x c).2 ⟨h1, sound_mem h h1⟩, h2⟩
theorem taut_holds {c : List Int} {m : List Bool} (ht : tautIn (tidyOf c) = true) : holdsIn (tidyOf c) m = true := by
  obtain ⟨x, h1, h2⟩ := (tautIn_iff _ (rising_tidyOf c) (fun _ h => tidyOf_formed h)).1 ht
  unfold holdsIn
  rw [List.any_eq_true]
  cases hx : truth m x with
  | true => exact ⟨x, h1, hx⟩
  | false => exact ⟨-x, h2, by rw [truth_neg (formed_iff.1 (tidyOf_formed h1)).1, hx]; rfl⟩
theorem tidy_all {cs : List (List Int)} {m : List Bool} (h : ∀ c ∈ cs, sound c = true) : allIn (tidyAll cs) m = allIn cs m := by
  unfold allIn
  rw [Bool.eq_iff_iff, List.all_eq_true, List.all_eq_true]
  constructor
  · intro H c hc
    rw [← holds_tidy (h c hc)]
    cases ht : tautIn (tidyOf c) with
    | true => exact taut_holds ht
    | false => exact H _ (tidyAll_has hc ht)
  · intro H c hc
    obtain ⟨d, hd, rfl, _⟩ := tidyAll_mem hc
    rw [holds_tidy (h d hd)]
    exact H d hd
theorem tidy_sat {v : Int} {cs : List (List Int)} {m : List Bool} (h : isFormula v cs = true) : satisfies v (tidyAll cs) m = satisfies v cs m := by
  unfold satisfies fitsIn
  rw [tidy_formula h, h, tidy_all fun c hc => within_sound (isFormula_clause h hc)]
theorem isFormula_append {v : Int} {l1 l2 : List (List Int)} (h1 : isFormula v l1 = true) (h2 : isFormula v l2 = true) : isFormula v (l1 ++ l2) = true :=
  isFormula_of (isFormula_bd h1) fun c hc => (List.mem_append.1 hc).elim (isFormula_clause h1) (isFormula_clause h2)
theorem join_sat {v : Int} {l1 l2 : List (List Int)} {m : List Bool} (h1 : isFormula v l1 = true) (h2 : isFormula v l2 = true) : satisfies v (l1 ++ l2) m = (satisfies v l1 m && satisfies v l2 m) := by
  unfold satisfies fitsIn allIn
  rw [isFormula_append h1 h2, h1, h2, List.all_append]
  cases decide ((m.length : Int) = v) <;> simp
/-- the part's literals are true of the model -/
def partOf (m : List Bool) (p : List Int) : Bool := p.all fun l => decide (l ≠ 0 ∧ l ≤ (m.length : Int) ∧ -l ≤ (m.length : Int)) && truth m l
theorem partOf_mem {m : List Bool} {p : List Int} (h : partOf m p = true) {l : Int} (hl : l ∈ p) : (l ≠ 0 ∧ l ≤ (m.length : Int) ∧ -l ≤ (m.length : Int)) ∧ truth m l = true := by
  have := List.all_eq_true.1 h l hl
  rw [Bool.and_eq_true] at this
  exact ⟨of_decide_eq_true this.1, this.2⟩
theorem part_within {m : List Bool} {p : List Int} {v : Int} (h : partOf m p = true) (hv : (m.length : Int) = v) (hb : v ≤ 1048576) : within p v = true :=
  within_of fun l hl => by
    obtain ⟨⟨h1, h2, h3⟩, _⟩ := partOf_mem h hl
    exact ⟨formed_iff.2 ⟨h1, by omega, by omega⟩, by omega, by omega⟩
theorem part_taut {m : List Bool} {p : List Int} (h : partOf m p = true) : tautIn (tidyOf p) = false := by
  cases ht : tautIn (tidyOf p) with
  | false => rfl
  | true =>
    obtain ⟨x, h1, h2⟩ := (tautIn_iff _ (rising_tidyOf p) (fun _ h => tidyOf_formed h)).1 ht
    have a := partOf_mem h ((mem_tidyOf _ _).1 h1).1
    have b := partOf_mem h ((mem_tidyOf _ _).1 h2).1
    rw [truth_neg a.1.1, a.2] at b
    exact absurd b.2 (by decide)
theorem under_holds {m : List Bool} {p c : List Int} (h : partOf m p = true) : holdsIn (underP p c) m = holdsIn c m := by
  unfold holdsIn underP
  rw [Bool.eq_iff_iff, List.any_eq_true, List.any_eq_true]
  constructor
  · rintro ⟨x, h1, h2⟩
    exact ⟨x, (List.mem_filter.1 h1).1, h2⟩
  · rintro ⟨x, h1, h2⟩
    refine ⟨x, List.mem_filter.2 ⟨h1, ?_⟩, h2⟩
    cases hc : p.contains (-x) with
    | false => rfl
    | true =>
      have a := partOf_mem h (List.contains_iff_mem.1 hc)
      rw [truth_neg (by have := a.1.1; omega), h2] at a
      exact absurd a.2 (by decide)
theorem under_all {m : List Bool} {p : List Int} {cs : List (List Int)} (h : partOf m p = true) : allIn (leftAll p cs) m = allIn cs m := by
  unfold allIn leftAll
  rw [Bool.eq_iff_iff, List.all_eq_true, List.all_eq_true]
  constructor
  · intro H c hc
    cases ho : underO p c with
    | true =>
      unfold underO at ho
      obtain ⟨x, h1, h2⟩ := List.any_eq_true.1 ho
      unfold holdsIn
      rw [List.any_eq_true]
      exact ⟨x, h1, (partOf_mem h (List.contains_iff_mem.1 h2)).2⟩
    | false =>
      rw [← under_holds h]
      exact H _ (List.mem_map.2 ⟨c, List.mem_filter.2 ⟨hc, by rw [ho]; rfl⟩, rfl⟩)
  · intro H c hc
    obtain ⟨d, hd, rfl⟩ := List.mem_map.1 hc
    rw [under_holds h]
    exact H d (List.mem_filter.1 hd).1
theorem under_formula {v : Int} {p : List Int} {cs : List (List Int)} (h : isFormula v cs = true) : isFormula v (leftAll p cs) = true :=
  isFormula_of (isFormula_bd h) fun c hc => by
    obtain ⟨d, hd, rfl⟩ := List.mem_map.1 hc
    exact within_of fun l hl => within_lit (isFormula_clause h (List.mem_filter.1 hd).1) (List.mem_filter.1 hl).1
theorem under_sat {v : Int} {p : List Int} {cs : List (List Int)} {m : List Bool} (h : isFormula v cs = true) (hp : partOf m p = true) : satisfies v (leftAll p cs) m = satisfies v cs m := by
  unfold satisfies fitsIn
  rw [under_formula h, h, under_all hp]
end Go.Proofs.YtggnnnddnppcpaaDoorMath
/-! text YtggnnnddnppcpaaDoorPureCnfMeans -/
namespace Go.Proofs.YtggnnnddnppcpaaDoor.Pure
open Go.RowKit Go.Proofs.YtggnnnddnppcpaaDoor.PCnfMeans Go.Proofs.YtggnnnddnppcpaaDoorW.PrintWords Go.Proofs.YtggnnnddnppcpaaDoorW.PrintLast Go.Proofs.YtggnnnddnppcpaaDoorOpens Go.Proofs.YtggnnnddnppcpaaDoorMath
set_option linter.unusedVariables false
set_option linter.unusedSimpArgs false

theorem sumOf_one {α : Type} (l : List α) : sumOf (fun _ => 1) l = l.length := by
  induction l with
  | nil => rfl
  | cons x l ih => simp only [sumOf, ih, List.length_cons]; omega
theorem rows_bulk0 (l : List (List Int)) (n : Nat) (h : sumOf (fun y => y.length + 1) l ≤ n) : l.length ≤ n ∧ ∀ c ∈ l, c.length ≤ n := by
  induction l generalizing n with
  | nil => exact ⟨Nat.zero_le _, fun c hc => by simp at hc⟩
  | cons x l ih =>
    simp only [sumOf] at h
    obtain ⟨h1, h2⟩ := ih (n - x.length - 1) (by omega)
    refine ⟨by simp only [List.length_cons]; omega, fun c hc => ?_⟩
    rcases List.mem_cons.1 hc with rfl | hc
    · omega
    · have := h2 c hc; omega
theorem rows_of_bulk (l : List (List Int)) (n : Nat) (h : sumOf (fun y => sumOf (fun _ => 1) y + 1) l ≤ n) : l.length ≤ n ∧ ∀ c ∈ l, c.length ≤ n :=
  rows_bulk0 l n (by
    have e : (fun y : List Int => y.length + 1) = fun y => sumOf (fun _ => 1) y + 1 := funext fun y => by rw [sumOf_one]
    rw [e]
    exact h)
theorem holds_j1 (p : List Int) (m : List Bool) (i x : Int) (r : Bool) (hx : x ≠ 0 ∧ x ≤ (m.length : Int) ∧ -x ≤ (m.length : Int)) (hm : m.length ≤ 1048576) (h : Ev (fun k => depotlaw02_holds.l0 k p m (wrap64 (i + 1))) r) :
    Ev (fun k => depotlaw02_holds.j1 k p m i x false) (truth m x && r) := by
  refine Ev.succ ?_
  have hf : formed x = true := formed_iff.2 ⟨hx.1, by omega, by omega⟩
  have ht := rdOf_truth (m := m) hf
  simp only [depotlaw02_holds.j1, Bool.false_eq_true, if_false]
  by_cases c : x > 0
  · have e1 : wrap64 (x - 1) = x - 1 := by unfold wrap64; omega
    have e2 : ((x.natAbs : Int) - 1) = x - 1 := by omega
    rw [e2, decide_eq_true c] at ht
    have c2 : ¬ (x < 0) := by omega
    simp only [c, c2, e1, show (0 : Int) ≤ x - 1 by omega, show x - 1 < (m.length : Int) by omega, if_true, if_false]
    cases hh : rdOf false m (x - 1) with
    | true =>
      rw [hh] at ht
      rw [← ht]
      simpa using h
    | false =>
      rw [hh] at ht
      rw [← ht]
      simp only [Bool.false_eq_true, if_false]
      exact Ev.now _
  · have c2 : x < 0 := by omega
    have e1 : wrap64 (-x) = -x := by unfold wrap64; omega
    have e3 : wrap64 (-x - 1) = -x - 1 := by unfold wrap64; omega
    have e2 : ((x.natAbs : Int) - 1) = -x - 1 := by omega
    rw [e2, decide_eq_false c] at ht
    simp only [c, c2, e1, e3, show (0 : Int) ≤ -x - 1 by omega, show -x - 1 < (m.length : Int) by omega, if_true, if_false]
    cases hh : rdOf false m (-x - 1) with
    | true =>
      rw [hh] at ht
      rw [← ht]
      simp only [if_true]
      exact Ev.now _
    | false =>
      rw [hh] at ht
      rw [← ht]
      simpa using h
theorem holds_l0 (m : List Bool) (p : List Int) (hm : m.length ≤ 1048576) (hn : p.length ≤ 17592186044416) (d : Nat) : ∀ i : Nat, i + d = p.length → Ev (fun k => depotlaw02_holds.l0 k p m (i : Int)) (partOf m (p.drop i)) := by
  induction d with
  | zero =>
    intro i hi
    refine Ev.succ ?_
    simp only [depotlaw02_holds.l0]
    have h1 : ¬ ((i : Int) < (p.length : Int)) := by omega
    simp only [h1, if_false]
    rw [List.drop_of_length_le (by omega)]
    exact Ev.now _
  | succ d ih =>
    intro i hi
    refine Ev.succ ?_
    have h1 : (i : Int) < (p.length : Int) := by omega
    have h0 : (0 : Int) ≤ (i : Int) := by omega
    have e0 : wrap64 (-(m.length : Int)) = -(m.length : Int) := by unfold wrap64; omega
    simp only [depotlaw02_holds.l0, h1, h0, if_true, e0]
    rw [drop_rd (show i < p.length by omega)]
    have ih := ih (i + 1) (by omega)
    have hw := w64s (show (i : Int) < 9223372036854775807 by omega)
    generalize rd p (i : Int) = x at *
    show Ev _ (((decide (x ≠ 0 ∧ x ≤ (m.length : Int) ∧ -x ≤ (m.length : Int))) && truth m x) && partOf m (p.drop (i + 1)))
    by_cases a0 : x = 0
    · rw [show decide (x ≠ 0 ∧ x ≤ (m.length : Int) ∧ -x ≤ (m.length : Int)) = false from decide_eq_false (by omega)]
      simp only [a0, if_true, Bool.false_and]
      refine Ev.succ ?_
      simp only [depotlaw02_holds.j1, if_true]
      exact Ev.now _
    · by_cases a1 : x > (m.length : Int)
      · rw [show decide (x ≠ 0 ∧ x ≤ (m.length : Int) ∧ -x ≤ (m.length : Int)) = false from decide_eq_false (by omega)]
        simp only [a0, a1, if_true, if_false, Bool.false_and]
        refine Ev.succ ?_
        simp only [depotlaw02_holds.j1, if_true]
        exact Ev.now _
      · by_cases a2 : x < -(m.length : Int)
        · rw [show decide (x ≠ 0 ∧ x ≤ (m.length : Int) ∧ -x ≤ (m.length : Int)) = false from decide_eq_false (by omega)]
          simp only [a0, a1, a2, decide_true, if_false, Bool.false_and]
          refine Ev.succ ?_
          simp only [depotlaw02_holds.j1, if_true]
          exact Ev.now _
        · have hx : x ≠ 0 ∧ x ≤ (m.length : Int) ∧ -x ≤ (m.length : Int) := by omega
          rw [decide_eq_true hx]
          simp only [a0, a1, a2, decide_false, if_false, Bool.true_and]
          refine holds_j1 p m _ x _ hx hm ?_
          rw [hw]
          exact ih
theorem holds_ev (m : List Bool) (p : List Int) (hm : m.length ≤ 1048576) (hn : p.length ≤ 17592186044416) : Ev (fun k => depotlaw02_holds.f k p m) (partOf m p) := holds_l0 m p hm hn p.length 0 (by omega)
theorem awake_ev : Ev (fun k => depotlaw02_awake.f k) true := by
  unfold depotlaw02_awake.f depotlaw02_small.f
  simp only [Option.bind_some]
  refine Ev.bind (cnf_Formed_ev 2 [[1, 2], [-1]] (by decide) (by decide)) ?_
  rw [show isFormula 2 [[1, 2], [-1]] = true by decide]
  simp only [if_true]
  refine Ev.bind (cnf_Satisfies_ev 2 [[1, 2], [-1]] [false, true] (by decide) (by decide)) ?_
  rw [show satisfies 2 [[1, 2], [-1]] [false, true] = true by decide]
  simp only [if_true]
  refine Ev.bind (cnf_Satisfies_ev 2 [[1, 2], [-1]] [true, true] (by decide) (by decide)) ?_
  rw [show satisfies 2 [[1, 2], [-1]] [true, true] = false by decide]
  simp only [Bool.false_eq_true, if_false]
  refine Ev.bind (cnf_Satisfies_ev 2 [[1, 2], [-1]] [false, false] (by decide) (by decide)) ?_
  rw [show satisfies 2 [[1, 2], [-1]] [false, false] = false by decide]
  exact Ev.now _
section
variable {v v2 : Int} {l l2 : List (List Int)} {p : List Int} {m : List Bool}
abbrev Sm (l : List (List Int)) : Prop := l.length ≤ 1048576 ∧ ∀ c ∈ l, c.length ≤ 1048576
theorem Sm.sat (h : Sm l) (v : Int) (m : List Bool) : Ev (fun k => cnf_Satisfies.f k v l m) (satisfies v l m) := cnf_Satisfies_ev v l m (by have := h.1; omega) (fun c hc => by have := h.2 c hc; omega)
theorem j3_ev (hf : isFormula v l = true) (hl : Sm l) (hm : m.length ≤ 1048576) (hp : p.length ≤ 1048576) (b : Bool) (hb : b = false → (m.length : Int) = v ∧ partOf m p = true) : Ev (fun k => depotlaw02_CnfMeans.j3 k p m b v l) true := by
  refine Ev.succ ?_
  simp only [depotlaw02_CnfMeans.j3]
  cases b with
  | true => simp only [if_true]; exact Ev.now _
  | false =>
    obtain ⟨h1, h2⟩ := hb rfl
    simp only [Bool.false_eq_true, if_false]
    have e : ∀ k, cnf_Under.f k v l p = some (v, leftAll p l, 0) := fun k => by
      unfold cnf_Under.f
      rw [if_pos ⟨by have := hl.1; omega, by omega, fun c hc => by have := hl.2 c hc; omega⟩]
      unfold underOf
      rw [hf, part_within h2 h1 (isFormula_bd hf).2, part_taut h2]
      rfl
    simp only [e, Option.bind_some, if_true]
    have hs : Sm (leftAll p l) := by
      refine ⟨?_, fun c hc => ?_⟩
      · unfold leftAll
        rw [List.length_map]
        exact Nat.le_trans (List.length_filter_le _ _) hl.1
      · obtain ⟨d, hd, rfl⟩ := List.mem_map.1 hc
        exact Nat.le_trans (List.length_filter_le _ _) (hl.2 d (List.mem_filter.1 hd).1)
    refine Ev.bind (hs.sat v m) ?_
    refine Ev.bind (hl.sat v m) ?_
    rw [under_sat hf h2, beq_self_eq_true]
    exact Ev.now _
theorem j2_ev (hf : isFormula v l = true) (hl : Sm l) (hm : m.length ≤ 1048576) (hp : p.length ≤ 1048576) : Ev (fun k => depotlaw02_CnfMeans.j2 k p m v l) true := by
  refine Ev.succ ?_
  simp only [depotlaw02_CnfMeans.j2]
  by_cases h : (m.length : Int) = v
  · simp only [h, if_true]
    refine Ev.bind (holds_ev m p hm (by omega)) ?_
    exact j3_ev hf hl hm hp _ fun hb => ⟨h, by simpa using hb⟩
  · simp only [h, if_false]
    exact j3_ev hf hl hm hp _ fun hb => by cases hb
theorem j1_ev (hf : isFormula v l = true) (hl : Sm l) (hl2 : Sm l2) (hm : m.length ≤ 1048576) (hp : p.length ≤ 1048576) (b : Bool) (hb : b = true → isFormula v2 l2 = true ∧ v2 = v) : Ev (fun k => depotlaw02_CnfMeans.j1 k p m b v l v2 l2) true := by
  refine Ev.succ ?_
  simp only [depotlaw02_CnfMeans.j1]
  cases b with
  | false => simp only [Bool.false_eq_true, if_false]; exact j2_ev hf hl hm hp
  | true =>
    obtain ⟨h2, rfl⟩ := hb rfl
    simp only [if_true]
    have hs : Sm (l ++ l2) ∨ True := .inr trivial
    have e : ∀ k, cnf_Join.f k v2 l v2 l2 = some (v2, l ++ l2, 0) := fun k => by
      unfold cnf_Join.f
      rw [if_pos ⟨by have := hl.1; have := hl2.1; omega, fun c hc => (List.mem_append.1 hc).elim (fun h => by have := hl.2 c h; omega) (fun h => by have := hl2.2 c h; omega)⟩]
      unfold joinOf
      rw [hf, h2]
      simp
    simp only [e, Option.bind_some, if_true]
    refine Ev.bind (cnf_Satisfies_ev v2 (l ++ l2) m (by rw [List.length_append]; have := hl.1; have := hl2.1; omega) (fun c hc => (List.mem_append.1 hc).elim (fun h => by have := hl.2 c h; omega) (fun h => by have := hl2.2 c h; omega))) ?_
    refine Ev.bind (hl.sat v2 m) ?_
    rw [join_sat hf h2]
    cases h3 : satisfies v2 l m with
    | false =>
      simp only [Bool.false_eq_true, if_false, Bool.false_and, bne_self_eq_false]
      exact j2_ev hf hl hm hp
    | true =>
      simp only [if_true, Bool.true_and]
      refine Ev.bind (hl2.sat v2 m) ?_
      simp only [bne_self_eq_false, Bool.false_eq_true, if_false]
      exact j2_ev hf hl hm hp
theorem j0_ev (hf : isFormula v l = true) (hl : Sm l) (hl2 : Sm l2) (hm : m.length ≤ 1048576) (hp : p.length ≤ 1048576) : Ev (fun k => depotlaw02_CnfMeans.j0 k p m false v l v2 l2) true := by
  refine Ev.succ ?_
  simp only [depotlaw02_CnfMeans.j0, Bool.false_eq_true, if_false]
  refine Ev.bind (cnf_Formed_ev v2 l2 (by have := hl2.1; omega) (fun c hc => by have := hl2.2 c hc; omega)) ?_
  cases h : isFormula v2 l2 with
  | false => simp only [Bool.false_eq_true, if_false]; exact j1_ev hf hl hl2 hm hp _ fun hb => by cases hb
  | true => simp only [if_true]; exact j1_ev hf hl hl2 hm hp _ fun hb => ⟨h, by simpa using hb⟩
end
theorem CnfMeans : PCnfMeans.Stmt := by
  intro v l v2 l2 p m _ hb
  rw [sumOf_one p, sumOf_one m] at hb
  have hl : Sm l := rows_of_bulk l 1048576 (by omega)
  have hl2 : Sm l2 := rows_of_bulk l2 1048576 (by omega)
  have hp : p.length ≤ 1048576 := by omega
  have hm : m.length ≤ 1048576 := by omega
  clear hb
  refine Ev.rounds ?_
  unfold depotlaw02_CnfMeans.f
  refine Ev.bind awake_ev ?_
  simp only [if_true]
  refine Ev.bind (cnf_Formed_ev v l (by have := hl.1; omega) (fun c hc => by have := hl.2 c hc; omega)) ?_
  cases hf : isFormula v l with
  | false => simp only [Bool.false_eq_true, if_false]; exact Ev.now _
  | true =>
    simp only [if_true]
    have e : ∀ k, cnf_Tidy.f k v l = some (v, tidyAll l, 0) := fun k => by
      unfold cnf_Tidy.f
      rw [if_pos ⟨by have := hl.1; omega, fun c hc => by have := hl.2 c hc; omega⟩]
      unfold tidiedOf
      rw [hf]
      rfl
    simp only [e, Option.bind_some, if_true]
    have hs : Sm (tidyAll l) := by
      refine ⟨Nat.le_trans (tidyAll_length l) hl.1, fun c hc => ?_⟩
      obtain ⟨d, hd, rfl, _⟩ := tidyAll_mem hc
      exact Nat.le_trans (tidyOf_length d) (hl.2 d hd)
    refine Ev.bind (hs.sat v m) ?_
    refine Ev.bind (hl.sat v m) ?_
    rw [tidy_sat hf, bne_self_eq_false]
    exact j0_ev hf hl hl2 hm hp

end Go.Proofs.YtggnnnddnppcpaaDoor.Pure
/-! text YtggnnnddnppcpaaDoorRowCnfMeans -/
namespace Go.Proofs.YtggnnnddnppcpaaDoor.cnfMeans
open Go.ChangeShapes Go.WideShapes Go.ChangeAt Go.RowKit Go.Joins
open Go.Proofs.YtggnnnddnppcpaaDoorOpens Go.Proofs.YtggnnnddnppcpaaDoorW.PrintWords Go.Proofs.YtggnnnddnppcpaaDoor.PCnfMeans
set_option linter.unusedVariables false
set_option linter.unusedSimpArgs false
theorem own : ownKnob Tryd.prog.godebug = none := by kernel_rfl
theorem laidOut : laidOutB Tryd.prog = true := by kernel_rfl
theorem table {W : World} (h : laidMetH Tryd.prog Rows.cnfMeansUptoRow.laid W) : Go.Proofs.YtggnnnddnppcpaaDoorHand.Tab W := by
  rw [MakeChecks.laidMetH_plain _ _ _ (by kernel_rfl)] at h
  have h3 : laidMet Tryd.prog [("internal/strconv.uint64pow10", Lib.tabData .u64 Lib.pow10Tab)] W := laidMet.tail (laidMet.tail h)
  exact Lib.tabIs_of_head (rest := []) (show Tryd.prog.globalNamed "internal/strconv.uint64pow10" = some 0 by kernel_rfl) (show (Tryd.prog.globals[0]?).map (·.type) = some 104 by kernel_rfl) Tryd.underlying104 Tryd.underlying87 (by kernel_rfl) (by kernel_rfl) h3
set_option maxRecDepth 100000 in
theorem laid_met (os : Os) : laidMetH Tryd.prog Rows.cnfMeansUptoRow.laid ((World.doorLaid Tryd.prog 24 os).forCall (fun _ _ => 0) ⟨#[], #[.agg #[.int .i64 0, .slice none 0 0, .int .i64 0, .slice none 0 0, .slice none 0 0, .slice none 0 0]], []⟩).memory :=
  laidMetH_of_parts3 (fuel := 8) (laidMet_of_run' 8 (by kernel_rfl) (by kernel_rfl)) (by kernel_rfl) (by kernel_rfl)
set_option maxRecDepth 100000 in
theorem reads (os : Os) {H : Type} (enc : TypeId × Value → H) : ∃ places, DataW.whole enc Tryd.prog ((World.doorLaid Tryd.prog 24 os).forCall (fun _ _ => 0) ⟨#[], #[.agg #[.int .i64 0, .slice none 0 0, .int .i64 0, .slice none 0 0, .slice none 0 0, .slice none 0 0]], []⟩).memory Tryd.f4.params.toList Rows.cnfMeansSpec.vars false #[(.agg #[.int .i64 0, .slice none 0 0, .int .i64 0, .slice none 0 0, .slice none 0 0, .slice none 0 0] : Value)].toList 8 = some ([.agg [.agg [.lit (.int .i64 0), .nil], .agg [.lit (.int .i64 0), .nil], .nil, .nil]], [], places) :=
  ⟨[], by kernel_rfl⟩
set_option maxRecDepth 100000 in
theorem contract (H : Type) (enc : TypeId × Value → H) (W : World) (base : Nat) (args : Array Value) (ds gs : List (DataW H)) (before : List MemPlace)
    (hval0 : ∀ (j : Nat) t v, Tryd.f4.params[j]? = some t → args[j]? = some v → Value.okWide Tryd.prog W .any base t v)
    (hW : DataW.Whole enc Tryd.prog Tryd.f4.params.toList Rows.cnfMeansSpec.vars false W args.toList ds gs before)
    (hsz0 : (DataW.weightsEach Tryd.prog (Tryd.f4.params.toList ++ Rows.cnfMeansSpec.plain.varTypes Tryd.prog) (ds ++ gs)).all (· ≤ reachBytes) = true) (hk : Rows.uptoSmall H (ds ++ gs) = true) (hL : laidMetH Tryd.prog Rows.cnfMeansUptoRow.laid W) :
    Calls Tryd.prog 4 args W fun e W' => ∃ v, e = .returned v ∧ Rows.cnfMeansSpec.post enc Tryd.prog Tryd.f4 false true false false W args v W' := by
  have hsz := hsz0
  have hval : ∀ (j : Nat) t v, Tryd.f4.params[j]? = some t → args[j]? = some v → Value.okWide Tryd.prog W .any base t v := hval0
  have hW' := hW
  obtain ⟨p, q, hA0, hV, rfl, hfz, hnd⟩ := hW
  have hA : DataW.TrodAll enc Tryd.prog W 0 (fun _ => true) true Tryd.f4.params.toList args.toList ds p := hA0
  rw [Tryd.params4] at hA hval hsz
  obtain ⟨v0, vs0, d0, ds0, p0, q0, hargs, rfl, rfl, h0, r0⟩ := trodAll_cons hA
  obtain ⟨rfl, rfl, rfl⟩ := trodAll_nil r0
  obtain rfl : args = #[v0] := by cases args; simp_all
  obtain ⟨rfl, rfl⟩ := trodVars_none hV
  obtain ⟨cs0, rfl, _⟩ := okWide_struct Tryd.underlying43 (hval 0 43 v0 rfl rfl)
  have k0 := h0
  have lt0 : ∀ x ∈ p0, x.block < W.heap.size := by obtain ⟨m, hm⟩ := k0; exact DataW.trod_lt m _ _ _ hm
  obtain ⟨a0, hK0, ok0, m0⟩ := struct_arg (opens_struct (opensF_cons (opens_struct (opensF_cons (opens_int Tryd.underlying3 (by kernel_rfl)) (by kernel_rfl) (opensF_last (opens_slice (B := 24) (opens_slice (B := 8) (opens_int Tryd.underlying3 (by kernel_rfl)) Tryd.underlying40 (by kernel_rfl) (by kernel_rfl)) Tryd.underlying22 (by kernel_rfl) (by kernel_rfl)) (by kernel_rfl))) Tryd.underlying24 (by kernel_rfl)) (by kernel_rfl) (opensF_cons (opens_struct (opensF_cons (opens_int Tryd.underlying3 (by kernel_rfl)) (by kernel_rfl) (opensF_last (opens_slice (B := 24) (opens_slice (B := 8) (opens_int Tryd.underlying3 (by kernel_rfl)) Tryd.underlying40 (by kernel_rfl) (by kernel_rfl)) Tryd.underlying22 (by kernel_rfl) (by kernel_rfl)) (by kernel_rfl))) Tryd.underlying24 (by kernel_rfl)) (by kernel_rfl) (opensF_cons (opens_slice (B := 8) (opens_int Tryd.underlying3 (by kernel_rfl)) Tryd.underlying40 (by kernel_rfl) (by kernel_rfl)) (by kernel_rfl) (opensF_last (opens_slice (B := 1) (opens_bool Tryd.underlying4 (by kernel_rfl)) Tryd.underlying41 (by kernel_rfl) (by kernel_rfl)) (by kernel_rfl))))) Tryd.underlying43 (by kernel_rfl)) h0 (reach_of hsz (j := 0) (t := 43) rfl rfl)
  obtain ⟨_, _, hcs0, ⟨_, _, rfl, rfl, ⟨A0_0_1, c0_0_1, rfl, hc0_0_1, hr0_0_1⟩⟩, ⟨_, _, rfl, ⟨_, _, rfl, rfl, ⟨A0_1_1, c0_1_1, rfl, hc0_1_1, hr0_1_1⟩⟩, ⟨_, _, rfl, ⟨A0_2, c0_2, rfl, hc0_2, hr0_2⟩, ⟨A0_3, c0_3, rfl, hc0_3, hr0_3⟩⟩⟩⟩ := hK0
  obtain rfl : cs0 = #[.int .i64 a0.1.1, .slice A0_0_1 a0.1.2.length c0_0_1, .int .i64 a0.2.1.1, .slice A0_1_1 a0.2.1.2.length c0_1_1, .slice A0_2 a0.2.2.1.length c0_2, .slice A0_3 a0.2.2.2.length c0_3] := by cases cs0; simpa using hcs0
  have hm := bulk_of hk
  simp only [List.append_nil, Rows.uptoBulkAll, Rows.uptoBulk] at hm
  clear hA0 hval0 hsz0 hsz
  refine (PCnfMeans.walk Pure.CnfMeans a0.1.1 A0_0_1 c0_0_1 a0.1.2 a0.2.1.1 A0_1_1 c0_1_1 a0.2.1.2 A0_2 c0_2 a0.2.2.1 A0_3 c0_3 a0.2.2.2 W hr0_0_1 hc0_0_1 hr0_1_1 hc0_1_1 hr0_2 hc0_2 hr0_3 hc0_3 (table hL) ok0 (by first | omega | (simp only [sumOf] at *; omega))).mono fun e W' ⟨he, bel⟩ => ?_
  subst he
  exact ⟨_, rfl, _, _, _, [], _, [], hW', trodAll_mk1 (shut_bool Tryd.underlying4 _), (trodAll_cons_mk (Below.trod laidOut (by kernel_rfl) (of_decide_eq_true (by kernel_rfl)) k0 bel lt0) trodAll_mk0), rfl, bel.frame _, fun h => by cases h⟩
set_option maxRecDepth 100000 in
theorem lifted (os : Os) (started : os.Started) (H : Type) (enc : TypeId × Value → H) (F : Stop.Interp) :
    ReturnsInHanded {} Tryd.checked os 4 .any ((Rows.OpenSpec.upto Rows.cnfMeansSpec).preRow enc Tryd.prog Tryd.f4 Rows.cnfMeansUptoRow.domain false Rows.cnfMeansUptoRow.laid) (((Rows.OpenSpec.upto Rows.cnfMeansSpec).at F).post enc Tryd.prog Tryd.f4 false true false false) := by
  obtain ⟨places, hx⟩ := reads os enc
  refine returnsInHanded_of_row (C := Tryd.checked) (s := Rows.OpenSpec.upto Rows.cnfMeansSpec) own started (by kernel_rfl) Tryd.func4
    (witness_row_at (enc := enc) (C := Tryd.checked) false (World.doorLaid Tryd.prog 24 os) #[.agg #[.int .i64 0, .slice none 0 0, .int .i64 0, .slice none 0 0, .slice none 0 0, .slice none 0 0]] rfl (by kernel_rfl) (by kernel_rfl) (by kernel_rfl)
      (OpenSpec.preRow_of_cond 8 hx (by kernel_rfl) (fun k hk => by cases hk; kernel_rfl) (by kernel_rfl) (laid_met os))) ?_
  intro W base args ds gs before hval hW _ hcond hsz hL _ _
  exact contract H enc W base args ds gs before hval hW hsz (hcond _ rfl) hL
set_option maxRecDepth 100000 in
theorem said : Rows.CnfMeansUptoSaid :=
  OpenClaim.holds_of_cond 4 Tryd.f4 rfl rfl rfl rfl rfl rfl rfl ⟨rfl, rfl, rfl, rfl, rfl⟩ rfl rfl rfl rfl rfl (by kernel_rfl) Tryd.func4 (by kernel_rfl)
    (of_decide_eq_true (by kernel_rfl)) (by unfold Func.isWrapper; first | (rw [if_pos (by decide +kernel)]; kernel_rfl) | (rw [if_neg (by decide +kernel)]; exact ⟨rfl, rfl⟩))
    (fun os started H enc _ F => by rw [OpenClaim.pre_eq_preRow]; exact lifted os started H enc F)
theorem plain (f : FuncId) (fn : Func) (hf : Tryd.pinned.checked.prog.funcNamed "depot/depotlaw02.CnfMeans" = some f) (hfn : Tryd.pinned.checked.prog.funcs[f]? = some fn) :
    false = Tryd.pinned.checked.prog.looks [] ∧ ∀ (j : Nat) t, fn.params[j]? = some t → Tryd.pinned.checked.prog.wantsStandIn t = false := by
  obtain rfl : f = 4 := Option.some.inj ((show Tryd.prog.funcNamed "depot/depotlaw02.CnfMeans" = some 4 by kernel_rfl).symm.trans hf) |>.symm
  obtain rfl : fn = Tryd.f4 := (Option.some.inj (Tryd.func4.symm.trans hfn)).symm
  refine ⟨by kernel_rfl, fun j t ht => ?_⟩
  rw [Tryd.params4] at ht
  have hm : t ∈ [43] := by simpa using Array.mem_of_getElem? ht
  have hall : ([43].all fun u => !Tryd.prog.wantsStandIn u) = true := by kernel_rfl
  exact (show Tryd.prog.wantsStandIn t = false by simpa using List.all_eq_true.1 hall t hm)
theorem proved : Rows.CnfMeansUptoCardSaid :=
  Claim7.holds_tied_plain_at .later [] _ _ _ _ said (fun _ h => by cases h) (by kernel_rfl) (fun _ h => by cases h) cnfMeansUpto_row_tie rfl ⟨rfl, rfl⟩ (by kernel_rfl) rfl plain (by kernel_rfl)
#print axioms proved
end Go.Proofs.YtggnnnddnppcpaaDoor.cnfMeans
namespace Go.Proofs.YtggnnnddnppcpaaDoor
theorem cnfMeansupto_holds : Rows.CnfMeansUptoCardSaid := cnfMeans.proved
end Go.Proofs.YtggnnnddnppcpaaDoor
