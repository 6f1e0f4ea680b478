/- CnfCountsSaid: for every input the law CnfCounts returns true, and what came in reads as before. Condition: none. Written by row.py. -/
import Derived.Test.YtggnnnddnppcpaaClCnfCountsl
import Derived.Test.YtggnnnddnppcpaaClCnfCountse
import Derived.Test.YtggnnnddnppcpaaClCnfCountsd
import Derived.Test.YtggnnnddnppcpaaClCnfCountsf
import Derived.Test.YtggnnnddnppcpaaRows
import Derived.WalkKit
import Derived.ProofKit
import Derived.OpenShut
import Derived.ShutString
import Derived.ChangeOld
import Derived.Below
import Derived.SizedLaws
import Derived.Lib.SmallJoins
/-! text YtggnnnddnppcpaaStatCnfCounts -/
namespace Go.Proofs.Ytggnnnddnppcpaa.PCnfCounts
open Go.RowKit Go.Proofs.YtggnnnddnppcpaaW.PrintWords Go.Proofs.YtggnnnddnppcpaaW.PrintLast Go.Proofs.YtggnnnddnppcpaaW.PrintMore Go.Proofs.YtggnnnddnppcpaaOpens
set_option linter.unusedVariables false
set_option linter.unusedSimpArgs false
def Stmt : Prop := ∀ (a0_0 : Int) (l0_1 : List (List (Int))) (l1 : List (Int)), (((Lit.int .i64 a0_0).wf = true) ∧ (l0_1.length * 24 ≤ 140737488351232 ∧ ∀ y1 ∈ l0_1, y1.length * 8 ≤ 140737488351232 ∧ ∀ y2 ∈ y1, (Lit.int .i64 y2).wf = true)) → (l1.length * 8 ≤ 140737488351232 ∧ ∀ y5 ∈ l1, (Lit.int .i64 y5).wf = true) → ∃ k, depotlaw02_CnfCounts.f k a0_0 l0_1 l1 = some true
theorem walk (P : Stmt) (a0_0 : Int) (A0_1 : Option Addr) (c0_1 : Nat) (l0_1 : List (List (Int))) (A1 : Option Addr) (c1 : Nat) (l1 : List (Int)) (w : World) (hr0_1 : Kd.C (Kd.slice 3 (Kd.int .i64)) w A0_1 l0_1.length l0_1) (hc0_1 : l0_1.length ≤ c0_1) (hr1 : Kd.C (Kd.int .i64) w A1 l1.length l1) (hc1 : l1.length ≤ c1) (ok0 : ((Lit.int .i64 a0_0).wf = true) ∧ (l0_1.length * 24 ≤ 140737488351232 ∧ ∀ y1 ∈ l0_1, y1.length * 8 ≤ 140737488351232 ∧ ∀ y2 ∈ y1, (Lit.int .i64 y2).wf = true)) (ok1 : l1.length * 8 ≤ 140737488351232 ∧ ∀ y5 ∈ l1, (Lit.int .i64 y5).wf = true) :
    Calls Try.prog 10 #[.agg #[.int .i64 a0_0, .slice A0_1 l0_1.length c0_1], .slice A1 l1.length c1] w fun e w' => e = .returned (.bool true) ∧ Below w.heap.size w w' := by
  obtain ⟨k, h⟩ := P a0_0 l0_1 l1 ok0 ok1
  refine (depotlaw02_CnfCounts.calls k a0_0 A0_1 c0_1 l0_1 A1 c1 l1 true w hr0_1 hc0_1 hr1 hc1 h).mono ?_
  rintro e w' ⟨rfl, hd⟩
  exact ⟨rfl, hd⟩
end Go.Proofs.Ytggnnnddnppcpaa.PCnfCounts
/-! text YtggnnnddnppcpaaLibCnfCounts -/
namespace Go.Proofs.Ytggnnnddnppcpaa.PCnfCounts
open Go.RowKit Go.Proofs.YtggnnnddnppcpaaW.PrintWords Go.Proofs.YtggnnnddnppcpaaW.PrintLast Go.Proofs.YtggnnnddnppcpaaMath
set_option linter.unusedVariables false
set_option linter.unusedSimpArgs false
theorem depotref01_Formed_eq (l : Int) : depotref01_Formed.f l = some (formed l) := by
  unfold depotref01_Formed.f formed
  by_cases h1 : l ≥ 1
  · by_cases h2 : l ≤ 1048576
    · rw [if_pos h1, if_pos h2]; congr 1; symm; simp; omega
    · rw [if_pos h1, if_neg h2, if_pos (by omega)]; congr 1; rw [Bool.eq_iff_iff]; simp; omega
  · by_cases h2 : l ≥ -1048576
    · rw [if_neg h1, if_pos h2]; congr 1; rw [Bool.eq_iff_iff]; simp; omega
    · rw [if_neg h1, if_neg h2]; congr 1; symm; simp; omega
theorem depotref01_Sound_l0 (l : List Int) (hn : l.length ≤ 17592186044416) (d : Nat) : ∀ i : Nat, i + d = l.length → Ev (fun k => depotref01_Sound.l0 k l (i : Int)) (sound (l.drop i)) := by
  induction d with
  | zero =>
    intro i hi
    refine Ev.succ ?_
    simp only [depotref01_Sound.l0]
    have h1 : ¬ ((i : Int) < (l.length : Int)) := by omega
    simp only [h1, if_false]
    rw [List.drop_of_length_le (by omega)]
    exact Ev.now _
  | succ d ih =>
    intro i hi
    refine Ev.succ ?_
    simp only [depotref01_Sound.l0, depotref01_Formed_eq, Option.bind_some]
    have h1 : (i : Int) < (l.length : Int) := by omega
    have h0 : (0 : Int) ≤ (i : Int) := by omega
    simp only [h1, h0, if_true]
    rw [drop_rd (show i < l.length by omega)]
    by_cases hf : formed (rd l i) = true
    · simp only [hf, if_true, w64s (show (i : Int) < 9223372036854775807 by omega), sound, List.all_cons, Bool.true_and]
      exact ih (i + 1) (by omega)
    · simp only [Bool.not_eq_true] at hf
      simp only [hf, Bool.false_eq_true, if_false, sound, List.all_cons, Bool.false_and]
      exact Ev.now _
theorem depotref01_Sound_ev (l : List Int) (hn : l.length ≤ 17592186044416) : Ev (fun k => depotref01_Sound.f k l) (sound l) := depotref01_Sound_l0 l hn l.length 0 (by omega)
theorem depotref02_within_l0 (l : List Int) (v : Int) (hn : l.length ≤ 17592186044416) (hs : sound l = true) (d : Nat) : ∀ i : Nat, i + d = l.length → Ev (fun k => depotref02_within.l0 k l v (i : Int)) ((l.drop i).all fun l => decide (l ≤ v ∧ -l ≤ v)) := by
  induction d with
  | zero =>
    intro i hi
    refine Ev.succ ?_
    simp only [depotref02_within.l0]
    have h1 : ¬ ((i : Int) < (l.length : Int)) := by omega
    simp only [h1, if_false]
    rw [List.drop_of_length_le (by omega)]
    exact Ev.now _
  | succ d ih =>
    intro i hi
    refine Ev.succ ?_
    simp only [depotref02_within.l0]
    have h1 : (i : Int) < (l.length : Int) := by omega
    have h0 : (0 : Int) ≤ (i : Int) := by omega
    simp only [h1, h0, if_true]
    rw [drop_rd (show i < l.length by omega)]
    have hf : formed (rd l i) = true := sound_mem hs (rd_mem (by omega))
    have hb := formed_bd hf
    rw [w64 (x := -(rd l i)) (by omega) (by omega)]
    by_cases hc : rd l i ≤ v ∧ - rd l i ≤ v
    · have h2 : ¬ rd l i > v := by omega
      have h3 : ¬ -(rd l i) > v := by omega
      simp only [h2, h3, if_false, w64s (show (i : Int) < 9223372036854775807 by omega), List.all_cons, decide_eq_true hc, Bool.true_and]
      exact ih (i + 1) (by omega)
    · simp only [List.all_cons, decide_eq_false hc, Bool.false_and]
      by_cases h2 : rd l i > v
      · simp only [h2, if_true]
        exact Ev.now _
      · have h3 : -(rd l i) > v := by omega
        simp only [h2, h3, if_true, if_false]
        exact Ev.now _
theorem depotref02_within_ev (l : List Int) (v : Int) (hn : l.length ≤ 17592186044416) : Ev (fun k => depotref02_within.f k l v) (within l v) := by
  unfold depotref02_within.f within
  refine Ev.bind (depotref01_Sound_ev l hn) ?_
  by_cases hs : sound l = true
  · simp only [hs, if_true, Bool.true_and]
    exact depotref02_within_l0 l v hn hs l.length 0 (by omega)
  · simp only [Bool.not_eq_true] at hs
    simp only [hs, Bool.false_eq_true, if_false, Bool.false_and]
    exact Ev.now _
theorem depotref02_Formed_l0 (v : Int) (cs : List (List Int)) (hn : cs.length ≤ 17592186044416) (hc : ∀ c ∈ cs, c.length ≤ 17592186044416) (d : Nat) : ∀ i : Nat, i + d = cs.length → Ev (fun k => depotref02_Formed.l0 k (i : Int) v cs) ((cs.drop i).all fun c => within c v) := by
  induction d with
  | zero =>
    intro i hi
    refine Ev.succ ?_
    simp only [depotref02_Formed.l0]
    have h1 : ¬ ((i : Int) < (cs.length : Int)) := by omega
    simp only [h1, if_false]
    rw [List.drop_of_length_le (by omega)]
    exact Ev.now _
  | succ d ih =>
    intro i hi
    refine Ev.succ ?_
    simp only [depotref02_Formed.l0, rd_L1]
    have h1 : (i : Int) < (cs.length : Int) := by omega
    have h0 : (0 : Int) ≤ (i : Int) := by omega
    simp only [h1, h0, if_true]
    rw [drop_getD (z := ([] : List Int)) (show i < cs.length by omega), List.all_cons]
    have hm : (cs.getD ((i : Int).toNat) ([] : List Int)).length ≤ 17592186044416 := by
      rw [getD_nat (show i < cs.length by omega)]
      exact hc _ (List.getElem_mem _)
    refine Ev.bind (depotref02_within_ev _ v hm) ?_
    by_cases hf : within (cs.getD ((i : Int).toNat) ([] : List Int)) v = true
    · simp only [hf, if_true, w64s (show (i : Int) < 9223372036854775807 by omega), Bool.true_and]
      exact ih (i + 1) (by omega)
    · simp only [Bool.not_eq_true] at hf
      simp only [hf, Bool.false_eq_true, if_false, Bool.false_and]
      exact Ev.now _
theorem depotref02_Formed_ev (v : Int) (cs : List (List Int)) (hn : cs.length ≤ 17592186044416) (hc : ∀ c ∈ cs, c.length ≤ 17592186044416) : Ev (fun k => depotref02_Formed.f k v cs) (isFormula v cs) := by
  have hj : ∀ b, Ev (fun k => depotref02_Formed.j0 k b v cs) (!b && cs.all fun c => within c v) := by
    intro b
    refine Ev.succ ?_
    simp only [depotref02_Formed.j0]
    cases b with
    | true => exact Ev.now _
    | false => exact depotref02_Formed_l0 v cs hn hc cs.length 0 (by omega)
  unfold depotref02_Formed.f isFormula
  by_cases h0 : v < 0
  · simp only [h0, if_true]
    have := hj true
    rw [decide_eq_false (by omega)]
    simpa using this
  · simp only [h0, if_false]
    have := hj (decide (v > 1048576))
    rw [show (!decide (v > 1048576)) = decide (0 ≤ v ∧ v ≤ 1048576) by rw [Bool.eq_iff_iff]; simp; omega] at this
    exact this
theorem depotref02_True_l0 (c : List Int) (m : List Bool) (v : Int) (hv : (m.length : Int) = v) (hw : within c v = true) (hn : c.length ≤ 17592186044416) (d : Nat) : ∀ i : Nat, i + d = c.length → Ev (fun k => depotref02_True.l0 k c m (i : Int)) (holdsIn (c.drop i) m) := by
  induction d with
  | zero =>
    intro i hi
    refine Ev.succ ?_
    simp only [depotref02_True.l0]
    have h1 : ¬ ((i : Int) < (c.length : Int)) := by omega
    simp only [h1, if_false]
    rw [List.drop_of_length_le (by omega)]
    exact Ev.now _
  | succ d ih =>
    intro i hi
    refine Ev.succ ?_
    simp only [depotref02_True.l0]
    have h1 : (i : Int) < (c.length : Int) := by omega
    have h0 : (0 : Int) ≤ (i : Int) := by omega
    obtain ⟨hf, g1, g2⟩ := within_lit hw (rd_mem (l := c) (i := i) (by omega))
    have hb := formed_iff.1 hf
    simp only [h1, h0, if_true]
    rw [drop_rd (show i < c.length by omega)]
    simp only [holdsIn, List.any_cons]
    have ht := rdOf_truth (m := m) hf
    by_cases hp : rd c i > 0
    · have e1 : wrap64 (rd c i - 1) = ((rd c i).natAbs : Int) - 1 := by rw [w64 (by omega) (by omega)]; omega
      have h2 : (0 : Int) ≤ ((rd c i).natAbs : Int) - 1 := by omega
      have h3 : ((rd c i).natAbs : Int) - 1 < (m.length : Int) := by omega
      have h4 : ¬ rd c i < 0 := by omega
      simp only [hp, e1, h2, h3, h4, if_true, if_false]
      rw [decide_eq_true hp] at ht
      by_cases hr : rdOf false m (((rd c i).natAbs : Int) - 1) = true
      · rw [hr] at ht
        simp only [hr, if_true, ← ht]
        exact Ev.now _
      · simp only [Bool.not_eq_true] at hr
        rw [hr] at ht
        simp only [hr, Bool.false_eq_true, if_false, ← ht, w64s (show (i : Int) < 9223372036854775807 by omega)]
        exact ih (i + 1) (by omega)
    · have hneg : rd c i < 0 := by omega
      have e1 : wrap64 (wrap64 (-(rd c i)) - 1) = ((rd c i).natAbs : Int) - 1 := by rw [w64 (x := -(rd c i)) (by omega) (by omega), w64 (by omega) (by omega)]; omega
      have h2 : (0 : Int) ≤ ((rd c i).natAbs : Int) - 1 := by omega
      have h3 : ((rd c i).natAbs : Int) - 1 < (m.length : Int) := by omega
      simp only [hp, hneg, e1, h2, h3, if_true, if_false]
      rw [decide_eq_false hp] at ht
      by_cases hr : rdOf false m (((rd c i).natAbs : Int) - 1) = true
      · rw [hr] at ht
        simp only [hr, if_true, ← ht, w64s (show (i : Int) < 9223372036854775807 by omega)]
        exact ih (i + 1) (by omega)
      · simp only [Bool.not_eq_true] at hr
        rw [hr] at ht
        simp only [hr, Bool.false_eq_true, if_false, ← ht]
        exact Ev.now _
theorem depotref02_True_ev (c : List Int) (m : List Bool) (v : Int) (hv : (m.length : Int) = v) (hw : within c v = true) (hn : c.length ≤ 17592186044416) : Ev (fun k => depotref02_True.f k c m) (holdsIn c m) := depotref02_True_l0 c m v hv hw hn c.length 0 (by omega)
theorem depotref02_satisfied_l0 (cs : List (List Int)) (m : List Bool) (v : Int) (hv : (m.length : Int) = v) (hw : ∀ c ∈ cs, within c v = true) (hn : cs.length ≤ 17592186044416) (hc : ∀ c ∈ cs, c.length ≤ 17592186044416) (u : Int) (d : Nat) : ∀ i : Nat, i + d = cs.length → Ev (fun k => depotref02_satisfied.l0 k m (i : Int) u cs) (allIn (cs.drop i) m) := by
  induction d with
  | zero =>
    intro i hi
    refine Ev.succ ?_
    simp only [depotref02_satisfied.l0]
    have h1 : ¬ ((i : Int) < (cs.length : Int)) := by omega
    simp only [h1, if_false]
    rw [List.drop_of_length_le (by omega)]
    exact Ev.now _
  | succ d ih =>
    intro i hi
    refine Ev.succ ?_
    simp only [depotref02_satisfied.l0, rd_L1]
    have h1 : (i : Int) < (cs.length : Int) := by omega
    have h0 : (0 : Int) ≤ (i : Int) := by omega
    simp only [h1, h0, if_true]
    have hm : cs.getD ((i : Int).toNat) ([] : List Int) ∈ cs := by
      rw [getD_nat (show i < cs.length by omega)]
      exact List.getElem_mem _
    rw [drop_getD (z := ([] : List Int)) (show i < cs.length by omega)]
    simp only [allIn, List.all_cons]
    refine Ev.bind (depotref02_True_ev _ m v hv (hw _ hm) (hc _ hm)) ?_
    by_cases ht : holdsIn (cs.getD ((i : Int).toNat) ([] : List Int)) m = true
    · simp only [ht, if_true, Bool.true_and, w64s (show (i : Int) < 9223372036854775807 by omega)]
      exact ih (i + 1) (by omega)
    · simp only [Bool.not_eq_true] at ht
      simp only [ht, Bool.false_eq_true, if_false, Bool.false_and]
      exact Ev.now _
theorem depotref02_satisfied_ev (v : Int) (cs : List (List Int)) (m : List Bool) (hv : (m.length : Int) = v) (hw : ∀ c ∈ cs, within c v = true) (hn : cs.length ≤ 17592186044416) (hc : ∀ c ∈ cs, c.length ≤ 17592186044416) (u : Int) : Ev (fun k => depotref02_satisfied.f k u cs m) (allIn cs m) := depotref02_satisfied_l0 cs m v hv hw hn hc u cs.length 0 (by omega)
theorem depotref02_Counted_l0 (v : Nat) (hv : v ≤ 16) (d : Nat) : ∀ (i n : Nat) (acc : List Bool), i + d = v → acc.length = i → n ≤ 9223372036854775807 → Ev (fun k => depotref02_Counted.l0 k (n : Int) (v : Int) acc (i : Int)) (acc ++ counted d n) := by
  induction d with
  | zero =>
    intro i n acc hi ha hn
    refine Ev.succ ?_
    simp only [depotref02_Counted.l0]
    have h1 : ¬ ((i : Int) < (v : Int)) := by omega
    simp only [h1, if_false, counted, List.append_nil]
    exact Ev.now _
  | succ d ih =>
    intro i n acc hi ha hn
    refine Ev.succ ?_
    simp only [depotref02_Counted.l0]
    have h1 : (i : Int) < (v : Int) := by omega
    have h2 : acc.length < 140737488355328 := by omega
    have e1 : wrap64 (Int.tdiv (n : Int) 2) = ((n / 2 : Nat) : Int) := by
      have : Int.tdiv (n : Int) 2 = ((n / 2 : Nat) : Int) := rfl
      rw [this, w64 (by omega) (by omega)]
    have e2 : (Int.tmod (n : Int) 2 == 1) = (n % 2 == 1) := by
      have : Int.tmod (n : Int) 2 = ((n % 2 : Nat) : Int) := rfl
      rw [this, Bool.eq_iff_iff, beq_iff_eq, beq_iff_eq]
      omega
    simp only [h1, h2, if_true, e1, e2, w64s (show (i : Int) < 9223372036854775807 by omega)]
    have := ih (i + 1) (n / 2) (acc ++ [n % 2 == 1]) (by omega) (by simp [ha]) (by omega)
    rw [List.append_assoc] at this
    exact this
theorem depotref02_Counted_ev (v n : Nat) (hv : v ≤ 16) (hn : n ≤ 9223372036854775807) : Ev (fun k => depotref02_Counted.f k (n : Int) (v : Int)) (counted v n) := depotref02_Counted_l0 v hv v 0 n [] (by omega) rfl hn
theorem ev_cast {α : Type} {g : Nat → Option α} {r r' : α} (h : Ev g r) (e : r = r') : Ev g r' := e ▸ h
theorem shl_one (v : Nat) (hv : v ≤ 16) : Go.Proofs.YtggnnnddnppcpaaW.PrintWords.shl .i64 1 (v : Int) = ((2 ^ v : Nat) : Int) := by
  have : v = 0 ∨ v = 1 ∨ v = 2 ∨ v = 3 ∨ v = 4 ∨ v = 5 ∨ v = 6 ∨ v = 7 ∨ v = 8 ∨ v = 9 ∨ v = 10 ∨ v = 11 ∨ v = 12 ∨ v = 13 ∨ v = 14 ∨ v = 15 ∨ v = 16 := by omega
  rcases this with h | h | h | h | h | h | h | h | h | h | h | h | h | h | h | h | h <;> subst h <;> decide
theorem depotref02_Models_l0 (v : Nat) (cs : List (List Int)) (hv : v ≤ 16) (hw : ∀ c ∈ cs, within c (v : Int) = true) (hn : cs.length ≤ 17592186044416) (hc : ∀ c ∈ cs, c.length ≤ 17592186044416) (d : Nat) : ∀ i : Nat, i + d = 2 ^ v → Ev (fun k => depotref02_Models.l0 k (modelsTo v cs i) (i : Int) (v : Int) cs) (modelsIn v cs) := by
  have hp : 2 ^ v ≤ 65536 := Nat.pow_le_pow_right (n := 2) (by omega) hv
  induction d with
  | zero =>
    intro i hi
    refine Ev.succ ?_
    simp only [depotref02_Models.l0, shl_one v hv]
    have h0 : (0 : Int) ≤ (v : Int) := by omega
    have h1 : ¬ ((i : Int) < ((2 ^ v : Nat) : Int)) := by omega
    simp only [h0, h1, if_true, if_false]
    obtain rfl : i = 2 ^ v := by omega
    exact Ev.now _
  | succ d ih =>
    intro i hi
    refine Ev.succ ?_
    simp only [depotref02_Models.l0, shl_one v hv]
    have h0 : (0 : Int) ≤ (v : Int) := by omega
    have h1 : (i : Int) < ((2 ^ v : Nat) : Int) := by omega
    simp only [h0, h1, if_true]
    refine Ev.bind (depotref02_Counted_ev v i hv (by omega)) ?_
    refine Ev.bind (depotref02_satisfied_ev (v : Int) cs (counted v i) (by rw [counted_length]) hw hn hc _) ?_
    have hl := modelsTo_length v cs i
    have h2 : (modelsTo v cs i).length < 5864062014805 := by omega
    have hs := modelsTo_succ v cs i
    have := ih (i + 1) (by omega)
    by_cases ha : allIn cs (counted v i) = true
    · rw [if_pos ha] at hs
      simp only [ha, h2, if_true, w64s (show (i : Int) < 9223372036854775807 by omega), ← hs]
      exact this
    · rw [if_neg ha, List.append_nil] at hs
      simp only [ha, if_false, w64s (show (i : Int) < 9223372036854775807 by omega), ← hs, Bool.false_eq_true]
      exact this
theorem depotref02_Models_j0 (v : Int) (cs : List (List Int)) (hn : cs.length ≤ 17592186044416) (hc : ∀ c ∈ cs, c.length ≤ 17592186044416) (hf : isFormula v cs = true) : Ev (fun k => depotref02_Models.j0 k [] (decide (v > 16)) v cs) (if 16 < v then [] else modelsIn v.toNat cs) := by
  refine Ev.succ ?_
  simp only [depotref02_Models.j0]
  by_cases hv : 16 < v
  · have h1 : decide (v > 16) = true := decide_eq_true hv
    simp only [h1, if_true, hv]
    exact Ev.now _
  · have h1 : decide (v > 16) = false := decide_eq_false hv
    simp only [h1, if_false, hv, Bool.false_eq_true]
    have hb := isFormula_bd hf
    obtain ⟨u, rfl⟩ := Int.eq_ofNat_of_zero_le hb.1
    exact depotref02_Models_l0 u cs (by omega) (fun c h => isFormula_clause hf h) hn hc (2 ^ u) 0 (by omega)
theorem depotref02_Models_ev (v : Int) (cs : List (List Int)) (hn : cs.length ≤ 17592186044416) (hc : ∀ c ∈ cs, c.length ≤ 17592186044416) : Ev (fun k => depotref02_Models.f k v cs) (if (isFormula v cs && decide (v ≤ 16)) = true then modelsIn v.toNat cs else []) := by
  simp only [depotref02_Models.f]
  refine Ev.bind (depotref02_Formed_ev v cs hn hc) ?_
  by_cases hf : isFormula v cs = true
  · simp only [hf, if_true, Bool.true_and]
    refine ev_cast (depotref02_Models_j0 v cs hn hc hf) ?_
    by_cases hv : 16 < v
    · rw [if_pos hv, decide_eq_false (by omega)]; rfl
    · rw [if_neg hv, decide_eq_true (by omega)]; rfl
  · simp only [Bool.not_eq_true] at hf
    simp only [hf, Bool.false_and, Bool.false_eq_true, if_false]
    refine Ev.succ ?_
    simp only [depotref02_Models.j0, if_true]
    exact Ev.now _
theorem cnf_Count_ev (v : Int) (cs : List (List Int)) (hn : cs.length ≤ 5864062014805) (hc : ∀ c ∈ cs, c.length ≤ 17592186044416) : Ev (fun k => cnf_Count.f k v cs) (countOf v cs) := by
  simp only [cnf_Count.f]
  rw [if_pos ⟨hn, hc⟩]
  exact Ev.now _
theorem depotref02_Count_ev (v : Int) (cs : List (List Int)) (hn : cs.length ≤ 17592186044416) (hc : ∀ c ∈ cs, c.length ≤ 17592186044416) : Ev (fun k => depotref02_Count.f k v cs) (countOf v cs) := by
  simp only [depotref02_Count.f]
  unfold countOf
  refine Ev.bind (depotref02_Formed_ev v cs hn hc) ?_
  by_cases hf : isFormula v cs = true
  · simp only [hf, if_true]
    by_cases hv : 16 < v
    · have h1 : v > 16 := hv
      simp only [h1, if_true, hv]
      exact Ev.now _
    · have h1 : ¬ v > 16 := hv
      have hm := depotref02_Models_ev v cs hn hc
      rw [hf, decide_eq_true (show v ≤ 16 by omega), Bool.true_and, if_pos rfl] at hm
      simp only [h1, if_false, hv]
      refine Ev.bind hm ?_
      exact Ev.now _
  · simp only [Bool.not_eq_true] at hf
    simp only [hf, Bool.false_eq_true, if_false]
    exact Ev.now _
theorem cnf_Entails_ev (v : Int) (cs : List (List Int)) (c : List Int) (hn : cs.length ≤ 5864062014805) (hc : ∀ c ∈ cs, c.length ≤ 17592186044416) (hl : c.length ≤ 17592186044416) : Ev (fun k => cnf_Entails.f k v cs c) (entailsOf v cs c) := by
  simp only [cnf_Entails.f]
  rw [if_pos ⟨hn, hl, hc⟩]
  exact Ev.now _
theorem depotref02_Entails_l0 (c : List Int) (ms : List (List Bool)) (v : Int) (hm : ∀ m ∈ ms, (m.length : Int) = v) (hw : within c v = true) (hn : c.length ≤ 17592186044416) (hl : ms.length ≤ 17592186044416) (d : Nat) : ∀ i : Nat, i + d = ms.length → Ev (fun k => depotref02_Entails.l0 k c ms (i : Int)) ((ms.drop i).all (holdsIn c), 0) := by
  induction d with
  | zero =>
    intro i hi
    refine Ev.succ ?_
    simp only [depotref02_Entails.l0]
    have h1 : ¬ ((i : Int) < (ms.length : Int)) := by omega
    simp only [h1, if_false]
    rw [List.drop_of_length_le (by omega)]
    exact Ev.now _
  | succ d ih =>
    intro i hi
    refine Ev.succ ?_
    simp only [depotref02_Entails.l0, rd_L3]
    have h1 : (i : Int) < (ms.length : Int) := by omega
    have h0 : (0 : Int) ≤ (i : Int) := by omega
    simp only [h1, h0, if_true]
    have hmm : ms.getD ((i : Int).toNat) ([] : List Bool) ∈ ms := by
      rw [getD_nat (show i < ms.length by omega)]
      exact List.getElem_mem _
    rw [drop_getD (z := ([] : List Bool)) (show i < ms.length by omega)]
    simp only [List.all_cons]
    refine Ev.bind (depotref02_True_ev c _ v (hm _ hmm) hw hn) ?_
    by_cases ht : holdsIn c (ms.getD ((i : Int).toNat) ([] : List Bool)) = true
    · simp only [ht, if_true, Bool.true_and, w64s (show (i : Int) < 9223372036854775807 by omega)]
      exact ih (i + 1) (by omega)
    · simp only [Bool.not_eq_true] at ht
      simp only [ht, Bool.false_eq_true, if_false, Bool.false_and]
      exact Ev.now _
theorem depotref02_Entails_ev (v : Int) (cs : List (List Int)) (c : List Int) (hn : cs.length ≤ 17592186044416) (hc : ∀ c ∈ cs, c.length ≤ 17592186044416) (hl : c.length ≤ 17592186044416) : Ev (fun k => depotref02_Entails.f k v cs c) (entailsOf v cs c) := by
  simp only [depotref02_Entails.f]
  unfold entailsOf
  refine Ev.bind (depotref02_Formed_ev v cs hn hc) ?_
  by_cases hf : isFormula v cs = true
  · simp only [hf, if_true, Bool.true_and]
    refine Ev.bind (depotref02_within_ev c v hl) ?_
    refine Ev.succ ?_
    by_cases hw : within c v = true
    · simp only [hw, depotref02_Entails.j0, Bool.not_true, Bool.false_eq_true, if_false, if_true]
      by_cases hv : 16 < v
      · have h1 : v > 16 := hv
        simp only [h1, if_true, hv]
        exact Ev.now _
      · have h1 : ¬ v > 16 := hv
        have hm := depotref02_Models_ev v cs hn hc
        rw [hf, decide_eq_true (show v ≤ 16 by omega), Bool.true_and, if_pos rfl] at hm
        simp only [h1, if_false, hv]
        refine Ev.bind hm ?_
        have hb := isFormula_bd hf
        have hlen := modelsTo_length v.toNat cs (2 ^ v.toNat)
        have hp : 2 ^ v.toNat ≤ 65536 := Nat.pow_le_pow_right (n := 2) (by omega) (show v.toNat ≤ 16 by omega)
        have hlen2 : (modelsIn v.toNat cs).length ≤ 17592186044416 := by unfold modelsIn; omega
        have h := depotref02_Entails_l0 c (modelsIn v.toNat cs) v (fun m hm => by rw [modelsTo_mem hm]; omega) hw hl hlen2 (modelsIn v.toNat cs).length 0 (by omega)
        rw [List.drop_zero] at h
        exact h
    · simp only [Bool.not_eq_true] at hw
      simp only [hw, depotref02_Entails.j0, Bool.not_false, if_true, Bool.false_eq_true, if_false]
      exact Ev.now _
  · simp only [Bool.not_eq_true] at hf
    simp only [hf, Bool.false_eq_true, if_false, Bool.false_and]
    refine Ev.succ ?_
    simp only [depotref02_Entails.j0, if_true]
    exact Ev.now _
end Go.Proofs.Ytggnnnddnppcpaa.PCnfCounts
/-! text YtggnnnddnppcpaaPureCnfCounts -/
namespace Go.Proofs.Ytggnnnddnppcpaa.Pure
open Go.RowKit Go.Proofs.Ytggnnnddnppcpaa.PCnfCounts Go.Proofs.YtggnnnddnppcpaaW.PrintWords Go.Proofs.YtggnnnddnppcpaaW.PrintLast Go.Proofs.YtggnnnddnppcpaaOpens Go.Proofs.YtggnnnddnppcpaaMath
set_option linter.unusedVariables false
set_option linter.unusedSimpArgs false

theorem CnfCounts : PCnfCounts.Stmt := by
  intro v l c ok1 ok2
  have hn : l.length ≤ 5864062014805 := by have := ok1.2.1; omega
  have hs : ∀ c ∈ l, c.length ≤ 17592186044416 := fun c hc => by have := (ok1.2.2 c hc).1; omega
  have hp : c.length ≤ 17592186044416 := by have := ok2.1; omega
  refine Ev.rounds ?_
  unfold depotlaw02_CnfCounts.f depotlaw02_small.f
  simp only [Option.bind_some]
  have e1 : countOf 2 [[1, 2], [-1]] = (1, 0) := by decide
  refine Ev.bind (cnf_Count_ev 2 _ (by simp) (by simp)) ?_
  rw [e1]
  simp only [if_true]
  refine Ev.succ ?_
  simp only [depotlaw02_CnfCounts.j0, bne_self_eq_false, Bool.false_eq_true, if_false]
  refine Ev.bind (cnf_Count_ev v l hn hs) ?_
  refine Ev.bind (depotref02_Count_ev v l (by omega) hs) ?_
  simp only [if_true]
  refine Ev.succ ?_
  simp only [depotlaw02_CnfCounts.j1, bne_self_eq_false, Bool.false_eq_true, if_false]
  refine Ev.bind (cnf_Entails_ev v l c hn hs hp) ?_
  refine Ev.bind (depotref02_Entails_ev v l c (by omega) hs hp) ?_
  simp only [beq_self_eq_true, if_true]
  exact Ev.now _

end Go.Proofs.Ytggnnnddnppcpaa.Pure
/-! text YtggnnnddnppcpaaRowCnfCounts -/
namespace Go.Proofs.Ytggnnnddnppcpaa.cnfCounts
open Go.ChangeShapes Go.WideShapes Go.ChangeAt Go.RowKit Go.Joins
open Go.Proofs.YtggnnnddnppcpaaOpens Go.Proofs.YtggnnnddnppcpaaW.PrintWords Go.Proofs.Ytggnnnddnppcpaa.PCnfCounts
set_option linter.unusedVariables false
set_option linter.unusedSimpArgs false
theorem own : ownKnob Try.prog.godebug = none := by kernel_rfl
theorem laidOut : laidOutB Try.prog = true := by kernel_rfl
set_option maxRecDepth 100000 in
theorem contract (H : Type) (enc : TypeId × Value → H) (W : World) (base : Nat) (args : Array Value) (ds gs : List (DataW H)) (before : List MemPlace)
    (hval0 : ∀ (j : Nat) t v, Try.f10.params[j]? = some t → args[j]? = some v → Value.okWide Try.prog W .any base t v)
    (hW : DataW.Whole enc Try.prog Try.f10.params.toList Rows.cnfCountsSpec.vars false W args.toList ds gs before)
    (hsz0 : (DataW.weightsEach Try.prog (Try.f10.params.toList ++ Rows.cnfCountsSpec.plain.varTypes Try.prog) (ds ++ gs)).all (· ≤ reachBytes) = true) :
    Calls Try.prog 10 args W fun e W' => ∃ v, e = .returned v ∧ Rows.cnfCountsSpec.post enc Try.prog Try.f10 false true false false W args v W' := by
  have hsz := hsz0
  have hval : ∀ (j : Nat) t v, Try.f10.params[j]? = some t → args[j]? = some v → Value.okWide Try.prog W .any base t v := hval0
  have hW' := hW
  obtain ⟨p, q, hA0, hV, rfl, hfz, hnd⟩ := hW
  have hA : DataW.TrodAll enc Try.prog W 0 (fun _ => true) true Try.f10.params.toList args.toList ds p := hA0
  rw [Try.params10] at hA hval hsz
  obtain ⟨v0, vs0, d0, ds0, p0, q0, hargs, rfl, rfl, h0, r0⟩ := trodAll_cons hA
  obtain ⟨v1, vs1, d1, ds1, p1, q1, rfl, rfl, rfl, h1, r1⟩ := trodAll_cons r0
  obtain ⟨rfl, rfl, rfl⟩ := trodAll_nil r1
  obtain rfl : args = #[v0, v1] := by cases args; simp_all
  obtain ⟨rfl, rfl⟩ := trodVars_none hV
  obtain ⟨cs0, rfl, _⟩ := okWide_struct Try.underlying24 (hval 0 24 v0 rfl rfl)
  have k0 := h0
  have lt0 : ∀ x ∈ p0, x.block < W.heap.size := by obtain ⟨m, hm⟩ := k0; exact DataW.trod_lt m _ _ _ hm
  obtain ⟨a0, hK0, ok0, m0⟩ := struct_arg (opens_struct (opensF_cons (opens_int Try.underlying3 (by kernel_rfl)) (by kernel_rfl) (opensF_last (opens_slice (B := 24) (opens_slice (B := 8) (opens_int Try.underlying3 (by kernel_rfl)) Try.underlying43 (by kernel_rfl) (by kernel_rfl)) Try.underlying22 (by kernel_rfl) (by kernel_rfl)) (by kernel_rfl))) Try.underlying24 (by kernel_rfl)) h0 (reach_of hsz (j := 0) (t := 24) rfl rfl)
  obtain ⟨_, _, hcs0, rfl, ⟨A0_1, c0_1, rfl, hc0_1, hr0_1⟩⟩ := hK0
  obtain rfl : cs0 = #[.int .i64 a0.1, .slice A0_1 a0.2.length c0_1] := by cases cs0; simpa using hcs0
  obtain ⟨A1, len1, c1, rfl⟩ := okWide_slice Try.underlying43 (hval 1 43 v1 rfl rfl)
  have k1 := h1
  have lt1 : ∀ x ∈ p1, x.block < W.heap.size := by obtain ⟨m, hm⟩ := k1; exact DataW.trod_lt m _ _ _ hm
  obtain ⟨l1, rfl, hr1, hc1, ok1, m1⟩ := slice_arg (opens_slice (B := 8) (opens_int Try.underlying3 (by kernel_rfl)) Try.underlying43 (by kernel_rfl) (by kernel_rfl)) h1 (reach_of hsz (j := 1) (t := 43) rfl rfl)
  clear hA0 hval0 hsz0 hsz
  refine (PCnfCounts.walk Pure.CnfCounts a0.1 A0_1 c0_1 a0.2 A1 c1 l1 W hr0_1 hc0_1 hr1 hc1 ok0 ok1).mono fun e W' ⟨he, bel⟩ => ?_
  subst he
  exact ⟨_, rfl, _, _, _, [], _, [], hW', trodAll_mk1 (shut_bool Try.underlying4 _), (trodAll_cons_mk (Below.trod laidOut (by kernel_rfl) (of_decide_eq_true (by kernel_rfl)) k0 bel lt0) (trodAll_cons_mk (Below.trod laidOut (by kernel_rfl) (of_decide_eq_true (by kernel_rfl)) k1 bel lt1) trodAll_mk0)), rfl, bel.frame _, fun h => by cases h⟩
set_option maxRecDepth 100000 in
theorem lifted (os : Os) (started : os.Started) (H : Type) (enc : TypeId × Value → H) :
    ReturnsInHanded {} Try.checked os 10 .any (Rows.cnfCountsSpec.pre6 enc Try.prog Try.f10 Rows.cnfCountsRow.domain false) (Rows.cnfCountsSpec.post enc Try.prog Try.f10 false true false false) := by
  refine returnsInHanded_of_change_sized (C := Try.checked) own started (by kernel_rfl) Try.func10
    (ChangeSpec.witness6 (enc := enc) (C := Try.checked) false ⟨#[], #[.agg #[.int .i64 0, .slice none 0 0], .slice none 0 0], []⟩ 8 (by kernel_rfl) (by kernel_rfl) (by kernel_rfl) (by kernel_rfl)) ?_
  intro W base args ds gs before hval hW _ hsz _
  exact contract H enc W base args ds gs before hval hW hsz
set_option maxRecDepth 100000 in
theorem over : Rows.cnfCountsRow.holds Try.pinned (OpenSpec.ofChange Rows.cnfCountsSpec) :=
  OpenClaim.holds_of_wide 10 Try.f10 rfl rfl rfl rfl rfl rfl rfl ⟨rfl, rfl, rfl, rfl, rfl⟩ rfl rfl rfl rfl rfl (by kernel_rfl) Try.func10 (by kernel_rfl)
    (of_decide_eq_true (by kernel_rfl)) (by unfold Func.isWrapper; first | (rw [if_pos (by decide +kernel)]; kernel_rfl) | (rw [if_neg (by decide +kernel)]; exact ⟨rfl, rfl⟩))
    (fun os started H enc _ => lifted os started H enc)
theorem proved : Rows.CnfCountsSaid := over
#print axioms proved
end Go.Proofs.Ytggnnnddnppcpaa.cnfCounts
namespace Go.Proofs.Ytggnnnddnppcpaa
theorem cnfCounts_holds : Rows.CnfCountsSaid := cnfCounts.proved
end Go.Proofs.Ytggnnnddnppcpaa
