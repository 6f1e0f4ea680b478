/- What the functions that LitsWeaker reaches compute, on numbers and lists. Laid by lib.py. -/
import Derived.Test.YtamefocngapkpaaGLitsWeakerx4
import Derived.Test.YtamefocngapkpaaMath
import Derived.Test.YtamefocngapkpaaTidyPure
namespace Go.Proofs.Ytamefocngapkpaa.PLitsWeaker
open Go.RowKit Go.Proofs.YtamefocngapkpaaW.PrintWords Go.Proofs.YtamefocngapkpaaW.PrintLast Go.Proofs.YtamefocngapkpaaMath
set_option linter.unusedVariables false
set_option linter.unusedSimpArgs false
theorem lits_Formed_eq (l : Int) : lits_Formed.f l = some (formed l) := by
  unfold lits_Formed.f formed
  by_cases h0 : l = 0
  · simp [h0]
  · by_cases h1 : l ≥ -1048576
    · rw [if_neg h0, if_pos h1]; congr 1; rw [Bool.eq_iff_iff]; simp; omega
    · rw [if_neg h0, if_neg h1]; congr 1; symm; simp; omega
theorem lits_Sound_l0 (l : List Int) (hn : l.length ≤ 17592186044416) (d : Nat) : ∀ i : Nat, i + d = l.length → Ev (fun k => lits_Sound.l0 k l (l.length : Int) (i : Int)) (sound (l.drop i)) := by
  induction d with
  | zero =>
    intro i hi
    refine Ev.succ ?_
    simp only [lits_Sound.l0]
    have h1 : ¬ ((i : Int) < (l.length : Int)) := by omega
    simp only [h1, if_false]
    rw [List.drop_of_length_le (by omega)]
    exact Ev.now _
  | succ d ih =>
    intro i hi
    refine Ev.succ ?_
    simp only [lits_Sound.l0, lits_Formed_eq, Option.bind_some]
    have h1 : (i : Int) < (l.length : Int) := by omega
    have h0 : (0 : Int) ≤ (i : Int) := by omega
    simp only [h1, h0, if_true]
    rw [drop_rd (show i < l.length by omega)]
    by_cases hf : formed (rd l i) = true
    · simp only [hf, if_true, w64s (show (i : Int) < 9223372036854775807 by omega), sound, List.all_cons, Bool.true_and]
      exact ih (i + 1) (by omega)
    · simp only [Bool.not_eq_true] at hf
      simp only [hf, Bool.false_eq_true, if_false, sound, List.all_cons, Bool.false_and]
      exact Ev.now _
theorem lits_Sound_ev (l : List Int) (hn : l.length ≤ 17592186044416) : Ev (fun k => lits_Sound.f k l) (sound l) := lits_Sound_l0 l hn l.length 0 (by omega)
theorem lits_Tidy_eq {l : List Int} (hn : l.length ≤ 17592186044416) : lits_Tidy.f l = some (tidyOf l) := by unfold lits_Tidy.f; rw [if_pos hn]
theorem depotlaw01_copied_eq {l : List Int} (hn : l.length < 17592186044416) : depotlaw01_copied.f l = some l := by
  unfold depotlaw01_copied.f; rw [if_pos (by simpa using hn)]; rfl
theorem depotlaw01_within_l0 (l : List Int) (x : Int) (hn : l.length ≤ 17592186044416) (d : Nat) : ∀ (i : Nat), i + d = l.length → Ev (fun k => depotlaw01_within.l0 k l x (i : Int)) ((l.drop i).contains x) := by
  induction d with
  | zero =>
    intro i hi
    refine Ev.succ ?_
    simp only [depotlaw01_within.l0]
    have h1 : ¬ ((i : Int) < (l.length : Int)) := by omega
    simp only [h1, if_false]
    rw [List.drop_of_length_le (by omega)]
    exact Ev.now _
  | succ d ih =>
    intro i hi
    refine Ev.succ ?_
    simp only [depotlaw01_within.l0]
    have h1 : (i : Int) < (l.length : Int) := by omega
    have h0 : (0 : Int) ≤ (i : Int) := by omega
    simp only [h1, h0, if_true, w64s (show (i : Int) < 9223372036854775807 by omega)]
    rw [drop_rd (show i < l.length by omega)]
    by_cases hf : rd l i = x
    · simp only [hf, if_true, List.contains_cons, beq_self_eq_true, Bool.true_or]
      exact Ev.now _
    · have e : (x == rd l i) = false := by simpa using fun h => hf h.symm
      simp only [hf, if_false, List.contains_cons, e, Bool.false_or]
      exact ih (i + 1) (by omega)
theorem depotlaw01_within_ev (l : List Int) (x : Int) (hn : l.length ≤ 17592186044416) : Ev (fun k => depotlaw01_within.f k l x) (l.contains x) := depotlaw01_within_l0 l x hn l.length 0 (by omega)
theorem slices_Equal_int_int_l0 (a b : List Int) (hn : a.length ≤ 17592186044416) (he : a.length = b.length) (d : Nat) : ∀ i : Nat, i + d = a.length → Ev (fun k => slices_Equal_int_int.l0 k a b (a.length : Int) (i : Int)) (a.drop i == b.drop i) := by
  induction d with
  | zero =>
    intro i hi
    refine Ev.succ ?_
    simp only [slices_Equal_int_int.l0]
    have h1 : ¬ ((i : Int) < (a.length : Int)) := by omega
    simp only [h1, if_false]
    rw [List.drop_of_length_le (by omega), List.drop_of_length_le (by omega)]
    exact Ev.now _
  | succ d ih =>
    intro i hi
    refine Ev.succ ?_
    simp only [slices_Equal_int_int.l0]
    have h1 : (i : Int) < (a.length : Int) := by omega
    have h2 : (i : Int) < (b.length : Int) := by omega
    have h0 : (0 : Int) ≤ (i : Int) := by omega
    simp only [h1, h2, h0, if_true]
    rw [drop_rd (show i < a.length by omega), drop_rd (show i < b.length by omega)]
    by_cases hf : rd a i = rd b i
    · simp only [hf, if_true, w64s (show (i : Int) < 9223372036854775807 by omega), List.cons_beq_cons, beq_self_eq_true, Bool.true_and]
      exact ih (i + 1) (by omega)
    · have : (rd a i == rd b i) = false := by simpa using hf
      simp only [hf, if_false, List.cons_beq_cons, this, Bool.false_and]
      exact Ev.now _
theorem slices_Equal_int_int_ev (a b : List Int) (hn : a.length ≤ 17592186044416) : Ev (fun k => slices_Equal_int_int.f k a b) (a == b) := by
  unfold slices_Equal_int_int.f
  by_cases he : a.length = b.length
  · have : (a.length : Int) = (b.length : Int) := by omega
    have h := slices_Equal_int_int_l0 a b hn he a.length 0 (by omega)
    simp only [this, if_true] at h ⊢
    exact h
  · have : ¬ (a.length : Int) = (b.length : Int) := by omega
    simp only [this, if_false]
    have e : (a == b) = false := by
      simp only [beq_eq_false_iff_ne, ne_eq]
      rintro rfl; exact he rfl
    rw [e]
    exact Ev.now _
theorem lits_Taut_l0 (t : List Int) (hf : ∀ x ∈ t, formed x = true) (hn : t.length ≤ 17592186044416) (d : Nat) : ∀ i : Nat, 0 < i → i + d = t.length → Ev (fun k => lits_Taut.l0 k t (i : Int)) (tautIn (t.drop (i - 1))) := by
  induction d with
  | zero =>
    intro i h0 hi
    refine Ev.succ ?_
    simp only [lits_Taut.l0]
    have h1 : ¬ ((i : Int) < (t.length : Int)) := by omega
    simp only [h1, if_false]
    rw [drop_rd (show i - 1 < t.length by omega), List.drop_of_length_le (by omega)]
    exact Ev.now _
  | succ d ih =>
    intro i h0 hi
    refine Ev.succ ?_
    simp only [lits_Taut.l0]
    have h1 : (i : Int) < (t.length : Int) := by omega
    have h2 : (0 : Int) ≤ (i : Int) := by omega
    have h3 : (0 : Int) ≤ ((i - 1 : Nat) : Int) := by omega
    have h4 : ((i - 1 : Nat) : Int) < (t.length : Int) := by omega
    have hb := formed_bd (hf _ (rd_mem (show i - 1 < t.length by omega)))
    have e1 : wrap64 (-(rd t ((i - 1 : Nat) : Int))) = -(rd t ((i - 1 : Nat) : Int)) := by unfold wrap64; omega
    simp only [h1, h2, if_true, w64p h0 (show (i : Int) < 9223372036854775807 by omega), h3, h4, e1, w64s (show (i : Int) < 9223372036854775807 by omega)]
    rw [drop_rd (show i - 1 < t.length by omega), show i - 1 + 1 = i by omega, drop_rd (show i < t.length by omega)]
    have := ih (i + 1) (by omega) (by omega)
    rw [show i + 1 - 1 = i by omega, drop_rd (show i < t.length by omega)] at this
    by_cases c : rd t (i : Int) = -(rd t ((i - 1 : Nat) : Int))
    · have : (rd t (i : Int) == -(rd t ((i - 1 : Nat) : Int))) = true := by simpa using c
      simp only [c, if_true, tautIn, beq_self_eq_true, Bool.true_or]
      exact Ev.now _
    · have e : (rd t (i : Int) == -(rd t ((i - 1 : Nat) : Int))) = false := by simpa using c
      simp only [c, if_false, tautIn, e, Bool.false_or]
      exact this
theorem lits_Taut_ev (l : List Int) (hn : l.length ≤ 17592186044416) : Ev (fun k => lits_Taut.f k l) (tautIn (tidyOf l)) := by
  unfold lits_Taut.f
  have ht := tidyOf_length l
  refine Ev.bound (lits_Tidy_eq hn) ?_
  by_cases h : (tidyOf l).length = 0
  · rw [List.eq_nil_of_length_eq_zero h]
    refine Ev.succ ?_
    simp only [lits_Taut.l0]
    exact Ev.now _
  · have := lits_Taut_l0 (tidyOf l) (fun _ h => tidyOf_formed h) (by omega) ((tidyOf l).length - 1) 1 (by omega) (by omega)
    simpa using this
theorem lits_Subsumes_ev {a b : List Int} (ha : a.length ≤ 17592186044416) (hb : b.length ≤ 17592186044416) : Ev (fun k => lits_Subsumes.f k a b) (subOf a b) := by
  unfold lits_Subsumes.f; simp only [ha, hb, and_self, if_true]; exact Ev.now _
theorem lits_Same_ev (a b : List Int) (ha : a.length ≤ 17592186044416) (hb : b.length ≤ 17592186044416) : Ev (fun k => lits_Same.f k a b) (sound a && (sound b && (tidyOf a == tidyOf b))) := by
  unfold lits_Same.f
  have t1 := tidyOf_length a
  refine Ev.bind (lits_Sound_ev a ha) ?_
  cases sound a
  · simp only [Bool.false_eq_true, if_false, Bool.false_and]; exact Ev.now _
  · simp only [if_true, Bool.true_and]
    refine Ev.bind (lits_Sound_ev b hb) ?_
    cases sound b
    · simp only [Bool.false_eq_true, if_false, Bool.false_and]; exact Ev.now _
    · simp only [if_true, Bool.true_and]
      exact Ev.bound (lits_Tidy_eq ha) (Ev.bound (lits_Tidy_eq hb) (Ev.bind (slices_Equal_int_int_ev _ _ (by omega)) (Ev.now _)))
theorem depotlaw01_sound_l0 (l : List Int) (hn : l.length ≤ 17592186044416) (d : Nat) : ∀ i : Nat, i + d = l.length → Ev (fun k => depotlaw01_sound.l0 k l (i : Int)) (sound (l.drop i)) := by
  induction d with
  | zero =>
    intro i hi
    refine Ev.succ ?_
    simp only [depotlaw01_sound.l0]
    have h1 : ¬ ((i : Int) < (l.length : Int)) := by omega
    simp only [h1, if_false]
    rw [List.drop_of_length_le (by omega)]
    exact Ev.now _
  | succ d ih =>
    intro i hi
    refine Ev.succ ?_
    simp only [depotlaw01_sound.l0]
    have h1 : (i : Int) < (l.length : Int) := by omega
    have h0 : (0 : Int) ≤ (i : Int) := by omega
    simp only [h1, h0, if_true, w64s (show (i : Int) < 9223372036854775807 by omega)]
    rw [drop_rd (show i < l.length by omega)]
    have ih := ih (i + 1) (by omega)
    generalize rd l (i : Int) = x at *
    simp only [sound, List.all_cons] at ih ⊢
    by_cases a1 : x = 0
    · have : formed x = false := by simp [formed, a1]
      simp only [a1, if_true, this, Bool.false_and]
      rw [a1] at this
      rw [this, Bool.false_and]
      exact Ev.now _
    · by_cases a2 : x < -1048576
      · have : formed x = false := by unfold formed; exact decide_eq_false (by omega)
        simp only [a1, a2, if_true, if_false, this, Bool.false_and]
        exact Ev.now _
      · by_cases a3 : x > 1048576
        · have : formed x = false := by unfold formed; exact decide_eq_false (by omega)
          simp only [a1, a2, a3, if_true, if_false, this, Bool.false_and]
          exact Ev.now _
        · have : formed x = true := by unfold formed; exact decide_eq_true (by omega)
          simp only [a1, a2, a3, if_false, this, Bool.true_and]
          exact ih
theorem depotlaw01_sound_ev (l : List Int) (hn : l.length ≤ 17592186044416) : Ev (fun k => depotlaw01_sound.f k l) (sound l) := depotlaw01_sound_l0 l hn l.length 0 (by omega)
def trIn (m : List Bool) (l : Int) : Bool := if (m.length : Int) = 0 then decide (l < 0) else (rdOf false m (((l.natAbs : Int) - 1) % (m.length : Int)) == decide (l > 0))
theorem depotlaw01_truth_eq (m : List Bool) (l : Int) (hl : formed l = true) : depotlaw01_truth.f m l = some (trIn m l) := by
  have hb := formed_iff.1 hl
  unfold depotlaw01_truth.f trIn
  by_cases c : l < 0
  · have e1 : wrap64 (-l) = -l := by unfold wrap64; omega
    have e2 : wrap64 (-l - 1) = (l.natAbs : Int) - 1 := by unfold wrap64; omega
    have h1 : ¬ (-l < 1) := by omega
    simp only [c, if_true, e1, h1, if_false, e2]
    by_cases z : (m.length : Int) = 0
    · simp only [z, if_true]
    · have h3 := Int.emod_nonneg ((l.natAbs : Int) - 1) z
      have h4 := Int.emod_lt_of_pos ((l.natAbs : Int) - 1) (show (0 : Int) < (m.length : Int) by omega)
      simp only [z, if_false, Int.tmod_eq_emod_of_nonneg (show (0 : Int) ≤ (l.natAbs : Int) - 1 by omega), h3, h4, if_true]
  · have e2 : wrap64 (l - 1) = (l.natAbs : Int) - 1 := by unfold wrap64; omega
    have h1 : ¬ (l < 1) := by omega
    simp only [c, if_false, h1, e2]
    by_cases z : (m.length : Int) = 0
    · simp only [z, if_true, c]
    · have h3 := Int.emod_nonneg ((l.natAbs : Int) - 1) z
      have h4 := Int.emod_lt_of_pos ((l.natAbs : Int) - 1) (show (0 : Int) < (m.length : Int) by omega)
      simp only [z, if_false, Int.tmod_eq_emod_of_nonneg (show (0 : Int) ≤ (l.natAbs : Int) - 1 by omega), h3, h4, if_true]
theorem depotlaw01_holds_l0 (m : List Bool) (l : List Int) (hs : sound l = true) (hn : l.length ≤ 17592186044416) (d : Nat) : ∀ i : Nat, i + d = l.length → Ev (fun k => depotlaw01_holds.l0 k m l (i : Int)) ((l.drop i).any (trIn m)) := by
  induction d with
  | zero =>
    intro i hi
    refine Ev.succ ?_
    simp only [depotlaw01_holds.l0]
    have h1 : ¬ ((i : Int) < (l.length : Int)) := by omega
    simp only [h1, if_false]
    rw [List.drop_of_length_le (by omega)]
    exact Ev.now _
  | succ d ih =>
    intro i hi
    refine Ev.succ ?_
    have h1 : (i : Int) < (l.length : Int) := by omega
    have h0 : (0 : Int) ≤ (i : Int) := by omega
    have hf := sound_mem hs (rd_mem (show i < l.length by omega))
    simp only [depotlaw01_holds.l0, depotlaw01_truth_eq _ _ hf, Option.bind_some, h1, h0, if_true, w64s (show (i : Int) < 9223372036854775807 by omega)]
    rw [drop_rd (show i < l.length by omega)]
    simp only [List.any_cons]
    cases trIn m (rd l (i : Int))
    · simp only [Bool.false_eq_true, if_false, Bool.false_or]
      exact ih (i + 1) (by omega)
    · simp only [if_true, Bool.true_or]
      exact Ev.now _
theorem depotlaw01_holds_ev (m : List Bool) (l : List Int) (hs : sound l = true) (hn : l.length ≤ 17592186044416) : Ev (fun k => depotlaw01_holds.f k m l) (l.any (trIn m)) := depotlaw01_holds_l0 m l hs hn l.length 0 (by omega)
end Go.Proofs.Ytamefocngapkpaa.PLitsWeaker
