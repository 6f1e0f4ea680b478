/- What the functions that LitsFollows reaches compute, on numbers and lists. Laid by lib.py. -/
import Derived.Test.YtamefocngapkpaaGLitsFollowsx1
import Derived.Test.YtamefocngapkpaaMath
import Derived.Test.YtamefocngapkpaaOpens
import Derived.Test.YtamefocngapkpaaTidyPure
namespace Go.Proofs.Ytamefocngapkpaa.PLitsFollows
open Go.RowKit Go.Proofs.YtamefocngapkpaaW.PrintWords Go.Proofs.YtamefocngapkpaaW.PrintLast Go.Proofs.YtamefocngapkpaaMath
set_option linter.unusedVariables false
set_option linter.unusedSimpArgs false
theorem depotlaw01_copied_eq {l : List Int} (hn : l.length < 17592186044416) : depotlaw01_copied.f l = some l := by
  unfold depotlaw01_copied.f; rw [if_pos (by simpa using hn)]; rfl
theorem depotlaw01_within_l0 (l : List Int) (x : Int) (hn : l.length ≤ 17592186044416) (d : Nat) : ∀ (i : Nat), i + d = l.length → Ev (fun k => depotlaw01_within.l0 k l x (i : Int)) ((l.drop i).contains x) := by
  induction d with
  | zero =>
    intro i hi
    refine Ev.succ ?_
    simp only [depotlaw01_within.l0]
    have h1 : ¬ ((i : Int) < (l.length : Int)) := by omega
    simp only [h1, if_false]
    rw [List.drop_of_length_le (by omega)]
    exact Ev.now _
  | succ d ih =>
    intro i hi
    refine Ev.succ ?_
    simp only [depotlaw01_within.l0]
    have h1 : (i : Int) < (l.length : Int) := by omega
    have h0 : (0 : Int) ≤ (i : Int) := by omega
    simp only [h1, h0, if_true, w64s (show (i : Int) < 9223372036854775807 by omega)]
    rw [drop_rd (show i < l.length by omega)]
    by_cases hf : rd l i = x
    · simp only [hf, if_true, List.contains_cons, beq_self_eq_true, Bool.true_or]
      exact Ev.now _
    · have e : (x == rd l i) = false := by simpa using fun h => hf h.symm
      simp only [hf, if_false, List.contains_cons, e, Bool.false_or]
      exact ih (i + 1) (by omega)
theorem depotlaw01_within_ev (l : List Int) (x : Int) (hn : l.length ≤ 17592186044416) : Ev (fun k => depotlaw01_within.f k l x) (l.contains x) := depotlaw01_within_l0 l x hn l.length 0 (by omega)
theorem depotlaw01_same_l0 (a b : List Int) (hn : a.length ≤ 17592186044416) (he : a.length = b.length) (d : Nat) : ∀ i : Nat, i + d = a.length → Ev (fun k => depotlaw01_same.l0 k a b (i : Int)) (a.drop i == b.drop i) := by
  induction d with
  | zero =>
    intro i hi
    refine Ev.succ ?_
    simp only [depotlaw01_same.l0]
    have h1 : ¬ ((i : Int) < (a.length : Int)) := by omega
    simp only [h1, if_false]
    rw [List.drop_of_length_le (by omega), List.drop_of_length_le (by omega)]
    exact Ev.now _
  | succ d ih =>
    intro i hi
    refine Ev.succ ?_
    simp only [depotlaw01_same.l0]
    have h1 : (i : Int) < (a.length : Int) := by omega
    have h2 : (i : Int) < (b.length : Int) := by omega
    have h0 : (0 : Int) ≤ (i : Int) := by omega
    simp only [h1, h2, h0, if_true]
    rw [drop_rd (show i < a.length by omega), drop_rd (show i < b.length by omega)]
    by_cases hf : rd a i = rd b i
    · simp only [hf, if_true, w64s (show (i : Int) < 9223372036854775807 by omega), List.cons_beq_cons, beq_self_eq_true, Bool.true_and]
      exact ih (i + 1) (by omega)
    · have : (rd a i == rd b i) = false := by simpa using hf
      simp only [hf, if_false, List.cons_beq_cons, this, Bool.false_and]
      exact Ev.now _
theorem depotlaw01_same_ev (a b : List Int) (hn : a.length ≤ 17592186044416) : Ev (fun k => depotlaw01_same.f k a b) (a == b) := by
  unfold depotlaw01_same.f
  by_cases he : a.length = b.length
  · have : (a.length : Int) = (b.length : Int) := by omega
    simp only [this, if_true]
    exact depotlaw01_same_l0 a b hn he a.length 0 (by omega)
  · have : ¬ (a.length : Int) = (b.length : Int) := by omega
    simp only [this, if_false]
    have e : (a == b) = false := by
      simp only [beq_eq_false_iff_ne, ne_eq]
      rintro rfl; exact he rfl
    rw [e]
    exact Ev.now _
theorem depotlaw01_sound_l0 (l : List Int) (hn : l.length ≤ 17592186044416) (d : Nat) : ∀ i : Nat, i + d = l.length → Ev (fun k => depotlaw01_sound.l0 k l (i : Int)) (sound (l.drop i)) := by
  induction d with
  | zero =>
    intro i hi
    refine Ev.succ ?_
    simp only [depotlaw01_sound.l0]
    have h1 : ¬ ((i : Int) < (l.length : Int)) := by omega
    simp only [h1, if_false]
    rw [List.drop_of_length_le (by omega)]
    exact Ev.now _
  | succ d ih =>
    intro i hi
    refine Ev.succ ?_
    simp only [depotlaw01_sound.l0]
    have h1 : (i : Int) < (l.length : Int) := by omega
    have h0 : (0 : Int) ≤ (i : Int) := by omega
    simp only [h1, h0, if_true, w64s (show (i : Int) < 9223372036854775807 by omega)]
    rw [drop_rd (show i < l.length by omega)]
    have ih := ih (i + 1) (by omega)
    generalize rd l (i : Int) = x at *
    simp only [sound, List.all_cons] at ih ⊢
    by_cases a1 : x = 0
    · have : formed x = false := by simp [formed, a1]
      simp only [a1, if_true, this, Bool.false_and]
      rw [a1] at this
      rw [this, Bool.false_and]
      exact Ev.now _
    · by_cases a2 : x < -1048576
      · have : formed x = false := by unfold formed; exact decide_eq_false (by omega)
        simp only [a1, a2, if_true, if_false, this, Bool.false_and]
        exact Ev.now _
      · by_cases a3 : x > 1048576
        · have : formed x = false := by unfold formed; exact decide_eq_false (by omega)
          simp only [a1, a2, a3, if_true, if_false, this, Bool.false_and]
          exact Ev.now _
        · have : formed x = true := by unfold formed; exact decide_eq_true (by omega)
          simp only [a1, a2, a3, if_false, this, Bool.true_and]
          exact ih
theorem depotlaw01_sound_ev (l : List Int) (hn : l.length ≤ 17592186044416) : Ev (fun k => depotlaw01_sound.f k l) (sound l) := depotlaw01_sound_l0 l hn l.length 0 (by omega)
def trIn (m : List Bool) (l : Int) : Bool := if (m.length : Int) = 0 then decide (l < 0) else (rdOf false m (((l.natAbs : Int) - 1) % (m.length : Int)) == decide (l > 0))
theorem depotlaw01_truth_eq (m : List Bool) (l : Int) (hl : formed l = true) : depotlaw01_truth.f m l = some (trIn m l) := by
  have hb := formed_iff.1 hl
  unfold depotlaw01_truth.f trIn
  by_cases c : l < 0
  · have e1 : wrap64 (-l) = -l := by unfold wrap64; omega
    have e2 : wrap64 (-l - 1) = (l.natAbs : Int) - 1 := by unfold wrap64; omega
    have h1 : ¬ (-l < 1) := by omega
    simp only [c, if_true, e1, h1, if_false, e2]
    by_cases z : (m.length : Int) = 0
    · simp only [z, if_true]
    · have h3 := Int.emod_nonneg ((l.natAbs : Int) - 1) z
      have h4 := Int.emod_lt_of_pos ((l.natAbs : Int) - 1) (show (0 : Int) < (m.length : Int) by omega)
      simp only [z, if_false, Int.tmod_eq_emod_of_nonneg (show (0 : Int) ≤ (l.natAbs : Int) - 1 by omega), h3, h4, if_true]
  · have e2 : wrap64 (l - 1) = (l.natAbs : Int) - 1 := by unfold wrap64; omega
    have h1 : ¬ (l < 1) := by omega
    simp only [c, if_false, h1, e2]
    by_cases z : (m.length : Int) = 0
    · simp only [z, if_true, c]
    · have h3 := Int.emod_nonneg ((l.natAbs : Int) - 1) z
      have h4 := Int.emod_lt_of_pos ((l.natAbs : Int) - 1) (show (0 : Int) < (m.length : Int) by omega)
      simp only [z, if_false, Int.tmod_eq_emod_of_nonneg (show (0 : Int) ≤ (l.natAbs : Int) - 1 by omega), h3, h4, if_true]
theorem depotlaw01_holds_l0 (m : List Bool) (l : List Int) (hs : sound l = true) (hn : l.length ≤ 17592186044416) (d : Nat) : ∀ i : Nat, i + d = l.length → Ev (fun k => depotlaw01_holds.l0 k m l (i : Int)) ((l.drop i).any (trIn m)) := by
  induction d with
  | zero =>
    intro i hi
    refine Ev.succ ?_
    simp only [depotlaw01_holds.l0]
    have h1 : ¬ ((i : Int) < (l.length : Int)) := by omega
    simp only [h1, if_false]
    rw [List.drop_of_length_le (by omega)]
    exact Ev.now _
  | succ d ih =>
    intro i hi
    refine Ev.succ ?_
    have h1 : (i : Int) < (l.length : Int) := by omega
    have h0 : (0 : Int) ≤ (i : Int) := by omega
    have hf := sound_mem hs (rd_mem (show i < l.length by omega))
    simp only [depotlaw01_holds.l0, depotlaw01_truth_eq _ _ hf, Option.bind_some, h1, h0, if_true, w64s (show (i : Int) < 9223372036854775807 by omega)]
    rw [drop_rd (show i < l.length by omega)]
    simp only [List.any_cons]
    cases trIn m (rd l (i : Int))
    · simp only [Bool.false_eq_true, if_false, Bool.false_or]
      exact ih (i + 1) (by omega)
    · simp only [if_true, Bool.true_or]
      exact Ev.now _
theorem depotlaw01_holds_ev (m : List Bool) (l : List Int) (hs : sound l = true) (hn : l.length ≤ 17592186044416) : Ev (fun k => depotlaw01_holds.f k m l) (l.any (trIn m)) := depotlaw01_holds_l0 m l hs hn l.length 0 (by omega)
end Go.Proofs.Ytamefocngapkpaa.PLitsFollows
