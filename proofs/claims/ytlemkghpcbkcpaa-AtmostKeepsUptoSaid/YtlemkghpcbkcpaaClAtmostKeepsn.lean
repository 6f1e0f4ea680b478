/- What the functions that AtmostKeeps reaches compute, on numbers and lists. Laid by lib.py. -/
import Derived.Test.YtlemkghpcbkcpaaClAtmostKeepsm
import Derived.Test.YtlemkghpcbkcpaaClAtmostKeepsf
import Derived.Test.YtlemkghpcbkcpaaClAtmostKeepsg
/-! text YtlemkghpcbkcpaaAkLib -/
namespace Go.Proofs.Ytlemkghpcbkcpaa.PAtmostKeeps
open Go.RowKit Go.Proofs.YtlemkghpcbkcpaaW.PrintWords Go.Proofs.YtlemkghpcbkcpaaW.PrintLast Go.Proofs.YtlemkghpcbkcpaaMath
set_option linter.unusedVariables false
set_option linter.unusedSimpArgs false
theorem depotref01_Formed_eq (l : Int) : depotref01_Formed.f l = some (formed l) := by
  unfold depotref01_Formed.f formed
  by_cases h1 : l ≥ 1
  · by_cases h2 : l ≤ 1048576
    · rw [if_pos h1, if_pos h2]; congr 1; symm; simp; omega
    · rw [if_pos h1, if_neg h2, if_pos (by omega)]; congr 1; rw [Bool.eq_iff_iff]; simp; omega
  · by_cases h2 : l ≥ -1048576
    · rw [if_neg h1, if_pos h2]; congr 1; rw [Bool.eq_iff_iff]; simp; omega
    · rw [if_neg h1, if_neg h2]; congr 1; symm; simp; omega
theorem depotref01_Var_eq (l : Int) : depotref01_Var.f l = some (varOf l) := by
  unfold depotref01_Var.f varOf
  rw [depotref01_Formed_eq]
  simp only [Option.bind_some]
  by_cases h : formed l = true
  · have := formed_bd h
    rw [if_pos h, if_pos h, w64 (by omega) (by omega)]
    split <;> rfl
  · rw [if_neg h, if_neg h]
theorem depotref01_Sound_l0 (l : List Int) (hn : l.length ≤ 17592186044416) (d : Nat) : ∀ i : Nat, i + d = l.length → Ev (fun k => depotref01_Sound.l0 k l (i : Int)) (sound (l.drop i)) := by
  induction d with
  | zero =>
    intro i hi
    refine Ev.succ ?_
    simp only [depotref01_Sound.l0]
    have h1 : ¬ ((i : Int) < (l.length : Int)) := by omega
    simp only [h1, if_false]
    rw [List.drop_of_length_le (by omega)]
    exact Ev.now _
  | succ d ih =>
    intro i hi
    refine Ev.succ ?_
    simp only [depotref01_Sound.l0, depotref01_Formed_eq, Option.bind_some]
    have h1 : (i : Int) < (l.length : Int) := by omega
    have h0 : (0 : Int) ≤ (i : Int) := by omega
    simp only [h1, h0, if_true]
    rw [drop_rd (show i < l.length by omega)]
    by_cases hf : formed (rd l i) = true
    · simp only [hf, if_true, w64s (show (i : Int) < 9223372036854775807 by omega), sound, List.all_cons, Bool.true_and]
      exact ih (i + 1) (by omega)
    · simp only [Bool.not_eq_true] at hf
      simp only [hf, Bool.false_eq_true, if_false, sound, List.all_cons, Bool.false_and]
      exact Ev.now _
theorem depotref01_Sound_ev (l : List Int) (hn : l.length ≤ 17592186044416) : Ev (fun k => depotref01_Sound.f k l) (sound l) := depotref01_Sound_l0 l hn l.length 0 (by omega)
theorem depotref00_SameInts_l0 (a b : List Int) (hn : a.length ≤ 17592186044416) (hl : a.length = b.length) (d : Nat) : ∀ i : Nat, i + d = a.length → Ev (fun k => depotref00_SameInts.l0 k a b (i : Int)) (a.drop i == b.drop i) := by
  induction d with
  | zero =>
    intro i hi
    refine Ev.succ ?_
    simp only [depotref00_SameInts.l0]
    have h1 : ¬ ((i : Int) < (a.length : Int)) := by omega
    simp only [h1, if_false]
    rw [List.drop_of_length_le (by omega), List.drop_of_length_le (by omega)]
    exact Ev.now _
  | succ d ih =>
    intro i hi
    refine Ev.succ ?_
    simp only [depotref00_SameInts.l0]
    have h1 : (i : Int) < (a.length : Int) := by omega
    have h2 : (i : Int) < (b.length : Int) := by omega
    have h0 : (0 : Int) ≤ (i : Int) := by omega
    simp only [h1, h2, h0, if_true]
    rw [drop_rd (show i < a.length by omega), drop_rd (show i < b.length by omega), List.cons_beq_cons]
    by_cases hx : rd a i = rd b i
    · simp only [hx, if_true, beq_self_eq_true, Bool.true_and, w64s (show (i : Int) < 9223372036854775807 by omega)]
      exact ih (i + 1) (by omega)
    · have hx2 : (rd a i == rd b i) = false := by simpa using hx
      simp only [hx, if_false, hx2, Bool.false_and]
      exact Ev.now _
theorem depotref00_SameInts_ev (a b : List Int) (hn : a.length ≤ 17592186044416) : Ev (fun k => depotref00_SameInts.f k a b) (a == b) := by
  unfold depotref00_SameInts.f
  by_cases hl : (a.length : Int) = (b.length : Int)
  · simp only [hl, if_true]
    exact depotref00_SameInts_l0 a b hn (by omega) a.length 0 (by omega)
  · simp only [hl, if_false]
    have : (a == b) = false := by
      rw [beq_eq_false_iff_ne]
      rintro rfl
      exact hl rfl
    rw [this]
    exact Ev.now _
theorem atmost_helpers_eq (n k : Int) (hn : 0 ≤ n) (hn2 : n ≤ 1048576) : atmost_helpers.f n k = some (if k = 0 ∨ k ≥ n then 0 else wrap64 ((n - 1) * k)) := by
  unfold atmost_helpers.f
  by_cases h0 : k = 0
  · simp [h0]
  · by_cases h1 : k ≥ n
    · simp [h0, h1]
    · rw [if_neg h0, if_neg h1, if_neg (by omega), w64 (x := n - 1) (by omega) (by omega)]
theorem depotref27_Helpers_eq (n k : Int) (hn : 0 ≤ n) (hn2 : n ≤ 1048576) (hk : 0 ≤ k) : depotref27_Helpers.f n k = some (if k = 0 ∨ k ≥ n then 0 else wrap64 ((n - 1) * k)) := by
  unfold depotref27_Helpers.f
  rw [w64 (x := n - 1) (by omega) (by omega)]
  by_cases h0 : k = 0
  · simp [h0]
  · by_cases h1 : k ≥ n
    · rw [if_neg (by omega), if_pos (by omega), if_pos (by omega)]
    · rw [if_neg (by omega), if_neg (by omega), if_neg (by omega)]
theorem depotref00_SameBools_l0 (a b : List Bool) (hn : a.length ≤ 140737488355328) (hl : a.length = b.length) (d : Nat) : ∀ i : Nat, i + d = a.length → Ev (fun k => depotref00_SameBools.l0 k a b (i : Int)) (a.drop i == b.drop i) := by
  induction d with
  | zero =>
    intro i hi
    refine Ev.succ ?_
    simp only [depotref00_SameBools.l0]
    have h1 : ¬ ((i : Int) < (a.length : Int)) := by omega
    simp only [h1, if_false]
    rw [List.drop_of_length_le (by omega), List.drop_of_length_le (by omega)]
    exact Ev.now _
  | succ d ih =>
    intro i hi
    refine Ev.succ ?_
    simp only [depotref00_SameBools.l0]
    have h1 : (i : Int) < (a.length : Int) := by omega
    have h2 : (i : Int) < (b.length : Int) := by omega
    have h0 : (0 : Int) ≤ (i : Int) := by omega
    simp only [h1, h2, h0, if_true]
    rw [drop_rdOf (z := false) (show i < a.length by omega), drop_rdOf (z := false) (show i < b.length by omega), List.cons_beq_cons]
    by_cases hx : rdOf false a i = rdOf false b i
    · have hx2 : (rdOf false a i != rdOf false b i) = false := by simp [hx]
      simp only [hx2, Bool.false_eq_true, if_false, w64s (show (i : Int) < 9223372036854775807 by omega)]
      rw [hx, beq_self_eq_true, Bool.true_and]
      exact ih (i + 1) (by omega)
    · have hx3 : (rdOf false a i != rdOf false b i) = true := by simp [hx]
      have hx2 : (rdOf false a i == rdOf false b i) = false := by simpa using hx
      simp only [hx3, if_true, hx2, Bool.false_and]
      exact Ev.now _
theorem depotref00_SameBools_ev (a b : List Bool) (hn : a.length ≤ 140737488355328) : Ev (fun k => depotref00_SameBools.f k a b) (a == b) := by
  unfold depotref00_SameBools.f
  by_cases hl : (a.length : Int) = (b.length : Int)
  · simp only [hl, if_true]
    exact depotref00_SameBools_l0 a b hn (by omega) a.length 0 (by omega)
  · simp only [hl, if_false]
    have : (a == b) = false := by
      rw [beq_eq_false_iff_ne]
      rintro rfl
      exact hl rfl
    rw [this]
    exact Ev.now _
theorem depotref27_On_l0 (l : List Bool) (hn : l.length ≤ 1048576) (d : Nat) : ∀ (i c : Nat), c ≤ i → i + d = l.length → Ev (fun k => depotref27_On.l0 k l (l.length : Int) (c : Int) (i : Int)) ((c + cnt (l.drop i) : Nat) : Int) := by
  induction d with
  | zero =>
    intro i c hc hi
    refine Ev.succ ?_
    simp only [depotref27_On.l0]
    have h1 : ¬ ((i : Int) < (l.length : Int)) := by omega
    simp only [h1, if_false]
    refine Ev.succ ?_
    simp only [depotref27_On.j1, Bool.false_eq_true, if_false]
    rw [List.drop_of_length_le (by omega), cnt, Nat.add_zero]
    exact Ev.now _
  | succ d ih =>
    intro i c hc hi
    refine Ev.succ ?_
    simp only [depotref27_On.l0]
    have h1 : (i : Int) < (l.length : Int) := by omega
    have h0 : (0 : Int) ≤ (i : Int) := by omega
    simp only [h1, if_true, decide_true]
    refine Ev.succ ?_
    simp only [depotref27_On.j1, h1, h0, if_true]
    rw [drop_rdOf (z := false) (show i < l.length by omega), cnt]
    by_cases hb : rdOf false l i = true
    · simp only [hb, if_true, w64s (show (i : Int) < 9223372036854775807 by omega), w64s (show (c : Int) < 9223372036854775807 by omega)]
      have := ih (i + 1) (c + 1) (by omega) (by omega)
      rw [show c + 1 + cnt (l.drop (i + 1)) = c + (1 + cnt (l.drop (i + 1))) by omega] at this
      exact this
    · simp only [hb, if_false, w64s (show (i : Int) < 9223372036854775807 by omega)]
      have := ih (i + 1) c (by omega) (by omega)
      rw [show c + cnt (l.drop (i + 1)) = c + (0 + cnt (l.drop (i + 1))) by omega] at this
      exact this
theorem depotref27_On_ev (l : List Bool) (hn : l.length ≤ 1048576) : Ev (fun k => depotref27_On.f k l (l.length : Int)) (cnt l : Int) := by
  have := depotref27_On_l0 l hn l.length 0 0 (by omega) (by omega)
  rw [Nat.zero_add, List.drop_zero] at this
  exact this
theorem depotref27_Fill_l1 (l : List Bool) (k c i : Nat) (r : List Bool × Int) (hk : k ≤ 1048576) (hi : i ≤ 1048576) (d : Nat) : ∀ (j : Nat) (out : List Bool), out.length + d ≤ 140737488355328 → j + d = k →
    Ev (fun f => depotref27_Fill.l0 f l (k : Int) (out ++ rowF c j d) (c : Int) ((i + 1 : Nat) : Int)) r → Ev (fun f => depotref27_Fill.l1 f l (k : Int) out (c : Int) (i : Int) ((j : Int) + 1)) r := by
  induction d with
  | zero =>
    intro j out ho hj h
    refine Ev.succ ?_
    simp only [depotref27_Fill.l1]
    have h1 : ¬ ((j : Int) + 1 ≤ (k : Int)) := by omega
    simp only [h1, if_false, w64s (show (i : Int) < 9223372036854775807 by omega)]
    rwa [rowF, List.append_nil] at h
  | succ d ih =>
    intro j out ho hj h
    refine Ev.succ ?_
    simp only [depotref27_Fill.l1]
    have h1 : (j : Int) + 1 ≤ (k : Int) := by omega
    have h2 : out.length < 140737488355328 := by omega
    have h3 : wrap64 ((j : Int) + 1 + 1) = ((j + 1 : Nat) : Int) + 1 := by rw [w64 (by omega) (by omega)]; omega
    simp only [h1, h2, h3, if_true]
    refine ih (j + 1) _ (by simp; omega) (by omega) ?_
    rw [List.append_assoc]
    have e : decide ((c : Int) ≥ (j : Int) + 1) = decide (c > j) := by rw [Bool.eq_iff_iff]; simp; omega
    rw [e]
    exact h
theorem depotref27_Fill_l0 (l : List Bool) (k : Nat) (hn : l.length ≤ 1048576) (h0 : 0 < l.length) (hk : k ≤ 1048576) (d : Nat) : ∀ (i c : Nat) (out : List Bool), c ≤ i → out.length = i * k → i + d = l.length - 1 →
    Ev (fun f => depotref27_Fill.l0 f l (k : Int) out (c : Int) ((i : Int) + 1)) (out ++ fillF k c ((l.take (l.length - 1)).drop i), 0) := by
  induction d with
  | zero =>
    intro i c out hc ho hi
    refine Ev.succ ?_
    simp only [depotref27_Fill.l0]
    have e1 : wrap64 ((l.length : Int) - 1) = (l.length : Int) - 1 := w64 (by omega) (by omega)
    have h1 : ¬ ((i : Int) + 1 ≤ (l.length : Int) - 1) := by omega
    simp only [e1, h1, if_false]
    rw [List.drop_of_length_le (by rw [List.length_take]; omega), fillF, List.append_nil]
    exact Ev.now _
  | succ d ih =>
    intro i c out hc ho hi
    refine Ev.succ ?_
    simp only [depotref27_Fill.l0]
    have e1 : wrap64 ((l.length : Int) - 1) = (l.length : Int) - 1 := w64 (by omega) (by omega)
    have e2 : wrap64 ((i : Int) + 1 - 1) = (i : Int) := by rw [w64 (by omega) (by omega)]; omega
    have h1 : (i : Int) + 1 ≤ (l.length : Int) - 1 := by omega
    have h2 : (i : Int) < (l.length : Int) := by omega
    have h3 : (0 : Int) ≤ (i : Int) := by omega
    simp only [e1, e2, h1, h2, h3, if_true]
    have hlt : i < (l.take (l.length - 1)).length := by rw [List.length_take]; omega
    have hd : (l.take (l.length - 1)).drop i = rdOf false l i :: (l.take (l.length - 1)).drop (i + 1) := by
      rw [List.drop_eq_getElem_cons hlt, rdOf_nat (show i < l.length by omega), List.getElem_take]
    rw [hd, fillF]
    have hb1 : i * k ≤ 1048576 * 1048576 := Nat.mul_le_mul (by omega) hk
    have go : ∀ c' : Nat, c' ≤ i + 1 → Ev (fun f => depotref27_Fill.j2 f l (k : Int) out (c' : Int) ((i : Int) + 1)) (out ++ (rowF c' 0 k ++ fillF k c' ((l.take (l.length - 1)).drop (i + 1))), 0) := by
      intro c' hc'
      refine Ev.succ ?_
      simp only [depotref27_Fill.j2]
      refine depotref27_Fill_l1 l k c' (i + 1) _ hk (by omega) k 0 out (by omega) (by omega) ?_
      have := ih (i + 1) c' (out ++ rowF c' 0 k) (by omega) (by rw [List.length_append, rowF_length, ho, Nat.add_mul, Nat.one_mul]) (by omega)
      rw [List.append_assoc] at this
      exact this
    by_cases hb : rdOf false l i = true
    · simp only [hb, if_true, w64s (show (c : Int) < 9223372036854775807 by omega)]
      exact go (c + 1) (by omega)
    · simp only [hb, if_false]
      exact go c (by omega)
theorem depotref27_Fill_ev (l : List Bool) (k : Int) (hn : l.length ≤ 1048576) (hw : k < (l.length : Int) → 0 ≤ k → (l.length : Int) * k ≤ 1099511627776) : Ev (fun f => depotref27_Fill.f f l k) (fillOf l k) := by
  unfold depotref27_Fill.f fillOf
  by_cases h0 : k < 0
  · simp only [h0, if_true, true_or]
    refine Ev.succ ?_
    simp only [depotref27_Fill.j0, if_true]
    exact Ev.now _
  · simp only [h0, if_false, false_or]
    refine Ev.bind (depotref27_On_ev l hn) ?_
    refine Ev.succ ?_
    simp only [depotref27_Fill.j0]
    by_cases h1 : (cnt l : Int) > k
    · simp only [h1, decide_true, if_true]
      exact Ev.now _
    · simp only [h1, decide_false, Bool.false_eq_true, if_false]
      rw [depotref27_Helpers_eq _ _ (by omega) (by omega) (by omega)]
      simp only [Option.bind_some]
      by_cases h2 : k = 0 ∨ k ≥ (l.length : Int)
      · simp only [h2, if_true]
        exact Ev.now _
      · simp only [h2, if_false]
        have hlt := hw (by omega) (by omega)
        have e : ((l.length : Int) - 1) * k = (l.length : Int) * k - k := by rw [Int.sub_mul, Int.one_mul]
        have hk1 : 0 ≤ ((l.length : Int) - 1) * k := Int.mul_nonneg (by omega) (by omega)
        have hne : ¬ wrap64 (((l.length : Int) - 1) * k) = 0 := by
          rw [w64 (by omega) (by omega)]
          have : 1 * k ≤ ((l.length : Int) - 1) * k := Int.mul_le_mul_of_nonneg_right (by omega) (by omega)
          omega
        simp only [hne, if_false]
        have := depotref27_Fill_l0 l k.toNat hn (by omega) (by omega) (l.length - 1) 0 0 [] (by omega) (by simp) (by omega)
        rw [show ((k.toNat : Nat) : Int) = k by omega] at this
        simpa using this
theorem atmost_Fill_l2 (l : List Bool) (k c i : Nat) (n1 : Int) (r : List Bool × Int) (hk : k ≤ 1048576) (hi : i ≤ 1048576) (d : Nat) : ∀ (j : Nat) (out : List Bool), out.length + d ≤ 140737488355328 → j + d = k →
    Ev (fun f => atmost_Fill.l1 f l (k : Int) (out ++ rowF c j d) (c : Int) n1 ((i + 1 : Nat) : Int)) r → Ev (fun f => atmost_Fill.l2 f l (k : Int) out (c : Int) n1 (i : Int) (k : Int) (j : Int)) r := by
  induction d with
  | zero =>
    intro j out ho hj h
    refine Ev.succ ?_
    simp only [atmost_Fill.l2]
    have h1 : ¬ ((j : Int) < (k : Int)) := by omega
    simp only [h1, if_false, w64s (show (i : Int) < 9223372036854775807 by omega)]
    rwa [rowF, List.append_nil] at h
  | succ d ih =>
    intro j out ho hj h
    refine Ev.succ ?_
    simp only [atmost_Fill.l2]
    have h1 : (j : Int) < (k : Int) := by omega
    have h2 : out.length < 140737488355328 := by omega
    simp only [h1, h2, w64s (show (j : Int) < 9223372036854775807 by omega), if_true]
    refine ih (j + 1) _ (by simp; omega) (by omega) ?_
    rw [List.append_assoc]
    have e : decide ((c : Int) > (j : Int)) = decide (c > j) := by rw [Bool.eq_iff_iff]; simp
    rw [e]
    exact h
theorem atmost_Fill_l1 (l : List Bool) (k : Nat) (hn : l.length ≤ 1048576) (h0 : 0 < l.length) (hk : k ≤ 1048576) (d : Nat) : ∀ (i c : Nat) (out : List Bool), c ≤ i → out.length = i * k → i + d = l.length - 1 →
    Ev (fun f => atmost_Fill.l1 f l (k : Int) out (c : Int) ((l.length : Int) - 1) (i : Int)) (out ++ fillF k c ((l.take (l.length - 1)).drop i), 0) := by
  induction d with
  | zero =>
    intro i c out hc ho hi
    refine Ev.succ ?_
    simp only [atmost_Fill.l1]
    have h1 : ¬ ((i : Int) < (l.length : Int) - 1) := by omega
    simp only [h1, if_false]
    rw [List.drop_of_length_le (by rw [List.length_take]; omega), fillF, List.append_nil]
    exact Ev.now _
  | succ d ih =>
    intro i c out hc ho hi
    refine Ev.succ ?_
    simp only [atmost_Fill.l1]
    have h1 : (i : Int) < (l.length : Int) - 1 := by omega
    have h2 : (i : Int) < (l.length : Int) := by omega
    have h3 : (0 : Int) ≤ (i : Int) := by omega
    simp only [h1, h2, h3, if_true]
    have hlt : i < (l.take (l.length - 1)).length := by rw [List.length_take]; omega
    have hd : (l.take (l.length - 1)).drop i = rdOf false l i :: (l.take (l.length - 1)).drop (i + 1) := by
      rw [List.drop_eq_getElem_cons hlt, rdOf_nat (show i < l.length by omega), List.getElem_take]
    rw [hd, fillF]
    have hb1 : i * k ≤ 1048576 * 1048576 := Nat.mul_le_mul (by omega) hk
    have go : ∀ c' : Nat, c' ≤ i + 1 → Ev (fun f => atmost_Fill.j3 f l (k : Int) out (c' : Int) ((l.length : Int) - 1) (i : Int)) (out ++ (rowF c' 0 k ++ fillF k c' ((l.take (l.length - 1)).drop (i + 1))), 0) := by
      intro c' hc'
      refine Ev.succ ?_
      simp only [atmost_Fill.j3]
      refine atmost_Fill_l2 l k c' i _ _ hk (by omega) k 0 out (by omega) (by omega) ?_
      have := ih (i + 1) c' (out ++ rowF c' 0 k) (by omega) (by rw [List.length_append, rowF_length, ho, Nat.add_mul, Nat.one_mul]) (by omega)
      rw [List.append_assoc] at this
      exact this
    by_cases hb : rdOf false l i = true
    · simp only [hb, if_true, w64s (show (c : Int) < 9223372036854775807 by omega)]
      exact go (c + 1) (by omega)
    · simp only [hb, if_false]
      exact go c (by omega)
theorem atmost_Fill_l0 (l : List Bool) (k : Int) (hn : l.length ≤ 1048576) (r : List Bool × Int) (d : Nat) : ∀ (i c : Nat), c ≤ i → i + d = l.length →
    Ev (fun f => if k < 0 then atmost_Fill.j1 f l k true else atmost_Fill.j1 f l k (decide (((c + cnt (l.drop i) : Nat) : Int) > k))) r → Ev (fun f => atmost_Fill.l0 f l k (c : Int) l (l.length : Int) (i : Int)) r := by
  induction d with
  | zero =>
    intro i c hc hi h
    refine Ev.succ ?_
    simp only [atmost_Fill.l0]
    have h1 : ¬ ((i : Int) < (l.length : Int)) := by omega
    simp only [h1, if_false]
    rw [List.drop_of_length_le (by omega), cnt, Nat.add_zero] at h
    exact h
  | succ d ih =>
    intro i c hc hi h
    refine Ev.succ ?_
    simp only [atmost_Fill.l0]
    have h1 : (i : Int) < (l.length : Int) := by omega
    have h0 : (0 : Int) ≤ (i : Int) := by omega
    simp only [h1, h0, if_true]
    rw [drop_rdOf (z := false) (show i < l.length by omega), cnt] at h
    by_cases hb : rdOf false l i = true
    · simp only [hb, if_true, w64s (show (i : Int) < 9223372036854775807 by omega), w64s (show (c : Int) < 9223372036854775807 by omega)] at h ⊢
      refine ih (i + 1) (c + 1) (by omega) (by omega) ?_
      rw [show c + 1 + cnt (l.drop (i + 1)) = c + (1 + cnt (l.drop (i + 1))) by omega]
      exact h
    · simp only [hb, if_false, w64s (show (i : Int) < 9223372036854775807 by omega)] at h ⊢
      refine ih (i + 1) c (by omega) (by omega) ?_
      rw [show c + cnt (l.drop (i + 1)) = c + (0 + cnt (l.drop (i + 1))) by omega]
      exact h
theorem atmost_Fill_ev (l : List Bool) (k : Int) (hn : l.length ≤ 1048576) (hw : k < (l.length : Int) → 0 ≤ k → (l.length : Int) * k ≤ 1099511627776) : Ev (fun f => atmost_Fill.f f l k) (fillOf l k) := by
  unfold atmost_Fill.f fillOf
  refine atmost_Fill_l0 l k hn _ l.length 0 0 (by omega) (by omega) ?_
  rw [Nat.zero_add, List.drop_zero]
  by_cases h0 : k < 0
  · simp only [h0, if_true, true_or]
    refine Ev.succ ?_
    simp only [atmost_Fill.j1, if_true]
    exact Ev.now _
  · simp only [h0, if_false, false_or]
    refine Ev.succ ?_
    simp only [atmost_Fill.j1]
    by_cases h1 : (cnt l : Int) > k
    · simp only [h1, decide_true, if_true]
      exact Ev.now _
    · simp only [h1, decide_false, Bool.false_eq_true, if_false]
      rw [atmost_helpers_eq _ _ (by omega) (by omega)]
      simp only [Option.bind_some]
      by_cases h2 : k = 0 ∨ k ≥ (l.length : Int)
      · simp only [h2, if_true]
        exact Ev.now _
      · simp only [h2, if_false]
        have hlt := hw (by omega) (by omega)
        have e : ((l.length : Int) - 1) * k = (l.length : Int) * k - k := by rw [Int.sub_mul, Int.one_mul]
        have hk1 : 0 ≤ ((l.length : Int) - 1) * k := Int.mul_nonneg (by omega) (by omega)
        have hne : ¬ wrap64 (((l.length : Int) - 1) * k) = 0 := by
          rw [w64 (by omega) (by omega)]
          have : 1 * k ≤ ((l.length : Int) - 1) * k := Int.mul_le_mul_of_nonneg_right (by omega) (by omega)
          omega
        have e1 : wrap64 ((l.length : Int) - 1) = (l.length : Int) - 1 := w64 (by omega) (by omega)
        simp only [hne, if_false, e1]
        have := atmost_Fill_l1 l k.toNat hn (by omega) (by omega) (l.length - 1) 0 0 [] (by omega) (by simp) (by omega)
        rw [show ((k.toNat : Nat) : Int) = k by omega] at this
        simpa using this
theorem depotref01_Index_eq (l : Int) : depotref01_Index.f l = some (idxOf l) := by
  unfold depotref01_Index.f idxOf
  rw [depotref01_Formed_eq]
  simp only [Option.bind_some]
  by_cases h : formed l = true
  · have := formed_bd h
    have e1 : wrap64 (wrap64 (-2 * l) - 1) = -2 * l - 1 := by unfold wrap64; omega
    have e2 : wrap64 (wrap64 (2 * l) - 2) = 2 * l - 2 := by unfold wrap64; omega
    rw [if_pos h, if_pos h, e1, e2]
    split <;> rfl
  · rw [if_neg h, if_neg h]
theorem depotref01_merged_l0 (a b : List Int) (hn : a.length + b.length ≤ 17592186044416) (n : Nat) : ∀ (i j : Nat) (o : List Int), i ≤ a.length → j ≤ b.length → a.length - i + (b.length - j) ≤ n → o.length + (a.length - i + (b.length - j)) ≤ 17592186044416 →
    Ev (fun k => depotref01_merged.l0 k a b o (i : Int) (j : Int)) (o ++ mg (a.drop i) (b.drop j)) := by
  induction n with
  | zero =>
    intro i j o hi hj hd ho
    refine Ev.succ ?_
    simp only [depotref01_merged.l0]
    have h1 : ¬ ((i : Int) < (a.length : Int)) := by omega
    have h2 : ¬ ((j : Int) < (b.length : Int)) := by omega
    simp only [h1, if_false, decide_eq_false h2]
    refine Ev.succ ?_
    simp only [depotref01_merged.j1, Bool.false_eq_true, if_false]
    rw [List.drop_of_length_le (by omega), List.drop_of_length_le (by omega), mg_nil, List.append_nil]
    exact Ev.now _
  | succ n ih =>
    intro i j o hi hj hd ho
    have h0i : (0 : Int) ≤ (i : Int) := by omega
    have h0j : (0 : Int) ≤ (j : Int) := by omega
    refine Ev.succ ?_
    simp only [depotref01_merged.l0]
    by_cases h1 : i < a.length
    · have h1' : (i : Int) < (a.length : Int) := by omega
      have hii : ¬ (i : Int) = (a.length : Int) := by omega
      simp only [h1', if_true]
      refine Ev.succ ?_
      simp only [depotref01_merged.j1, if_true]
      have hol : o.length < 17592186044416 := by omega
      by_cases h2 : j < b.length
      · have h2' : (j : Int) < (b.length : Int) := by omega
        have hjj : ¬ (j : Int) = (b.length : Int) := by omega
        simp only [hjj, if_false, h1', if_true, h0i, h0j, h2', depotref01_Index_eq, Option.bind_some]
        rw [drop_rd h1, drop_rd h2]
        refine Ev.succ ?_
        by_cases c1 : idxOf (rd a i) < idxOf (rd b j)
        · simp only [depotref01_merged.j2, decide_eq_true c1, if_true, h0i, h1', hol, w64s (show (i : Int) < 9223372036854775807 by omega)]
          rw [mg_lt c1, ← drop_rd h2]
          have := ih (i + 1) j (o ++ [rd a i]) (by omega) hj (by omega) (by simp only [List.length_append, List.length_singleton]; omega)
          simpa using this
        · simp only [depotref01_merged.j2, decide_eq_false c1, Bool.false_eq_true, if_false, hii, h0i, h0j, h1', h2', if_true, depotref01_Index_eq, Option.bind_some]
          by_cases c2 : idxOf (rd b j) < idxOf (rd a i)
          · simp only [c2, if_true, hol, w64s (show (j : Int) < 9223372036854775807 by omega)]
            rw [mg_gt c2, ← drop_rd h1]
            have := ih i (j + 1) (o ++ [rd b j]) hi (by omega) (by omega) (by simp only [List.length_append, List.length_singleton]; omega)
            simpa using this
          · simp only [c2, if_false, hol, if_true, w64s (show (i : Int) < 9223372036854775807 by omega), w64s (show (j : Int) < 9223372036854775807 by omega)]
            rw [mg_eq (by omega)]
            have := ih (i + 1) (j + 1) (o ++ [rd a i]) (by omega) (by omega) (by omega) (by simp only [List.length_append, List.length_singleton]; omega)
            simpa using this
      · have hjj : (j : Int) = (b.length : Int) := by omega
        simp only [hjj, if_true]
        refine Ev.succ ?_
        simp only [depotref01_merged.j2, if_true, h0i, h1', hol, w64s (show (i : Int) < 9223372036854775807 by omega)]
        rw [drop_rd h1, List.drop_of_length_le (show b.length ≤ j by omega), mg_nil']
        have := ih (i + 1) j (o ++ [rd a i]) (by omega) hj (by omega) (by simp only [List.length_append, List.length_singleton]; omega)
        rw [List.drop_of_length_le (show b.length ≤ j by omega), mg_nil', hjj] at this
        simpa using this
    · have h1' : ¬ (i : Int) < (a.length : Int) := by omega
      have hii : (i : Int) = (a.length : Int) := by omega
      simp only [h1', if_false]
      by_cases h2 : j < b.length
      · have h2' : (j : Int) < (b.length : Int) := by omega
        have hjj : ¬ (j : Int) = (b.length : Int) := by omega
        have hol : o.length < 17592186044416 := by omega
        simp only [decide_eq_true h2']
        refine Ev.succ ?_
        simp only [depotref01_merged.j1, if_true, hjj, if_false, h1']
        refine Ev.succ ?_
        simp only [depotref01_merged.j2, Bool.false_eq_true, if_false, hii, if_true, h0j, h2', hol, w64s (show (j : Int) < 9223372036854775807 by omega)]
        rw [drop_rd h2, List.drop_of_length_le (show a.length ≤ i by omega), mg_nil]
        have := ih i (j + 1) (o ++ [rd b j]) hi (by omega) (by omega) (by simp only [List.length_append, List.length_singleton]; omega)
        rw [List.drop_of_length_le (show a.length ≤ i by omega), mg_nil, hii] at this
        simpa using this
      · have h2' : ¬ ((j : Int) < (b.length : Int)) := by omega
        simp only [decide_eq_false h2']
        refine Ev.succ ?_
        simp only [depotref01_merged.j1, Bool.false_eq_true, if_false]
        rw [List.drop_of_length_le (show a.length ≤ i by omega), List.drop_of_length_le (show b.length ≤ j by omega), mg_nil, List.append_nil]
        exact Ev.now _
theorem depotref01_merged_ev (a b : List Int) (hn : a.length + b.length ≤ 17592186044416) : Ev (fun k => depotref01_merged.f k a b) (mg a b) := by
  have := depotref01_merged_l0 a b hn _ 0 0 [] (by omega) (by omega) (Nat.le_refl _) (by simp only [List.length_nil]; omega)
  simpa [depotref01_merged.f] using this
theorem depotref01_Tidy_ev (n : Nat) : ∀ l : List Int, l.length ≤ n → l.length ≤ 17592186044416 → Ev (fun k => depotref01_Tidy.f k l) (tidyOf l) := by
  induction n with
  | zero =>
    intro l h hn
    refine Ev.succ ?_
    have : l = [] := List.eq_nil_of_length_eq_zero (by omega)
    subst this
    simp only [depotref01_Tidy.f, List.length_nil]
    exact Ev.now _
  | succ n ih =>
    intro l h hn
    refine Ev.succ ?_
    match l, h, hn with
    | [], _, _ =>
      simp only [depotref01_Tidy.f, List.length_nil]
      exact Ev.now _
    | [x], _, _ =>
      have e1 : (([x] : List Int).length : Int) = 1 := rfl
      have r0 : rd [x] 0 = x := rfl
      simp only [depotref01_Tidy.f, e1, r0, show ¬ (1 : Int) = 0 by decide, if_false, if_true, show (0 : Int) < 1 by decide, depotref01_Formed_eq, tidyOf_one, Option.bind_some]
      by_cases hf : formed x = true
      · simp only [hf, if_true]; exact Ev.now _
      · simp only [hf, if_false]; exact Ev.now _
    | x :: y :: l, h, hn =>
      simp only [depotref01_Tidy.f]
      generalize hL : x :: y :: l = L at h hn ⊢
      have hL' : 2 ≤ L.length := by rw [← hL]; simp
      have h1 : ¬ (L.length : Int) = 0 := by omega
      have h2 : ¬ (L.length : Int) = 1 := by omega
      have e1 : wrap64 ((L.length : Int) / 2) = ((L.length / 2 : Nat) : Int) := by rw [w64 (by omega) (by omega)]; omega
      have h3 : (0 : Int) ≤ ((L.length / 2 : Nat) : Int) := by omega
      have h4 : ((L.length / 2 : Nat) : Int) ≤ (L.length : Int) := by omega
      simp only [h1, h2, if_false, e1, h3, h4, if_true, Int.toNat_natCast]
      refine Ev.bind (ih (L.take (L.length / 2)) (by simp only [List.length_take]; omega) (by simp only [List.length_take]; omega)) (Ev.bind (ih (L.drop (L.length / 2)) (by simp only [List.length_drop]; omega) (by simp only [List.length_drop]; omega)) ?_)
      have t1 := tidyOf_length (L.take (L.length / 2))
      have t2 := tidyOf_length (L.drop (L.length / 2))
      simp only [List.length_take, List.length_drop] at t1 t2
      refine Ev.bind (depotref01_merged_ev _ _ (by omega)) ?_
      rw [← tidyOf_append, List.take_append_drop]
      exact Ev.now _
theorem depotref01_Tidy_evl (l : List Int) (hn : l.length ≤ 17592186044416) : Ev (fun k => depotref01_Tidy.f k l) (tidyOf l) := depotref01_Tidy_ev l.length l (Nat.le_refl _) hn
theorem depotref01_Taut_l0 (t : List Int) (hf : ∀ x ∈ t, formed x = true) (hn : t.length ≤ 17592186044416) (d : Nat) : ∀ i : Nat, 0 < i → i + d = t.length → Ev (fun k => depotref01_Taut.l0 k t (i : Int)) (tautIn (t.drop (i - 1))) := by
  induction d with
  | zero =>
    intro i h0 hi
    refine Ev.succ ?_
    simp only [depotref01_Taut.l0]
    have h1 : ¬ ((i : Int) < (t.length : Int)) := by omega
    simp only [h1, if_false]
    rw [drop_rd (show i - 1 < t.length by omega), List.drop_of_length_le (by omega)]
    exact Ev.now _
  | succ d ih =>
    intro i h0 hi
    refine Ev.succ ?_
    simp only [depotref01_Taut.l0]
    have h1 : (i : Int) < (t.length : Int) := by omega
    have h2 : (0 : Int) ≤ (i : Int) := by omega
    have h3 : (0 : Int) ≤ ((i - 1 : Nat) : Int) := by omega
    have h4 : ((i - 1 : Nat) : Int) < (t.length : Int) := by omega
    have hb := formed_bd (hf _ (rd_mem (show i - 1 < t.length by omega)))
    have e1 : wrap64 (-(rd t ((i - 1 : Nat) : Int))) = -(rd t ((i - 1 : Nat) : Int)) := by unfold wrap64; omega
    simp only [h1, h2, if_true, w64p h0 (show (i : Int) < 9223372036854775807 by omega), h3, h4, e1, w64s (show (i : Int) < 9223372036854775807 by omega)]
    rw [drop_rd (show i - 1 < t.length by omega), show i - 1 + 1 = i by omega, drop_rd (show i < t.length by omega)]
    have := ih (i + 1) (by omega) (by omega)
    rw [show i + 1 - 1 = i by omega, drop_rd (show i < t.length by omega)] at this
    by_cases c : rd t (i : Int) = -(rd t ((i - 1 : Nat) : Int))
    · have : (rd t (i : Int) == -(rd t ((i - 1 : Nat) : Int))) = true := by simpa using c
      simp only [c, if_true, tautIn, beq_self_eq_true, Bool.true_or]
      exact Ev.now _
    · have e : (rd t (i : Int) == -(rd t ((i - 1 : Nat) : Int))) = false := by simpa using c
      simp only [c, if_false, tautIn, e, Bool.false_or]
      exact this
theorem depotref01_Taut_ev (l : List Int) (hn : l.length ≤ 17592186044416) : Ev (fun k => depotref01_Taut.f k l) (tautIn (tidyOf l)) := by
  unfold depotref01_Taut.f
  have ht := tidyOf_length l
  refine Ev.bind (depotref01_Tidy_evl l hn) ?_
  by_cases h : (tidyOf l).length = 0
  · rw [List.eq_nil_of_length_eq_zero h]
    refine Ev.succ ?_
    simp only [depotref01_Taut.l0]
    exact Ev.now _
  · have := depotref01_Taut_l0 (tidyOf l) (fun _ h => tidyOf_formed h) (by omega) ((tidyOf l).length - 1) 1 (by omega) (by omega)
    simpa using this
theorem depotref00_CopyInts_l0 (l : List Int) (hn : l.length < 17592186044416) (d : Nat) : ∀ i : Nat, i + d = l.length → Ev (fun k => depotref00_CopyInts.l0 k l (l.take i) (i : Int)) l := by
  induction d with
  | zero =>
    intro i hi
    refine Ev.succ ?_
    have h1 : ¬ ((i : Int) < (l.length : Int)) := by omega
    simp only [depotref00_CopyInts.l0, h1, if_false]
    rw [List.take_of_length_le (by omega)]
    exact Ev.now _
  | succ d ih =>
    intro i hi
    refine Ev.succ ?_
    have h1 : (i : Int) < (l.length : Int) := by omega
    have h0 : (0 : Int) ≤ (i : Int) := by omega
    have h2 : (l.take i).length < 17592186044416 := by rw [List.length_take]; omega
    simp only [depotref00_CopyInts.l0, h1, h0, h2, if_true, w64s (show (i : Int) < 9223372036854775807 by omega)]
    rw [← take_rd (show i < l.length by omega)]
    exact ih (i + 1) (by omega)
theorem depotref00_CopyInts_ev (l : List Int) (hn : l.length < 17592186044416) : Ev (fun k => depotref00_CopyInts.f k l) l := depotref00_CopyInts_l0 l hn l.length 0 (by omega)
theorem drop_L1 {l : List (List Int)} {i : Nat} (h : i < l.length) : l.drop i = rd_L2 l (i : Int) :: l.drop (i + 1) := drop_getD (z := ([] : List Int)) h
theorem rd_L2_mem {l : List (List Int)} {i : Nat} (h : i < l.length) : rd_L2 l (i : Int) ∈ l := by
  have := getD_nat (z := ([] : List Int)) h
  show l.getD ((i : Int).toNat) ([] : List Int) ∈ l
  rw [this]; exact List.getElem_mem h
theorem take_L1 {l : List (List Int)} {i : Nat} (h : i < l.length) : l.take (i + 1) = l.take i ++ [rd_L2 l (i : Int)] := take_getD (z := ([] : List Int)) h
theorem depotref00_SameClauses_l0 (a b : List (List Int)) (hn : a.length ≤ 17592186044416) (hs : ∀ x ∈ a, x.length ≤ 17592186044416) (he : a.length = b.length) (d : Nat) : ∀ i : Nat, i + d = a.length → Ev (fun k => depotref00_SameClauses.l0 k a b (i : Int)) (a.drop i == b.drop i) := by
  induction d with
  | zero =>
    intro i hi
    refine Ev.succ ?_
    have h1 : ¬ ((i : Int) < (a.length : Int)) := by omega
    simp only [depotref00_SameClauses.l0, h1, if_false]
    rw [List.drop_of_length_le (by omega), List.drop_of_length_le (by omega)]
    exact Ev.now _
  | succ d ih =>
    intro i hi
    refine Ev.succ ?_
    have h1 : (i : Int) < (a.length : Int) := by omega
    have h2 : (i : Int) < (b.length : Int) := by omega
    have h0 : (0 : Int) ≤ (i : Int) := by omega
    simp only [depotref00_SameClauses.l0, h1, h2, h0, if_true]
    have hl := hs _ (rd_L2_mem (show i < a.length by omega))
    rw [drop_L1 (show i < a.length by omega), drop_L1 (show i < b.length by omega)]
    refine Ev.bind (depotref00_SameInts_ev _ _ hl) ?_
    rw [List.cons_beq_cons]
    by_cases hf : (rd_L2 a i == rd_L2 b i) = true
    · simp only [hf, if_true, w64s (show (i : Int) < 9223372036854775807 by omega), Bool.true_and]
      exact ih (i + 1) (by omega)
    · simp only [Bool.not_eq_true] at hf
      simp only [hf, Bool.false_eq_true, if_false, Bool.false_and]
      exact Ev.now _
theorem depotref00_SameClauses_ev (a b : List (List Int)) (hn : a.length ≤ 17592186044416) (hs : ∀ x ∈ a, x.length ≤ 17592186044416) : Ev (fun k => depotref00_SameClauses.f k a b) (a == b) := by
  unfold depotref00_SameClauses.f
  by_cases he : a.length = b.length
  · have : (a.length : Int) = (b.length : Int) := by omega
    simp only [this, if_true]
    exact depotref00_SameClauses_l0 a b hn hs he a.length 0 (by omega)
  · have : ¬ (a.length : Int) = (b.length : Int) := by omega
    simp only [this, if_false]
    have e : (a == b) = false := by
      simp only [beq_eq_false_iff_ne, ne_eq]
      rintro rfl; exact he rfl
    rw [e]
    exact Ev.now _
theorem clauses_all (P : Int → Prop) (l : List Int) (k : Nat) (first : Int) (hk : 0 < k) (hn : k < l.length) (h1 : ∀ i : Nat, i < l.length → P (-(rd l (i : Int)))) (h2 : ∀ i j : Nat, 1 ≤ i → i < l.length → 1 ≤ j → j ≤ k → P (sv k first i j) ∧ P (-(sv k first i j))) :
    ∀ c ∈ clausesOf l k first, c.length ≤ 3 ∧ ∀ x ∈ c, P x := by
  have s2 : ∀ i j : Nat, 1 ≤ i → i < l.length → 1 ≤ j → j ≤ k → ∀ (a b : Int), a = i → b = j → P (sv k first a b) ∧ P (-(sv k first a b)) := by
    rintro i j a1 a2 a3 a4 a b rfl rfl
    exact h2 i j a1 a2 a3 a4
  have s1 : ∀ i : Nat, i < l.length → ∀ a : Int, a = i → P (-(rd l a)) := by
    rintro i a1 a rfl
    exact h1 i a1
  have hm : ∀ m, m < l.length - 2 → ∀ c ∈ midAt l k first m, c.length ≤ 3 ∧ ∀ x ∈ c, P x := by
    intro m hm c hc
    unfold midAt at hc
    rw [List.mem_append, List.mem_append, List.mem_flatMap] at hc
    have q1 := s1 (m + 1) (by omega) ((m : Int) + 1) (by omega)
    rcases hc with (hc | ⟨h, hh, hc⟩) | hc
    · rw [List.mem_cons, List.mem_singleton] at hc
      rcases hc with rfl | rfl
      · refine ⟨by simp, fun x hx => ?_⟩
        rw [List.mem_cons, List.mem_singleton] at hx
        rcases hx with rfl | rfl
        · exact q1
        · exact (s2 (m + 2) 1 (by omega) (by omega) (by omega) (by omega) _ _ (by omega) (by omega)).1
      · refine ⟨by simp, fun x hx => ?_⟩
        rw [List.mem_cons, List.mem_singleton] at hx
        rcases hx with rfl | rfl
        · exact (s2 (m + 1) 1 (by omega) (by omega) (by omega) (by omega) _ _ (by omega) (by omega)).2
        · exact (s2 (m + 2) 1 (by omega) (by omega) (by omega) (by omega) _ _ (by omega) (by omega)).1
    · rw [List.mem_range] at hh
      rw [List.mem_cons, List.mem_singleton] at hc
      rcases hc with rfl | rfl
      · refine ⟨by simp, fun x hx => ?_⟩
        rw [List.mem_cons, List.mem_cons, List.mem_singleton] at hx
        rcases hx with rfl | rfl | rfl
        · exact q1
        · exact (s2 (m + 1) (h + 1) (by omega) (by omega) (by omega) (by omega) _ _ (by omega) (by omega)).2
        · exact (s2 (m + 2) (h + 2) (by omega) (by omega) (by omega) (by omega) _ _ (by omega) (by omega)).1
      · refine ⟨by simp, fun x hx => ?_⟩
        rw [List.mem_cons, List.mem_singleton] at hx
        rcases hx with rfl | rfl
        · exact (s2 (m + 1) (h + 2) (by omega) (by omega) (by omega) (by omega) _ _ (by omega) (by omega)).2
        · exact (s2 (m + 2) (h + 2) (by omega) (by omega) (by omega) (by omega) _ _ (by omega) (by omega)).1
    · rw [List.mem_singleton] at hc
      subst hc
      refine ⟨by simp, fun x hx => ?_⟩
      rw [List.mem_cons, List.mem_singleton] at hx
      rcases hx with rfl | rfl
      · exact q1
      · exact (s2 (m + 1) k (by omega) (by omega) (by omega) (by omega) _ _ (by omega) rfl).2
  intro c hc
  unfold clausesOf at hc
  rw [if_neg (by omega), List.mem_append, List.mem_append, List.mem_append, List.mem_map, List.mem_flatMap] at hc
  rcases hc with ((hc | ⟨j, hj, rfl⟩) | ⟨m, hm', hc⟩) | hc
  · rw [List.mem_singleton] at hc
    subst hc
    refine ⟨by simp, fun x hx => ?_⟩
    rw [List.mem_cons, List.mem_singleton] at hx
    rcases hx with rfl | rfl
    · exact s1 0 (by omega) _ rfl
    · exact (s2 1 1 (by omega) (by omega) (by omega) (by omega) _ _ rfl rfl).1
  · rw [List.mem_range] at hj
    refine ⟨by simp, fun x hx => ?_⟩
    rw [List.mem_singleton] at hx
    subst hx
    exact (s2 1 (j + 2) (by omega) (by omega) (by omega) (by omega) _ _ rfl (by omega)).2
  · rw [List.mem_range] at hm'
    exact hm m hm' c hc
  · rw [List.mem_singleton] at hc
    subst hc
    refine ⟨by simp, fun x hx => ?_⟩
    rw [List.mem_cons, List.mem_singleton] at hx
    rcases hx with rfl | rfl
    · exact s1 (l.length - 1) (by omega) _ (by omega)
    · exact (s2 (l.length - 1) k (by omega) (by omega) (by omega) (by omega) _ _ (by omega) rfl).2
theorem svw_def (k first i j : Int) : wrap64 ((wrap64 ((wrap64 (first + (wrap64 ((wrap64 (i - 1)) * k)))) + j)) - 1) = wrap64 (wrap64 (wrap64 (first + wrap64 (wrap64 (i - 1) * k)) + j) - 1) := rfl
structure GoodR (n k : Nat) (first : Int) : Prop where
  k0 : 0 < k
  kn : k < n
  n1 : n ≤ 1048576
  f1 : 1 ≤ first
  hh : first + ((n : Int) - 1) * k ≤ 1048577
theorem GoodR.f2 {n k : Nat} {first : Int} (g : GoodR n k first) : first ≤ 1048577 := by
  have h1 := g.hh
  have h2 := g.kn
  have : 0 ≤ ((n : Int) - 1) * k := Int.mul_nonneg (by omega) (by omega)
  omega
theorem GoodR.s {n k : Nat} {first : Int} (g : GoodR n k first) {i j a b : Int} (hi : 1 ≤ i ∧ i ≤ (n : Int) - 1) (hj : 1 ≤ j ∧ j ≤ k) (ha : a = i) (hb : b = j) : depotref27_s.f k first a b = some (sv k first i j) ∧ wrap64 (-(sv k first i j)) = -(sv k first i j) := by
  subst ha hb
  have f2 := g.f2
  have k0 := g.k0
  have kn := g.kn
  have n1 := g.n1
  have f1 := g.f1
  have h0 : 0 ≤ (a - 1) * k := Int.mul_nonneg (by omega) (by omega)
  have h1 : (a - 1) * k ≤ 1048577 * 1048576 := Int.mul_le_mul (by omega) (by omega) (by omega) (by omega)
  have h2 : (a - 1) * k ≤ ((n : Int) - 1 - 1) * k := Int.mul_le_mul_of_nonneg_right (by omega) (by omega)
  have h3 : ((n : Int) - 1 - 1) * k = ((n : Int) - 1) * k - k := by rw [Int.sub_mul ((n : Int) - 1) 1 k]; omega
  have hh := g.hh
  unfold depotref27_s.f sv
  rw [w64 (x := a - 1) (by omega) (by omega), w64 (x := (a - 1) * k) (by omega) (by omega), w64 (x := first + (a - 1) * k) (by omega) (by omega), w64 (x := first + (a - 1) * k + b) (by omega) (by omega), w64 (x := first + (a - 1) * k + b - 1) (by omega) (by omega)]
  exact ⟨rfl, w64 (by omega) (by omega)⟩
theorem lit_neg {l : List Int} (hs : sound l = true) {i : Nat} (h : i < l.length) : wrap64 (-(rd l (i : Int))) = -(rd l (i : Int)) := by
  have hb := formed_bd (sound_mem hs (rd_mem h))
  exact w64 (by omega) (by omega)
theorem part_l0 (l : List Int) (k : Nat) (first : Int) (g : GoodR l.length k first) (d : Nat) : ∀ (j : Nat) (out : List (List Int)), out.length + d < 5864062014805 → j + d = k - 1 →
    Ev (fun f => depotref27_part.l0 f (k : Int) first out ((j : Int) + 2)) (out ++ ((List.range' j d).map fun j : Nat => [-(sv k first 1 ((j : Int) + 2))])) := by
  have k0 := g.k0
  have n1 := g.n1
  have kn := g.kn
  induction d with
  | zero =>
    intro j out ho hj
    refine Ev.succ ?_
    have h1 : ¬ ((j : Int) + 2 ≤ (k : Int)) := by omega
    simp only [depotref27_part.l0, h1, if_false, List.range'_zero, List.map_nil, List.append_nil]
    exact Ev.now _
  | succ d ih =>
    intro j out ho hj
    refine Ev.succ ?_
    have h1 : (j : Int) + 2 ≤ (k : Int) := by omega
    have h2 : out.length < 5864062014805 := by omega
    have e1 : wrap64 ((j : Int) + 2 + 1) = ((j + 1 : Nat) : Int) + 2 := by rw [w64 (by omega) (by omega)]; omega
    obtain ⟨s1, s2⟩ := g.s (i := 1) (j := (j : Int) + 2) (a := 1) (b := (j : Int) + 2) (by omega) (by omega) rfl rfl
    simp only [depotref27_part.l0, h1, if_true, s1, Option.bind_some, h2, s2, e1]
    have := ih (j + 1) (out ++ [[-(sv k first 1 ((j : Int) + 2))]]) (by simp; omega) (by omega)
    rw [List.range'_succ, List.map_cons]
    simpa using this
theorem part_l1 (l : List Int) (k : Nat) (first : Int) (g : GoodR l.length k first) (m : Nat) (hm : m + 2 < l.length) (x : Int) (hx : x = -(rd l ((m : Int) + 1))) (d : Nat) : ∀ (h : Nat) (out : List (List Int)), Aside0 (out.length + 2 * d + 2 < 5864062014805) → h + d + 1 = k →
    Ev (fun f => depotref27_part.l1 f (k : Int) first ((m : Int) + 2) x out ((h : Int) + 2)) (out ++ ((List.range' h d).flatMap fun h : Nat => [[-(rd l ((m : Int) + 1)), -(sv k first ((m : Int) + 1) ((h : Int) + 1)), sv k first ((m : Int) + 2) ((h : Int) + 2)], [-(sv k first ((m : Int) + 1) ((h : Int) + 2)), sv k first ((m : Int) + 2) ((h : Int) + 2)]]) ++ [[-(rd l ((m : Int) + 1)), -(sv k first ((m : Int) + 1) k)]]) := by
  have k0 := g.k0
  have n1 := g.n1
  have kn := g.kn
  have em : wrap64 ((m : Int) + 2 - 1) = (m : Int) + 1 := by rw [w64 (by omega) (by omega)]; omega
  induction d with
  | zero =>
    intro h out ho hh
    refine Ev.succ ?_
    have h1 : ¬ ((h : Int) + 2 ≤ (k : Int)) := by omega
    obtain ⟨s1, s2⟩ := g.s (i := (m : Int) + 1) (j := k) (a := (m : Int) + 1) (b := k) (by omega) (by omega) rfl rfl
    have h2 : out.length < 5864062014805 := by have := ho.out; omega
    simp only [depotref27_part.l1, h1, if_false, em, s1, Option.bind_some, h2, s2, if_true, List.range'_zero, List.flatMap_nil, List.append_nil, hx]
    exact Ev.now _
  | succ d ih =>
    intro h out ho hh
    refine Ev.succ ?_
    have h1 : (h : Int) + 2 ≤ (k : Int) := by omega
    have e1 : wrap64 ((h : Int) + 2 + 1) = ((h + 1 : Nat) : Int) + 2 := by rw [w64 (by omega) (by omega)]; omega
    have e2 : wrap64 ((h : Int) + 2 - 1) = (h : Int) + 1 := by rw [w64 (by omega) (by omega)]; omega
    obtain ⟨s1, s2⟩ := g.s (i := (m : Int) + 1) (j := (h : Int) + 1) (a := (m : Int) + 1) (b := (h : Int) + 1) (by omega) (by omega) rfl rfl
    obtain ⟨s3, _⟩ := g.s (i := (m : Int) + 2) (j := (h : Int) + 2) (a := (m : Int) + 2) (b := (h : Int) + 2) (by omega) (by omega) rfl rfl
    obtain ⟨s5, s6⟩ := g.s (i := (m : Int) + 1) (j := (h : Int) + 2) (a := (m : Int) + 1) (b := (h : Int) + 2) (by omega) (by omega) rfl rfl
    have h2 : out.length < 5864062014805 := by have := ho.out; omega
    have h3 : (out ++ [[x, -(sv k first ((m : Int) + 1) ((h : Int) + 1)), sv k first ((m : Int) + 2) ((h : Int) + 2)]]).length < 5864062014805 := by have := ho.out; simp; omega
    simp only [depotref27_part.l1, h1, if_true, em, e1, e2, s1, s2, s3, s5, s6, Option.bind_some, h2, h3]
    have := ih (h + 1) ((out ++ [[x, -(sv k first ((m : Int) + 1) ((h : Int) + 1)), sv k first ((m : Int) + 2) ((h : Int) + 2)]]) ++ [[-(sv k first ((m : Int) + 1) ((h : Int) + 2)), sv k first ((m : Int) + 2) ((h : Int) + 2)]]) ⟨by have := ho.out; simp; omega⟩ (by omega)
    rw [List.range'_succ, List.flatMap_cons]
    rw [hx] at this ⊢
    simpa using this
def partAt (l : List Int) (k : Nat) (first : Int) (i : Nat) : List (List Int) :=
  if i = 1 then [[-(rd l 0), sv k first 1 1]] ++ (List.range (k - 1)).map (fun j : Nat => [-(sv k first 1 ((j : Int) + 2))])
  else if i = l.length then [[-(rd l ((l.length : Int) - 1)), -(sv k first ((l.length : Int) - 1) k)]] else midAt l k first (i - 2)
theorem depotref27_part_ev (l : List Int) (k : Nat) (first : Int) (g : GoodR l.length k first) (hs : sound l = true) (i : Nat) (h1 : 1 ≤ i) (h2 : i ≤ l.length) : Ev (fun f => depotref27_part.f f l (k : Int) first (i : Int)) (partAt l k first i) := by
  have k0 := g.k0
  have n1 := g.n1
  have kn := g.kn
  have ei : wrap64 ((i : Int) - 1) = ((i - 1 : Nat) : Int) := w64p (by omega) (by omega)
  have b1 : (0 : Int) ≤ ((i - 1 : Nat) : Int) := by omega
  have b2 : ((i - 1 : Nat) : Int) < (l.length : Int) := by omega
  have en := lit_neg hs (show i - 1 < l.length by omega)
  have c0 : ¬ ((k : Int) = 0) := by omega
  have z0 : ([] : List (List Int)).length < 5864062014805 := by simp
  unfold depotref27_part.f partAt
  simp only [ei, b1, b2, en, c0, if_true, if_false, z0]
  by_cases c1 : i = 1
  · subst c1
    have c1' : ((1 : Nat) : Int) = 1 := rfl
    obtain ⟨s1, _⟩ := g.s (i := 1) (j := 1) (a := 1) (b := 1) (by omega) (by omega) rfl rfl
    simp only [c1', if_true, s1, Option.bind_some]
    have := part_l0 l k first g (k - 1) 0 ([] ++ [[-(rd l ((1 - 1 : Nat) : Int)), sv k first 1 1]]) (by simp; omega) (by omega)
    rw [← List.range_eq_range'] at this
    simpa using this
  · have c1' : ¬ ((i : Int) = 1) := by omega
    simp only [c1, c1', if_false]
    by_cases c2 : i = l.length
    · have c2' : (i : Int) = (l.length : Int) := by omega
      have eN : wrap64 ((l.length : Int) - 1) = ((l.length - 1 : Nat) : Int) := w64p (by omega) (by omega)
      obtain ⟨s1, s2⟩ := g.s (i := (l.length : Int) - 1) (j := k) (a := ((l.length - 1 : Nat) : Int)) (b := k) (by omega) (by omega) (by omega) rfl
      simp only [c2', c2, if_true, eN, s1, Option.bind_some, s2]
      rw [show ((l.length - 1 : Nat) : Int) = (l.length : Int) - 1 by omega]
      exact Ev.now _
    · have c2' : ¬ ((i : Int) = (l.length : Int)) := by omega
      obtain ⟨m, rfl⟩ : ∃ m, i = m + 2 := ⟨i - 2, by omega⟩
      have em : ((m + 2 : Nat) : Int) = (m : Int) + 2 := by omega
      have em1 : ((m + 2 - 1 : Nat) : Int) = (m : Int) + 1 := by omega
      obtain ⟨s1, _⟩ := g.s (i := (m : Int) + 2) (j := 1) (a := (m : Int) + 2) (b := 1) (by omega) (by omega) rfl rfl
      obtain ⟨s3, s4⟩ := g.s (i := (m : Int) + 1) (j := 1) (a := (m : Int) + 1) (b := 1) (by omega) (by omega) rfl rfl
      have z1 : (([] : List (List Int)) ++ [[-(rd l ((m : Int) + 1)), sv k first ((m : Int) + 2) 1]]).length < 5864062014805 := by simp
      have c2'' : ¬ ((m : Int) + 2 = (l.length : Int)) := by omega
      simp only [c2, c2'', if_false, em, em1, s1, s3, s4, Option.bind_some, z1, if_true]
      have := part_l1 l k first g m (by omega) (-(rd l ((m : Int) + 1))) rfl (k - 1) 0 (([] ++ [[-(rd l ((m : Int) + 1)), sv k first ((m : Int) + 2) 1]]) ++ [[-(sv k first ((m : Int) + 1) 1), sv k first ((m : Int) + 2) 1]]) ⟨by simp; omega⟩ (by omega)
      rw [← List.range_eq_range'] at this
      simpa [midAt] using this
theorem parts_flat (l : List Int) (k : Nat) (first : Int) (hk : 0 < k) (hn : k < l.length) : (List.range l.length).flatMap (fun i => partAt l k first (i + 1)) = clausesOf l k first := by
  obtain ⟨n, hl⟩ : ∃ n, l.length = n + 2 := ⟨l.length - 2, by omega⟩
  have e1 : List.range (n + 2) = [0] ++ (List.range n).map (fun m => m + 1) ++ [n + 1] := by
    rw [List.range_succ, List.range_succ_eq_map]
    simp
  unfold clausesOf
  rw [if_neg (by omega), hl, e1, List.flatMap_append, List.flatMap_append, List.flatMap_map]
  have p1 : partAt l k first 1 = [[-(rd l 0), sv k first 1 1]] ++ (List.range (k - 1)).map (fun j : Nat => [-(sv k first 1 ((j : Int) + 2))]) := by unfold partAt; rw [if_pos rfl]
  have p2 : partAt l k first (n + 1 + 1) = [[-(rd l ((l.length : Int) - 1)), -(sv k first ((l.length : Int) - 1) k)]] := by unfold partAt; rw [if_neg (by omega), if_pos (by omega)]
  have p3 : (List.range n).flatMap (fun m => partAt l k first (m + 1 + 1)) = (List.range n).flatMap (midAt l k first) := by
    rw [List.flatMap_def, List.flatMap_def]
    congr 1
    refine List.map_congr_left fun m hm => ?_
    rw [List.mem_range] at hm
    unfold partAt
    rw [if_neg (by omega), if_neg (by omega)]
    rfl
  simp only [List.flatMap_cons, List.flatMap_nil, List.append_nil, Nat.zero_add, p1, p2, p3, Nat.add_sub_cancel, hl]
theorem partAt_length (l : List Int) (k : Nat) (hk : 0 < k) (first : Int) (i : Nat) : (partAt l k first i).length ≤ 2 * k + 1 := by
  unfold partAt
  split
  · simp; omega
  · split
    · simp
    · rw [midAt_length l k hk]; exact Nat.le_refl _
theorem Clauses_l0 (l : List Int) (k : Nat) (first : Int) (g : GoodR l.length k first) (hs : sound l = true) (d : Nat) : ∀ (i : Nat) (out : List (List Int)), out.length ≤ i * (2 * k + 1) → i + d = l.length →
    Ev (fun f => depotref27_Clauses.l0 f l (k : Int) first out (l.length : Int) ((i : Int) + 1)) (out ++ (List.range' i d).flatMap (fun i => partAt l k first (i + 1))) := by
  have k0 := g.k0
  have n1 := g.n1
  have kn := g.kn
  induction d with
  | zero =>
    intro i out ho hi
    refine Ev.succ ?_
    have h1 : ¬ ((i : Int) + 1 ≤ (l.length : Int)) := by omega
    simp only [depotref27_Clauses.l0, h1, if_false, List.range'_zero, List.flatMap_nil, List.append_nil]
    exact Ev.now _
  | succ d ih =>
    intro i out ho hi
    refine Ev.succ ?_
    have h1 : (i : Int) + 1 ≤ (l.length : Int) := by omega
    have hp := partAt_length l k k0 first (i + 1)
    have hb : (i + 1) * (2 * k + 1) ≤ 1048576 * 2097153 := Nat.mul_le_mul (by omega) (by omega)
    have e3 : (i + 1) * (2 * k + 1) = i * (2 * k + 1) + (2 * k + 1) := Nat.succ_mul _ _
    have h2 : out.length + (partAt l k first (i + 1)).length < 5864062014805 := by omega
    have e1 : wrap64 ((i : Int) + 1 + 1) = ((i + 1 : Nat) : Int) + 1 := by rw [w64 (by omega) (by omega)]; omega
    simp only [depotref27_Clauses.l0, h1, if_true]
    have hpe := depotref27_part_ev l k first g hs (i + 1) (by omega) (by omega)
    rw [show ((i + 1 : Nat) : Int) = (i : Int) + 1 by omega] at hpe
    refine Ev.bind hpe ?_
    simp only [h2, if_true, e1]
    have := ih (i + 1) (out ++ partAt l k first (i + 1)) (by rw [List.length_append]; omega) (by omega)
    rw [List.range'_succ, List.flatMap_cons]
    simpa using this
theorem zero_l0 (l : List Int) (first : Int) (hs : sound l = true) (hn : l.length ≤ 1048576) (d : Nat) : ∀ (i : Nat), i + d = l.length →
    Ev (fun f => depotref27_Clauses.l0 f l 0 first ((l.take i).map fun x => [-x]) (l.length : Int) ((i : Int) + 1)) (l.map fun x => [-x]) := by
  induction d with
  | zero =>
    intro i hi
    refine Ev.succ ?_
    have h1 : ¬ ((i : Int) + 1 ≤ (l.length : Int)) := by omega
    simp only [depotref27_Clauses.l0, h1, if_false]
    rw [List.take_of_length_le (by omega)]
    exact Ev.now _
  | succ d ih =>
    intro i hi
    refine Ev.succ ?_
    have hlt : i < l.length := by omega
    have h1 : (i : Int) + 1 ≤ (l.length : Int) := by omega
    have e1 : wrap64 ((i : Int) + 1 + 1) = ((i + 1 : Nat) : Int) + 1 := by rw [w64 (by omega) (by omega)]; omega
    have e0 : wrap64 ((i : Int) + 1 - 1) = (i : Int) := by rw [w64 (by omega) (by omega)]; omega
    have b1 : (0 : Int) ≤ (i : Int) := by omega
    have b2 : (i : Int) < (l.length : Int) := by omega
    have z0 : ([] : List (List Int)).length < 5864062014805 := by simp
    have hp : ∀ f, depotref27_part.f f l 0 first ((i : Int) + 1) = some [[-(rd l (i : Int))]] := fun f => by
      unfold depotref27_part.f
      simp only [e0, b1, b2, if_true, z0, lit_neg hs hlt, List.nil_append]
    have h2 : ((l.take i).map fun x => [-x]).length + [[-(rd l (i : Int))]].length < 5864062014805 := by simp; omega
    simp only [depotref27_Clauses.l0, h1, if_true, hp, Option.bind_some, h2, e1]
    have := ih (i + 1) (by omega)
    rw [take_rd hlt, List.map_append] at this
    exact this
theorem depotref27_Clauses_ev (l : List Int) (k : Int) (first : Int) (hs : sound l = true) (hn : l.length ≤ 1048576) (hk : 0 ≤ k) (hf : 1 ≤ first) (hh : k < (l.length : Int) → first + helpersOf l.length k ≤ 1048577) : Ev (fun f => depotref27_Clauses.f f l k first) (if k < (l.length : Int) then clausesOf l k.toNat first else []) := by
  unfold depotref27_Clauses.f
  by_cases c : k ≥ (l.length : Int)
  · rw [if_neg (by omega)]
    simp only [c, if_true]
    exact Ev.now _
  · have hlt : k < (l.length : Int) := by omega
    rw [if_pos hlt]
    simp only [c, if_false]
    by_cases c0 : k = 0
    · subst c0
      have := zero_l0 l first hs hn l.length 0 (by omega)
      simpa [clausesOf] using this
    · have hh' := hh hlt
      unfold helpersOf at hh'
      rw [if_neg (by omega)] at hh'
      have ek : ((k.toNat : Nat) : Int) = k := by omega
      have g : GoodR l.length k.toNat first := ⟨by omega, by omega, hn, hf, by rw [ek]; omega⟩
      have := Clauses_l0 l k.toNat first g hs l.length 0 [] (by simp) (by omega)
      rw [← List.range_eq_range', parts_flat l k.toNat first g.k0 g.kn, ek] at this
      simpa using this
theorem nodup_filter_len (l : List Int) : (tidyOf l).length = l.length → ∀ x ∈ l, formed x = true := by
  intro h
  have hf : (l.filter formed).length = l.length := by
    have h1 : (tidyOf l).length ≤ (l.filter formed).length := by
      have : tidyOf l = tidyOf (l.filter formed) := tidyOf_eq (rising_tidyOf _) (fun x => by rw [mem_tidyOf, List.mem_filter]; constructor <;> intro hx <;> simp_all)
      rw [this]
      exact tidyOf_length _
    have h2 := List.length_filter_le formed l
    omega
  intro x hx
  rw [List.length_filter_eq_length_iff] at hf
  exact hf x hx
theorem ins_length_new {x : Int} {t : List Int} (h : ¬ x ∈ t) : (ins x t).length = t.length + 1 := by
  induction t with
  | nil => rfl
  | cons y t ih =>
    simp only [ins]
    split
    · simp
    · split
      · rename_i e
        exact absurd (by rw [e]; simp) h
      · simp only [List.length_cons, ih (fun hx => h (by simp [hx]))]
theorem ins_length_old {x : Int} {t : List Int} (hx : formed x = true) (hf : ∀ y ∈ t, formed y = true) (hr : Rising t) (h : x ∈ t) : (ins x t).length = t.length := by
  induction t with
  | nil => simp at h
  | cons y t ih =>
    simp only [ins]
    have hr' := List.pairwise_cons.1 hr
    by_cases c : idxOf x < idxOf y
    · exfalso
      rcases List.mem_cons.1 h with rfl | h
      · omega
      · have := hr'.1 x h
        omega
    · rw [if_neg c]
      by_cases e : x = y
      · rw [if_pos e]
      · rw [if_neg e, List.length_cons, ih (fun z hz => hf z (by simp [hz])) hr'.2 (by simpa [e] using h), List.length_cons]
theorem tidy_full (l : List Int) (hf : ∀ x ∈ l, formed x = true) : (tidyOf l).length = l.length ↔ l.Nodup := by
  induction l with
  | nil => simp [tidyOf]
  | cons x l ih =>
    have hx := hf x (by simp)
    have hl : ∀ y ∈ l, formed y = true := fun y hy => hf y (by simp [hy])
    simp only [tidyOf, hx, if_true, List.nodup_cons]
    have hle := tidyOf_length l
    by_cases hm : x ∈ tidyOf l
    · rw [ins_length_old hx (fun y hy => tidyOf_formed hy) (rising_tidyOf l) hm, List.length_cons]
      constructor
      · intro h; omega
      · rintro ⟨h, _⟩
        exact absurd ((mem_tidyOf x l).1 hm).1 h
    · rw [ins_length_new hm, List.length_cons, Nat.add_right_cancel_iff, ih hl]
      have : ¬ x ∈ l := fun h => hm ((mem_tidyOf x l).2 ⟨h, hx⟩)
      simp [this]
theorem unlike_iff (l : List Int) (hs : sound l = true) : unlikeOf l = (decide ((tidyOf l).length = l.length) && !tautIn (tidyOf l)) := by
  have hf : ∀ x ∈ l, formed x = true := fun x hx => sound_mem hs hx
  have ht := tautIn_iff (tidyOf l) (rising_tidyOf l) (fun x hx => tidyOf_formed hx)
  rw [Bool.eq_iff_iff, Bool.and_eq_true, decide_eq_true_eq, tidy_full l hf, Bool.not_eq_true']
  unfold unlikeOf
  rw [Bool.and_eq_true, decide_eq_true_eq]
  have key : (l.map varOf).Nodup ↔ l.Nodup ∧ ¬ ∃ x ∈ l, -x ∈ l := by
    have hv : ∀ x ∈ l, 1 ≤ varOf x ∧ (varOf x = x ∨ varOf x = -x) ∧ x ≠ 0 := fun x hx => by
      have := varOf_formed (hf x hx)
      have := (formed_iff.1 (hf x hx)).1
      omega
    constructor
    · intro h
      refine ⟨?_, ?_⟩
      · exact (List.pairwise_map.1 h).imp (fun hne e => hne (by rw [e]))
      · rintro ⟨x, hx, hn⟩
        have h1 := hv x hx
        have h2 := hv (-x) hn
        obtain ⟨i, hi, e1⟩ := List.getElem_of_mem hx
        obtain ⟨j, hj, e2⟩ := List.getElem_of_mem hn
        have e : varOf l[i] = varOf l[j] := by
          rw [e1, e2]
          omega
        have hp := List.pairwise_iff_getElem.1 (List.pairwise_map.1 h)
        rcases Nat.lt_trichotomy i j with hij | hij | hij
        · exact hp i j hi hj hij e
        · subst hij
          rw [e1] at e2
          omega
        · exact hp j i hj hi hij e.symm
    · rintro ⟨h1, h2⟩
      rw [List.Nodup, List.pairwise_iff_getElem]
      intro i j hi hj hij he
      rw [List.length_map] at hi hj
      rw [List.getElem_map, List.getElem_map] at he
      have a1 := hv l[i] (List.getElem_mem hi)
      have a2 := hv l[j] (List.getElem_mem hj)
      have hne : l[i] ≠ l[j] := (List.pairwise_iff_getElem.1 h1) i j hi hj hij
      have : l[j] = -l[i] := by omega
      exact h2 ⟨l[i], List.getElem_mem hi, by rw [← this]; exact List.getElem_mem hj⟩
  rw [key]
  have e2 : tautIn (tidyOf l) = false ↔ ¬ ∃ x ∈ l, -x ∈ l := by
    rw [← Bool.not_eq_true, ht]
    refine not_congr ⟨?_, ?_⟩
    · rintro ⟨x, h1, h2⟩
      exact ⟨x, ((mem_tidyOf x l).1 h1).1, ((mem_tidyOf _ l).1 h2).1⟩
    · rintro ⟨x, h1, h2⟩
      exact ⟨x, (mem_tidyOf x l).2 ⟨h1, hf x h1⟩, (mem_tidyOf _ l).2 ⟨h2, hf _ h2⟩⟩
  rw [e2]
  simp [hs]
theorem depotref27_unlike_ev (l : List Int) (hs : sound l = true) (hn : l.length ≤ 17592186044416) : Ev (fun k => depotref27_unlike.f k l) (unlikeOf l) := by
  unfold depotref27_unlike.f
  refine Ev.bind (depotref01_Tidy_evl l hn) ?_
  rw [unlike_iff l hs]
  by_cases c : (tidyOf l).length = l.length
  · have c' : ((tidyOf l).length : Int) = (l.length : Int) := by omega
    simp only [c', if_true, c, decide_true, Bool.true_and]
    exact Ev.bind (depotref01_Taut_ev l hn) (Ev.now _)
  · have c' : ¬ ((tidyOf l).length : Int) = (l.length : Int) := by omega
    simp only [c', if_false, c, decide_false, Bool.false_and]
    exact Ev.now _
theorem AtMost_l0 (l : List Int) (k first : Int) (hu : unlikeOf l = true) (hk : 0 ≤ k) (hkb : k ≤ 9223372036854775807) (hf : 1 ≤ first ∧ first ≤ 1048577) (d : Nat) : ∀ i : Nat, i + d = l.length → (∀ y ∈ l.take i, varOf y < first) →
    Ev (fun f => depotref27_AtMost.l0 f l k first (i : Int)) (atmostOf l k first) := by
  have hs := unlike_sound hu
  have hn := unlike_length hu
  induction d with
  | zero =>
    intro i hi hall
    rw [List.take_of_length_le (by omega)] at hall
    refine Ev.succ ?_
    have h1 : ¬ ((i : Int) < (l.length : Int)) := by omega
    simp only [depotref27_AtMost.l0, h1, if_false]
    have hnone : ¬ (l.any fun x => decide (first ≤ varOf x)) = true := by
      intro h
      obtain ⟨z, hz, h2⟩ := List.any_eq_true.1 h
      have := hall z hz
      have := of_decide_eq_true h2
      omega
    have hq0 : 0 ≤ helpersOf l.length k ∧ helpersOf l.length k ≤ 1048576 * 1048576 := by
      unfold helpersOf
      split
      · omega
      · exact ⟨Int.mul_nonneg (by omega) hk, Int.mul_le_mul (by omega) (by omega) hk (by omega)⟩
    have eh : (if k = 0 ∨ k ≥ (l.length : Int) then 0 else wrap64 (((l.length : Int) - 1) * k)) = helpersOf l.length k := by
      unfold helpersOf at hq0 ⊢
      split
      · rfl
      · rw [if_neg ‹_›] at hq0
        exact w64 (by omega) (by omega)
    refine Ev.bound (depotref27_Helpers_eq (l.length : Int) k (by omega) (by omega) hk) ?_
    rw [eh]
    have e1 : wrap64 (first + helpersOf l.length k) = first + helpersOf l.length k := w64 (by omega) (by omega)
    have e2 : wrap64 (first + helpersOf l.length k - 1) = first + helpersOf l.length k - 1 := w64 (by omega) (by omega)
    simp only [e1, e2]
    unfold atmostOf
    rw [if_neg (by rw [hu]; simp)]
    by_cases c : first + helpersOf l.length k - 1 > 1048576
    · have hlt : k < (l.length : Int) := by
        rcases Int.lt_or_le k (l.length : Int) with h | h
        · exact h
        · have : helpersOf l.length k = 0 := by unfold helpersOf; rw [if_pos (.inr h)]
          omega
      rw [if_pos (.inr (.inr (.inr ⟨hlt, by omega⟩)))]
      simp only [c, if_true]
      exact Ev.now _
    · rw [if_neg (by omega), if_neg hnone]
      simp only [c, if_false]
      exact Ev.bind (depotref27_Clauses_ev l k first hs hn hk hf.1 (fun _ => by omega)) (Ev.now _)
  | succ d ih =>
    intro i hi hall
    refine Ev.succ ?_
    have hlt : i < l.length := by omega
    have h1 : (i : Int) < (l.length : Int) := by omega
    have h2 : (0 : Int) ≤ (i : Int) := by omega
    simp only [depotref27_AtMost.l0, h1, h2, if_true, depotref01_Var_eq, Option.bind_some, w64s (show (i : Int) < 9223372036854775807 by omega)]
    by_cases c : varOf (rd l (i : Int)) ≥ first
    · simp only [c, if_true]
      unfold atmostOf
      rw [if_neg (by rw [hu]; simp)]
      by_cases c2 : k < 0 ∨ first < 1 ∨ first > 1048577 ∨ (k < (l.length : Int) ∧ helpersOf l.length k > 1048577 - first)
      · rw [if_pos c2]
        exact Ev.now _
      · rw [if_neg c2, if_pos (List.any_eq_true.2 ⟨_, rd_mem hlt, decide_eq_true c⟩)]
        exact Ev.now _
    · simp only [c, if_false]
      refine ih (i + 1) (by omega) (fun y hy => ?_)
      rw [take_rd hlt, List.mem_append, List.mem_singleton] at hy
      rcases hy with hy | rfl
      · exact hall y hy
      · omega
theorem depotref27_AtMost_ev (l : List Int) (k first : Int) (hn : l.length ≤ 17592186044416) (hkb : k ≤ 9223372036854775807) : Ev (fun f => depotref27_AtMost.f f l k first) (atmostOf l k first) := by
  unfold depotref27_AtMost.f
  have bad : unlikeOf l = false → Ev (fun f => depotref27_AtMost.j0 f l k first true) (atmostOf l k first) := by
    intro hu
    refine Ev.succ ?_
    simp only [depotref27_AtMost.j0, if_true]
    unfold atmostOf
    rw [if_pos hu]
    exact Ev.now _
  refine Ev.bind (depotref01_Sound_ev l hn) ?_
  cases hs : sound l with
  | false =>
    simp only [Bool.false_eq_true, if_false]
    exact bad (by unfold unlikeOf; rw [hs]; rfl)
  | true =>
    simp only [if_true]
    refine Ev.bind (depotref27_unlike_ev l hs hn) ?_
    cases hu : unlikeOf l with
    | false => exact bad hu
    | true =>
      have err : (k < 0 ∨ first < 1 ∨ first > 1048577) → ∀ g : Nat → Option (List (List Int) × Int × Int), (∀ f, g f = depotref27_AtMost.j1 f l k first true) → Ev g (atmostOf l k first) := by
        intro h g hg
        have : g = fun f => depotref27_AtMost.j1 f l k first true := funext hg
        rw [this]
        refine Ev.succ ?_
        simp only [depotref27_AtMost.j1, if_true]
        unfold atmostOf
        rw [if_neg (by rw [hu]; simp), if_pos (by omega)]
        exact Ev.now _
      refine Ev.succ ?_
      simp only [depotref27_AtMost.j0, Bool.not_true, Bool.false_eq_true, if_false]
      by_cases c1 : k < 0
      · simp only [c1, if_true]
        exact err (by omega) _ (fun _ => rfl)
      · by_cases c2 : first < 1
        · simp only [c1, c2, if_true, if_false]
          exact err (by omega) _ (fun _ => rfl)
        · by_cases c3 : first > 1048577
          · simp only [c1, c2, if_false, decide_eq_true c3]
            exact err (by omega) _ (fun _ => rfl)
          · simp only [c1, c2, if_false, decide_eq_false c3]
            refine Ev.succ ?_
            simp only [depotref27_AtMost.j1, Bool.false_eq_true, if_false]
            exact AtMost_l0 l k first hu (by omega) hkb (by omega) l.length 0 (by omega) (by simp)
def markOf (a b : Int) : Int := wrap64 (wrap64 (1000003 * wrap64 (a + 7)) + b)
def lentMarks : List Int := (List.range 64).map fun i : Nat => markOf 0 i
def lentOf (l : List Int) : List Int := l ++ lentMarks
theorem lentMarks_length : lentMarks.length = 64 := by simp [lentMarks]
theorem lentMarks_drop {j : Nat} (hj : j < 64) : lentMarks.drop j = markOf 0 j :: lentMarks.drop (j + 1) := by
  rw [List.drop_eq_getElem_cons (by rw [lentMarks_length]; exact hj)]
  simp [lentMarks]
theorem lentOf_length (l : List Int) : (lentOf l).length = l.length + 64 := by rw [lentOf, List.length_append, lentMarks_length]
theorem depotkit_Lent_l1 (d : Nat) : ∀ (j : Nat) (x : List Int), j + d = 64 → x.length + d < 17592186044416 → Ev (fun k => depotkit_Lent.l1 k x (j : Int)) (x ++ lentMarks.drop j) := by
  induction d with
  | zero =>
    intro j x hj hx
    refine Ev.succ ?_
    simp only [depotkit_Lent.l1]
    have h1 : ¬ ((j : Int) < 64) := by omega
    simp only [h1, if_false]
    rw [List.drop_of_length_le (by rw [lentMarks_length]; omega), List.append_nil]
    exact Ev.now _
  | succ d ih =>
    intro j x hj hx
    refine Ev.succ ?_
    simp only [depotkit_Lent.l1, depotkit_mark.f, Option.bind_some]
    have h1 : (j : Int) < 64 := by omega
    have h2 : x.length < 17592186044416 := by omega
    simp only [h1, h2, if_true, w64s (show (j : Int) < 9223372036854775807 by omega)]
    have := ih (j + 1) (x ++ [markOf 0 j]) (by omega) (by simp; omega)
    rw [lentMarks_drop (by omega)]
    rw [List.append_assoc] at this
    exact this
theorem depotkit_Lent_l0 (l : List Int) (hn : l.length + 64 < 17592186044416) (d : Nat) : ∀ (i : Nat) (x : List Int), i + d = l.length → x.length = i → Ev (fun k => depotkit_Lent.l0 k l x (i : Int)) (x ++ l.drop i ++ lentMarks) := by
  induction d with
  | zero =>
    intro i x hi hx
    refine Ev.succ ?_
    simp only [depotkit_Lent.l0]
    have h1 : ¬ ((i : Int) < (l.length : Int)) := by omega
    simp only [h1, if_false]
    rw [List.drop_of_length_le (by omega), List.append_nil]
    have := depotkit_Lent_l1 64 0 x (by omega) (by omega)
    rwa [List.drop_zero] at this
  | succ d ih =>
    intro i x hi hx
    refine Ev.succ ?_
    simp only [depotkit_Lent.l0]
    have h1 : (i : Int) < (l.length : Int) := by omega
    have h0 : (0 : Int) ≤ (i : Int) := by omega
    have h2 : x.length < 17592186044416 := by omega
    simp only [h1, h0, h2, if_true, w64s (show (i : Int) < 9223372036854775807 by omega)]
    rw [drop_rd (show i < l.length by omega)]
    have := ih (i + 1) (x ++ [rd l (i : Int)]) (by omega) (by simp [hx])
    rw [show x ++ [rd l (i : Int)] ++ l.drop (i + 1) ++ lentMarks = x ++ rd l (i : Int) :: l.drop (i + 1) ++ lentMarks by simp] at this
    exact this
theorem depotkit_Lent_ev (l : List Int) (hn : l.length + 64 < 17592186044416) : Ev (fun k => depotkit_Lent.f k l) (lentOf l) := by
  have := depotkit_Lent_l0 l hn l.length 0 [] (by omega) rfl
  simpa [depotkit_Lent.f, lentOf] using this
theorem depotkit_Kept_l1 (l : List Int) (hn : l.length + 64 < 17592186044416) (d : Nat) : ∀ j : Nat, j + d = 64 → Ev (fun k => depotkit_Kept.l1 k (lentOf l) l (j : Int)) true := by
  induction d with
  | zero =>
    intro j hj
    refine Ev.succ ?_
    simp only [depotkit_Kept.l1]
    have h1 : ¬ ((j : Int) < 64) := by omega
    simp only [h1, if_false]
    exact Ev.now _
  | succ d ih =>
    intro j hj
    refine Ev.succ ?_
    simp only [depotkit_Kept.l1, depotkit_mark.f, Option.bind_some]
    have h1 : (j : Int) < 64 := by omega
    have e1 : wrap64 ((l.length : Int) + (j : Int)) = ((l.length + j : Nat) : Int) := by rw [w64 (by omega) (by omega)]; omega
    have h2 : (0 : Int) ≤ ((l.length + j : Nat) : Int) := by omega
    have h3 : ((l.length + j : Nat) : Int) < ((lentOf l).length : Int) := by rw [lentOf_length]; omega
    have e2 : rd (lentOf l) ((l.length + j : Nat) : Int) = markOf 0 j := by
      rw [rd_nat (by rw [lentOf_length]; omega)]
      simp [lentOf, lentMarks]
    have e3 : wrap64 (wrap64 (1000003 * wrap64 (0 + 7)) + (j : Int)) = markOf 0 j := rfl
    simp only [h1, e1, h2, h3, e2, e3, if_true, w64s (show (j : Int) < 9223372036854775807 by omega)]
    exact ih (j + 1) (by omega)
theorem depotkit_Kept_l0 (l : List Int) (hn : l.length + 64 < 17592186044416) (d : Nat) : ∀ i : Nat, i + d = l.length → Ev (fun k => depotkit_Kept.l0 k (lentOf l) l (i : Int)) true := by
  induction d with
  | zero =>
    intro i hi
    refine Ev.succ ?_
    simp only [depotkit_Kept.l0]
    have h1 : ¬ ((i : Int) < (l.length : Int)) := by omega
    simp only [h1, if_false]
    exact depotkit_Kept_l1 l hn 64 0 (by omega)
  | succ d ih =>
    intro i hi
    refine Ev.succ ?_
    simp only [depotkit_Kept.l0]
    have h1 : (i : Int) < (l.length : Int) := by omega
    have h0 : (0 : Int) ≤ (i : Int) := by omega
    have h3 : (i : Int) < ((lentOf l).length : Int) := by rw [lentOf_length]; omega
    have e2 : rd (lentOf l) (i : Int) = rd l (i : Int) := by
      rw [rd_nat (by rw [lentOf_length]; omega), rd_nat (show i < l.length by omega)]
      simp only [lentOf]
      rw [List.getElem_append_left (by omega)]
    simp only [h1, h0, h3, e2, if_true, w64s (show (i : Int) < 9223372036854775807 by omega)]
    exact ih (i + 1) (by omega)
theorem depotkit_Kept_ev (l : List Int) (hn : l.length + 64 < 17592186044416) : Ev (fun k => depotkit_Kept.f k (lentOf l) l) true := by
  have h1 : ((lentOf l).length : Int) = wrap64 ((l.length : Int) + 64) := by rw [w64 (by omega) (by omega), lentOf_length]; omega
  unfold depotkit_Kept.f
  simp only [h1, if_true]
  exact depotkit_Kept_l0 l hn l.length 0 (by omega)
theorem depotkit_Over_l0 (n : Nat) (hn : n < 17592186044416) (d : Nat) : ∀ (i : Nat) (x : List Int), x.length = n → i + d = n → ∃ r : List Int, r.length = n ∧ Ev (fun k => depotkit_Over.l0 k x (i : Int)) r := by
  induction d with
  | zero =>
    intro i x hx hi
    refine ⟨x, hx, Ev.succ ?_⟩
    simp only [depotkit_Over.l0]
    have h1 : ¬ ((i : Int) < (x.length : Int)) := by omega
    simp only [h1, if_false]
    exact Ev.now _
  | succ d ih =>
    intro i x hx hi
    obtain ⟨r, hr, h⟩ := ih (i + 1) (x.set i (wrap64 (1 - Int.tmod (i : Int) 3))) (by simpa using hx) (by omega)
    refine ⟨r, hr, Ev.succ ?_⟩
    simp only [depotkit_Over.l0]
    have h1 : (i : Int) < (x.length : Int) := by omega
    have h0 : (0 : Int) ≤ (i : Int) := by omega
    simp only [h1, h0, if_true, w64s (show (i : Int) < 9223372036854775807 by omega), Int.toNat_natCast]
    exact h
theorem depotkit_Over_ev (l : List Int) (hn : l.length < 17592186044416) : ∃ r : List Int, r.length = l.length ∧ Ev (fun k => depotkit_Over.f k l) r := by
  obtain ⟨r, h1, h2⟩ := depotkit_Over_l0 l.length hn l.length 0 l rfl (by omega)
  exact ⟨r, h1, h2⟩
def lentMarksB : List Bool := (List.range 64).map fun i : Nat => (Int.tmod (i : Int) 3 == 0)
def lentB (l : List Bool) : List Bool := l ++ lentMarksB
theorem lentMarksB_length : lentMarksB.length = 64 := by simp [lentMarksB]
theorem lentMarksB_drop {j : Nat} (hj : j < 64) : lentMarksB.drop j = (Int.tmod (j : Int) 3 == 0) :: lentMarksB.drop (j + 1) := by
  rw [List.drop_eq_getElem_cons (by rw [lentMarksB_length]; exact hj)]
  simp [lentMarksB]
theorem lentB_length (l : List Bool) : (lentB l).length = l.length + 64 := by rw [lentB, List.length_append, lentMarksB_length]
theorem depotkit_LentBools_l1 (d : Nat) : ∀ (j : Nat) (x : List Bool), j + d = 64 → x.length + d < 140737488355328 → Ev (fun k => depotkit_LentBools.l1 k x (j : Int)) (x ++ lentMarksB.drop j) := by
  induction d with
  | zero =>
    intro j x hj hx
    refine Ev.succ ?_
    simp only [depotkit_LentBools.l1]
    have h1 : ¬ ((j : Int) < 64) := by omega
    simp only [h1, if_false]
    rw [List.drop_of_length_le (by rw [lentMarksB_length]; omega), List.append_nil]
    exact Ev.now _
  | succ d ih =>
    intro j x hj hx
    refine Ev.succ ?_
    simp only [depotkit_LentBools.l1]
    have h1 : (j : Int) < 64 := by omega
    have h2 : x.length < 140737488355328 := by omega
    simp only [h1, h2, if_true, w64s (show (j : Int) < 9223372036854775807 by omega)]
    have := ih (j + 1) (x ++ [(Int.tmod (j : Int) 3 == 0)]) (by omega) (by simp; omega)
    rw [lentMarksB_drop (by omega)]
    rw [List.append_assoc] at this
    exact this
theorem depotkit_LentBools_l0 (l : List Bool) (hn : l.length + 64 < 140737488355328) (d : Nat) : ∀ (i : Nat) (x : List Bool), i + d = l.length → x.length = i → Ev (fun k => depotkit_LentBools.l0 k l x (i : Int)) (x ++ l.drop i ++ lentMarksB) := by
  induction d with
  | zero =>
    intro i x hi hx
    refine Ev.succ ?_
    simp only [depotkit_LentBools.l0]
    have h1 : ¬ ((i : Int) < (l.length : Int)) := by omega
    simp only [h1, if_false]
    rw [List.drop_of_length_le (by omega), List.append_nil]
    have := depotkit_LentBools_l1 64 0 x (by omega) (by omega)
    rwa [List.drop_zero] at this
  | succ d ih =>
    intro i x hi hx
    refine Ev.succ ?_
    simp only [depotkit_LentBools.l0]
    have h1 : (i : Int) < (l.length : Int) := by omega
    have h0 : (0 : Int) ≤ (i : Int) := by omega
    have h2 : x.length < 140737488355328 := by omega
    simp only [h1, h0, h2, if_true, w64s (show (i : Int) < 9223372036854775807 by omega)]
    rw [drop_rdOf (z := false) (show i < l.length by omega)]
    have := ih (i + 1) (x ++ [rdOf false l (i : Int)]) (by omega) (by simp [hx])
    rw [show x ++ [rdOf false l (i : Int)] ++ l.drop (i + 1) ++ lentMarksB = x ++ rdOf false l (i : Int) :: l.drop (i + 1) ++ lentMarksB by simp] at this
    exact this
theorem depotkit_LentBools_ev (l : List Bool) (hn : l.length + 64 < 140737488355328) : Ev (fun k => depotkit_LentBools.f k l) (lentB l) := by
  have := depotkit_LentBools_l0 l hn l.length 0 [] (by omega) rfl
  simpa [depotkit_LentBools.f, lentB] using this
theorem depotkit_KeptBools_l1 (l : List Bool) (hn : l.length + 64 < 140737488355328) (d : Nat) : ∀ j : Nat, j + d = 64 → Ev (fun k => depotkit_KeptBools.l1 k (lentB l) l (j : Int)) true := by
  induction d with
  | zero =>
    intro j hj
    refine Ev.succ ?_
    simp only [depotkit_KeptBools.l1]
    have h1 : ¬ ((j : Int) < 64) := by omega
    simp only [h1, if_false]
    exact Ev.now _
  | succ d ih =>
    intro j hj
    refine Ev.succ ?_
    simp only [depotkit_KeptBools.l1]
    have h1 : (j : Int) < 64 := by omega
    have e1 : wrap64 ((l.length : Int) + (j : Int)) = ((l.length + j : Nat) : Int) := by rw [w64 (by omega) (by omega)]; omega
    have h2 : (0 : Int) ≤ ((l.length + j : Nat) : Int) := by omega
    have h3 : ((l.length + j : Nat) : Int) < ((lentB l).length : Int) := by rw [lentB_length]; omega
    have e2 : rdOf false (lentB l) ((l.length + j : Nat) : Int) = (Int.tmod (j : Int) 3 == 0) := by
      rw [rdOf_nat (by rw [lentB_length]; omega)]
      simp [lentB, lentMarksB]
    simp only [h1, e1, h2, h3, e2, if_true, bne_self_eq_false, Bool.false_eq_true, if_false, w64s (show (j : Int) < 9223372036854775807 by omega)]
    exact ih (j + 1) (by omega)
theorem depotkit_KeptBools_l0 (l : List Bool) (hn : l.length + 64 < 140737488355328) (d : Nat) : ∀ i : Nat, i + d = l.length → Ev (fun k => depotkit_KeptBools.l0 k (lentB l) l (i : Int)) true := by
  induction d with
  | zero =>
    intro i hi
    refine Ev.succ ?_
    simp only [depotkit_KeptBools.l0]
    have h1 : ¬ ((i : Int) < (l.length : Int)) := by omega
    simp only [h1, if_false]
    exact depotkit_KeptBools_l1 l hn 64 0 (by omega)
  | succ d ih =>
    intro i hi
    refine Ev.succ ?_
    simp only [depotkit_KeptBools.l0]
    have h1 : (i : Int) < (l.length : Int) := by omega
    have h0 : (0 : Int) ≤ (i : Int) := by omega
    have h3 : (i : Int) < ((lentB l).length : Int) := by rw [lentB_length]; omega
    have e2 : rdOf false (lentB l) (i : Int) = rdOf false l (i : Int) := by
      rw [rdOf_nat (by rw [lentB_length]; omega), rdOf_nat (show i < l.length by omega)]
      simp only [lentB]
      rw [List.getElem_append_left (by omega)]
    simp only [h1, h0, h3, e2, if_true, bne_self_eq_false, Bool.false_eq_true, if_false, w64s (show (i : Int) < 9223372036854775807 by omega)]
    exact ih (i + 1) (by omega)
theorem depotkit_KeptBools_ev (l : List Bool) (hn : l.length + 64 < 140737488355328) : Ev (fun k => depotkit_KeptBools.f k (lentB l) l) true := by
  have h1 : ((lentB l).length : Int) = wrap64 ((l.length : Int) + 64) := by rw [w64 (by omega) (by omega), lentB_length]; omega
  unfold depotkit_KeptBools.f
  simp only [h1, if_true]
  exact depotkit_KeptBools_l0 l hn l.length 0 (by omega)
theorem depotkit_OverBools_l0 (n : Nat) (hn : n < 140737488355328) (d : Nat) : ∀ (i : Nat) (x : List Bool), x.length = n → i + d = n → ∃ r : List Bool, r.length = n ∧ Ev (fun k => depotkit_OverBools.l0 k x (i : Int)) r := by
  induction d with
  | zero =>
    intro i x hx hi
    refine ⟨x, hx, Ev.succ ?_⟩
    simp only [depotkit_OverBools.l0]
    have h1 : ¬ ((i : Int) < (x.length : Int)) := by omega
    simp only [h1, if_false]
    exact Ev.now _
  | succ d ih =>
    intro i x hx hi
    obtain ⟨r, hr, h⟩ := ih (i + 1) (x.set i (!(rdOf false x (i : Int)))) (by simpa using hx) (by omega)
    refine ⟨r, hr, Ev.succ ?_⟩
    simp only [depotkit_OverBools.l0]
    have h1 : (i : Int) < (x.length : Int) := by omega
    have h0 : (0 : Int) ≤ (i : Int) := by omega
    simp only [h1, h0, if_true, w64s (show (i : Int) < 9223372036854775807 by omega), Int.toNat_natCast]
    exact h
theorem depotkit_OverBools_ev (l : List Bool) (hn : l.length < 140737488355328) : ∃ r : List Bool, r.length = l.length ∧ Ev (fun k => depotkit_OverBools.f k l) r := by
  obtain ⟨r, h1, h2⟩ := depotkit_OverBools_l0 l.length hn l.length 0 l rfl (by omega)
  exact ⟨r, h1, h2⟩
end Go.Proofs.Ytlemkghpcbkcpaa.PAtmostKeeps
