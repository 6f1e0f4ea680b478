/- What the functions that AtmostFills reaches compute, on numbers and lists. Laid by lib.py. -/
import Derived.Test.YtlemkghpcbkcpaaPAtmostFillsx3
import Derived.Test.YtlemkghpcbkcpaaMath
namespace Go.Proofs.Ytlemkghpcbkcpaa.PAtmostFills
open Go.RowKit Go.Proofs.YtlemkghpcbkcpaaW.PrintWords Go.Proofs.YtlemkghpcbkcpaaW.PrintLast Go.Proofs.YtlemkghpcbkcpaaMath
set_option linter.unusedVariables false
set_option linter.unusedSimpArgs false
theorem atmost_helpers_eq (n k : Int) (hn : 0 ≤ n) (hn2 : n ≤ 1048576) : atmost_helpers.f n k = some (if k = 0 ∨ k ≥ n then 0 else wrap64 ((n - 1) * k)) := by
  unfold atmost_helpers.f
  by_cases h0 : k = 0
  · simp [h0]
  · by_cases h1 : k ≥ n
    · simp [h0, h1]
    · rw [if_neg h0, if_neg h1, if_neg (by omega), w64 (x := n - 1) (by omega) (by omega)]
theorem depotref27_Helpers_eq (n k : Int) (hn : 0 ≤ n) (hn2 : n ≤ 1048576) (hk : 0 ≤ k) : depotref27_Helpers.f n k = some (if k = 0 ∨ k ≥ n then 0 else wrap64 ((n - 1) * k)) := by
  unfold depotref27_Helpers.f
  rw [w64 (x := n - 1) (by omega) (by omega)]
  by_cases h0 : k = 0
  · simp [h0]
  · by_cases h1 : k ≥ n
    · rw [if_neg (by omega), if_pos (by omega), if_pos (by omega)]
    · rw [if_neg (by omega), if_neg (by omega), if_neg (by omega)]
theorem depotref00_CopyBools_l0 (l : List Bool) (hn : l.length ≤ 140737488351232) (d : Nat) : ∀ i : Nat, i + d = l.length → Ev (fun k => depotref00_CopyBools.l0 k l (l.take i) (i : Int)) l := by
  induction d with
  | zero =>
    intro i hi
    refine Ev.succ ?_
    simp only [depotref00_CopyBools.l0]
    have h1 : ¬ ((i : Int) < (l.length : Int)) := by omega
    simp only [h1, if_false]
    rw [List.take_of_length_le (by omega)]
    exact Ev.now _
  | succ d ih =>
    intro i hi
    refine Ev.succ ?_
    simp only [depotref00_CopyBools.l0]
    have h1 : (i : Int) < (l.length : Int) := by omega
    have h0 : (0 : Int) ≤ (i : Int) := by omega
    have h2 : (l.take i).length < 140737488355328 := by rw [List.length_take]; omega
    simp only [h1, h0, h2, if_true, w64s (show (i : Int) < 9223372036854775807 by omega)]
    rw [← take_rdOf (show i < l.length by omega)]
    exact ih (i + 1) (by omega)
theorem depotref00_CopyBools_ev (l : List Bool) (hn : l.length ≤ 140737488351232) : Ev (fun k => depotref00_CopyBools.f k l) l := depotref00_CopyBools_l0 l hn l.length 0 (by omega)
theorem depotref00_SameBools_l0 (a b : List Bool) (hn : a.length ≤ 140737488355328) (hl : a.length = b.length) (d : Nat) : ∀ i : Nat, i + d = a.length → Ev (fun k => depotref00_SameBools.l0 k a b (i : Int)) (a.drop i == b.drop i) := by
  induction d with
  | zero =>
    intro i hi
    refine Ev.succ ?_
    simp only [depotref00_SameBools.l0]
    have h1 : ¬ ((i : Int) < (a.length : Int)) := by omega
    simp only [h1, if_false]
    rw [List.drop_of_length_le (by omega), List.drop_of_length_le (by omega)]
    exact Ev.now _
  | succ d ih =>
    intro i hi
    refine Ev.succ ?_
    simp only [depotref00_SameBools.l0]
    have h1 : (i : Int) < (a.length : Int) := by omega
    have h2 : (i : Int) < (b.length : Int) := by omega
    have h0 : (0 : Int) ≤ (i : Int) := by omega
    simp only [h1, h2, h0, if_true]
    rw [drop_rdOf (z := false) (show i < a.length by omega), drop_rdOf (z := false) (show i < b.length by omega), List.cons_beq_cons]
    by_cases hx : rdOf false a i = rdOf false b i
    · have hx2 : (rdOf false a i != rdOf false b i) = false := by simp [hx]
      simp only [hx2, Bool.false_eq_true, if_false, w64s (show (i : Int) < 9223372036854775807 by omega)]
      rw [hx, beq_self_eq_true, Bool.true_and]
      exact ih (i + 1) (by omega)
    · have hx3 : (rdOf false a i != rdOf false b i) = true := by simp [hx]
      have hx2 : (rdOf false a i == rdOf false b i) = false := by simpa using hx
      simp only [hx3, if_true, hx2, Bool.false_and]
      exact Ev.now _
theorem depotref00_SameBools_ev (a b : List Bool) (hn : a.length ≤ 140737488355328) : Ev (fun k => depotref00_SameBools.f k a b) (a == b) := by
  unfold depotref00_SameBools.f
  by_cases hl : (a.length : Int) = (b.length : Int)
  · simp only [hl, if_true]
    exact depotref00_SameBools_l0 a b hn (by omega) a.length 0 (by omega)
  · simp only [hl, if_false]
    have : (a == b) = false := by
      rw [beq_eq_false_iff_ne]
      rintro rfl
      exact hl rfl
    rw [this]
    exact Ev.now _
theorem depotref27_On_l0 (l : List Bool) (hn : l.length ≤ 1048576) (d : Nat) : ∀ (i c : Nat), c ≤ i → i + d = l.length → Ev (fun k => depotref27_On.l0 k l (l.length : Int) (c : Int) (i : Int)) ((c + cnt (l.drop i) : Nat) : Int) := by
  induction d with
  | zero =>
    intro i c hc hi
    refine Ev.succ ?_
    simp only [depotref27_On.l0]
    have h1 : ¬ ((i : Int) < (l.length : Int)) := by omega
    simp only [h1, if_false]
    refine Ev.succ ?_
    simp only [depotref27_On.j1, Bool.false_eq_true, if_false]
    rw [List.drop_of_length_le (by omega), cnt, Nat.add_zero]
    exact Ev.now _
  | succ d ih =>
    intro i c hc hi
    refine Ev.succ ?_
    simp only [depotref27_On.l0]
    have h1 : (i : Int) < (l.length : Int) := by omega
    have h0 : (0 : Int) ≤ (i : Int) := by omega
    simp only [h1, if_true, decide_true]
    refine Ev.succ ?_
    simp only [depotref27_On.j1, h1, h0, if_true]
    rw [drop_rdOf (z := false) (show i < l.length by omega), cnt]
    by_cases hb : rdOf false l i = true
    · simp only [hb, if_true, w64s (show (i : Int) < 9223372036854775807 by omega), w64s (show (c : Int) < 9223372036854775807 by omega)]
      have := ih (i + 1) (c + 1) (by omega) (by omega)
      rw [show c + 1 + cnt (l.drop (i + 1)) = c + (1 + cnt (l.drop (i + 1))) by omega] at this
      exact this
    · simp only [hb, if_false, w64s (show (i : Int) < 9223372036854775807 by omega)]
      have := ih (i + 1) c (by omega) (by omega)
      rw [show c + cnt (l.drop (i + 1)) = c + (0 + cnt (l.drop (i + 1))) by omega] at this
      exact this
theorem depotref27_On_ev (l : List Bool) (hn : l.length ≤ 1048576) : Ev (fun k => depotref27_On.f k l (l.length : Int)) (cnt l : Int) := by
  have := depotref27_On_l0 l hn l.length 0 0 (by omega) (by omega)
  rw [Nat.zero_add, List.drop_zero] at this
  exact this
theorem depotref27_Fill_l1 (l : List Bool) (k c i : Nat) (r : List Bool × Int) (hk : k ≤ 1048576) (hi : i ≤ 1048576) (d : Nat) : ∀ (j : Nat) (out : List Bool), out.length + d ≤ 140737488355328 → j + d = k →
    Ev (fun f => depotref27_Fill.l0 f l (k : Int) (out ++ rowF c j d) (c : Int) ((i + 1 : Nat) : Int)) r → Ev (fun f => depotref27_Fill.l1 f l (k : Int) out (c : Int) (i : Int) ((j : Int) + 1)) r := by
  induction d with
  | zero =>
    intro j out ho hj h
    refine Ev.succ ?_
    simp only [depotref27_Fill.l1]
    have h1 : ¬ ((j : Int) + 1 ≤ (k : Int)) := by omega
    simp only [h1, if_false, w64s (show (i : Int) < 9223372036854775807 by omega)]
    rwa [rowF, List.append_nil] at h
  | succ d ih =>
    intro j out ho hj h
    refine Ev.succ ?_
    simp only [depotref27_Fill.l1]
    have h1 : (j : Int) + 1 ≤ (k : Int) := by omega
    have h2 : out.length < 140737488355328 := by omega
    have h3 : wrap64 ((j : Int) + 1 + 1) = ((j + 1 : Nat) : Int) + 1 := by rw [w64 (by omega) (by omega)]; omega
    simp only [h1, h2, h3, if_true]
    refine ih (j + 1) _ (by simp; omega) (by omega) ?_
    rw [List.append_assoc]
    have e : decide ((c : Int) ≥ (j : Int) + 1) = decide (c > j) := by rw [Bool.eq_iff_iff]; simp; omega
    rw [e]
    exact h
theorem depotref27_Fill_l0 (l : List Bool) (k : Nat) (hn : l.length ≤ 1048576) (h0 : 0 < l.length) (hk : k ≤ 1048576) (d : Nat) : ∀ (i c : Nat) (out : List Bool), c ≤ i → out.length = i * k → i + d = l.length - 1 →
    Ev (fun f => depotref27_Fill.l0 f l (k : Int) out (c : Int) ((i : Int) + 1)) (out ++ fillF k c ((l.take (l.length - 1)).drop i), 0) := by
  induction d with
  | zero =>
    intro i c out hc ho hi
    refine Ev.succ ?_
    simp only [depotref27_Fill.l0]
    have e1 : wrap64 ((l.length : Int) - 1) = (l.length : Int) - 1 := w64 (by omega) (by omega)
    have h1 : ¬ ((i : Int) + 1 ≤ (l.length : Int) - 1) := by omega
    simp only [e1, h1, if_false]
    rw [List.drop_of_length_le (by rw [List.length_take]; omega), fillF, List.append_nil]
    exact Ev.now _
  | succ d ih =>
    intro i c out hc ho hi
    refine Ev.succ ?_
    simp only [depotref27_Fill.l0]
    have e1 : wrap64 ((l.length : Int) - 1) = (l.length : Int) - 1 := w64 (by omega) (by omega)
    have e2 : wrap64 ((i : Int) + 1 - 1) = (i : Int) := by rw [w64 (by omega) (by omega)]; omega
    have h1 : (i : Int) + 1 ≤ (l.length : Int) - 1 := by omega
    have h2 : (i : Int) < (l.length : Int) := by omega
    have h3 : (0 : Int) ≤ (i : Int) := by omega
    simp only [e1, e2, h1, h2, h3, if_true]
    have hlt : i < (l.take (l.length - 1)).length := by rw [List.length_take]; omega
    have hd : (l.take (l.length - 1)).drop i = rdOf false l i :: (l.take (l.length - 1)).drop (i + 1) := by
      rw [List.drop_eq_getElem_cons hlt, rdOf_nat (show i < l.length by omega), List.getElem_take]
    rw [hd, fillF]
    have hb1 : i * k ≤ 1048576 * 1048576 := Nat.mul_le_mul (by omega) hk
    have go : ∀ c' : Nat, c' ≤ i + 1 → Ev (fun f => depotref27_Fill.j2 f l (k : Int) out (c' : Int) ((i : Int) + 1)) (out ++ (rowF c' 0 k ++ fillF k c' ((l.take (l.length - 1)).drop (i + 1))), 0) := by
      intro c' hc'
      refine Ev.succ ?_
      simp only [depotref27_Fill.j2]
      refine depotref27_Fill_l1 l k c' (i + 1) _ hk (by omega) k 0 out (by omega) (by omega) ?_
      have := ih (i + 1) c' (out ++ rowF c' 0 k) (by omega) (by rw [List.length_append, rowF_length, ho, Nat.add_mul, Nat.one_mul]) (by omega)
      rw [List.append_assoc] at this
      exact this
    by_cases hb : rdOf false l i = true
    · simp only [hb, if_true, w64s (show (c : Int) < 9223372036854775807 by omega)]
      exact go (c + 1) (by omega)
    · simp only [hb, if_false]
      exact go c (by omega)
theorem depotref27_Fill_ev (l : List Bool) (k : Int) (hn : l.length ≤ 1048576) (hw : k < (l.length : Int) → 0 ≤ k → (l.length : Int) * k ≤ 16777216) : Ev (fun f => depotref27_Fill.f f l k) (fillOf l k) := by
  unfold depotref27_Fill.f fillOf
  by_cases h0 : k < 0
  · simp only [h0, if_true, true_or]
    refine Ev.succ ?_
    simp only [depotref27_Fill.j0, if_true]
    exact Ev.now _
  · simp only [h0, if_false, false_or]
    refine Ev.bind (depotref27_On_ev l hn) ?_
    refine Ev.succ ?_
    simp only [depotref27_Fill.j0]
    by_cases h1 : (cnt l : Int) > k
    · simp only [h1, decide_true, if_true]
      exact Ev.now _
    · simp only [h1, decide_false, Bool.false_eq_true, if_false]
      rw [depotref27_Helpers_eq _ _ (by omega) (by omega) (by omega)]
      simp only [Option.bind_some]
      by_cases h2 : k = 0 ∨ k ≥ (l.length : Int)
      · simp only [h2, if_true]
        exact Ev.now _
      · simp only [h2, if_false]
        have hlt := hw (by omega) (by omega)
        have e : ((l.length : Int) - 1) * k = (l.length : Int) * k - k := by rw [Int.sub_mul, Int.one_mul]
        have hk1 : 0 ≤ ((l.length : Int) - 1) * k := Int.mul_nonneg (by omega) (by omega)
        have hne : ¬ wrap64 (((l.length : Int) - 1) * k) = 0 := by
          rw [w64 (by omega) (by omega)]
          have : 1 * k ≤ ((l.length : Int) - 1) * k := Int.mul_le_mul_of_nonneg_right (by omega) (by omega)
          omega
        simp only [hne, if_false]
        have := depotref27_Fill_l0 l k.toNat hn (by omega) (by omega) (l.length - 1) 0 0 [] (by omega) (by simp) (by omega)
        rw [show ((k.toNat : Nat) : Int) = k by omega] at this
        simpa using this
theorem atmost_Fill_l2 (l : List Bool) (k c i : Nat) (n1 : Int) (r : List Bool × Int) (hk : k ≤ 1048576) (hi : i ≤ 1048576) (d : Nat) : ∀ (j : Nat) (out : List Bool), out.length + d ≤ 140737488355328 → j + d = k →
    Ev (fun f => atmost_Fill.l1 f l (k : Int) (out ++ rowF c j d) (c : Int) n1 ((i + 1 : Nat) : Int)) r → Ev (fun f => atmost_Fill.l2 f l (k : Int) out (c : Int) n1 (i : Int) (k : Int) (j : Int)) r := by
  induction d with
  | zero =>
    intro j out ho hj h
    refine Ev.succ ?_
    simp only [atmost_Fill.l2]
    have h1 : ¬ ((j : Int) < (k : Int)) := by omega
    simp only [h1, if_false, w64s (show (i : Int) < 9223372036854775807 by omega)]
    rwa [rowF, List.append_nil] at h
  | succ d ih =>
    intro j out ho hj h
    refine Ev.succ ?_
    simp only [atmost_Fill.l2]
    have h1 : (j : Int) < (k : Int) := by omega
    have h2 : out.length < 140737488355328 := by omega
    simp only [h1, h2, w64s (show (j : Int) < 9223372036854775807 by omega), if_true]
    refine ih (j + 1) _ (by simp; omega) (by omega) ?_
    rw [List.append_assoc]
    have e : decide ((c : Int) > (j : Int)) = decide (c > j) := by rw [Bool.eq_iff_iff]; simp
    rw [e]
    exact h
theorem atmost_Fill_l1 (l : List Bool) (k : Nat) (hn : l.length ≤ 1048576) (h0 : 0 < l.length) (hk : k ≤ 1048576) (d : Nat) : ∀ (i c : Nat) (out : List Bool), c ≤ i → out.length = i * k → i + d = l.length - 1 →
    Ev (fun f => atmost_Fill.l1 f l (k : Int) out (c : Int) ((l.length : Int) - 1) (i : Int)) (out ++ fillF k c ((l.take (l.length - 1)).drop i), 0) := by
  induction d with
  | zero =>
    intro i c out hc ho hi
    refine Ev.succ ?_
    simp only [atmost_Fill.l1]
    have h1 : ¬ ((i : Int) < (l.length : Int) - 1) := by omega
    simp only [h1, if_false]
    rw [List.drop_of_length_le (by rw [List.length_take]; omega), fillF, List.append_nil]
    exact Ev.now _
  | succ d ih =>
    intro i c out hc ho hi
    refine Ev.succ ?_
    simp only [atmost_Fill.l1]
    have h1 : (i : Int) < (l.length : Int) - 1 := by omega
    have h2 : (i : Int) < (l.length : Int) := by omega
    have h3 : (0 : Int) ≤ (i : Int) := by omega
    simp only [h1, h2, h3, if_true]
    have hlt : i < (l.take (l.length - 1)).length := by rw [List.length_take]; omega
    have hd : (l.take (l.length - 1)).drop i = rdOf false l i :: (l.take (l.length - 1)).drop (i + 1) := by
      rw [List.drop_eq_getElem_cons hlt, rdOf_nat (show i < l.length by omega), List.getElem_take]
    rw [hd, fillF]
    have hb1 : i * k ≤ 1048576 * 1048576 := Nat.mul_le_mul (by omega) hk
    have go : ∀ c' : Nat, c' ≤ i + 1 → Ev (fun f => atmost_Fill.j3 f l (k : Int) out (c' : Int) ((l.length : Int) - 1) (i : Int)) (out ++ (rowF c' 0 k ++ fillF k c' ((l.take (l.length - 1)).drop (i + 1))), 0) := by
      intro c' hc'
      refine Ev.succ ?_
      simp only [atmost_Fill.j3]
      refine atmost_Fill_l2 l k c' i _ _ hk (by omega) k 0 out (by omega) (by omega) ?_
      have := ih (i + 1) c' (out ++ rowF c' 0 k) (by omega) (by rw [List.length_append, rowF_length, ho, Nat.add_mul, Nat.one_mul]) (by omega)
      rw [List.append_assoc] at this
      exact this
    by_cases hb : rdOf false l i = true
    · simp only [hb, if_true, w64s (show (c : Int) < 9223372036854775807 by omega)]
      exact go (c + 1) (by omega)
    · simp only [hb, if_false]
      exact go c (by omega)
theorem atmost_Fill_l0 (l : List Bool) (k : Int) (hn : l.length ≤ 1048576) (r : List Bool × Int) (d : Nat) : ∀ (i c : Nat), c ≤ i → i + d = l.length →
    Ev (fun f => if k < 0 then atmost_Fill.j1 f l k true else atmost_Fill.j1 f l k (decide (((c + cnt (l.drop i) : Nat) : Int) > k))) r → Ev (fun f => atmost_Fill.l0 f l k (c : Int) l (l.length : Int) (i : Int)) r := by
  induction d with
  | zero =>
    intro i c hc hi h
    refine Ev.succ ?_
    simp only [atmost_Fill.l0]
    have h1 : ¬ ((i : Int) < (l.length : Int)) := by omega
    simp only [h1, if_false]
    rw [List.drop_of_length_le (by omega), cnt, Nat.add_zero] at h
    exact h
  | succ d ih =>
    intro i c hc hi h
    refine Ev.succ ?_
    simp only [atmost_Fill.l0]
    have h1 : (i : Int) < (l.length : Int) := by omega
    have h0 : (0 : Int) ≤ (i : Int) := by omega
    simp only [h1, h0, if_true]
    rw [drop_rdOf (z := false) (show i < l.length by omega), cnt] at h
    by_cases hb : rdOf false l i = true
    · simp only [hb, if_true, w64s (show (i : Int) < 9223372036854775807 by omega), w64s (show (c : Int) < 9223372036854775807 by omega)] at h ⊢
      refine ih (i + 1) (c + 1) (by omega) (by omega) ?_
      rw [show c + 1 + cnt (l.drop (i + 1)) = c + (1 + cnt (l.drop (i + 1))) by omega]
      exact h
    · simp only [hb, if_false, w64s (show (i : Int) < 9223372036854775807 by omega)] at h ⊢
      refine ih (i + 1) c (by omega) (by omega) ?_
      rw [show c + cnt (l.drop (i + 1)) = c + (0 + cnt (l.drop (i + 1))) by omega]
      exact h
theorem atmost_Fill_ev (l : List Bool) (k : Int) (hn : l.length ≤ 1048576) (hw : k < (l.length : Int) → 0 ≤ k → (l.length : Int) * k ≤ 16777216) : Ev (fun f => atmost_Fill.f f l k) (fillOf l k) := by
  unfold atmost_Fill.f fillOf
  refine atmost_Fill_l0 l k hn _ l.length 0 0 (by omega) (by omega) ?_
  rw [Nat.zero_add, List.drop_zero]
  by_cases h0 : k < 0
  · simp only [h0, if_true, true_or]
    refine Ev.succ ?_
    simp only [atmost_Fill.j1, if_true]
    exact Ev.now _
  · simp only [h0, if_false, false_or]
    refine Ev.succ ?_
    simp only [atmost_Fill.j1]
    by_cases h1 : (cnt l : Int) > k
    · simp only [h1, decide_true, if_true]
      exact Ev.now _
    · simp only [h1, decide_false, Bool.false_eq_true, if_false]
      rw [atmost_helpers_eq _ _ (by omega) (by omega)]
      simp only [Option.bind_some]
      by_cases h2 : k = 0 ∨ k ≥ (l.length : Int)
      · simp only [h2, if_true]
        exact Ev.now _
      · simp only [h2, if_false]
        have hlt := hw (by omega) (by omega)
        have e : ((l.length : Int) - 1) * k = (l.length : Int) * k - k := by rw [Int.sub_mul, Int.one_mul]
        have hk1 : 0 ≤ ((l.length : Int) - 1) * k := Int.mul_nonneg (by omega) (by omega)
        have hne : ¬ wrap64 (((l.length : Int) - 1) * k) = 0 := by
          rw [w64 (by omega) (by omega)]
          have : 1 * k ≤ ((l.length : Int) - 1) * k := Int.mul_le_mul_of_nonneg_right (by omega) (by omega)
          omega
        have e1 : wrap64 ((l.length : Int) - 1) = (l.length : Int) - 1 := w64 (by omega) (by omega)
        simp only [hne, if_false, e1]
        have := atmost_Fill_l1 l k.toNat hn (by omega) (by omega) (l.length - 1) 0 0 [] (by omega) (by simp) (by omega)
        rw [show ((k.toNat : Nat) : Int) = k by omega] at this
        simpa using this
end Go.Proofs.Ytlemkghpcbkcpaa.PAtmostFills
