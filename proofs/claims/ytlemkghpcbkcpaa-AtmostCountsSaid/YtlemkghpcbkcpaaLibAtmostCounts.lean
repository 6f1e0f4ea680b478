/- What the functions that AtmostCounts reaches compute, on numbers and lists. Laid by lib.py. -/
import Derived.Test.YtlemkghpcbkcpaaGAtmostCountsx7
import Derived.Test.YtlemkghpcbkcpaaMath
import Derived.Test.YtlemkghpcbkcpaaTidyPure
import Derived.Test.YtlemkghpcbkcpaaAtmostMath
namespace Go.Proofs.Ytlemkghpcbkcpaa.PAtmostCounts
open Go.RowKit Go.Proofs.YtlemkghpcbkcpaaW.PrintWords Go.Proofs.YtlemkghpcbkcpaaW.PrintLast Go.Proofs.YtlemkghpcbkcpaaMath
set_option linter.unusedVariables false
set_option linter.unusedSimpArgs false
theorem atmost_helpers_eq (n k : Int) (hn : 0 ≤ n) (hn2 : n ≤ 1048576) : atmost_helpers.f n k = some (if k = 0 ∨ k ≥ n then 0 else wrap64 ((n - 1) * k)) := by
  unfold atmost_helpers.f
  by_cases h0 : k = 0
  · simp [h0]
  · by_cases h1 : k ≥ n
    · simp [h0, h1]
    · rw [if_neg h0, if_neg h1, if_neg (by omega), w64 (x := n - 1) (by omega) (by omega)]
theorem depotref00_CopyBools_l0 (l : List Bool) (hn : l.length ≤ 140737488351232) (d : Nat) : ∀ i : Nat, i + d = l.length → Ev (fun k => depotref00_CopyBools.l0 k l (l.take i) (i : Int)) l := by
  induction d with
  | zero =>
    intro i hi
    refine Ev.succ ?_
    simp only [depotref00_CopyBools.l0]
    have h1 : ¬ ((i : Int) < (l.length : Int)) := by omega
    simp only [h1, if_false]
    rw [List.take_of_length_le (by omega)]
    exact Ev.now _
  | succ d ih =>
    intro i hi
    refine Ev.succ ?_
    simp only [depotref00_CopyBools.l0]
    have h1 : (i : Int) < (l.length : Int) := by omega
    have h0 : (0 : Int) ≤ (i : Int) := by omega
    have h2 : (l.take i).length < 140737488355328 := by rw [List.length_take]; omega
    simp only [h1, h0, h2, if_true, w64s (show (i : Int) < 9223372036854775807 by omega)]
    rw [← take_rdOf (show i < l.length by omega)]
    exact ih (i + 1) (by omega)
theorem depotref00_CopyBools_ev (l : List Bool) (hn : l.length ≤ 140737488351232) : Ev (fun k => depotref00_CopyBools.f k l) l := depotref00_CopyBools_l0 l hn l.length 0 (by omega)
theorem atmost_Fill_l2 (l : List Bool) (k c i : Nat) (n1 : Int) (r : List Bool × Int) (hk : k ≤ 1048576) (hi : i ≤ 1048576) (d : Nat) : ∀ (j : Nat) (out : List Bool), out.length + d ≤ 140737488355328 → j + d = k →
    Ev (fun f => atmost_Fill.l1 f l (k : Int) (out ++ rowF c j d) (c : Int) n1 ((i + 1 : Nat) : Int)) r → Ev (fun f => atmost_Fill.l2 f l (k : Int) out (c : Int) n1 (i : Int) (k : Int) (j : Int)) r := by
  induction d with
  | zero =>
    intro j out ho hj h
    refine Ev.succ ?_
    simp only [atmost_Fill.l2]
    have h1 : ¬ ((j : Int) < (k : Int)) := by omega
    simp only [h1, if_false, w64s (show (i : Int) < 9223372036854775807 by omega)]
    rwa [rowF, List.append_nil] at h
  | succ d ih =>
    intro j out ho hj h
    refine Ev.succ ?_
    simp only [atmost_Fill.l2]
    have h1 : (j : Int) < (k : Int) := by omega
    have h2 : out.length < 140737488355328 := by omega
    simp only [h1, h2, w64s (show (j : Int) < 9223372036854775807 by omega), if_true]
    refine ih (j + 1) _ (by simp; omega) (by omega) ?_
    rw [List.append_assoc]
    have e : decide ((c : Int) > (j : Int)) = decide (c > j) := by rw [Bool.eq_iff_iff]; simp
    rw [e]
    exact h
theorem atmost_Fill_l1 (l : List Bool) (k : Nat) (hn : l.length ≤ 1048576) (h0 : 0 < l.length) (hk : k ≤ 1048576) (d : Nat) : ∀ (i c : Nat) (out : List Bool), c ≤ i → out.length = i * k → i + d = l.length - 1 →
    Ev (fun f => atmost_Fill.l1 f l (k : Int) out (c : Int) ((l.length : Int) - 1) (i : Int)) (out ++ fillF k c ((l.take (l.length - 1)).drop i), 0) := by
  induction d with
  | zero =>
    intro i c out hc ho hi
    refine Ev.succ ?_
    simp only [atmost_Fill.l1]
    have h1 : ¬ ((i : Int) < (l.length : Int) - 1) := by omega
    simp only [h1, if_false]
    rw [List.drop_of_length_le (by rw [List.length_take]; omega), fillF, List.append_nil]
    exact Ev.now _
  | succ d ih =>
    intro i c out hc ho hi
    refine Ev.succ ?_
    simp only [atmost_Fill.l1]
    have h1 : (i : Int) < (l.length : Int) - 1 := by omega
    have h2 : (i : Int) < (l.length : Int) := by omega
    have h3 : (0 : Int) ≤ (i : Int) := by omega
    simp only [h1, h2, h3, if_true]
    have hlt : i < (l.take (l.length - 1)).length := by rw [List.length_take]; omega
    have hd : (l.take (l.length - 1)).drop i = rdOf false l i :: (l.take (l.length - 1)).drop (i + 1) := by
      rw [List.drop_eq_getElem_cons hlt, rdOf_nat (show i < l.length by omega), List.getElem_take]
    rw [hd, fillF]
    have hb1 : i * k ≤ 1048576 * 1048576 := Nat.mul_le_mul (by omega) hk
    have go : ∀ c' : Nat, c' ≤ i + 1 → Ev (fun f => atmost_Fill.j3 f l (k : Int) out (c' : Int) ((l.length : Int) - 1) (i : Int)) (out ++ (rowF c' 0 k ++ fillF k c' ((l.take (l.length - 1)).drop (i + 1))), 0) := by
      intro c' hc'
      refine Ev.succ ?_
      simp only [atmost_Fill.j3]
      refine atmost_Fill_l2 l k c' i _ _ hk (by omega) k 0 out (by omega) (by omega) ?_
      have := ih (i + 1) c' (out ++ rowF c' 0 k) (by omega) (by rw [List.length_append, rowF_length, ho, Nat.add_mul, Nat.one_mul]) (by omega)
      rw [List.append_assoc] at this
      exact this
    by_cases hb : rdOf false l i = true
    · simp only [hb, if_true, w64s (show (c : Int) < 9223372036854775807 by omega)]
      exact go (c + 1) (by omega)
    · simp only [hb, if_false]
      exact go c (by omega)
theorem atmost_Fill_l0 (l : List Bool) (k : Int) (hn : l.length ≤ 1048576) (r : List Bool × Int) (d : Nat) : ∀ (i c : Nat), c ≤ i → i + d = l.length →
    Ev (fun f => if k < 0 then atmost_Fill.j1 f l k true else atmost_Fill.j1 f l k (decide (((c + cnt (l.drop i) : Nat) : Int) > k))) r → Ev (fun f => atmost_Fill.l0 f l k (c : Int) l (l.length : Int) (i : Int)) r := by
  induction d with
  | zero =>
    intro i c hc hi h
    refine Ev.succ ?_
    simp only [atmost_Fill.l0]
    have h1 : ¬ ((i : Int) < (l.length : Int)) := by omega
    simp only [h1, if_false]
    rw [List.drop_of_length_le (by omega), cnt, Nat.add_zero] at h
    exact h
  | succ d ih =>
    intro i c hc hi h
    refine Ev.succ ?_
    simp only [atmost_Fill.l0]
    have h1 : (i : Int) < (l.length : Int) := by omega
    have h0 : (0 : Int) ≤ (i : Int) := by omega
    simp only [h1, h0, if_true]
    rw [drop_rdOf (z := false) (show i < l.length by omega), cnt] at h
    by_cases hb : rdOf false l i = true
    · simp only [hb, if_true, w64s (show (i : Int) < 9223372036854775807 by omega), w64s (show (c : Int) < 9223372036854775807 by omega)] at h ⊢
      refine ih (i + 1) (c + 1) (by omega) (by omega) ?_
      rw [show c + 1 + cnt (l.drop (i + 1)) = c + (1 + cnt (l.drop (i + 1))) by omega]
      exact h
    · simp only [hb, if_false, w64s (show (i : Int) < 9223372036854775807 by omega)] at h ⊢
      refine ih (i + 1) c (by omega) (by omega) ?_
      rw [show c + cnt (l.drop (i + 1)) = c + (0 + cnt (l.drop (i + 1))) by omega]
      exact h
theorem atmost_Fill_ev (l : List Bool) (k : Int) (hn : l.length ≤ 1048576) (hw : k < (l.length : Int) → 0 ≤ k → (l.length : Int) * k ≤ 16777216) : Ev (fun f => atmost_Fill.f f l k) (fillOf l k) := by
  unfold atmost_Fill.f fillOf
  refine atmost_Fill_l0 l k hn _ l.length 0 0 (by omega) (by omega) ?_
  rw [Nat.zero_add, List.drop_zero]
  by_cases h0 : k < 0
  · simp only [h0, if_true, true_or]
    refine Ev.succ ?_
    simp only [atmost_Fill.j1, if_true]
    exact Ev.now _
  · simp only [h0, if_false, false_or]
    refine Ev.succ ?_
    simp only [atmost_Fill.j1]
    by_cases h1 : (cnt l : Int) > k
    · simp only [h1, decide_true, if_true]
      exact Ev.now _
    · simp only [h1, decide_false, Bool.false_eq_true, if_false]
      rw [atmost_helpers_eq _ _ (by omega) (by omega)]
      simp only [Option.bind_some]
      by_cases h2 : k = 0 ∨ k ≥ (l.length : Int)
      · simp only [h2, if_true]
        exact Ev.now _
      · simp only [h2, if_false]
        have hlt := hw (by omega) (by omega)
        have e : ((l.length : Int) - 1) * k = (l.length : Int) * k - k := by rw [Int.sub_mul, Int.one_mul]
        have hk1 : 0 ≤ ((l.length : Int) - 1) * k := Int.mul_nonneg (by omega) (by omega)
        have hne : ¬ wrap64 (((l.length : Int) - 1) * k) = 0 := by
          rw [w64 (by omega) (by omega)]
          have : 1 * k ≤ ((l.length : Int) - 1) * k := Int.mul_le_mul_of_nonneg_right (by omega) (by omega)
          omega
        have e1 : wrap64 ((l.length : Int) - 1) = (l.length : Int) - 1 := w64 (by omega) (by omega)
        simp only [hne, if_false, e1]
        have := atmost_Fill_l1 l k.toNat hn (by omega) (by omega) (l.length - 1) 0 0 [] (by omega) (by simp) (by omega)
        rw [show ((k.toNat : Nat) : Int) = k by omega] at this
        simpa using this
theorem depotref00_CopyInts_l0 (l : List Int) (hn : l.length < 17592186044416) (d : Nat) : ∀ i : Nat, i + d = l.length → Ev (fun k => depotref00_CopyInts.l0 k l (l.take i) (i : Int)) l := by
  induction d with
  | zero =>
    intro i hi
    refine Ev.succ ?_
    have h1 : ¬ ((i : Int) < (l.length : Int)) := by omega
    simp only [depotref00_CopyInts.l0, h1, if_false]
    rw [List.take_of_length_le (by omega)]
    exact Ev.now _
  | succ d ih =>
    intro i hi
    refine Ev.succ ?_
    have h1 : (i : Int) < (l.length : Int) := by omega
    have h0 : (0 : Int) ≤ (i : Int) := by omega
    have h2 : (l.take i).length < 17592186044416 := by rw [List.length_take]; omega
    simp only [depotref00_CopyInts.l0, h1, h0, h2, if_true, w64s (show (i : Int) < 9223372036854775807 by omega)]
    rw [← take_rd (show i < l.length by omega)]
    exact ih (i + 1) (by omega)
theorem depotref00_CopyInts_ev (l : List Int) (hn : l.length < 17592186044416) : Ev (fun k => depotref00_CopyInts.f k l) l := depotref00_CopyInts_l0 l hn l.length 0 (by omega)
theorem atmost_AtMost_eq (k : Nat) (l : List Int) (a b : Int) (hn : l.length ≤ 17592186044416) (ha : -9223372036854775808 ≤ a ∧ a ≤ 9223372036854775807) : atmost_AtMost.f k l a b = some (atmostOf l a b) := by
  unfold atmost_AtMost.f
  rw [if_pos ⟨hn, ha⟩]
theorem awake_list : atmostOf [1, 2] 1 3 = ([[-1, 3], [-2, -3]], 4, 0) := by decide +kernel
theorem depotlaw27_awake_eq (k : Nat) : depotlaw27_awake.f k = some true := by
  unfold depotlaw27_awake.f
  rw [atmost_AtMost_eq k _ _ _ (by simp) (by omega), awake_list]
  rfl
/-- the literal at place i is one of 60 variables, unlike those before -/
def okAt (l : List Int) (i : Nat) : Prop := rd l (i : Int) ≠ 0 ∧ rd l (i : Int) ≤ 60 ∧ -60 ≤ rd l (i : Int) ∧ ∀ j, j < i → rd l (j : Int) ≠ rd l (i : Int) ∧ rd l (j : Int) ≠ -(rd l (i : Int))
theorem depotlaw27_fit_l1 (l : List Int) (hl : l.length ≤ 60) (i : Nat) (hi : i < l.length) (hb : rd l (i : Int) ≤ 60 ∧ -60 ≤ rd l (i : Int)) (P : Prop) (h0 : ∃ b, Ev (fun k => depotlaw27_fit.l0 k l ((i + 1 : Nat) : Int)) b ∧ (b = true → P)) (d : Nat) : ∀ j : Nat, j + d = i →
    ∃ b, Ev (fun k => depotlaw27_fit.l1 k l (i : Int) (j : Int)) b ∧ (b = true → (∀ m, j ≤ m → m < i → rd l (m : Int) ≠ rd l (i : Int) ∧ rd l (m : Int) ≠ -(rd l (i : Int))) ∧ P) := by
  have e := w64s (show ((i : Nat) : Int) < 9223372036854775807 by omega)
  induction d with
  | zero =>
    intro j hj
    obtain ⟨b, hb1, hb2⟩ := h0
    refine ⟨b, Ev.succ ?_, fun h => ⟨fun m h1 h2 => by omega, hb2 h⟩⟩
    simp only [depotlaw27_fit.l1]
    have h1 : ¬ ((j : Int) < (i : Int)) := by omega
    simp only [h1, if_false, e]
    exact hb1
  | succ d ih =>
    intro j hj
    have h1 : (j : Int) < (i : Int) := by omega
    have h2 : (0 : Int) ≤ (j : Int) := by omega
    have h3 : (j : Int) < (l.length : Int) := by omega
    have h4 : (0 : Int) ≤ (i : Int) := by omega
    have h5 : (i : Int) < (l.length : Int) := by omega
    have en : wrap64 (-(rd l (i : Int))) = -(rd l (i : Int)) := w64 (by omega) (by omega)
    by_cases c1 : rd l (j : Int) = rd l (i : Int)
    · refine ⟨false, Ev.succ ?_, fun h => by cases h⟩
      simp only [depotlaw27_fit.l1]
      simp only [h1, h2, h3, h4, h5, c1, if_true]
      exact Ev.now _
    · by_cases c2 : rd l (j : Int) = -(rd l (i : Int))
      · refine ⟨false, Ev.succ ?_, fun h => by cases h⟩
        simp only [depotlaw27_fit.l1]
        simp only [h1, h2, h3, h4, h5, c1, en, c2, if_true, if_false]
        split <;> exact Ev.now _
      · obtain ⟨b, hb1, hb2⟩ := ih (j + 1) (by omega)
        refine ⟨b, Ev.succ ?_, fun h => ⟨fun m m1 m2 => ?_, (hb2 h).2⟩⟩
        · simp only [depotlaw27_fit.l1]
          simp only [h1, h2, h3, h4, h5, c1, en, c2, if_true, if_false, w64s (show ((j : Nat) : Int) < 9223372036854775807 by omega)]
          exact hb1
        · rcases Nat.eq_or_lt_of_le m1 with rfl | m3
          · exact ⟨c1, c2⟩
          · exact (hb2 h).1 m m3 m2
theorem depotlaw27_fit_l0 (l : List Int) (hl : l.length ≤ 60) (d : Nat) : ∀ i : Nat, i + d = l.length →
    ∃ b, Ev (fun k => depotlaw27_fit.l0 k l (i : Int)) b ∧ (b = true → ∀ m, i ≤ m → m < l.length → okAt l m) := by
  induction d with
  | zero =>
    intro i hi
    refine ⟨true, Ev.succ ?_, fun _ m m1 m2 => by omega⟩
    simp only [depotlaw27_fit.l0]
    have h1 : ¬ ((i : Int) < (l.length : Int)) := by omega
    simp only [h1, if_false]
    exact Ev.now _
  | succ d ih =>
    intro i hi
    have h1 : (i : Int) < (l.length : Int) := by omega
    have h2 : (0 : Int) ≤ (i : Int) := by omega
    have bad : ∀ g : Nat → Option Bool, (∀ k, g (k + 1) = depotlaw27_fit.j2 k l (i : Int) true) → Ev g false := by
      intro g hg
      refine Ev.step hg (Ev.succ ?_)
      simp only [depotlaw27_fit.j2, if_true]
      exact Ev.now _
    by_cases c1 : rd l (i : Int) = 0
    · refine ⟨false, bad _ (fun k => ?_), fun h => by cases h⟩
      simp only [depotlaw27_fit.l0]
      simp only [h1, h2, c1, if_true]
    · by_cases c2 : rd l (i : Int) > 60
      · refine ⟨false, bad _ (fun k => ?_), fun h => by cases h⟩
        simp only [depotlaw27_fit.l0]
        simp only [h1, h2, c1, c2, if_true, if_false]
      · by_cases c3 : rd l (i : Int) < -60
        · refine ⟨false, bad _ (fun k => ?_), fun h => by cases h⟩
          simp only [depotlaw27_fit.l0]
          simp only [h1, h2, c1, c2, if_true, if_false, decide_eq_true c3]
        · obtain ⟨b, hb1, hb2⟩ := depotlaw27_fit_l1 l hl i (by omega) (by omega) _ (ih (i + 1) (by omega)) i 0 (by omega)
          refine ⟨b, Ev.succ ?_, fun h m m1 m2 => ?_⟩
          · simp only [depotlaw27_fit.l0]
            simp only [h1, h2, c1, c2, if_true, if_false, decide_eq_false c3]
            refine Ev.succ ?_
            simp only [depotlaw27_fit.j2, Bool.false_eq_true, if_false]
            exact hb1
          · rcases Nat.eq_or_lt_of_le m1 with rfl | m3
            · exact ⟨c1, by omega, by omega, fun j hj => (hb2 h).1 j (by omega) hj⟩
            · exact (hb2 h).2 m m3 m2
structure FitP (l : List Int) (k : Int) : Prop where
  k0 : 0 ≤ k
  k1 : k ≤ 60
  len : l.length ≤ 60
  all : ∀ m, m < l.length → okAt l m
theorem depotlaw27_fit_ev (l : List Int) (a : Int) : ∃ b, Ev (fun k => depotlaw27_fit.f k l a) b ∧ (b = true → FitP l a) := by
  have bad : ∀ g : Nat → Option Bool, (∀ k, g k = depotlaw27_fit.j0 k l true) → Ev g false := by
    intro g hg
    have : g = fun k => depotlaw27_fit.j0 k l true := funext hg
    rw [this]
    refine Ev.succ ?_
    simp only [depotlaw27_fit.j0, if_true]
    exact Ev.now _
  by_cases c1 : a < 0
  · exact ⟨false, bad _ (fun k => by unfold depotlaw27_fit.f; rw [if_pos c1]), fun h => by cases h⟩
  · by_cases c2 : a > 60
    · exact ⟨false, bad _ (fun k => by unfold depotlaw27_fit.f; rw [if_neg c1, if_pos c2]), fun h => by cases h⟩
    · by_cases c3 : (l.length : Int) > 60
      · exact ⟨false, bad _ (fun k => by unfold depotlaw27_fit.f; rw [if_neg c1, if_neg c2, decide_eq_true c3]), fun h => by cases h⟩
      · obtain ⟨b, hb1, hb2⟩ := depotlaw27_fit_l0 l (by omega) l.length 0 (by omega)
        refine ⟨b, ?_, fun h => ⟨by omega, by omega, by omega, fun m hm => hb2 h m (by omega) hm⟩⟩
        have : (fun k => depotlaw27_fit.f k l a) = fun k => depotlaw27_fit.j0 k l false := funext fun k => by unfold depotlaw27_fit.f; rw [if_neg c1, if_neg c2, decide_eq_false c3]
        rw [this]
        refine Ev.succ ?_
        simp only [depotlaw27_fit.j0, Bool.false_eq_true, if_false]
        exact hb1
theorem FitP.unlike {l : List Int} {k : Int} (h : FitP l k) : unlikeOf l = true := by
  have hs : ∀ x ∈ l, formed x = true ∧ varOf x ≤ 60 ∧ (varOf x = x ∨ varOf x = -x) ∧ 1 ≤ varOf x := by
    intro x hx
    obtain ⟨i, hi, rfl⟩ := List.getElem_of_mem hx
    have ho := h.all i hi
    rw [okAt, rd_nat hi] at ho
    have hf : formed l[i] = true := formed_iff.2 ⟨ho.1, by omega, by omega⟩
    have := varOf_formed hf
    exact ⟨hf, by omega, this.2.2, this.1⟩
  unfold unlikeOf
  rw [Bool.and_eq_true, decide_eq_true_eq]
  refine ⟨List.all_eq_true.2 fun x hx => (hs x hx).1, ?_⟩
  rw [List.Nodup, List.pairwise_iff_getElem]
  intro i j hi hj hij he
  rw [List.length_map] at hi hj
  rw [List.getElem_map, List.getElem_map] at he
  have ho := (h.all j hj).2.2.2 i hij
  rw [rd_nat hi, rd_nat hj] at ho
  have h1 := hs l[i] (List.getElem_mem hi)
  have h2 := hs l[j] (List.getElem_mem hj)
  omega
theorem helpers_small {n k : Int} (hn : 0 ≤ n ∧ n ≤ 60) (hk : 0 ≤ k ∧ k ≤ 60) : 0 ≤ helpersOf n k ∧ helpersOf n k ≤ 3600 := by
  unfold helpersOf
  split
  · omega
  · have h1 : 0 ≤ (n - 1) * k := Int.mul_nonneg (by omega) hk.1
    have h2 : (n - 1) * k ≤ 60 * 60 := Int.mul_le_mul (by omega) hk.2 hk.1 (by omega)
    omega
theorem FitP.most {l : List Int} {k : Int} (h : FitP l k) : atmostOf l k 61 = (if k < (l.length : Int) then clausesOf l k.toNat 61 else [], 61 + helpersOf l.length k, 0) := by
  have h1 := h.k0
  have h2 := h.k1
  have h3 := h.len
  have hh := helpers_small (n := l.length) (k := k) (by omega) (by omega)
  unfold atmostOf
  rw [if_neg (by rw [h.unlike]; simp), if_neg (by omega), if_neg]
  intro ha
  obtain ⟨x, hx, h5⟩ := List.any_eq_true.1 ha
  obtain ⟨i, hi, rfl⟩ := List.getElem_of_mem hx
  have ho := h.all i hi
  rw [okAt, rd_nat hi] at ho
  have hf : formed l[i] = true := formed_iff.2 ⟨ho.1, by omega, by omega⟩
  have := varOf_formed hf
  have := of_decide_eq_true h5
  omega
def absI (x : Int) : Int := if x < 0 then -x else x
/-- what the variable v says: of those from 1 to 60 on, of those from 61 on helping -/
def yesOf (on hp : List Bool) (v : Int) : Bool := if 1 ≤ v ∧ v ≤ 60 ∧ v ≤ (on.length : Int) then rdOf false on (v - 1) else if v > 60 ∧ v - 61 < (hp.length : Int) then rdOf false hp (v - 61) else false
def saysL (on hp : List Bool) (x : Int) : Bool := yesOf on hp (absI x) == decide (x > 0)
theorem made_j2 (cs : List (List Int)) (on hp : List Bool) (i j : Nat) (acc : Bool) (x v : Int) (hi : i < cs.length) (hj : j < (rd_L2 cs (i : Int)).length) (hn : (rd_L2 cs (i : Int)).length ≤ 1000) (hx : rd (rd_L2 cs (i : Int)) (j : Int) = x) (hv : v = absI x) (hb : -2000000 ≤ x ∧ x ≤ 2000000 ∧ x ≠ 0) (r : Bool)
    (h : Ev (fun k => depotlaw27_made.l1 k cs on hp (i : Int) (acc || saysL on hp x) ((j + 1 : Nat) : Int)) r) : Ev (fun k => depotlaw27_made.j2 k cs on hp (i : Int) acc (j : Int) v) r := by
  have i1 : (0 : Int) ≤ (i : Int) := by omega
  have i2 : (i : Int) < (cs.length : Int) := by omega
  have j1 : (0 : Int) ≤ (j : Int) := by omega
  have j2 : (j : Int) < ((rd_L2 cs (i : Int)).length : Int) := by omega
  have ej := w64s (show (j : Int) < 9223372036854775807 by omega)
  have hv2 : 1 ≤ v ∧ v ≤ 2000000 := by
    unfold absI at hv
    split at hv <;> omega
  have e1 : wrap64 (v - 1) = v - 1 := w64 (by omega) (by omega)
  have e61 : wrap64 (v - 61) = v - 61 := w64 (by omega) (by omega)
  unfold saysL yesOf at h
  rw [← hv] at h
  refine Ev.succ ?_
  simp only [depotlaw27_made.j2]
  by_cases c1 : v ≤ 60
  · have c2 : v ≥ 1 := by omega
    simp only [c1, c2, if_true]
    by_cases c3 : v ≤ (on.length : Int)
    · rw [if_pos ⟨by omega, c1, c3⟩] at h
      simp only [decide_eq_true c3]
      refine Ev.succ ?_
      have b1 : (0 : Int) ≤ v - 1 := by omega
      have b2 : v - 1 < (on.length : Int) := by omega
      simp only [depotlaw27_made.j3, if_true, e1, b1, b2, i1, i2, j1, j2, hx, ej]
      cases acc with
      | true => simp only [if_true]; simpa using h
      | false => simp only [Bool.false_eq_true, if_false]; simpa using h
    · rw [if_neg (by omega), if_neg (by omega)] at h
      simp only [decide_eq_false c3]
      refine Ev.succ ?_
      have c4 : ¬ v > 60 := by omega
      simp only [depotlaw27_made.j3, Bool.false_eq_true, if_false, c4, i1, i2, j1, j2, hx, ej, if_true]
      cases acc with
      | true => simp only [if_true]; simpa using h
      | false => simp only [Bool.false_eq_true, if_false]; simpa using h
  · have c4 : v > 60 := by omega
    rw [if_neg (by omega)] at h
    simp only [c1, if_false]
    refine Ev.succ ?_
    by_cases c5 : v - 61 < (hp.length : Int)
    · rw [if_pos ⟨c4, c5⟩] at h
      have b1 : (0 : Int) ≤ v - 61 := by omega
      simp only [depotlaw27_made.j3, Bool.false_eq_true, if_false, c4, e61, c5, b1, i1, i2, j1, j2, hx, ej, if_true]
      cases acc with
      | true => simp only [if_true]; simpa using h
      | false => simp only [Bool.false_eq_true, if_false]; simpa using h
    · rw [if_neg (by omega)] at h
      simp only [depotlaw27_made.j3, Bool.false_eq_true, if_false, c4, e61, c5, i1, i2, j1, j2, hx, ej, if_true]
      cases acc with
      | true => simp only [if_true]; simpa using h
      | false => simp only [Bool.false_eq_true, if_false]; simpa using h
theorem made_l1 (cs : List (List Int)) (on hp : List Bool) (i : Nat) (row : List Int) (hrow : rd_L2 cs (i : Int) = row) (hi : i < cs.length) (hc : cs.length ≤ 1000000) (hn : row.length ≤ 1000) (hb : ∀ x ∈ row, -2000000 ≤ x ∧ x ≤ 2000000 ∧ x ≠ 0) (r : Bool) (h0 : Ev (fun k => depotlaw27_made.l0 k cs on hp ((i + 1 : Nat) : Int)) r) (d : Nat) : ∀ (j : Nat) (acc : Bool), j + d = row.length →
    Ev (fun k => depotlaw27_made.l1 k cs on hp (i : Int) acc (j : Int)) ((acc || (row.drop j).any (saysL on hp)) && r) := by
  have i1 : (0 : Int) ≤ (i : Int) := by omega
  have i2 : (i : Int) < (cs.length : Int) := by omega
  induction d with
  | zero =>
    intro j acc hj
    rw [List.drop_of_length_le (by omega)]
    refine Ev.succ ?_
    have j2 : ¬ (j : Int) < ((rd_L2 cs (i : Int)).length : Int) := by rw [hrow]; omega
    simp only [depotlaw27_made.l1, i1, i2, j2, if_true, if_false, w64s (show (i : Int) < 9223372036854775807 by omega)]
    cases acc with
    | true => simp only [if_true]; simpa using h0
    | false => simp only [Bool.false_eq_true, if_false]; simpa using Ev.now _
  | succ d ih =>
    intro j acc hj
    have hlt : j < row.length := by omega
    have j1 : (0 : Int) ≤ (j : Int) := by omega
    have j2 : (j : Int) < ((rd_L2 cs (i : Int)).length : Int) := by rw [hrow]; omega
    have hx : rd (rd_L2 cs (i : Int)) (j : Int) = rd row (j : Int) := by rw [hrow]
    have hbx := hb _ (rd_mem hlt)
    have ih' := ih (j + 1) (acc || saysL on hp (rd row (j : Int))) (by omega)
    have e0 : ((acc || (row.drop j).any (saysL on hp)) && r) = (((acc || saysL on hp (rd row (j : Int))) || (row.drop (j + 1)).any (saysL on hp)) && r) := by
      rw [drop_rd hlt, List.any_cons, Bool.or_assoc]
    rw [e0]
    refine Ev.succ ?_
    simp only [depotlaw27_made.l1, i1, i2, j1, j2, if_true, hx]
    by_cases c : rd row (j : Int) < 0
    · have en : wrap64 (-(rd row (j : Int))) = -(rd row (j : Int)) := w64 (by omega) (by omega)
      simp only [c, if_true, en]
      exact made_j2 cs on hp i j acc _ _ hi (by rw [hrow]; exact hlt) (by rw [hrow]; exact hn) hx (by unfold absI; rw [if_pos c]) hbx _ ih'
    · simp only [c, if_false]
      exact made_j2 cs on hp i j acc _ _ hi (by rw [hrow]; exact hlt) (by rw [hrow]; exact hn) hx (by unfold absI; rw [if_neg c]) hbx _ ih'
theorem depotlaw27_made_ev (cs : List (List Int)) (on hp : List Bool) (hc : cs.length ≤ 1000000) (hn : ∀ c ∈ cs, c.length ≤ 1000 ∧ ∀ x ∈ c, -2000000 ≤ x ∧ x ≤ 2000000 ∧ x ≠ 0) : Ev (fun k => depotlaw27_made.f k cs on hp) (allC (saysL on hp) cs) := by
  have main : ∀ (d i : Nat), i + d = cs.length → Ev (fun k => depotlaw27_made.l0 k cs on hp (i : Int)) (allC (saysL on hp) (cs.drop i)) := by
    intro d
    induction d with
    | zero =>
      intro i hi
      rw [List.drop_of_length_le (by omega)]
      refine Ev.succ ?_
      have h1 : ¬ ((i : Int) < (cs.length : Int)) := by omega
      simp only [depotlaw27_made.l0, h1, if_false]
      exact Ev.now _
    | succ d ih =>
      intro i hi
      have hlt : i < cs.length := by omega
      have h1 : (i : Int) < (cs.length : Int) := by omega
      have hrow : rd_L2 cs (i : Int) = cs[i] := by
        unfold rd_L2
        first | exact getD_nat hlt | simp [List.getD_eq_getElem?_getD, List.getElem?_eq_getElem hlt]
      refine Ev.succ ?_
      simp only [depotlaw27_made.l0, h1, if_true]
      have hm := hn cs[i] (List.getElem_mem hlt)
      have := made_l1 cs on hp i cs[i] hrow hlt hc hm.1 hm.2 _ (ih (i + 1) (by omega)) cs[i].length 0 false (by simp)
      have e : allC (saysL on hp) (cs.drop i) = (cs[i].any (saysL on hp) && allC (saysL on hp) (cs.drop (i + 1))) := by
        rw [List.drop_eq_getElem_cons hlt]
        rfl
      rw [e]
      simpa only [Bool.false_or, List.drop_zero, Int.ofNat_zero, Int.natCast_zero] using this
  exact main cs.length 0 (by simp)
/-- the literals' truths -/
def heldOf (on : List Bool) (l : List Int) : List Bool := l.map (saysL on [])
theorem saysL_lit (on hp : List Bool) {x : Int} (h : absI x ≤ 60) (h0 : x ≠ 0) : saysL on hp x = saysL on [] x := by
  unfold saysL yesOf
  have : ¬ (absI x > 60) := by omega
  simp [this]
theorem absI_neg (x : Int) : absI (-x) = absI x := by unfold absI; split <;> split <;> omega
theorem saysL_neg (on hp : List Bool) {x : Int} (h0 : x ≠ 0) : saysL on hp (-x) = !saysL on hp x := by
  unfold saysL
  rw [absI_neg]
  have : decide (-x > 0) = !decide (x > 0) := by
    by_cases h : x > 0
    · rw [decide_eq_true h, decide_eq_false (by omega)]; rfl
    · rw [decide_eq_false h, decide_eq_true (by omega)]; rfl
  rw [this]
  cases yesOf on hp (absI x) <;> cases decide (x > 0) <;> rfl
theorem cnt_append (a b : List Bool) : cnt (a ++ b) = cnt a + cnt b := by
  induction a with
  | nil => simp [cnt]
  | cons x a ih => simp only [List.cons_append, cnt, ih]; omega
theorem held_step (on : List Bool) {l : List Int} {i : Nat} (h : i < l.length) : heldOf on (l.take (i + 1)) = heldOf on (l.take i) ++ [saysL on [] (rd l (i : Int))] := by
  unfold heldOf
  rw [take_rd h, List.map_append]
  rfl
theorem upto_cnt (t : Nat → Bool) (bs : List Bool) (h : ∀ i, i < bs.length → t i = bs.getD i false) : ∀ i, i ≤ bs.length → upto t i = cnt (bs.take i) := by
  intro i
  induction i with
  | zero => intro _; simp [upto, cnt]
  | succ i ih =>
    intro hi
    have hlt : i < bs.length := by omega
    rw [List.take_succ_eq_append_getElem hlt, cnt_append]
    simp only [upto, ih (by omega), h i hlt, List.getD_eq_getElem?_getD, List.getElem?_eq_getElem hlt, Option.getD_some, cnt]
    omega
theorem clauses_all (P : Int → Prop) (l : List Int) (k : Nat) (first : Int) (hk : 0 < k) (hn : k < l.length) (h1 : ∀ i : Nat, i < l.length → P (-(rd l (i : Int)))) (h2 : ∀ i j : Nat, 1 ≤ i → i < l.length → 1 ≤ j → j ≤ k → P (sv k first i j) ∧ P (-(sv k first i j))) :
    ∀ c ∈ clausesOf l k first, c.length ≤ 3 ∧ ∀ x ∈ c, P x := by
  have s2 : ∀ i j : Nat, 1 ≤ i → i < l.length → 1 ≤ j → j ≤ k → ∀ (a b : Int), a = i → b = j → P (sv k first a b) ∧ P (-(sv k first a b)) := by
    rintro i j a1 a2 a3 a4 a b rfl rfl
    exact h2 i j a1 a2 a3 a4
  have s1 : ∀ i : Nat, i < l.length → ∀ a : Int, a = i → P (-(rd l a)) := by
    rintro i a1 a rfl
    exact h1 i a1
  have hm : ∀ m, m < l.length - 2 → ∀ c ∈ midAt l k first m, c.length ≤ 3 ∧ ∀ x ∈ c, P x := by
    intro m hm c hc
    unfold midAt at hc
    rw [List.mem_append, List.mem_append, List.mem_flatMap] at hc
    have q1 := s1 (m + 1) (by omega) ((m : Int) + 1) (by omega)
    rcases hc with (hc | ⟨h, hh, hc⟩) | hc
    · rw [List.mem_cons, List.mem_singleton] at hc
      rcases hc with rfl | rfl
      · refine ⟨by simp, fun x hx => ?_⟩
        rw [List.mem_cons, List.mem_singleton] at hx
        rcases hx with rfl | rfl
        · exact q1
        · exact (s2 (m + 2) 1 (by omega) (by omega) (by omega) (by omega) _ _ (by omega) (by omega)).1
      · refine ⟨by simp, fun x hx => ?_⟩
        rw [List.mem_cons, List.mem_singleton] at hx
        rcases hx with rfl | rfl
        · exact (s2 (m + 1) 1 (by omega) (by omega) (by omega) (by omega) _ _ (by omega) (by omega)).2
        · exact (s2 (m + 2) 1 (by omega) (by omega) (by omega) (by omega) _ _ (by omega) (by omega)).1
    · rw [List.mem_range] at hh
      rw [List.mem_cons, List.mem_singleton] at hc
      rcases hc with rfl | rfl
      · refine ⟨by simp, fun x hx => ?_⟩
        rw [List.mem_cons, List.mem_cons, List.mem_singleton] at hx
        rcases hx with rfl | rfl | rfl
        · exact q1
        · exact (s2 (m + 1) (h + 1) (by omega) (by omega) (by omega) (by omega) _ _ (by omega) (by omega)).2
        · exact (s2 (m + 2) (h + 2) (by omega) (by omega) (by omega) (by omega) _ _ (by omega) (by omega)).1
      · refine ⟨by simp, fun x hx => ?_⟩
        rw [List.mem_cons, List.mem_singleton] at hx
        rcases hx with rfl | rfl
        · exact (s2 (m + 1) (h + 2) (by omega) (by omega) (by omega) (by omega) _ _ (by omega) (by omega)).2
        · exact (s2 (m + 2) (h + 2) (by omega) (by omega) (by omega) (by omega) _ _ (by omega) (by omega)).1
    · rw [List.mem_singleton] at hc
      subst hc
      refine ⟨by simp, fun x hx => ?_⟩
      rw [List.mem_cons, List.mem_singleton] at hx
      rcases hx with rfl | rfl
      · exact q1
      · exact (s2 (m + 1) k (by omega) (by omega) (by omega) (by omega) _ _ (by omega) rfl).2
  intro c hc
  unfold clausesOf at hc
  rw [if_neg (by omega), List.mem_append, List.mem_append, List.mem_append, List.mem_map, List.mem_flatMap] at hc
  rcases hc with ((hc | ⟨j, hj, rfl⟩) | ⟨m, hm', hc⟩) | hc
  · rw [List.mem_singleton] at hc
    subst hc
    refine ⟨by simp, fun x hx => ?_⟩
    rw [List.mem_cons, List.mem_singleton] at hx
    rcases hx with rfl | rfl
    · exact s1 0 (by omega) _ rfl
    · exact (s2 1 1 (by omega) (by omega) (by omega) (by omega) _ _ rfl rfl).1
  · rw [List.mem_range] at hj
    refine ⟨by simp, fun x hx => ?_⟩
    rw [List.mem_singleton] at hx
    subst hx
    exact (s2 1 (j + 2) (by omega) (by omega) (by omega) (by omega) _ _ rfl (by omega)).2
  · rw [List.mem_range] at hm'
    exact hm m hm' c hc
  · rw [List.mem_singleton] at hc
    subst hc
    refine ⟨by simp, fun x hx => ?_⟩
    rw [List.mem_cons, List.mem_singleton] at hx
    rcases hx with rfl | rfl
    · exact s1 (l.length - 1) (by omega) _ (by omega)
    · exact (s2 (l.length - 1) k (by omega) (by omega) (by omega) (by omega) _ _ (by omega) rfl).2
theorem rowF_get (c : Nat) (d : Nat) : ∀ (j m : Nat), m < d → (rowF c j d).getD m false = decide (c > j + m) := by
  induction d with
  | zero => intro j m hm; omega
  | succ d ih =>
    intro j m hm
    cases m with
    | zero => simp [rowF]
    | succ m =>
      have := ih (j + 1) m (by omega)
      simp only [rowF, List.getD_cons_succ, this]
      congr 1
      rw [show j + 1 + m = j + (m + 1) by omega]
theorem getD_left {a b : List Bool} {i : Nat} (h : i < a.length) : (a ++ b).getD i false = a.getD i false := by
  simp [List.getD_eq_getElem?_getD, List.getElem?_append_left h]
theorem getD_right {a b : List Bool} {i : Nat} (h : a.length ≤ i) : (a ++ b).getD i false = b.getD (i - a.length) false := by
  simp [List.getD_eq_getElem?_getD, List.getElem?_append_right h]
theorem fillF_get (k : Nat) (bs : List Bool) : ∀ (c i j : Nat), i < bs.length → j < k → (fillF k c bs).getD (i * k + j) false = decide (c + cnt (bs.take (i + 1)) > j) := by
  induction bs with
  | nil => intro c i j hi; simp at hi
  | cons b bs ih =>
    intro c i j hi hj
    simp only [fillF]
    have hl := rowF_length (if b = true then c + 1 else c) k 0
    cases i with
    | zero =>
      rw [Nat.zero_mul, Nat.zero_add, getD_left (by rw [hl]; exact hj), rowF_get _ _ _ _ hj]
      have : cnt ((b :: bs).take 1) = if b = true then 1 else 0 := by simp [cnt]
      rw [this]
      congr 1
      cases b <;> simp
    | succ i =>
      have e : (i + 1) * k + j = k + (i * k + j) := by rw [Nat.succ_mul]; omega
      rw [e, getD_right (by rw [hl]; omega), hl, Nat.add_sub_cancel_left, ih _ i j (by simpa using hi) hj]
      simp only [List.take_succ_cons, cnt]
      cases b <;> simp <;> congr 1 <;> omega
end Go.Proofs.Ytlemkghpcbkcpaa.PAtmostCounts
