/- What the functions that AtmostAgrees reaches compute, on numbers and lists. Laid by lib.py. -/
import Derived.Test.YtlemkghpcbkcpaaGAtmostAgreesx5
import Derived.Test.YtlemkghpcbkcpaaMath
import Derived.Test.YtlemkghpcbkcpaaTidyPure
import Derived.Test.YtlemkghpcbkcpaaAtmostMath
namespace Go.Proofs.Ytlemkghpcbkcpaa.PAtmostAgrees
open Go.RowKit Go.Proofs.YtlemkghpcbkcpaaW.PrintWords Go.Proofs.YtlemkghpcbkcpaaW.PrintLast Go.Proofs.YtlemkghpcbkcpaaMath
set_option linter.unusedVariables false
set_option linter.unusedSimpArgs false
theorem atmost_helpers_eq (n k : Int) (hn : 0 ≤ n) (hn2 : n ≤ 1048576) : atmost_helpers.f n k = some (if k = 0 ∨ k ≥ n then 0 else wrap64 ((n - 1) * k)) := by
  unfold atmost_helpers.f
  by_cases h0 : k = 0
  · simp [h0]
  · by_cases h1 : k ≥ n
    · simp [h0, h1]
    · rw [if_neg h0, if_neg h1, if_neg (by omega), w64 (x := n - 1) (by omega) (by omega)]
theorem depotref00_CopyInts_l0 (l : List Int) (hn : l.length < 17592186044416) (d : Nat) : ∀ i : Nat, i + d = l.length → Ev (fun k => depotref00_CopyInts.l0 k l (l.take i) (i : Int)) l := by
  induction d with
  | zero =>
    intro i hi
    refine Ev.succ ?_
    have h1 : ¬ ((i : Int) < (l.length : Int)) := by omega
    simp only [depotref00_CopyInts.l0, h1, if_false]
    rw [List.take_of_length_le (by omega)]
    exact Ev.now _
  | succ d ih =>
    intro i hi
    refine Ev.succ ?_
    have h1 : (i : Int) < (l.length : Int) := by omega
    have h0 : (0 : Int) ≤ (i : Int) := by omega
    have h2 : (l.take i).length < 17592186044416 := by rw [List.length_take]; omega
    simp only [depotref00_CopyInts.l0, h1, h0, h2, if_true, w64s (show (i : Int) < 9223372036854775807 by omega)]
    rw [← take_rd (show i < l.length by omega)]
    exact ih (i + 1) (by omega)
theorem depotref00_CopyInts_ev (l : List Int) (hn : l.length < 17592186044416) : Ev (fun k => depotref00_CopyInts.f k l) l := depotref00_CopyInts_l0 l hn l.length 0 (by omega)
theorem atmost_AtMost_eq (k : Nat) (l : List Int) (a b : Int) (hn : l.length ≤ 17592186044416) (ha : -9223372036854775808 ≤ a ∧ a ≤ 9223372036854775807) : atmost_AtMost.f k l a b = some (atmostOf l a b) := by
  unfold atmost_AtMost.f
  rw [if_pos ⟨hn, ha⟩]
theorem awake_list : atmostOf [1, 2] 1 3 = ([[-1, 3], [-2, -3]], 4, 0) := by decide +kernel
theorem depotlaw27_awake_eq (k : Nat) : depotlaw27_awake.f k = some true := by
  unfold depotlaw27_awake.f
  rw [atmost_AtMost_eq k _ _ _ (by simp) (by omega), awake_list]
  rfl
/-- the literal at place i is one of 60 variables, unlike those before -/
def okAt (l : List Int) (i : Nat) : Prop := rd l (i : Int) ≠ 0 ∧ rd l (i : Int) ≤ 60 ∧ -60 ≤ rd l (i : Int) ∧ ∀ j, j < i → rd l (j : Int) ≠ rd l (i : Int) ∧ rd l (j : Int) ≠ -(rd l (i : Int))
theorem depotlaw27_fit_l1 (l : List Int) (hl : l.length ≤ 60) (i : Nat) (hi : i < l.length) (hb : rd l (i : Int) ≤ 60 ∧ -60 ≤ rd l (i : Int)) (P : Prop) (h0 : ∃ b, Ev (fun k => depotlaw27_fit.l0 k l ((i + 1 : Nat) : Int)) b ∧ (b = true → P)) (d : Nat) : ∀ j : Nat, j + d = i →
    ∃ b, Ev (fun k => depotlaw27_fit.l1 k l (i : Int) (j : Int)) b ∧ (b = true → (∀ m, j ≤ m → m < i → rd l (m : Int) ≠ rd l (i : Int) ∧ rd l (m : Int) ≠ -(rd l (i : Int))) ∧ P) := by
  have e := w64s (show ((i : Nat) : Int) < 9223372036854775807 by omega)
  induction d with
  | zero =>
    intro j hj
    obtain ⟨b, hb1, hb2⟩ := h0
    refine ⟨b, Ev.succ ?_, fun h => ⟨fun m h1 h2 => by omega, hb2 h⟩⟩
    simp only [depotlaw27_fit.l1]
    have h1 : ¬ ((j : Int) < (i : Int)) := by omega
    simp only [h1, if_false, e]
    exact hb1
  | succ d ih =>
    intro j hj
    have h1 : (j : Int) < (i : Int) := by omega
    have h2 : (0 : Int) ≤ (j : Int) := by omega
    have h3 : (j : Int) < (l.length : Int) := by omega
    have h4 : (0 : Int) ≤ (i : Int) := by omega
    have h5 : (i : Int) < (l.length : Int) := by omega
    have en : wrap64 (-(rd l (i : Int))) = -(rd l (i : Int)) := w64 (by omega) (by omega)
    by_cases c1 : rd l (j : Int) = rd l (i : Int)
    · refine ⟨false, Ev.succ ?_, fun h => by cases h⟩
      simp only [depotlaw27_fit.l1]
      simp only [h1, h2, h3, h4, h5, c1, if_true]
      exact Ev.now _
    · by_cases c2 : rd l (j : Int) = -(rd l (i : Int))
      · refine ⟨false, Ev.succ ?_, fun h => by cases h⟩
        simp only [depotlaw27_fit.l1]
        simp only [h1, h2, h3, h4, h5, c1, en, c2, if_true, if_false]
        split <;> exact Ev.now _
      · obtain ⟨b, hb1, hb2⟩ := ih (j + 1) (by omega)
        refine ⟨b, Ev.succ ?_, fun h => ⟨fun m m1 m2 => ?_, (hb2 h).2⟩⟩
        · simp only [depotlaw27_fit.l1]
          simp only [h1, h2, h3, h4, h5, c1, en, c2, if_true, if_false, w64s (show ((j : Nat) : Int) < 9223372036854775807 by omega)]
          exact hb1
        · rcases Nat.eq_or_lt_of_le m1 with rfl | m3
          · exact ⟨c1, c2⟩
          · exact (hb2 h).1 m m3 m2
theorem depotlaw27_fit_l0 (l : List Int) (hl : l.length ≤ 60) (d : Nat) : ∀ i : Nat, i + d = l.length →
    ∃ b, Ev (fun k => depotlaw27_fit.l0 k l (i : Int)) b ∧ (b = true → ∀ m, i ≤ m → m < l.length → okAt l m) := by
  induction d with
  | zero =>
    intro i hi
    refine ⟨true, Ev.succ ?_, fun _ m m1 m2 => by omega⟩
    simp only [depotlaw27_fit.l0]
    have h1 : ¬ ((i : Int) < (l.length : Int)) := by omega
    simp only [h1, if_false]
    exact Ev.now _
  | succ d ih =>
    intro i hi
    have h1 : (i : Int) < (l.length : Int) := by omega
    have h2 : (0 : Int) ≤ (i : Int) := by omega
    have bad : ∀ g : Nat → Option Bool, (∀ k, g (k + 1) = depotlaw27_fit.j2 k l (i : Int) true) → Ev g false := by
      intro g hg
      refine Ev.step hg (Ev.succ ?_)
      simp only [depotlaw27_fit.j2, if_true]
      exact Ev.now _
    by_cases c1 : rd l (i : Int) = 0
    · refine ⟨false, bad _ (fun k => ?_), fun h => by cases h⟩
      simp only [depotlaw27_fit.l0]
      simp only [h1, h2, c1, if_true]
    · by_cases c2 : rd l (i : Int) > 60
      · refine ⟨false, bad _ (fun k => ?_), fun h => by cases h⟩
        simp only [depotlaw27_fit.l0]
        simp only [h1, h2, c1, c2, if_true, if_false]
      · by_cases c3 : rd l (i : Int) < -60
        · refine ⟨false, bad _ (fun k => ?_), fun h => by cases h⟩
          simp only [depotlaw27_fit.l0]
          simp only [h1, h2, c1, c2, if_true, if_false, decide_eq_true c3]
        · obtain ⟨b, hb1, hb2⟩ := depotlaw27_fit_l1 l hl i (by omega) (by omega) _ (ih (i + 1) (by omega)) i 0 (by omega)
          refine ⟨b, Ev.succ ?_, fun h m m1 m2 => ?_⟩
          · simp only [depotlaw27_fit.l0]
            simp only [h1, h2, c1, c2, if_true, if_false, decide_eq_false c3]
            refine Ev.succ ?_
            simp only [depotlaw27_fit.j2, Bool.false_eq_true, if_false]
            exact hb1
          · rcases Nat.eq_or_lt_of_le m1 with rfl | m3
            · exact ⟨c1, by omega, by omega, fun j hj => (hb2 h).1 j (by omega) hj⟩
            · exact (hb2 h).2 m m3 m2
structure FitP (l : List Int) (k : Int) : Prop where
  k0 : 0 ≤ k
  k1 : k ≤ 60
  len : l.length ≤ 60
  all : ∀ m, m < l.length → okAt l m
theorem depotlaw27_fit_ev (l : List Int) (a : Int) : ∃ b, Ev (fun k => depotlaw27_fit.f k l a) b ∧ (b = true → FitP l a) := by
  have bad : ∀ g : Nat → Option Bool, (∀ k, g k = depotlaw27_fit.j0 k l true) → Ev g false := by
    intro g hg
    have : g = fun k => depotlaw27_fit.j0 k l true := funext hg
    rw [this]
    refine Ev.succ ?_
    simp only [depotlaw27_fit.j0, if_true]
    exact Ev.now _
  by_cases c1 : a < 0
  · exact ⟨false, bad _ (fun k => by unfold depotlaw27_fit.f; rw [if_pos c1]), fun h => by cases h⟩
  · by_cases c2 : a > 60
    · exact ⟨false, bad _ (fun k => by unfold depotlaw27_fit.f; rw [if_neg c1, if_pos c2]), fun h => by cases h⟩
    · by_cases c3 : (l.length : Int) > 60
      · exact ⟨false, bad _ (fun k => by unfold depotlaw27_fit.f; rw [if_neg c1, if_neg c2, decide_eq_true c3]), fun h => by cases h⟩
      · obtain ⟨b, hb1, hb2⟩ := depotlaw27_fit_l0 l (by omega) l.length 0 (by omega)
        refine ⟨b, ?_, fun h => ⟨by omega, by omega, by omega, fun m hm => hb2 h m (by omega) hm⟩⟩
        have : (fun k => depotlaw27_fit.f k l a) = fun k => depotlaw27_fit.j0 k l false := funext fun k => by unfold depotlaw27_fit.f; rw [if_neg c1, if_neg c2, decide_eq_false c3]
        rw [this]
        refine Ev.succ ?_
        simp only [depotlaw27_fit.j0, Bool.false_eq_true, if_false]
        exact hb1
theorem FitP.unlike {l : List Int} {k : Int} (h : FitP l k) : unlikeOf l = true := by
  have hs : ∀ x ∈ l, formed x = true ∧ varOf x ≤ 60 ∧ (varOf x = x ∨ varOf x = -x) ∧ 1 ≤ varOf x := by
    intro x hx
    obtain ⟨i, hi, rfl⟩ := List.getElem_of_mem hx
    have ho := h.all i hi
    rw [okAt, rd_nat hi] at ho
    have hf : formed l[i] = true := formed_iff.2 ⟨ho.1, by omega, by omega⟩
    have := varOf_formed hf
    exact ⟨hf, by omega, this.2.2, this.1⟩
  unfold unlikeOf
  rw [Bool.and_eq_true, decide_eq_true_eq]
  refine ⟨List.all_eq_true.2 fun x hx => (hs x hx).1, ?_⟩
  rw [List.Nodup, List.pairwise_iff_getElem]
  intro i j hi hj hij he
  rw [List.length_map] at hi hj
  rw [List.getElem_map, List.getElem_map] at he
  have ho := (h.all j hj).2.2.2 i hij
  rw [rd_nat hi, rd_nat hj] at ho
  have h1 := hs l[i] (List.getElem_mem hi)
  have h2 := hs l[j] (List.getElem_mem hj)
  omega
theorem helpers_small {n k : Int} (hn : 0 ≤ n ∧ n ≤ 60) (hk : 0 ≤ k ∧ k ≤ 60) : 0 ≤ helpersOf n k ∧ helpersOf n k ≤ 3600 := by
  unfold helpersOf
  split
  · omega
  · have h1 : 0 ≤ (n - 1) * k := Int.mul_nonneg (by omega) hk.1
    have h2 : (n - 1) * k ≤ 60 * 60 := Int.mul_le_mul (by omega) hk.2 hk.1 (by omega)
    omega
theorem FitP.most {l : List Int} {k : Int} (h : FitP l k) : atmostOf l k 61 = (if k < (l.length : Int) then clausesOf l k.toNat 61 else [], 61 + helpersOf l.length k, 0) := by
  have h1 := h.k0
  have h2 := h.k1
  have h3 := h.len
  have hh := helpers_small (n := l.length) (k := k) (by omega) (by omega)
  unfold atmostOf
  rw [if_neg (by rw [h.unlike]; simp), if_neg (by omega), if_neg]
  intro ha
  obtain ⟨x, hx, h5⟩ := List.any_eq_true.1 ha
  obtain ⟨i, hi, rfl⟩ := List.getElem_of_mem hx
  have ho := h.all i hi
  rw [okAt, rd_nat hi] at ho
  have hf : formed l[i] = true := formed_iff.2 ⟨ho.1, by omega, by omega⟩
  have := varOf_formed hf
  have := of_decide_eq_true h5
  omega
theorem atmost_Measure_ev (n : Nat) (k : Int) (hn : n ≤ 60) (hk : 0 ≤ k ∧ k ≤ 60) : Ev (fun f => atmost_Measure.f f (n : Int) k) (if k ≥ (n : Int) then (0, 0, 0, 0) else if k = 0 then (0, (n : Int), (n : Int), 0) else (helpersOf n k, k + 1 + ((n : Int) - 2) * (2 * k + 1), k + 3 + ((n : Int) - 2) * (5 * k + 1), 0)) := by
  have e : (fun f => atmost_Measure.f f (n : Int) k) = fun f => atmost_Measure.j0 f (n : Int) k false := funext fun f => by
    unfold atmost_Measure.f
    rw [if_neg (by omega), if_neg (by omega), decide_eq_false (by omega)]
  rw [e]
  refine Ev.succ ?_
  simp only [atmost_Measure.j0, Bool.false_eq_true, if_false]
  by_cases c1 : k ≥ (n : Int)
  · simp only [c1, if_true]
    exact Ev.now _
  · by_cases c2 : k = 0
    · subst c2
      simp only [c1, if_true, if_false]
      exact Ev.now _
    · simp only [c1, c2, if_false]
      refine Ev.bound (atmost_helpers_eq (n : Int) k (by omega) (by omega)) ?_
      have hh := helpers_small (n := n) (k := k) (by omega) hk
      have b1 : ((n : Int) - 2) * (2 * k + 1) ≤ 60 * 121 := Int.mul_le_mul (by omega) (by omega) (by omega) (by omega)
      have b2 : ((n : Int) - 2) * (5 * k + 1) ≤ 60 * 301 := Int.mul_le_mul (by omega) (by omega) (by omega) (by omega)
      have b3 : 0 ≤ ((n : Int) - 2) * (2 * k + 1) := Int.mul_nonneg (by omega) (by omega)
      have b4 : 0 ≤ ((n : Int) - 2) * (5 * k + 1) := Int.mul_nonneg (by omega) (by omega)
      have e0 : (if k = 0 ∨ k ≥ (n : Int) then 0 else wrap64 (((n : Int) - 1) * k)) = helpersOf n k := by
        unfold helpersOf at hh ⊢
        split
        · rfl
        · rw [if_neg ‹_›] at hh
          exact w64 (by omega) (by omega)
      rw [e0]
      rw [w64 (x := k + 1) (by omega) (by omega), w64 (x := (n : Int) - 2) (by omega) (by omega), w64 (x := 2 * k) (by omega) (by omega), w64 (x := 2 * k + 1) (by omega) (by omega), w64 (x := ((n : Int) - 2) * (2 * k + 1)) (by omega) (by omega), w64 (x := k + 1 + ((n : Int) - 2) * (2 * k + 1)) (by omega) (by omega),
        w64 (x := k + 3) (by omega) (by omega), w64 (x := 5 * k) (by omega) (by omega), w64 (x := 5 * k + 1) (by omega) (by omega), w64 (x := ((n : Int) - 2) * (5 * k + 1)) (by omega) (by omega), w64 (x := k + 3 + ((n : Int) - 2) * (5 * k + 1)) (by omega) (by omega)]
      exact Ev.now _
def lenSum (cs : List (List Int)) : Nat := (cs.map List.length).sum
theorem lenSum_append (a b : List (List Int)) : lenSum (a ++ b) = lenSum a + lenSum b := by simp [lenSum]
theorem lenSum_flat (n c : Nat) (f : Nat → List (List Int)) (h : ∀ i, lenSum (f i) = c) : lenSum ((List.range n).flatMap f) = n * c := by
  induction n with
  | zero => simp [lenSum]
  | succ n ih =>
    rw [List.range_succ, List.flatMap_append, lenSum_append, ih, Nat.succ_mul]
    simp [h]
theorem lenSum_map (n : Nat) (f : Nat → List Int) (h : ∀ i, (f i).length = 1) : lenSum ((List.range n).map f) = n := by
  induction n with
  | zero => simp [lenSum]
  | succ n ih =>
    rw [List.range_succ, List.map_append, lenSum_append, ih]
    simp [lenSum, h]
theorem lenSum_mid (l : List Int) (k : Nat) (hk : 0 < k) (first : Int) (m : Nat) : lenSum (midAt l k first m) = 5 * k + 1 := by
  unfold midAt
  rw [lenSum_append, lenSum_append, lenSum_flat _ 5 _ (fun i => rfl)]
  simp only [lenSum, List.map_cons, List.map_nil, List.length_cons, List.length_nil, List.sum_cons, List.sum_nil]
  omega
theorem lenSum_clauses (l : List Int) (k : Nat) (hk : 0 < k) (hn : k < l.length) (first : Int) : lenSum (clausesOf l k first) = k + 3 + (l.length - 2) * (5 * k + 1) := by
  unfold clausesOf
  rw [if_neg (by omega), lenSum_append, lenSum_append, lenSum_append, lenSum_flat _ _ _ (lenSum_mid l k hk first), lenSum_map _ _ (fun i => rfl)]
  simp only [lenSum, List.map_cons, List.map_nil, List.length_cons, List.length_nil, List.sum_cons, List.sum_nil]
  omega
theorem lenSum_units (l : List Int) : lenSum (l.map fun x => [-x]) = l.length := by
  induction l with
  | nil => rfl
  | cons x l ih => simp only [List.map_cons, lenSum, List.map_cons, List.sum_cons, List.length_cons, List.length_nil] at ih ⊢; omega
theorem depotlaw27_AtmostAgrees_l0 (cs : List (List Int)) (next e hs cl pl d : Int) (hn : cs.length ≤ 1000000) (hb : lenSum cs ≤ 1000000) (he : e = 0) (hd : d = 0) (hnx : next = wrap64 (61 + hs)) (hcl : (cs.length : Int) = cl) (hpl : (lenSum cs : Int) = pl) (m : Nat) : ∀ i : Nat, i + m = cs.length →
    Ev (fun k => depotlaw27_AtmostAgrees.l0 k cs next e hs cl pl d ((lenSum (cs.take i) : Nat) : Int) (i : Int)) true := by
  induction m with
  | zero =>
    intro i hi
    refine Ev.succ ?_
    simp only [depotlaw27_AtmostAgrees.l0]
    have h1 : ¬ ((i : Int) < (cs.length : Int)) := by omega
    have h2 : ((lenSum (cs.take i) : Nat) : Int) = pl := by rw [List.take_of_length_le (by omega)]; exact hpl
    simp only [if_neg h1, if_pos he, if_pos hd, if_pos hnx, if_pos hcl, h2, beq_self_eq_true]
    exact Ev.now _
  | succ m ih =>
    intro i hi
    refine Ev.succ ?_
    simp only [depotlaw27_AtmostAgrees.l0]
    have h1 : (i : Int) < (cs.length : Int) := by omega
    have h2 : (0 : Int) ≤ (i : Int) := by omega
    have h3 : lenSum (cs.take (i + 1)) = lenSum (cs.take i) + (rd_L1 cs (i : Int)).length := by
      rw [take_getD (z := ([] : List Int)) (show i < cs.length by omega), lenSum_append]
      simp [lenSum, rd_L1]
    have h4 : lenSum (cs.take (i + 1)) ≤ lenSum cs := by
      conv => rhs; rw [← List.take_append_drop (i + 1) cs, lenSum_append]
      omega
    have h5 : wrap64 (((lenSum (cs.take i) : Nat) : Int) + ((rd_L1 cs (i : Int)).length : Int)) = ((lenSum (cs.take (i + 1)) : Nat) : Int) := by
      rw [w64 (by omega) (by omega), h3]
      omega
    simp only [h1, h2, if_true, h5, w64s (show (i : Int) < 9223372036854775807 by omega)]
    exact ih (i + 1) (by omega)
end Go.Proofs.Ytlemkghpcbkcpaa.PAtmostAgrees
