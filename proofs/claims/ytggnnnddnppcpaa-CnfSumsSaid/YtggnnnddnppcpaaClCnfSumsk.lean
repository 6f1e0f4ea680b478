/- What the functions that CnfSums reaches compute, on numbers and lists. Laid by lib.py. -/
import Derived.Test.YtggnnnddnppcpaaClCnfSumsj
import Derived.Test.YtggnnnddnppcpaaClCnfSumsd
import Derived.Test.YtggnnnddnppcpaaClCnfSumse
import Derived.Test.YtggnnnddnppcpaaClCnfSumsf
import Derived.Test.YtggnnnddnppcpaaWWords
import Derived.Maps.AppendAt
import Derived.OwnWalkIn
/-! text YtggnnnddnppcpaaSumsLib -/
namespace Go.Proofs.Ytggnnnddnppcpaa.PCnfSums
open Go.RowKit Go.Proofs.YtggnnnddnppcpaaW.PrintWords Go.Proofs.YtggnnnddnppcpaaW.PrintLast Go.Proofs.YtggnnnddnppcpaaMath
set_option linter.unusedVariables false
set_option linter.unusedSimpArgs false
theorem lits_Formed_eq (l : Int) : lits_Formed.f l = some (formed l) := by
  unfold lits_Formed.f formed
  by_cases h0 : l = 0
  · simp [h0]
  · by_cases h1 : l ≥ -1048576
    · rw [if_neg h0, if_pos h1]; congr 1; rw [Bool.eq_iff_iff]; simp; omega
    · rw [if_neg h0, if_neg h1]; congr 1; symm; simp; omega
theorem lits_Var_eq (l : Int) : lits_Var.f l = some (varOf l) := by
  unfold lits_Var.f varOf
  rw [lits_Formed_eq]
  simp only [Option.bind_some]
  by_cases h : formed l = true
  · have := formed_bd h
    rw [if_pos h, if_pos h, w64 (by omega) (by omega)]
    split <;> rfl
  · rw [if_neg h, if_neg h]
theorem lits_Sound_l0 (l : List Int) (hn : l.length ≤ 17592186044416) (d : Nat) : ∀ i : Nat, i + d = l.length → Ev (fun k => lits_Sound.l0 k l (l.length : Int) (i : Int)) (sound (l.drop i)) := by
  induction d with
  | zero =>
    intro i hi
    refine Ev.succ ?_
    simp only [lits_Sound.l0]
    have h1 : ¬ ((i : Int) < (l.length : Int)) := by omega
    simp only [h1, if_false]
    rw [List.drop_of_length_le (by omega)]
    exact Ev.now _
  | succ d ih =>
    intro i hi
    refine Ev.succ ?_
    simp only [lits_Sound.l0, lits_Formed_eq, Option.bind_some]
    have h1 : (i : Int) < (l.length : Int) := by omega
    have h0 : (0 : Int) ≤ (i : Int) := by omega
    simp only [h1, h0, if_true]
    rw [drop_rd (show i < l.length by omega)]
    by_cases hf : formed (rd l i) = true
    · simp only [hf, if_true, w64s (show (i : Int) < 9223372036854775807 by omega), sound, List.all_cons, Bool.true_and]
      exact ih (i + 1) (by omega)
    · simp only [Bool.not_eq_true] at hf
      simp only [hf, Bool.false_eq_true, if_false, sound, List.all_cons, Bool.false_and]
      exact Ev.now _
theorem lits_Sound_ev (l : List Int) (hn : l.length ≤ 17592186044416) : Ev (fun k => lits_Sound.f k l) (sound l) := lits_Sound_l0 l hn l.length 0 (by omega)
theorem cnf_within_l0 (l : List Int) (v : Int) (hn : l.length ≤ 17592186044416) (hs : sound l = true) (d : Nat) : ∀ i : Nat, i + d = l.length → Ev (fun k => cnf_within.l0 k v l (l.length : Int) (i : Int)) ((l.drop i).all fun l => decide (l ≤ v ∧ -l ≤ v)) := by
  induction d with
  | zero =>
    intro i hi
    refine Ev.succ ?_
    simp only [cnf_within.l0]
    have h1 : ¬ ((i : Int) < (l.length : Int)) := by omega
    simp only [h1, if_false]
    rw [List.drop_of_length_le (by omega)]
    exact Ev.now _
  | succ d ih =>
    intro i hi
    refine Ev.succ ?_
    simp only [cnf_within.l0, lits_Var_eq, Option.bind_some]
    have h1 : (i : Int) < (l.length : Int) := by omega
    have h0 : (0 : Int) ≤ (i : Int) := by omega
    simp only [h1, h0, if_true]
    rw [drop_rd (show i < l.length by omega)]
    have hf : formed (rd l i) = true := sound_mem hs (rd_mem (by omega))
    have hv : varOf (rd l i) > v ↔ ¬ (rd l i ≤ v ∧ - rd l i ≤ v) := by
      unfold varOf
      rw [if_pos hf]
      split <;> omega
    by_cases hc : rd l i ≤ v ∧ - rd l i ≤ v
    · have h2 : ¬ varOf (rd l i) > v := fun h => hv.1 h hc
      simp only [h2, if_false, w64s (show (i : Int) < 9223372036854775807 by omega), List.all_cons, decide_eq_true hc, Bool.true_and]
      exact ih (i + 1) (by omega)
    · have h2 : varOf (rd l i) > v := hv.2 hc
      simp only [h2, if_true, List.all_cons, decide_eq_false hc, Bool.false_and]
      exact Ev.now _
theorem cnf_within_ev (l : List Int) (v : Int) (hn : l.length ≤ 17592186044416) : Ev (fun k => cnf_within.f k l v) (within l v) := by
  unfold cnf_within.f within
  refine Ev.bind (lits_Sound_ev l hn) ?_
  by_cases hs : sound l = true
  · simp only [hs, if_true, Bool.true_and]
    exact cnf_within_l0 l v hn hs l.length 0 (by omega)
  · simp only [Bool.not_eq_true] at hs
    simp only [hs, Bool.false_eq_true, if_false, Bool.false_and]
    exact Ev.now _
theorem cnf_Formed_l0 (v : Int) (cs : List (List Int)) (hn : cs.length ≤ 17592186044416) (hc : ∀ c ∈ cs, c.length ≤ 17592186044416) (d : Nat) : ∀ i : Nat, i + d = cs.length → Ev (fun k => cnf_Formed.l0 k cs (cs.length : Int) (i : Int) v cs) ((cs.drop i).all fun c => within c v) := by
  induction d with
  | zero =>
    intro i hi
    refine Ev.succ ?_
    simp only [cnf_Formed.l0]
    have h1 : ¬ ((i : Int) < (cs.length : Int)) := by omega
    simp only [h1, if_false]
    rw [List.drop_of_length_le (by omega)]
    exact Ev.now _
  | succ d ih =>
    intro i hi
    refine Ev.succ ?_
    simp only [cnf_Formed.l0, rd_L1]
    have h1 : (i : Int) < (cs.length : Int) := by omega
    have h0 : (0 : Int) ≤ (i : Int) := by omega
    simp only [h1, h0, if_true]
    rw [drop_getD (z := ([] : List Int)) (show i < cs.length by omega), List.all_cons]
    have hm : (cs.getD ((i : Int).toNat) ([] : List Int)).length ≤ 17592186044416 := by
      rw [getD_nat (show i < cs.length by omega)]
      exact hc _ (List.getElem_mem _)
    refine Ev.bind (cnf_within_ev _ v hm) ?_
    by_cases hf : within (cs.getD ((i : Int).toNat) ([] : List Int)) v = true
    · simp only [hf, if_true, w64s (show (i : Int) < 9223372036854775807 by omega), Bool.true_and]
      exact ih (i + 1) (by omega)
    · simp only [Bool.not_eq_true] at hf
      simp only [hf, Bool.false_eq_true, if_false, Bool.false_and]
      exact Ev.now _
theorem cnf_Formed_ev (v : Int) (cs : List (List Int)) (hn : cs.length ≤ 17592186044416) (hc : ∀ c ∈ cs, c.length ≤ 17592186044416) : Ev (fun k => cnf_Formed.f k v cs) (isFormula v cs) := by
  have hj : ∀ b, Ev (fun k => cnf_Formed.j0 k b v cs) (!b && cs.all fun c => within c v) := by
    intro b
    refine Ev.succ ?_
    simp only [cnf_Formed.j0]
    cases b with
    | true => exact Ev.now _
    | false => exact cnf_Formed_l0 v cs hn hc cs.length 0 (by omega)
  unfold cnf_Formed.f isFormula
  by_cases h0 : v < 0
  · simp only [h0, if_true]
    have := hj true
    rw [decide_eq_false (by omega)]
    simpa using this
  · simp only [h0, if_false]
    have := hj (decide (v > 1048576))
    rw [show (!decide (v > 1048576)) = decide (0 ≤ v ∧ v ≤ 1048576) by rw [Bool.eq_iff_iff]; simp; omega] at this
    exact this
theorem cnf_holds_l0 (c : List Int) (m : List Bool) (v : Int) (hv : (m.length : Int) = v) (hw : within c v = true) (hn : c.length ≤ 17592186044416) (d : Nat) : ∀ i : Nat, i + d = c.length → Ev (fun k => cnf_holds.l0 k m c (c.length : Int) (i : Int)) (holdsIn (c.drop i) m) := by
  induction d with
  | zero =>
    intro i hi
    refine Ev.succ ?_
    simp only [cnf_holds.l0]
    have h1 : ¬ ((i : Int) < (c.length : Int)) := by omega
    simp only [h1, if_false]
    rw [List.drop_of_length_le (by omega)]
    exact Ev.now _
  | succ d ih =>
    intro i hi
    refine Ev.succ ?_
    simp only [cnf_holds.l0, lits_Var_eq, Option.bind_some]
    have h1 : (i : Int) < (c.length : Int) := by omega
    have h0 : (0 : Int) ≤ (i : Int) := by omega
    obtain ⟨hf, g1, g2⟩ := within_lit hw (rd_mem (l := c) (i := i) (by omega))
    have hb := formed_iff.1 hf
    have ev : varOf (rd c i) = ((rd c i).natAbs : Int) := by
      unfold varOf
      rw [if_pos hf]
      split <;> omega
    have e1 : wrap64 (varOf (rd c i) - 1) = ((rd c i).natAbs : Int) - 1 := by rw [ev, w64 (by omega) (by omega)]
    have h2 : (0 : Int) ≤ ((rd c i).natAbs : Int) - 1 := by omega
    have h3 : ((rd c i).natAbs : Int) - 1 < (m.length : Int) := by omega
    simp only [h1, h0, e1, h2, h3, if_true, rdOf_truth hf]
    rw [drop_rd (show i < c.length by omega)]
    simp only [holdsIn, List.any_cons]
    by_cases ht : truth m (rd c i) = true
    · simp only [ht, if_true, Bool.true_or]
      exact Ev.now _
    · simp only [Bool.not_eq_true] at ht
      simp only [ht, Bool.false_eq_true, if_false, Bool.false_or, w64s (show (i : Int) < 9223372036854775807 by omega)]
      exact ih (i + 1) (by omega)
theorem cnf_holds_ev (c : List Int) (m : List Bool) (v : Int) (hv : (m.length : Int) = v) (hw : within c v = true) (hn : c.length ≤ 17592186044416) : Ev (fun k => cnf_holds.f k c m) (holdsIn c m) := cnf_holds_l0 c m v hv hw hn c.length 0 (by omega)
theorem cnf_all_l0 (cs : List (List Int)) (m : List Bool) (v : Int) (hv : (m.length : Int) = v) (hw : ∀ c ∈ cs, within c v = true) (hn : cs.length ≤ 17592186044416) (hc : ∀ c ∈ cs, c.length ≤ 17592186044416) (d : Nat) : ∀ i : Nat, i + d = cs.length → Ev (fun k => cnf_all.l0 k m cs (cs.length : Int) (i : Int)) (allIn (cs.drop i) m) := by
  induction d with
  | zero =>
    intro i hi
    refine Ev.succ ?_
    simp only [cnf_all.l0]
    have h1 : ¬ ((i : Int) < (cs.length : Int)) := by omega
    simp only [h1, if_false]
    rw [List.drop_of_length_le (by omega)]
    exact Ev.now _
  | succ d ih =>
    intro i hi
    refine Ev.succ ?_
    simp only [cnf_all.l0, rd_L1]
    have h1 : (i : Int) < (cs.length : Int) := by omega
    have h0 : (0 : Int) ≤ (i : Int) := by omega
    simp only [h1, h0, if_true]
    have hm : cs.getD ((i : Int).toNat) ([] : List Int) ∈ cs := by
      rw [getD_nat (show i < cs.length by omega)]
      exact List.getElem_mem _
    rw [drop_getD (z := ([] : List Int)) (show i < cs.length by omega)]
    simp only [allIn, List.all_cons]
    refine Ev.bind (cnf_holds_ev _ m v hv (hw _ hm) (hc _ hm)) ?_
    by_cases ht : holdsIn (cs.getD ((i : Int).toNat) ([] : List Int)) m = true
    · simp only [ht, if_true, Bool.true_and, w64s (show (i : Int) < 9223372036854775807 by omega)]
      exact ih (i + 1) (by omega)
    · simp only [Bool.not_eq_true] at ht
      simp only [ht, Bool.false_eq_true, if_false, Bool.false_and]
      exact Ev.now _
theorem cnf_all_ev (v : Int) (cs : List (List Int)) (m : List Bool) (hv : (m.length : Int) = v) (hw : ∀ c ∈ cs, within c v = true) (hn : cs.length ≤ 17592186044416) (hc : ∀ c ∈ cs, c.length ≤ 17592186044416) (u : Int) : Ev (fun k => cnf_all.f k u cs m) (allIn cs m) := cnf_all_l0 cs m v hv hw hn hc cs.length 0 (by omega)
theorem cnf_fits_ev (v : Int) (cs : List (List Int)) (m : List Bool) (hn : cs.length ≤ 17592186044416) (hc : ∀ c ∈ cs, c.length ≤ 17592186044416) : Ev (fun k => cnf_fits.f k v cs m) (fitsIn v cs m) := by
  unfold cnf_fits.f fitsIn
  refine Ev.bind (cnf_Formed_ev v cs hn hc) ?_
  by_cases h : isFormula v cs = true
  · simp only [h, if_true, Bool.true_and]
    exact Ev.now _
  · simp only [Bool.not_eq_true] at h
    simp only [h, Bool.false_eq_true, if_false, Bool.false_and]
    exact Ev.now _
theorem fitsIn_and {v : Int} {cs : List (List Int)} {m : List Bool} (h : fitsIn v cs m = true) : isFormula v cs = true ∧ (m.length : Int) = v := by
  unfold fitsIn at h
  rw [Bool.and_eq_true] at h
  simpa using h
theorem cnf_Satisfies_ev (v : Int) (cs : List (List Int)) (m : List Bool) (hn : cs.length ≤ 17592186044416) (hc : ∀ c ∈ cs, c.length ≤ 17592186044416) : Ev (fun k => cnf_Satisfies.f k v cs m) (satisfies v cs m) := by
  unfold cnf_Satisfies.f satisfies
  refine Ev.bind (cnf_fits_ev v cs m hn hc) ?_
  by_cases h : fitsIn v cs m = true
  · obtain ⟨h1, h2⟩ := fitsIn_and h
    simp only [h, if_true, Bool.true_and]
    exact Ev.bind (cnf_all_ev v cs m h2 (fun c hm => isFormula_clause h1 hm) hn hc v) (Ev.now _)
  · simp only [Bool.not_eq_true] at h
    simp only [h, Bool.false_eq_true, if_false, Bool.false_and]
    exact Ev.now _
theorem depotref00_CopyBools_l0 (l : List Bool) (hn : l.length ≤ 140737488351232) (d : Nat) : ∀ i : Nat, i + d = l.length → Ev (fun k => depotref00_CopyBools.l0 k l (l.take i) (i : Int)) l := by
  induction d with
  | zero =>
    intro i hi
    refine Ev.succ ?_
    simp only [depotref00_CopyBools.l0]
    have h1 : ¬ ((i : Int) < (l.length : Int)) := by omega
    simp only [h1, if_false]
    rw [List.take_of_length_le (by omega)]
    exact Ev.now _
  | succ d ih =>
    intro i hi
    refine Ev.succ ?_
    simp only [depotref00_CopyBools.l0]
    have h1 : (i : Int) < (l.length : Int) := by omega
    have h0 : (0 : Int) ≤ (i : Int) := by omega
    have h2 : (l.take i).length < 140737488355328 := by rw [List.length_take]; omega
    simp only [h1, h0, h2, if_true, w64s (show (i : Int) < 9223372036854775807 by omega)]
    rw [← take_rdOf (show i < l.length by omega)]
    exact ih (i + 1) (by omega)
theorem depotref00_CopyBools_ev (l : List Bool) (hn : l.length ≤ 140737488351232) : Ev (fun k => depotref00_CopyBools.f k l) l := depotref00_CopyBools_l0 l hn l.length 0 (by omega)
theorem depotref00_SameBools_l0 (a b : List Bool) (hn : a.length ≤ 140737488355328) (hl : a.length = b.length) (d : Nat) : ∀ i : Nat, i + d = a.length → Ev (fun k => depotref00_SameBools.l0 k a b (i : Int)) (a.drop i == b.drop i) := by
  induction d with
  | zero =>
    intro i hi
    refine Ev.succ ?_
    simp only [depotref00_SameBools.l0]
    have h1 : ¬ ((i : Int) < (a.length : Int)) := by omega
    simp only [h1, if_false]
    rw [List.drop_of_length_le (by omega), List.drop_of_length_le (by omega)]
    exact Ev.now _
  | succ d ih =>
    intro i hi
    refine Ev.succ ?_
    simp only [depotref00_SameBools.l0]
    have h1 : (i : Int) < (a.length : Int) := by omega
    have h2 : (i : Int) < (b.length : Int) := by omega
    have h0 : (0 : Int) ≤ (i : Int) := by omega
    simp only [h1, h2, h0, if_true]
    rw [drop_rdOf (z := false) (show i < a.length by omega), drop_rdOf (z := false) (show i < b.length by omega), List.cons_beq_cons]
    by_cases hx : rdOf false a i = rdOf false b i
    · have hx2 : (rdOf false a i != rdOf false b i) = false := by simp [hx]
      simp only [hx2, Bool.false_eq_true, if_false, w64s (show (i : Int) < 9223372036854775807 by omega)]
      rw [hx, beq_self_eq_true, Bool.true_and]
      exact ih (i + 1) (by omega)
    · have hx3 : (rdOf false a i != rdOf false b i) = true := by simp [hx]
      have hx2 : (rdOf false a i == rdOf false b i) = false := by simpa using hx
      simp only [hx3, if_true, hx2, Bool.false_and]
      exact Ev.now _
theorem depotref00_SameBools_ev (a b : List Bool) (hn : a.length ≤ 140737488355328) : Ev (fun k => depotref00_SameBools.f k a b) (a == b) := by
  unfold depotref00_SameBools.f
  by_cases hl : (a.length : Int) = (b.length : Int)
  · simp only [hl, if_true]
    exact depotref00_SameBools_l0 a b hn (by omega) a.length 0 (by omega)
  · simp only [hl, if_false]
    have : (a == b) = false := by
      rw [beq_eq_false_iff_ne]
      rintro rfl
      exact hl rfl
    rw [this]
    exact Ev.now _
end Go.Proofs.Ytggnnnddnppcpaa.PCnfSums
/-! text YtggnnnddnppcpaaFrames -/
namespace Go.Proofs.YtggnnnddnppcpaaOwn
open Go Go.RowKit Go.Proofs.YtggnnnddnppcpaaW.PrintWords
set_option linter.unusedVariables false
/-- since w: new blocks alone; those of l lie as told -/
structure St (w : World) (l : List (Nat × Obj)) (W : World) : Prop where
  hB : Below w.heap.size w W
  nd : (l.map (·.1)).Nodup
  held : ∀ p ∈ l, w.heap.size ≤ p.1 ∧ W.heap[p.1]? = some p.2
section
variable {w W W1 : World} {l : List (Nat × Obj)}
theorem St.start (h : Below w.heap.size w W) : St w [] W := ⟨h, List.nodup_nil, fun _ h => by cases h⟩
theorem St.lt (h : St w l W) {p : Nat × Obj} (hp : p ∈ l) : p.1 < W.heap.size := (Array.getElem?_eq_some_iff.1 (h.held p hp).2).1
theorem St.blk (h : St w l W) (i : Nat) {b : Nat} {o : Obj} (hi : l[i]? = some (b, o)) : W.heap[b]? = some o := (h.held (b, o) (List.mem_of_getElem? hi)).2
theorem St.ge (h : St w l W) (i : Nat) {b : Nat} {o : Obj} (hi : l[i]? = some (b, o)) : w.heap.size ≤ b := (h.held (b, o) (List.mem_of_getElem? hi)).1
theorem St.blt (h : St w l W) (i : Nat) {b : Nat} {o : Obj} (hi : l[i]? = some (b, o)) : b < W.heap.size := h.lt (List.mem_of_getElem? hi)
theorem St.move (h : St w l W) (hb : Below w.heap.size w W1) (hm : ∀ p ∈ l, W1.heap[p.1]? = W.heap[p.1]?) : St w l W1 := ⟨hb, h.nd, fun p hp => ⟨(h.held p hp).1, (hm p hp).trans (h.held p hp).2⟩⟩
theorem St.new (h : St w l W) (o : Obj) : St w ((W.heap.size, o) :: l) (W.alloc o) := by
  refine ⟨below_alloc h.hB o, ?_, fun p hp => ?_⟩
  · rw [List.map_cons, List.nodup_cons]
    refine ⟨fun hm => ?_, h.nd⟩
    obtain ⟨q, hq, e⟩ := List.mem_map.1 hm
    have := h.lt hq
    simp only at e
    omega
  · rcases List.mem_cons.1 hp with rfl | hp
    · exact ⟨h.hB.size, World.alloc_heap_new W o⟩
    · exact ⟨(h.held p hp).1, (Below.heap_alloc W o p.1 (h.lt hp)).trans (h.held p hp).2⟩
theorem St.keep (h : St w l W) (k : Below W.heap.size W W1) : St w l W1 := h.move (below_step h.hB k) fun p hp => k.block p.1 (h.lt hp)
theorem St.grow {M : Nat → Prop} (h : St w l W) (hg : Grow M W W1) (hM : ∀ k, M k → w.heap.size ≤ k ∧ ∀ p ∈ l, p.1 ≠ k) : St w l W1 :=
  h.move (h.hB.trans (hg.below h.hB.size fun k hk => (hM k hk).1)) fun p hp => hg.block p.1 (h.lt hp) fun hk => (hM _ hk).2 p hp rfl
theorem St.growN {M : Nat → Prop} (h : St w l W) (hg : Grow M W W1) {n : Nat} (hM : ∀ k, M k → n ≤ k) (hw : w.heap.size ≤ n) (hl : ∀ p ∈ l, p.1 < n) : St w l W1 := h.grow hg fun k hk => ⟨Nat.le_trans hw (hM k hk), fun p hp => by have := hl p hp; have := hM k hk; omega⟩
theorem St.far (h : St w l W) {p : Addr} (hp : w.heap.size ≤ p.block) (hl : ∀ q ∈ l, q.1 ≠ p.block) (u : Value) : St w l (W.setCell p u) := h.move (h.hB.setCell hp u) fun q hq => Below.heap_setCell W p u q.1 (hl q hq)
theorem St.grown {row : Option Nat} (h : St w l W) (hg : W.grownBy W1 row) (hr : ∀ k, row = some k → w.heap.size ≤ k ∧ ∀ p ∈ l, p.1 ≠ k) : St w l W1 := h.grow (M := fun k => row = some k) (Grow.of_grownBy hg fun _ e => e) hr
theorem St.put (h : St w l W) (i : Nat) {b t : Nat} {cs cs' : Array Value} (hi : l[i]? = some (b, .cells cs t (0, 0))) (j : Nat) (u : Value) (e : cs.setIfInBounds j u = cs') : St w (l.set i (b, .cells cs' t (0, 0))) (W.setCell ⟨b, j, none⟩ u) := by
  have hm := List.mem_of_getElem? hi
  obtain ⟨hil, hie⟩ := List.getElem?_eq_some_iff.1 hi
  have hkeys : (l.set i (b, .cells cs' t (0, 0))).map (·.1) = l.map (·.1) := by
    rw [List.map_set]
    apply List.ext_getElem?
    intro k
    rw [List.getElem?_set]
    split
    · rename_i hk
      subst hk
      split
      · rw [List.getElem?_map, hi]; rfl
      · rename_i hn
        simp at hn
        omega
    · rfl
  refine ⟨h.hB.setCell (p := ⟨b, j, none⟩) (h.held _ hm).1 u, by rw [hkeys]; exact h.nd, fun p hp => ?_⟩
  obtain ⟨k, hk⟩ := List.getElem?_of_mem hp
  rw [List.getElem?_set] at hk
  split at hk
  · rename_i hik
    subst hik
    injection hk with hk
    subst hk
    exact ⟨(h.held _ hm).1, blk_put (h.held _ hm).2 j u e⟩
  · rename_i hik
    have hpm := List.mem_of_getElem? hk
    refine ⟨(h.held p hpm).1, (Below.heap_setCell W ⟨b, j, none⟩ u p.1 ?_).trans (h.held p hpm).2⟩
    intro e2
    apply hik
    have hnd := h.nd
    have h1 : (l.map (·.1))[i]? = some b := by rw [List.getElem?_map, hi]; rfl
    have h2 : (l.map (·.1))[k]? = some b := by rw [List.getElem?_map, hk]; exact congrArg some e2
    have hi' : i < (l.map (·.1)).length := (List.getElem?_eq_some_iff.1 h1).1
    have hk' : k < (l.map (·.1)).length := (List.getElem?_eq_some_iff.1 h2).1
    have e3 : (l.map (·.1))[i] = (l.map (·.1))[k] := by
      have a1 := (List.getElem?_eq_some_iff.1 h1).2
      have a2 := (List.getElem?_eq_some_iff.1 h2).2
      rw [a1, a2]
    have hp2 := List.pairwise_iff_getElem.1 hnd
    rcases Nat.lt_trichotomy i k with h4 | h4 | h4
    · exact absurd e3 (hp2 i k hi' hk' h4)
    · exact h4
    · exact absurd e3.symm (hp2 k i hk' hi' h4)
theorem St.cell (h : St w l W) (i j : Nat) {b t : Nat} {cs : Array Value} (hi : l[i]? = some (b, .cells cs t (0, 0))) : W.cell? ⟨b, j, none⟩ = cs[j]? := blk_cell (h.blk i hi) j
theorem St.frozen (h : St w l W) (i j : Nat) {b t : Nat} {cs : Array Value} (hi : l[i]? = some (b, .cells cs t (0, 0))) : W.frozen? ⟨b, j, none⟩ = false := blk_frozen (h.blk i hi) j
theorem St.sub {l' : List (Nat × Obj)} (h : St w l W) (hs : l'.Sublist l) : St w l' W := ⟨h.hB, (hs.map _).nodup h.nd, fun p hp => h.held p (hs.subset hp)⟩
end
/-- one element more behind a row of one's own: the element lies in a new block -/
theorem R_push {α : Type} {P : Program} (d : Kd α) (t ty e : TypeId) (z : Value) (bytes : Nat) (ht : P.underlying t = some (.slice e)) (hinfo : (P.info? e).map (fun i => (i.zero, i.size, i.bytes)) = some (some z, d.sz, bytes)) (hz : z.cells.size = d.sz) (hs0 : 0 < d.sz)
    {W : World} {base : Nat} {ok okp : Nat → Prop} {v : Value} {xs : List α} {p : α} {cs : List Value} (hR : d.R e W base ok v xs) (hp : d.M W base okp p cs) (hokp : ∀ k, okp k → ok k ∧ some k ≠ v.ownBlock) (hfresh : ∀ k, W.heap.size ≤ k → ok k) (hbase : base ≤ W.heap.size) (hl : (xs.length + 1) * bytes ≤ 140737488355328) (hb0 : 0 < bytes) :
    ∃ v1 w1, (Builtin.append_ #[t, t] ty #[v, .slice (some ⟨W.heap.size, 0, none⟩) 1 1]).run P (W.alloc (.cells cs.toArray e)) = .ok v1 w1 ∧ d.R e w1 base ok v1 (xs ++ [p]) ∧ W.grownBy w1 v.ownBlock ∧ (v1.ownBlock = v.ownBlock ∨ ∃ b, v1.ownBlock = some b ∧ W.heap.size ≤ b) := by
  obtain ⟨h0, inner, hown, hr⟩ := hR
  obtain ⟨i0, hi, hzz⟩ := Option.map_eq_some_iff.1 hinfo
  simp only [Prod.mk.injEq] at hzz
  obtain ⟨hz0, hz1, hz2⟩ := hzz
  have hcl := d.K_len (d.K_of_M hp)
  have hone := d.K_one (d.K_of_M hp)
  have hown2 : (W.alloc (.cells cs.toArray e)).ownsRow base e d.sz v xs.length inner := own_move hown fun k hk => Below.heap_alloc _ _ _ (own_lt hown k hk)
  obtain ⟨v1, w1, hrun, ho1, hg1, _, hat⟩ := run_append_own_at (P := P) (W.alloc (.cells cs.toArray e)) base t ty e i0 z d.sz bytes ht hi hz0 hz1 hz2 hz hs0 v xs.length inner hown2 ⟨W.heap.size, 0, none⟩ 1 1 cs (by omega) (fun j u hj => by
    have hb := World.alloc_heap_new W (.cells cs.toArray e)
    have hc := blk_cell (t := e) hb j
    have ha : (⟨W.heap.size, 0, none⟩ : Addr).add j = ⟨W.heap.size, j, none⟩ := by rw [add_at, Nat.zero_add]
    rw [ha, hc]
    simpa using hj) hone (by
      have : xs.length + 1 ≤ (xs.length + 1) * bytes := Nat.le_mul_of_pos_right _ hb0
      simp only [maxLen]
      omega) hl (by simp; omega)
  have hgW : W.grownBy w1 v.ownBlock := (World.grownBy_alloc W (.cells cs.toArray e) v.ownBlock).trans hg1
  have hatW : v1.ownBlock = v.ownBlock ∨ ∃ b, v1.ownBlock = some b ∧ W.heap.size ≤ b := by
    rcases hat with h | h
    · exact .inl h
    · exact .inr ⟨_, h, by simp⟩
  exact ⟨v1, w1, hrun, Kd.R_appended h0 hr hp hokp hfresh ho1 hgW hatW, hgW, hatW⟩
/-- an append whose run is known -/
theorem wpIn_append_run {F : Fence} {n : Nat} {P : Program} {o : Oper} {a : Act} {w w' : World} {K : Act → World → Prop} {Q : Exit → Act → World → Prop} (s x : Operand) (t : TypeId) (hop : o.op = Op.call { callee := Callee.builtin Builtin.append, args := #[s, x], argTypes := #[t, t] })
    {v vx v' : Value} (hs : a.eval s = v) (hx : a.eval x = vx) (hrun : (Builtin.append_ #[t, t] o.type #[v, vx]).run P w = .ok v' w') (h : K (a.put o.dst v') w') : Oper.wpIn F n P o a w K Q := by
  unfold Oper.wpIn
  refine ⟨?_, ?_⟩
  · simp [Oper.about, hop, resolve, Target.leads, Sem.run_pure]
  · rw [Oper.semAt_plain F _ _ (by rw [hop]; intro c hc'; cases hc')]
    simp [execOp, hop, resolve, invoke, builtin, hs, hx, hrun, Result.andThen]
    exact h
theorem wpListIn_append_run {F : Fence} {n : Nat} {P : Program} {ops : Array Oper} {rest : List Oper} {o : Oper} {a : Act} {w w' : World} {Q : Exit → Act → World → Prop} (hg : o.guard = none) (s x : Operand) (t : TypeId) (hop : o.op = Op.call { callee := Callee.builtin Builtin.append, args := #[s, x], argTypes := #[t, t] })
    {v vx v' : Value} (hs : a.eval s = v) (hx : a.eval x = vx) (hrun : (Builtin.append_ #[t, t] o.type #[v, vx]).run P w = .ok v' w') (h : wpListIn F n P ops Q rest (a.put o.dst v') w') : wpListIn F n P ops Q (o :: rest) a w :=
  wpListIn_plain hg fun K hK' => wpIn_append_run s x t hop hs hx hrun (hK' _ _ h)
end Go.Proofs.YtggnnnddnppcpaaOwn
/-! text YtggnnnddnppcpaaSumsBase -/
namespace Go.Proofs.YtggnnnddnppcpaaMath
open Go.RowKit Go.Proofs.YtggnnnddnppcpaaW.PrintWords
set_option linter.unusedVariables false
/-- does the one come ahead of the other in the order of counting? -/
def belowIn (a b : List Bool) : Bool := decide (a.length = b.length) && decide (numOf a < numOf b)
theorem numOf_snoc (a : List Bool) (x : Bool) : numOf (a ++ [x]) = numOf a + (if x = true then 1 else 0) * 2 ^ a.length := by
  induction a with
  | nil => simp [numOf]
  | cons y a ih =>
    simp only [List.cons_append, numOf, ih, List.length_cons, Nat.pow_succ]
    cases x
    · simp
    · simp only [if_true, Nat.one_mul]
      omega
theorem numOf_lt (a : List Bool) : numOf a < 2 ^ a.length := by
  induction a with
  | nil => simp [numOf]
  | cons y a ih =>
    simp only [numOf, List.length_cons, Nat.pow_succ]
    split <;> omega
theorem counted_num : ∀ m : List Bool, counted m.length (numOf m) = m
  | [] => rfl
  | b :: m => by
    have ih := counted_num m
    simp only [List.length_cons, counted, numOf]
    cases b
    · simp only [Bool.false_eq_true, if_false]
      rw [show (0 + 2 * numOf m) / 2 = numOf m by omega, ih, show (0 + 2 * numOf m) % 2 = 0 by omega]
      rfl
    · simp only [if_true]
      rw [show (1 + 2 * numOf m) / 2 = numOf m by omega, ih, show (1 + 2 * numOf m) % 2 = 1 by omega]
      rfl
theorem modelsTo_num (v : Nat) (cs : List (List Int)) (k : Nat) (hk : k ≤ 2 ^ v) : (modelsTo v cs k).Pairwise (fun a b => numOf a < numOf b) := by
  unfold modelsTo
  refine List.Pairwise.filter _ (List.pairwise_map.2 ?_)
  refine List.Pairwise.imp_of_mem ?_ List.pairwise_lt_range
  intro i j hi hj hij
  rw [num_counted v i (by have := List.mem_range.1 hi; omega), num_counted v j (by have := List.mem_range.1 hj; omega)]
  exact hij
theorem modelsIn_has {v : Nat} {cs : List (List Int)} {m : List Bool} (hl : m.length = v) (ha : allIn cs m = true) : m ∈ modelsIn v cs := by
  subst hl
  unfold modelsIn modelsTo
  rw [List.mem_filter, List.mem_map]
  exact ⟨⟨numOf m, List.mem_range.2 (numOf_lt m), counted_num m⟩, ha⟩
theorem modelsIn_all {v : Nat} {cs : List (List Int)} {m : List Bool} (h : m ∈ modelsIn v cs) : m.length = v ∧ allIn cs m = true := by
  refine ⟨modelsTo_mem h, ?_⟩
  unfold modelsIn modelsTo at h
  exact (List.mem_filter.1 h).2
theorem prefix_below {v : Nat} {cs : List (List Int)} {ps : List (List Bool)} {a b : List Bool} (h : ps ++ [a, b] <+: modelsIn v cs) : belowIn a b = true := by
  have hp := modelsTo_num v cs (2 ^ v) (Nat.le_refl _)
  have hp2 := List.Pairwise.sublist h.sublist hp
  have hp3 := (List.pairwise_append.1 hp2).2.1
  have h1 := (List.pairwise_cons.1 hp3).1 b (by simp)
  have ha := modelsTo_mem (h.subset (by simp : a ∈ ps ++ [a, b]))
  have hb := modelsTo_mem (h.subset (by simp : b ∈ ps ++ [a, b]))
  unfold belowIn
  rw [decide_eq_true (by omega), decide_eq_true h1]
  rfl
end Go.Proofs.YtggnnnddnppcpaaMath
namespace Go.Proofs.Ytggnnnddnppcpaa.PCnfSums
open Go.RowKit Go.Proofs.YtggnnnddnppcpaaW.PrintWords Go.Proofs.YtggnnnddnppcpaaW.PrintLast Go.Proofs.YtggnnnddnppcpaaMath
set_option linter.unusedVariables false
set_option linter.unusedSimpArgs false
theorem depotlaw02_below_l0 (a b : List Bool) (hl : a.length = b.length) (hn : a.length ≤ 1048576) : ∀ i : Nat, i ≤ a.length → Ev (fun k => depotlaw02_below.l0 k a b ((i : Int) - 1)) (decide (numOf (a.take i) < numOf (b.take i))) := by
  intro i
  induction i with
  | zero =>
    intro _
    refine Ev.succ ?_
    simp only [depotlaw02_below.l0]
    have h1 : ¬ (((0 : Nat) : Int) - 1 ≥ 0) := by omega
    simp only [h1, if_false, List.take_zero]
    exact Ev.now _
  | succ i ih =>
    intro hi
    refine Ev.succ ?_
    simp only [depotlaw02_below.l0]
    have e : (((i + 1 : Nat) : Int) - 1) = (i : Int) := by omega
    rw [e]
    have h0 : (i : Int) ≥ 0 := by omega
    have h0' : (0 : Int) ≤ (i : Int) := by omega
    have h1 : (i : Int) < (a.length : Int) := by omega
    have h2 : (i : Int) < (b.length : Int) := by omega
    have hw : wrap64 ((i : Int) - 1) = (i : Int) - 1 := w64 (by omega) (by omega)
    simp only [h0, h0', h1, h2, if_true, hw]
    rw [take_rdOf (z := false) (show i < a.length by omega), take_rdOf (z := false) (show i < b.length by omega), numOf_snoc, numOf_snoc]
    have la : (a.take i).length = i := by rw [List.length_take]; omega
    have lb : (b.take i).length = i := by rw [List.length_take]; omega
    have na := numOf_lt (a.take i)
    have nb := numOf_lt (b.take i)
    rw [la] at na ⊢
    rw [lb] at nb ⊢
    have ih' := ih (by omega)
    generalize rdOf false a (i : Int) = x
    generalize rdOf false b (i : Int) = y
    cases x <;> cases y
    · simpa using ih'
    · simp only [Bool.bne_true, Bool.not_false, if_true, Bool.false_eq_true, if_false, Nat.zero_mul, Nat.add_zero, Nat.one_mul]
      rw [decide_eq_true (by omega)]
      exact Ev.now _
    · simp only [Bool.bne_false, if_true, Bool.false_eq_true, if_false, Nat.zero_mul, Nat.add_zero, Nat.one_mul]
      rw [decide_eq_false (by omega)]
      exact Ev.now _
    · simpa using ih'
theorem depotlaw02_below_ev (a b : List Bool) (hn : a.length ≤ 1048576) : Ev (fun k => depotlaw02_below.f k a b) (belowIn a b) := by
  unfold depotlaw02_below.f belowIn
  by_cases hl : a.length = b.length
  · have h1 : (a.length : Int) = (b.length : Int) := by omega
    simp only [h1, if_true]
    rw [← h1, decide_eq_true hl, w64 (by omega) (by omega), Bool.true_and]
    have := depotlaw02_below_l0 a b hl hn a.length (Nat.le_refl _)
    rwa [List.take_length, hl, List.take_length, ← hl] at this
  · have h1 : ¬ (a.length : Int) = (b.length : Int) := by omega
    simp only [h1, if_false]
    rw [decide_eq_false hl]
    exact Ev.now _
theorem depotlaw02_awake_ev : Ev (fun k => depotlaw02_awake.f k) true := by
  unfold depotlaw02_awake.f
  have hs : ∀ c ∈ ([[1, 2], [-1]] : List (List Int)), c.length ≤ 17592186044416 := by
    intro c hc
    simp at hc
    rcases hc with rfl | rfl <;> simp
  have s1 := fun m => cnf_Satisfies_ev 2 [[1, 2], [-1]] m (by simp) hs
  refine Ev.bound (show depotlaw02_small.f = some (2, [[1, 2], [-1]]) from rfl) ?_
  refine Ev.bind (cnf_Formed_ev 2 [[1, 2], [-1]] (by simp) hs) ?_
  rw [show isFormula 2 [[1, 2], [-1]] = true by decide]
  simp only [if_true]
  refine Ev.bind (s1 [false, true]) ?_
  rw [show satisfies 2 [[1, 2], [-1]] [false, true] = true by decide]
  simp only [if_true]
  refine Ev.bind (s1 [true, true]) ?_
  rw [show satisfies 2 [[1, 2], [-1]] [true, true] = false by decide]
  simp only [Bool.false_eq_true, if_false]
  refine Ev.bind (s1 [false, false]) ?_
  rw [show satisfies 2 [[1, 2], [-1]] [false, false] = false by decide]
  exact Ev.now _
end Go.Proofs.Ytggnnnddnppcpaa.PCnfSums
namespace Go.Proofs.YtggnnnddnppcpaaHand
open Go.RowKit Go.Proofs.YtggnnnddnppcpaaW.PrintWords Go.Proofs.YtggnnnddnppcpaaW.PrintLast Go.Proofs.YtggnnnddnppcpaaMath Go.Proofs.Ytggnnnddnppcpaa.PCnfSums
set_option linter.unusedVariables false
set_option linter.unusedSimpArgs false
theorem awake_calls (w : World) : Calls Try.prog 39 #[] w fun e w' => e = .returned (.bool true) ∧ Below w.heap.size w w' := by
  obtain ⟨k, h⟩ := depotlaw02_awake_ev.rounds
  exact depotlaw02_awake.calls k _ w h
theorem satisfies_calls (v : Int) (A0 A1 : Option Addr) (c0 c1 : Nat) (cs : List (List Int)) (m : List Bool) (w : World) (hr0 : Kd.C (Kd.slice 3 (Kd.int .i64)) w A0 cs.length cs) (hc0 : cs.length ≤ c0) (hr1 : Kd.C Kd.bool w A1 m.length m) (hc1 : m.length ≤ c1) (hn : cs.length ≤ 17592186044416) (hs : ∀ c ∈ cs, c.length ≤ 17592186044416) :
    Calls Try.prog 30 #[.agg #[.int .i64 v, .slice A0 cs.length c0], .slice A1 m.length c1] w fun e w' => e = .returned (.bool (satisfies v cs m)) ∧ Below w.heap.size w w' := by
  obtain ⟨k, h⟩ := (cnf_Satisfies_ev v cs m hn hs).rounds
  exact cnf_Satisfies.calls k v A0 c0 cs A1 c1 m _ w hr0 hc0 hr1 hc1 h
theorem sameBools_calls (A B : Option Addr) (c d : Nat) (l m : List Bool) (w : World) (hr : Kd.C Kd.bool w A l.length l) (hc : l.length ≤ c) (hs : Kd.C Kd.bool w B m.length m) (hd : m.length ≤ d) (hn : l.length ≤ 140737488355328) :
    Calls Try.prog 38 #[.slice A l.length c, .slice B m.length d] w fun e w' => e = .returned (.bool (l == m)) ∧ Drawn0 w w' := by
  obtain ⟨k, h⟩ := (depotref00_SameBools_ev l m hn).rounds
  exact depotref00_SameBools.calls k A c l B d m _ w hr hc hs hd h
theorem below_calls (A B : Option Addr) (c d : Nat) (l m : List Bool) (w : World) (hr : Kd.C Kd.bool w A l.length l) (hc : l.length ≤ c) (hs : Kd.C Kd.bool w B m.length m) (hd : m.length ≤ d) (hn : l.length ≤ 1048576) :
    Calls Try.prog 41 #[.slice A l.length c, .slice B m.length d] w fun e w' => e = .returned (.bool (belowIn l m)) ∧ Drawn0 w w' := by
  obtain ⟨k, h⟩ := (depotlaw02_below_ev l m hn).rounds
  exact depotlaw02_below.calls k A c l B d m _ w hr hc hs hd h
theorem copyBools_calls (A : Option Addr) (c : Nat) (l : List Bool) (w : World) (hr : Kd.C Kd.bool w A l.length l) (hc : l.length ≤ c) (hn : l.length ≤ 140737488351232) :
    Calls Try.prog 42 #[.slice A l.length c] w fun e w' => ∃ v : Value, e = .returned v ∧ Kd.R Kd.bool 4 w' w.heap.size (fun _ => True) v l ∧ Below w.heap.size w w' := by
  obtain ⟨k, h⟩ := (depotref00_CopyBools_ev l hn).rounds
  exact depotref00_CopyBools.calls k A c l l w hr hc h
end Go.Proofs.YtggnnnddnppcpaaHand
