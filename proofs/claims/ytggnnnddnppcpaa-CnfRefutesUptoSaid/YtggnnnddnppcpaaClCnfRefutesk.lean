/- CnfRefutesUptoSaid: for every input the law CnfRefutes returns true, and what came in reads as before. Condition: what comes in is of bulk at most 1048576. Written by row.py. -/
import Derived.Test.YtggnnnddnppcpaaClCnfRefutesj
import Derived.Test.YtggnnnddnppcpaaClCnfRefutesd
import Derived.Test.YtggnnnddnppcpaaClCnfRefutesc
import Derived.Test.YtggnnnddnppcpaaClCnfRefutese
import Derived.Test.YtggnnnddnppcpaaRows
import Derived.WalkKit
import Derived.ProofKit
import Derived.OpenShut
import Derived.ShutString
import Derived.ChangeOld
import Derived.Below
import Derived.SizedLaws
import Derived.Lib.SmallJoins
import Derived.JoinedCond
import Derived.Deep.CondSized
/-! text YtggnnnddnppcpaaStatCnfRefutes -/
namespace Go.Proofs.Ytggnnnddnppcpaa.PCnfRefutes
open Go.RowKit Go.Proofs.YtggnnnddnppcpaaW.PrintWords Go.Proofs.YtggnnnddnppcpaaW.PrintLast Go.Proofs.YtggnnnddnppcpaaW.PrintMore Go.Proofs.YtggnnnddnppcpaaOpens
set_option linter.unusedVariables false
set_option linter.unusedSimpArgs false
def Stmt : Prop := ∀ (a0_0 : Int) (l0_1 : List (List (Int))) (l1 : List (Int)), (((Lit.int .i64 a0_0).wf = true) ∧ (l0_1.length * 24 ≤ 140737488351232 ∧ ∀ y1 ∈ l0_1, y1.length * 8 ≤ 140737488351232 ∧ ∀ y2 ∈ y1, (Lit.int .i64 y2).wf = true)) → (l1.length * 8 ≤ 140737488351232 ∧ ∀ y5 ∈ l1, (Lit.int .i64 y5).wf = true) → ((1 + (sumOf (fun y3 => (sumOf (fun y4 => 1) y3 + 1)) l0_1 + 1)) + 1) + (sumOf (fun y6 => 1) l1 + 1) ≤ 1048576 → ∃ k, depotlaw02_CnfRefutes.f k a0_0 l0_1 l1 = some true
theorem walk (P : Stmt) (a0_0 : Int) (A0_1 : Option Addr) (c0_1 : Nat) (l0_1 : List (List (Int))) (A1 : Option Addr) (c1 : Nat) (l1 : List (Int)) (w : World) (hr0_1 : Kd.C (Kd.slice 3 (Kd.int .i64)) w A0_1 l0_1.length l0_1) (hc0_1 : l0_1.length ≤ c0_1) (hr1 : Kd.C (Kd.int .i64) w A1 l1.length l1) (hc1 : l1.length ≤ c1) (ok0 : ((Lit.int .i64 a0_0).wf = true) ∧ (l0_1.length * 24 ≤ 140737488351232 ∧ ∀ y1 ∈ l0_1, y1.length * 8 ≤ 140737488351232 ∧ ∀ y2 ∈ y1, (Lit.int .i64 y2).wf = true)) (ok1 : l1.length * 8 ≤ 140737488351232 ∧ ∀ y5 ∈ l1, (Lit.int .i64 y5).wf = true) (hm : ((1 + (sumOf (fun y3 => (sumOf (fun y4 => 1) y3 + 1)) l0_1 + 1)) + 1) + (sumOf (fun y6 => 1) l1 + 1) ≤ 1048576) :
    Calls Try.prog 11 #[.agg #[.int .i64 a0_0, .slice A0_1 l0_1.length c0_1], .slice A1 l1.length c1] w fun e w' => e = .returned (.bool true) ∧ Below w.heap.size w w' := by
  obtain ⟨k, h⟩ := P a0_0 l0_1 l1 ok0 ok1 hm
  refine (depotlaw02_CnfRefutes.calls k a0_0 A0_1 c0_1 l0_1 A1 c1 l1 true w hr0_1 hc0_1 hr1 hc1 h).mono ?_
  rintro e w' ⟨rfl, hd⟩
  exact ⟨rfl, hd⟩
end Go.Proofs.Ytggnnnddnppcpaa.PCnfRefutes
/-! text YtggnnnddnppcpaaLibCnfRefutes -/
namespace Go.Proofs.Ytggnnnddnppcpaa.PCnfRefutes
open Go.RowKit Go.Proofs.YtggnnnddnppcpaaW.PrintWords Go.Proofs.YtggnnnddnppcpaaW.PrintLast Go.Proofs.YtggnnnddnppcpaaMath
set_option linter.unusedVariables false
set_option linter.unusedSimpArgs false
theorem depotref00_CopyInts_l0 (l : List Int) (hn : l.length < 17592186044416) (d : Nat) : ∀ i : Nat, i + d = l.length → Ev (fun k => depotref00_CopyInts.l0 k l (l.take i) (i : Int)) l := by
  induction d with
  | zero =>
    intro i hi
    refine Ev.succ ?_
    have h1 : ¬ ((i : Int) < (l.length : Int)) := by omega
    simp only [depotref00_CopyInts.l0, h1, if_false]
    rw [List.take_of_length_le (by omega)]
    exact Ev.now _
  | succ d ih =>
    intro i hi
    refine Ev.succ ?_
    have h1 : (i : Int) < (l.length : Int) := by omega
    have h0 : (0 : Int) ≤ (i : Int) := by omega
    have h2 : (l.take i).length < 17592186044416 := by rw [List.length_take]; omega
    simp only [depotref00_CopyInts.l0, h1, h0, h2, if_true, w64s (show (i : Int) < 9223372036854775807 by omega)]
    rw [← take_rd (show i < l.length by omega)]
    exact ih (i + 1) (by omega)
theorem depotref00_CopyInts_ev (l : List Int) (hn : l.length < 17592186044416) : Ev (fun k => depotref00_CopyInts.f k l) l := depotref00_CopyInts_l0 l hn l.length 0 (by omega)
theorem drop_L1 {l : List (List Int)} {i : Nat} (h : i < l.length) : l.drop i = rd_L1 l (i : Int) :: l.drop (i + 1) := drop_getD (z := ([] : List Int)) h
theorem rd_L1_mem {l : List (List Int)} {i : Nat} (h : i < l.length) : rd_L1 l (i : Int) ∈ l := by
  have := getD_nat (z := ([] : List Int)) h
  show l.getD ((i : Int).toNat) ([] : List Int) ∈ l
  rw [this]; exact List.getElem_mem h
theorem take_L1 {l : List (List Int)} {i : Nat} (h : i < l.length) : l.take (i + 1) = l.take i ++ [rd_L1 l (i : Int)] := take_getD (z := ([] : List Int)) h
theorem depotref00_CopyClauses_l0 (l : List (List Int)) (hn : l.length ≤ 5864062014805) (hs : ∀ x ∈ l, x.length < 17592186044416) (d : Nat) : ∀ i : Nat, i + d = l.length → Ev (fun k => depotref00_CopyClauses.l0 k l (l.take i) (i : Int)) l := by
  induction d with
  | zero =>
    intro i hi
    refine Ev.succ ?_
    have h1 : ¬ ((i : Int) < (l.length : Int)) := by omega
    simp only [depotref00_CopyClauses.l0, h1, if_false]
    rw [List.take_of_length_le (by omega)]
    exact Ev.now _
  | succ d ih =>
    intro i hi
    refine Ev.succ ?_
    have h1 : (i : Int) < (l.length : Int) := by omega
    have h0 : (0 : Int) ≤ (i : Int) := by omega
    have h2 : (l.take i).length < 5864062014805 := by rw [List.length_take]; omega
    simp only [depotref00_CopyClauses.l0, h1, h0, if_true]
    refine Ev.bind (depotref00_CopyInts_ev _ (hs _ (rd_L1_mem (show i < l.length by omega)))) ?_
    simp only [h2, if_true, w64s (show (i : Int) < 9223372036854775807 by omega)]
    rw [← take_L1 (show i < l.length by omega)]
    exact ih (i + 1) (by omega)
theorem depotref00_CopyClauses_ev (l : List (List Int)) (hn : l.length ≤ 5864062014805) (hs : ∀ x ∈ l, x.length < 17592186044416) : Ev (fun k => depotref00_CopyClauses.f k l) l := depotref00_CopyClauses_l0 l hn hs l.length 0 (by omega)
theorem depotref00_CopyFormula_ev (v : Int) (l : List (List Int)) (hn : l.length ≤ 5864062014805) (hs : ∀ x ∈ l, x.length < 17592186044416) : Ev (fun k => depotref00_CopyFormula.f k v l) (v, l) := by
  unfold depotref00_CopyFormula.f
  exact Ev.bind (depotref00_CopyClauses_ev l hn hs) (Ev.now _)
theorem sumOf_ones {α : Type} (l : List α) : YtggnnnddnppcpaaOpens.sumOf (fun _ => 1) l = l.length := by
  induction l with
  | nil => rfl
  | cons x l ih => simp only [YtggnnnddnppcpaaOpens.sumOf, ih, List.length_cons]; omega
theorem sumOf_mem {α : Type} (m : α → Nat) {l : List α} {x : α} (h : x ∈ l) : m x ≤ YtggnnnddnppcpaaOpens.sumOf m l := by
  induction l with
  | nil => simp at h
  | cons y l ih =>
    simp only [YtggnnnddnppcpaaOpens.sumOf]
    rcases List.mem_cons.1 h with rfl | h
    · omega
    · have := ih h; omega
theorem sumOf_len {α : Type} (m : α → Nat) (l : List α) : l.length ≤ YtggnnnddnppcpaaOpens.sumOf (fun x => m x + 1) l := by
  induction l with
  | nil => simp
  | cons y l ih => simp only [YtggnnnddnppcpaaOpens.sumOf, List.length_cons]; omega
/-- how many clauses, how many literals in each -/
theorem rows_small {l : List (List Int)} {n : Nat} (h : YtggnnnddnppcpaaOpens.sumOf (fun y => YtggnnnddnppcpaaOpens.sumOf (fun _ => 1) y + 1) l ≤ n) : l.length ≤ n ∧ ∀ c ∈ l, c.length ≤ n := by
  refine ⟨Nat.le_trans (sumOf_len _ l) h, fun c hc => ?_⟩
  have h1 := sumOf_mem (fun y => YtggnnnddnppcpaaOpens.sumOf (fun _ => 1) y + 1) hc
  rw [sumOf_ones] at h1
  omega
theorem cnf_Count_ev (v : Int) (cs : List (List Int)) (hn : cs.length ≤ 5864062014805) (hc : ∀ c ∈ cs, c.length ≤ 17592186044416) : Ev (fun k => cnf_Count.f k v cs) (countOf v cs) := by
  simp only [cnf_Count.f]
  rw [if_pos ⟨hn, hc⟩]
  exact Ev.now _
theorem cnf_Entails_ev (v : Int) (cs : List (List Int)) (c : List Int) (hn : cs.length ≤ 5864062014805) (hc : ∀ c ∈ cs, c.length ≤ 17592186044416) (hl : c.length ≤ 17592186044416) : Ev (fun k => cnf_Entails.f k v cs c) (entailsOf v cs c) := by
  simp only [cnf_Entails.f]
  rw [if_pos ⟨hn, hl, hc⟩]
  exact Ev.now _
end Go.Proofs.Ytggnnnddnppcpaa.PCnfRefutes
/-! text YtggnnnddnppcpaaPureCnfRefutes -/
namespace Go.Proofs.Ytggnnnddnppcpaa.Pure
open Go.RowKit Go.Proofs.Ytggnnnddnppcpaa.PCnfRefutes Go.Proofs.YtggnnnddnppcpaaW.PrintWords Go.Proofs.YtggnnnddnppcpaaW.PrintLast Go.Proofs.YtggnnnddnppcpaaOpens Go.Proofs.YtggnnnddnppcpaaMath
set_option linter.unusedVariables false
set_option linter.unusedSimpArgs false

/-- a clause's opposites, one clause each -/
def opps (c : List Int) : List (List Int) := c.map fun l => [-l]
theorem truth_neg {m : List Bool} {l : Int} (h : l ≠ 0) : truth m (-l) = !truth m l := by
  unfold truth
  rw [Int.natAbs_neg]
  generalize m.getD (l.natAbs - 1) false = b
  by_cases hp : l > 0
  · rw [decide_eq_true hp, decide_eq_false (show ¬ -l > 0 by omega)]
    cases b <;> rfl
  · rw [decide_eq_false hp, decide_eq_true (show -l > 0 by omega)]
    cases b <;> rfl
theorem opps_all (c : List Int) (m : List Bool) (h : ∀ l ∈ c, l ≠ 0) : allIn (opps c) m = !holdsIn c m := by
  induction c with
  | nil => rfl
  | cons l c ih =>
    have h1 := ih (fun x hx => h x (List.mem_cons_of_mem _ hx))
    have h2 := truth_neg (m := m) (h l List.mem_cons_self)
    unfold allIn opps holdsIn at *
    simp only [List.map_cons, List.all_cons, List.any_cons, List.any_nil, Bool.or_false, h2, h1, Bool.not_or]
theorem allIn_append (a b : List (List Int)) (m : List Bool) : allIn (a ++ b) m = (allIn a m && allIn b m) := by
  unfold allIn
  rw [List.all_append]
theorem modelsIn_append (v : Nat) (a b : List (List Int)) : modelsIn v (a ++ b) = (modelsIn v a).filter (allIn b) := by
  unfold modelsIn modelsTo
  rw [List.filter_filter]
  refine List.filter_congr fun m _ => ?_
  rw [allIn_append, Bool.and_comm]
theorem no_models (v : Nat) (cs : List (List Int)) (c : List Int) (h : ∀ l ∈ c, l ≠ 0) : ((modelsIn v cs).all (holdsIn c)) = ((((modelsIn v (cs ++ opps c)).length : Nat) : Int) == 0) := by
  rw [modelsIn_append, Bool.eq_iff_iff, beq_iff_eq]
  have e : (((List.filter (allIn (opps c)) (modelsIn v cs)).length : Nat) : Int) = 0 ↔ (List.filter (allIn (opps c)) (modelsIn v cs)) = [] := by
    rw [← List.length_eq_zero_iff]
    omega
  rw [e, List.filter_eq_nil_iff, List.all_eq_true]
  constructor
  · intro hh m hm
    rw [opps_all c m h, hh m hm]
    simp
  · intro hh m hm
    have := hh m hm
    rw [opps_all c m h] at this
    simpa using this
theorem formula_append {v : Int} {cs : List (List Int)} {c : List Int} (h1 : isFormula v cs = true) (h2 : within c v = true) : isFormula v (cs ++ opps c) = true := by
  unfold isFormula at h1 ⊢
  rw [Bool.and_eq_true] at h1 ⊢
  refine ⟨h1.1, ?_⟩
  rw [List.all_append, h1.2, Bool.true_and, List.all_eq_true]
  intro d hd
  unfold opps at hd
  obtain ⟨l, hl, rfl⟩ := List.mem_map.1 hd
  have hx := within_lit h2 hl
  unfold within sound
  simp only [List.all_cons, List.all_nil, Bool.and_true, Bool.and_eq_true, decide_eq_true_eq]
  exact ⟨by rw [formed_neg]; exact hx.1, by omega, by omega⟩
theorem refutes_l0 (v : Int) (cs : List (List Int)) (c : List Int) (yes : Bool) (r : Bool) (hn : cs.length ≤ 1048576) (hl : c.length ≤ 1048576) (hs : ∀ c ∈ cs, c.length ≤ 1048576) (hw : within c v = true) (hr : r = if (countOf v (cs ++ opps c)).2 = 0 then (yes == ((countOf v (cs ++ opps c)).1 == 0)) else false) (d : Nat) : ∀ i : Nat, i + d = c.length →
    Ev (fun k => depotlaw02_CnfRefutes.l0 k c yes (i : Int) v (cs ++ opps (c.take i))) r := by
  induction d with
  | zero =>
    intro i hi
    refine Ev.succ ?_
    have h1 : ¬ ((i : Int) < (c.length : Int)) := by omega
    simp only [depotlaw02_CnfRefutes.l0, h1, if_false]
    rw [List.take_of_length_le (by omega)]
    refine Ev.bind (cnf_Count_ev v _ (by simp [opps]; omega) (fun x hx => ?_)) ?_
    · rcases List.mem_append.1 hx with hx | hx
      · have := hs x hx; omega
      · unfold opps at hx
        obtain ⟨l, _, rfl⟩ := List.mem_map.1 hx
        simp
    · rw [hr]
      by_cases h0 : (countOf v (cs ++ opps c)).2 = 0
      · simp only [h0, if_true]
        exact Ev.now _
      · simp only [h0, if_false]
        exact Ev.now _
  | succ d ih =>
    intro i hi
    refine Ev.succ ?_
    have h1 : (i : Int) < (c.length : Int) := by omega
    have h0 : (0 : Int) ≤ (i : Int) := by omega
    have h3 : (cs ++ opps (c.take i)).length < 5864062014805 := by simp [opps]; omega
    have hx := within_lit hw (rd_mem (l := c) (i := i) (by omega))
    have hb := formed_bd hx.1
    have e : wrap64 (-(rd c (i : Int))) = -(rd c (i : Int)) := w64 (by omega) (by omega)
    simp only [depotlaw02_CnfRefutes.l0, h1, h0, h3, if_true, e, w64s (show (i : Int) < 9223372036854775807 by omega)]
    have := ih (i + 1) (by omega)
    rw [take_rd (show i < c.length by omega)] at this
    have e2 : cs ++ opps (c.take i) ++ [[-(rd c (i : Int))]] = cs ++ opps (c.take i ++ [rd c (i : Int)]) := by
      unfold opps
      rw [List.map_append, List.append_assoc]
      rfl
    rw [e2]
    exact this

theorem CnfRefutes : PCnfRefutes.Stmt := by
  intro v l c ok1 ok2 hm
  obtain ⟨n1, s1⟩ := rows_small (l := l) (n := 1048576) (by omega)
  have n2 : c.length ≤ 1048576 := by rw [sumOf_ones] at hm; omega
  refine Ev.rounds ?_
  unfold depotlaw02_CnfRefutes.f depotlaw02_small.f
  simp only [Option.bind_some]
  have e1 : countOf 2 [[1, 2], [-1]] = (1, 0) := by decide
  refine Ev.bind (cnf_Count_ev 2 _ (by simp) (by simp)) ?_
  rw [e1]
  simp only [if_true]
  refine Ev.succ ?_
  simp only [depotlaw02_CnfRefutes.j0, bne_self_eq_false, Bool.false_eq_true, if_false]
  refine Ev.bind (cnf_Entails_ev v l c (by omega) (fun x hx => by have := s1 x hx; omega) (by omega)) ?_
  by_cases hf : (isFormula v l && within c v) = true
  · rw [Bool.and_eq_true] at hf
    by_cases hv : 16 < v
    · have : entailsOf v l c = (false, 4) := by unfold entailsOf; rw [hf.1, hf.2]; simp [hv]
      rw [this]
      simp only [show ¬ ((4 : Int) = 0) by omega, if_false, Bool.not_false]
      exact Ev.now _
    · have : entailsOf v l c = ((modelsIn v.toNat l).all (holdsIn c), 0) := by unfold entailsOf; rw [hf.1, hf.2]; simp [hv]
      rw [this]
      simp only [if_true]
      refine Ev.bind (depotref00_CopyFormula_ev v l (by omega) (fun x hx => by have := s1 x hx; omega)) ?_
      have hz : ∀ x ∈ c, x ≠ 0 := fun x hx => (formed_iff.1 (within_lit hf.2 hx).1).1
      have hc : countOf v (l ++ opps c) = (((modelsIn v.toNat (l ++ opps c)).length : Int), 0) := by
        unfold countOf
        rw [formula_append hf.1 hf.2]
        simp [hv]
      have h := refutes_l0 v l c ((modelsIn v.toNat l).all (holdsIn c)) true n1 n2 s1 hf.2 (by rw [hc]; simp only [if_true]; rw [no_models v.toNat l c hz]; simp) c.length 0 (by omega)
      rw [List.take_zero, show opps [] = [] from rfl, List.append_nil] at h
      exact h
  · have : entailsOf v l c = (false, 1) := by unfold entailsOf; rw [if_neg hf]
    rw [this]
    simp only [show ¬ ((1 : Int) = 0) by omega, if_false, Bool.not_false]
    exact Ev.now _

end Go.Proofs.Ytggnnnddnppcpaa.Pure
/-! text YtggnnnddnppcpaaRowCnfRefutes -/
namespace Go.Proofs.Ytggnnnddnppcpaa.cnfRefutes
open Go.ChangeShapes Go.WideShapes Go.ChangeAt Go.RowKit Go.Joins
open Go.Proofs.YtggnnnddnppcpaaOpens Go.Proofs.YtggnnnddnppcpaaW.PrintWords Go.Proofs.Ytggnnnddnppcpaa.PCnfRefutes
set_option linter.unusedVariables false
set_option linter.unusedSimpArgs false
theorem own : ownKnob Try.prog.godebug = none := by kernel_rfl
theorem laidOut : laidOutB Try.prog = true := by kernel_rfl
set_option maxRecDepth 100000 in
theorem contract (H : Type) (enc : TypeId × Value → H) (W : World) (base : Nat) (args : Array Value) (ds gs : List (DataW H)) (before : List MemPlace)
    (hval0 : ∀ (j : Nat) t v, Try.f11.params[j]? = some t → args[j]? = some v → Value.okWide Try.prog W .any base t v)
    (hW : DataW.Whole enc Try.prog Try.f11.params.toList Rows.cnfRefutesSpec.vars false W args.toList ds gs before)
    (hsz0 : (DataW.weightsEach Try.prog (Try.f11.params.toList ++ Rows.cnfRefutesSpec.plain.varTypes Try.prog) (ds ++ gs)).all (· ≤ reachBytes) = true) (hk : Rows.uptoSmall H (ds ++ gs) = true) :
    Calls Try.prog 11 args W fun e W' => ∃ v, e = .returned v ∧ Rows.cnfRefutesSpec.post enc Try.prog Try.f11 false true false false W args v W' := by
  have hsz := hsz0
  have hval : ∀ (j : Nat) t v, Try.f11.params[j]? = some t → args[j]? = some v → Value.okWide Try.prog W .any base t v := hval0
  have hW' := hW
  obtain ⟨p, q, hA0, hV, rfl, hfz, hnd⟩ := hW
  have hA : DataW.TrodAll enc Try.prog W 0 (fun _ => true) true Try.f11.params.toList args.toList ds p := hA0
  rw [Try.params11] at hA hval hsz
  obtain ⟨v0, vs0, d0, ds0, p0, q0, hargs, rfl, rfl, h0, r0⟩ := trodAll_cons hA
  obtain ⟨v1, vs1, d1, ds1, p1, q1, rfl, rfl, rfl, h1, r1⟩ := trodAll_cons r0
  obtain ⟨rfl, rfl, rfl⟩ := trodAll_nil r1
  obtain rfl : args = #[v0, v1] := by cases args; simp_all
  obtain ⟨rfl, rfl⟩ := trodVars_none hV
  obtain ⟨cs0, rfl, _⟩ := okWide_struct Try.underlying24 (hval 0 24 v0 rfl rfl)
  have k0 := h0
  have lt0 : ∀ x ∈ p0, x.block < W.heap.size := by obtain ⟨m, hm⟩ := k0; exact DataW.trod_lt m _ _ _ hm
  obtain ⟨a0, hK0, ok0, m0⟩ := struct_arg (opens_struct (opensF_cons (opens_int Try.underlying3 (by kernel_rfl)) (by kernel_rfl) (opensF_last (opens_slice (B := 24) (opens_slice (B := 8) (opens_int Try.underlying3 (by kernel_rfl)) Try.underlying43 (by kernel_rfl) (by kernel_rfl)) Try.underlying22 (by kernel_rfl) (by kernel_rfl)) (by kernel_rfl))) Try.underlying24 (by kernel_rfl)) h0 (reach_of hsz (j := 0) (t := 24) rfl rfl)
  obtain ⟨_, _, hcs0, rfl, ⟨A0_1, c0_1, rfl, hc0_1, hr0_1⟩⟩ := hK0
  obtain rfl : cs0 = #[.int .i64 a0.1, .slice A0_1 a0.2.length c0_1] := by cases cs0; simpa using hcs0
  obtain ⟨A1, len1, c1, rfl⟩ := okWide_slice Try.underlying43 (hval 1 43 v1 rfl rfl)
  have k1 := h1
  have lt1 : ∀ x ∈ p1, x.block < W.heap.size := by obtain ⟨m, hm⟩ := k1; exact DataW.trod_lt m _ _ _ hm
  obtain ⟨l1, rfl, hr1, hc1, ok1, m1⟩ := slice_arg (opens_slice (B := 8) (opens_int Try.underlying3 (by kernel_rfl)) Try.underlying43 (by kernel_rfl) (by kernel_rfl)) h1 (reach_of hsz (j := 1) (t := 43) rfl rfl)
  have hm := bulk_of hk
  simp only [List.append_nil, Rows.uptoBulkAll, Rows.uptoBulk] at hm
  clear hA0 hval0 hsz0 hsz
  refine (PCnfRefutes.walk Pure.CnfRefutes a0.1 A0_1 c0_1 a0.2 A1 c1 l1 W hr0_1 hc0_1 hr1 hc1 ok0 ok1 (by first | omega | (simp only [sumOf] at *; omega))).mono fun e W' ⟨he, bel⟩ => ?_
  subst he
  exact ⟨_, rfl, _, _, _, [], _, [], hW', trodAll_mk1 (shut_bool Try.underlying4 _), (trodAll_cons_mk (Below.trod laidOut (by kernel_rfl) (of_decide_eq_true (by kernel_rfl)) k0 bel lt0) (trodAll_cons_mk (Below.trod laidOut (by kernel_rfl) (of_decide_eq_true (by kernel_rfl)) k1 bel lt1) trodAll_mk0)), rfl, bel.frame _, fun h => by cases h⟩
set_option maxRecDepth 100000 in
theorem lifted (os : Os) (started : os.Started) (H : Type) (enc : TypeId × Value → H) (F : Stop.Interp) :
    ReturnsInHanded {} Try.checked os 11 .any ((Rows.OpenSpec.upto Rows.cnfRefutesSpec).pre6 enc Try.prog Try.f11 Rows.cnfRefutesUptoRow.domain false) (((Rows.OpenSpec.upto Rows.cnfRefutesSpec).at F).post enc Try.prog Try.f11 false true false false) := by
  refine returnsInHanded_of_cond_sized (C := Try.checked) (s := Rows.OpenSpec.upto Rows.cnfRefutesSpec) (k := Rows.uptoSmall) rfl own started (by kernel_rfl) Try.func11
    (OpenSpec.witness (enc := enc) (C := Try.checked) (s := Rows.OpenSpec.upto Rows.cnfRefutesSpec) (k := Rows.uptoSmall) rfl false ⟨#[], #[.agg #[.int .i64 0, .slice none 0 0], .slice none 0 0], []⟩ 8 (by kernel_rfl) (by kernel_rfl) (by kernel_rfl)
      (x := ([.agg [.lit (.int .i64 0), .nil], .nil], [], [])) (by kernel_rfl) rfl (by kernel_rfl)) ?_
  intro W base args ds gs before hval hW _ hk hsz _
  exact contract H enc W base args ds gs before hval hW hsz hk
set_option maxRecDepth 100000 in
theorem over : Rows.cnfRefutesUptoRow.holds Try.pinned (Rows.OpenSpec.upto Rows.cnfRefutesSpec) :=
  OpenClaim.holds_of_cond 11 Try.f11 rfl rfl rfl rfl rfl rfl rfl ⟨rfl, rfl, rfl, rfl, rfl⟩ rfl rfl rfl rfl rfl (by kernel_rfl) Try.func11 (by kernel_rfl)
    (of_decide_eq_true (by kernel_rfl)) (by unfold Func.isWrapper; first | (rw [if_pos (by decide +kernel)]; kernel_rfl) | (rw [if_neg (by decide +kernel)]; exact ⟨rfl, rfl⟩))
    (fun os started H enc _ F => lifted os started H enc F)
theorem proved : Rows.CnfRefutesUptoSaid := over
#print axioms proved
end Go.Proofs.Ytggnnnddnppcpaa.cnfRefutes
namespace Go.Proofs.Ytggnnnddnppcpaa
theorem cnfRefutesupto_holds : Rows.CnfRefutesUptoSaid := cnfRefutes.proved
end Go.Proofs.Ytggnnnddnppcpaa
