/- What cnf.Tidy answers, told on lists; that tidying keeps the models. -/
import Derived.Test.YtggnnnddnppcpaaDoorClCnfTidiesCardg
import Derived.Test.YtggnnnddnppcpaaDoorClCnfTidiesCarde
import Derived.Test.YtggnnnddnppcpaaDoorClCnfTidiesCardf
import Derived.Test.YtggnnnddnppcpaaDoorProg
import Derived.Below
import Derived.Deep.Draws
import Derived.Deep.AppendLies
import Derived.Maps.AppendAt
import Derived.OwnWalk
import Derived.Laws.BytesArg
import Derived.Laws.MakeOwn
import Derived.Laws.OwnMore
import Derived.Deep.OwnRows
import Derived.Tactics
import Derived.Lib.ConvBytes
import Derived.Laws.Slices
import Derived.WalkKit
import Derived.KernelRfl
import Derived.RowKit3
import Derived.Deep.LoopGhost
import Derived.Deep.QuietTactic
import Derived.BigQuiet
import Derived.WideLaws
import Derived.Deep.DeepCutAuto
import Derived.Deep.CutBlock
import Derived.Deep.RegionHeld3
import Derived.Laws.Rows
import Derived.Lib.AppendStr
import Derived.ArgAppend
import Derived.Laws.IdiomCopy
import Derived.OrdersHeld
import Derived.Laws.BitsLemmas
import Derived.RowKit
import Derived.Test.YtggnnnddnppcpaaDoorWWords
import Derived.Test.YtggnnnddnppcpaaDoorWLast
import Derived.Test.YtggnnnddnppcpaaDoorWTab
import Derived.Test.YtggnnnddnppcpaaDoorWFour
import Derived.Test.YtggnnnddnppcpaaDoorWQPut
import Derived.Test.YtggnnnddnppcpaaDoorWApart
import Derived.Test.YtggnnnddnppcpaaDoorWArr
import Derived.Test.YtggnnnddnppcpaaDoorWZeros
import Derived.Test.YtggnnnddnppcpaaDoorWFoot
import Derived.Test.YtggnnnddnppcpaaDoorWKept
import Derived.Test.YtggnnnddnppcpaaDoorWShare
import Derived.Test.YtggnnnddnppcpaaDoorWN
import Derived.Test.YtggnnnddnppcpaaDoorWFootNe
import Derived.Test.YtggnnnddnppcpaaDoorWAt
import Derived.Test.YtggnnnddnppcpaaDoorWEqStruct
import Derived.Test.YtggnnnddnppcpaaDoorWRepsOne
import Derived.Test.YtggnnnddnppcpaaDoorWInv
import Derived.Test.YtggnnnddnppcpaaDoorWInvWords
import Derived.Test.YtggnnnddnppcpaaDoorWGuard
import Derived.Test.YtggnnnddnppcpaaDoorWNEv
import Derived.Test.YtggnnnddnppcpaaDoorWMore
/-! text YtggnnnddnppcpaaDoorCnfTidied -/
namespace Go.Proofs.YtggnnnddnppcpaaDoorMath
open Go.Proofs.YtggnnnddnppcpaaDoorMaps
set_option linter.unusedVariables false
set_option linter.unusedSimpArgs false
/-- the clauses tidied, those that say nothing and those met before left out; P: the tidied ones met before -/
def tidyGo : List (List Int) → List (List Int) → List (List Int)
  | _, [] => []
  | P, c :: r => (if tidyOf c ∈ P ∨ tautIn (tidyOf c) = true then [] else [tidyOf c]) ++ tidyGo (P ++ [tidyOf c]) r
def tidyAll (cs : List (List Int)) : List (List Int) := tidyGo [] cs
theorem tidyGo_append (a b : List (List Int)) : ∀ P, tidyGo P (a ++ b) = tidyGo P a ++ tidyGo (P ++ a.map tidyOf) b := by
  induction a with
  | nil => intro P; simp [tidyGo]
  | cons c r ih => intro P; simp only [List.cons_append, List.nil_append, tidyGo, ih, List.append_assoc, List.map_cons, List.singleton_append]
theorem tidyAll_snoc (cs : List (List Int)) (c : List Int) : tidyAll (cs ++ [c]) = tidyAll cs ++ (if tidyOf c ∈ cs.map tidyOf ∨ tautIn (tidyOf c) = true then [] else [tidyOf c]) := by
  rw [tidyAll, tidyGo_append, tidyAll]
  simp [tidyGo]
theorem tidyAll_take {cs : List (List Int)} {k : Nat} (hk : k < cs.length) : tidyAll (cs.take (k + 1)) = tidyAll (cs.take k) ++ (if tidyOf (cs.getD k []) ∈ (cs.take k).map tidyOf ∨ tautIn (tidyOf (cs.getD k [])) = true then [] else [tidyOf (cs.getD k [])]) := by
  have e : cs.take (k + 1) = cs.take k ++ [cs.getD k []] := by
    rw [List.take_add_one, List.getElem?_eq_getElem hk, List.getD_eq_getElem?_getD, List.getElem?_eq_getElem hk]; rfl
  rw [e, tidyAll_snoc]
theorem tidyGo_length (cs : List (List Int)) : ∀ P, (tidyGo P cs).length ≤ cs.length := by
  induction cs with
  | nil => intro P; exact Nat.le_refl _
  | cons c r ih =>
    intro P
    have := ih (P ++ [tidyOf c])
    simp only [tidyGo, List.length_append, List.length_cons]
    split <;> simp <;> omega
theorem tidyAll_length (cs : List (List Int)) : (tidyAll cs).length ≤ cs.length := tidyGo_length cs []
theorem tidyGo_mem {cs : List (List Int)} : ∀ {P} {t : List Int}, t ∈ tidyGo P cs → ∃ c ∈ cs, t = tidyOf c ∧ tautIn t = false := by
  induction cs with
  | nil => intro P t h; simp [tidyGo] at h
  | cons c r ih =>
    intro P t h
    simp only [tidyGo, List.mem_append] at h
    rcases h with h | h
    · split at h
      · cases h
      · rename_i h1
        rw [List.mem_singleton] at h
        exact ⟨c, List.mem_cons_self, h, by rw [h]; cases hh : tautIn (tidyOf c) with | false => rfl | true => exact absurd (.inr hh) h1⟩
    · obtain ⟨d, h1, h2⟩ := ih h
      exact ⟨d, List.mem_cons_of_mem _ h1, h2⟩
theorem tidyAll_mem {cs : List (List Int)} {t : List Int} (h : t ∈ tidyAll cs) : ∃ c ∈ cs, t = tidyOf c ∧ tautIn t = false := tidyGo_mem h
/-- each clause that says something is there -/
theorem tidyGo_has {cs : List (List Int)} : ∀ {P} {c : List Int}, c ∈ cs → tautIn (tidyOf c) = false → tidyOf c ∈ P ∨ tidyOf c ∈ tidyGo P cs := by
  induction cs with
  | nil => intro P c h; cases h
  | cons d r ih =>
    intro P c h ht
    simp only [tidyGo, List.mem_append]
    rcases List.mem_cons.1 h with rfl | h
    · by_cases hp : tidyOf c ∈ P
      · exact .inl hp
      · right; left
        rw [if_neg (by rintro (h1 | h1); exact hp h1; rw [ht] at h1; cases h1)]
        exact List.mem_singleton.2 rfl
    · rcases ih (P := P ++ [tidyOf d]) h ht with h1 | h1
      · rcases List.mem_append.1 h1 with h1 | h1
        · exact .inl h1
        · rw [List.mem_singleton] at h1
          by_cases hp : tidyOf d ∈ P
          · exact .inl (by rw [h1]; exact hp)
          · right; left
            rw [if_neg (by rintro (h2 | h2); exact hp h2; rw [← h1, ht] at h2; cases h2), h1]
            exact List.mem_singleton.2 rfl
      · exact .inr (.inr h1)
theorem tidyAll_has {cs : List (List Int)} {c : List Int} (h : c ∈ cs) (ht : tautIn (tidyOf c) = false) : tidyOf c ∈ tidyAll cs := (tidyGo_has h ht).elim (fun h => by cases h) id
def tidiedOf (v : Int) (cs : List (List Int)) : Int × List (List Int) × Int := if isFormula v cs = true then (v, tidyAll cs, 0) else (0, [], 1)
/-- a map counts names -/
def NTally (f : List UInt8 → Option Int) (K : List (List Int)) : Prop := ∀ c, (f (nameOf c)).getD 0 = ((K.count c : Nat) : Int)
theorem ntally_snoc {f : List UInt8 → Option Int} {K : List (List Int)} (h : NTally f K) (c : List Int) : NTally (upd f (nameOf c) (((K.count c : Nat) : Int) + 1)) (K ++ [c]) := by
  intro d
  by_cases e : d = c
  · subst e
    rw [upd_same, List.count_append, List.count_singleton_self]
    simp
  · rw [upd_other _ _ (fun e2 => e (nameOf_inj e2)), h d, List.count_append, List.count_singleton]
    simp [show (c == d) = false from beq_eq_false_iff_ne.2 fun e2 => e e2.symm]
theorem tidyOf_small (c : List Int) : (tidyOf c).length ≤ 2097152 := formed_count (tidyOf c) (rising_tidyOf c) (fun _ h => tidyOf_formed h)
end Go.Proofs.YtggnnnddnppcpaaDoorMath
/-! text YtggnnnddnppcpaaDoorTidiesLib -/
namespace Go.Proofs.YtggnnnddnppcpaaDoor.PCnfTidies
open Go.RowKit Go.Proofs.YtggnnnddnppcpaaDoorW.PrintWords Go.Proofs.YtggnnnddnppcpaaDoorW.PrintLast Go.Proofs.YtggnnnddnppcpaaDoorMath
set_option linter.unusedVariables false
set_option linter.unusedSimpArgs false
theorem depotref01_Formed_eq (l : Int) : depotref01_Formed.f l = some (formed l) := by
  unfold depotref01_Formed.f formed
  by_cases h1 : l ≥ 1
  · by_cases h2 : l ≤ 1048576
    · rw [if_pos h1, if_pos h2]; congr 1; symm; simp; omega
    · rw [if_pos h1, if_neg h2, if_pos (by omega)]; congr 1; rw [Bool.eq_iff_iff]; simp; omega
  · by_cases h2 : l ≥ -1048576
    · rw [if_neg h1, if_pos h2]; congr 1; rw [Bool.eq_iff_iff]; simp; omega
    · rw [if_neg h1, if_neg h2]; congr 1; symm; simp; omega
theorem depotref01_Sound_l0 (l : List Int) (hn : l.length ≤ 17592186044416) (d : Nat) : ∀ i : Nat, i + d = l.length → Ev (fun k => depotref01_Sound.l0 k l (i : Int)) (sound (l.drop i)) := by
  induction d with
  | zero =>
    intro i hi
    refine Ev.succ ?_
    simp only [depotref01_Sound.l0]
    have h1 : ¬ ((i : Int) < (l.length : Int)) := by omega
    simp only [h1, if_false]
    rw [List.drop_of_length_le (by omega)]
    exact Ev.now _
  | succ d ih =>
    intro i hi
    refine Ev.succ ?_
    simp only [depotref01_Sound.l0, depotref01_Formed_eq, Option.bind_some]
    have h1 : (i : Int) < (l.length : Int) := by omega
    have h0 : (0 : Int) ≤ (i : Int) := by omega
    simp only [h1, h0, if_true]
    rw [drop_rd (show i < l.length by omega)]
    by_cases hf : formed (rd l i) = true
    · simp only [hf, if_true, w64s (show (i : Int) < 9223372036854775807 by omega), sound, List.all_cons, Bool.true_and]
      exact ih (i + 1) (by omega)
    · simp only [Bool.not_eq_true] at hf
      simp only [hf, Bool.false_eq_true, if_false, sound, List.all_cons, Bool.false_and]
      exact Ev.now _
theorem depotref01_Sound_ev (l : List Int) (hn : l.length ≤ 17592186044416) : Ev (fun k => depotref01_Sound.f k l) (sound l) := depotref01_Sound_l0 l hn l.length 0 (by omega)
theorem depotref02_within_l0 (l : List Int) (v : Int) (hn : l.length ≤ 17592186044416) (hs : sound l = true) (d : Nat) : ∀ i : Nat, i + d = l.length → Ev (fun k => depotref02_within.l0 k l v (i : Int)) ((l.drop i).all fun l => decide (l ≤ v ∧ -l ≤ v)) := by
  induction d with
  | zero =>
    intro i hi
    refine Ev.succ ?_
    simp only [depotref02_within.l0]
    have h1 : ¬ ((i : Int) < (l.length : Int)) := by omega
    simp only [h1, if_false]
    rw [List.drop_of_length_le (by omega)]
    exact Ev.now _
  | succ d ih =>
    intro i hi
    refine Ev.succ ?_
    simp only [depotref02_within.l0]
    have h1 : (i : Int) < (l.length : Int) := by omega
    have h0 : (0 : Int) ≤ (i : Int) := by omega
    simp only [h1, h0, if_true]
    rw [drop_rd (show i < l.length by omega)]
    have hf : formed (rd l i) = true := sound_mem hs (rd_mem (by omega))
    have hb := formed_bd hf
    rw [w64 (x := -(rd l i)) (by omega) (by omega)]
    by_cases hc : rd l i ≤ v ∧ - rd l i ≤ v
    · have h2 : ¬ rd l i > v := by omega
      have h3 : ¬ -(rd l i) > v := by omega
      simp only [h2, h3, if_false, w64s (show (i : Int) < 9223372036854775807 by omega), List.all_cons, decide_eq_true hc, Bool.true_and]
      exact ih (i + 1) (by omega)
    · simp only [List.all_cons, decide_eq_false hc, Bool.false_and]
      by_cases h2 : rd l i > v
      · simp only [h2, if_true]
        exact Ev.now _
      · have h3 : -(rd l i) > v := by omega
        simp only [h2, h3, if_true, if_false]
        exact Ev.now _
theorem depotref02_within_ev (l : List Int) (v : Int) (hn : l.length ≤ 17592186044416) : Ev (fun k => depotref02_within.f k l v) (within l v) := by
  unfold depotref02_within.f within
  refine Ev.bind (depotref01_Sound_ev l hn) ?_
  by_cases hs : sound l = true
  · simp only [hs, if_true, Bool.true_and]
    exact depotref02_within_l0 l v hn hs l.length 0 (by omega)
  · simp only [Bool.not_eq_true] at hs
    simp only [hs, Bool.false_eq_true, if_false, Bool.false_and]
    exact Ev.now _
theorem depotref02_Formed_l0 (v : Int) (cs : List (List Int)) (hn : cs.length ≤ 17592186044416) (hc : ∀ c ∈ cs, c.length ≤ 17592186044416) (d : Nat) : ∀ i : Nat, i + d = cs.length → Ev (fun k => depotref02_Formed.l0 k (i : Int) v cs) ((cs.drop i).all fun c => within c v) := by
  induction d with
  | zero =>
    intro i hi
    refine Ev.succ ?_
    simp only [depotref02_Formed.l0]
    have h1 : ¬ ((i : Int) < (cs.length : Int)) := by omega
    simp only [h1, if_false]
    rw [List.drop_of_length_le (by omega)]
    exact Ev.now _
  | succ d ih =>
    intro i hi
    refine Ev.succ ?_
    simp only [depotref02_Formed.l0, rd_L1]
    have h1 : (i : Int) < (cs.length : Int) := by omega
    have h0 : (0 : Int) ≤ (i : Int) := by omega
    simp only [h1, h0, if_true]
    rw [drop_getD (z := ([] : List Int)) (show i < cs.length by omega), List.all_cons]
    have hm : (cs.getD ((i : Int).toNat) ([] : List Int)).length ≤ 17592186044416 := by
      rw [getD_nat (show i < cs.length by omega)]
      exact hc _ (List.getElem_mem _)
    refine Ev.bind (depotref02_within_ev _ v hm) ?_
    by_cases hf : within (cs.getD ((i : Int).toNat) ([] : List Int)) v = true
    · simp only [hf, if_true, w64s (show (i : Int) < 9223372036854775807 by omega), Bool.true_and]
      exact ih (i + 1) (by omega)
    · simp only [Bool.not_eq_true] at hf
      simp only [hf, Bool.false_eq_true, if_false, Bool.false_and]
      exact Ev.now _
theorem depotref02_Formed_ev (v : Int) (cs : List (List Int)) (hn : cs.length ≤ 17592186044416) (hc : ∀ c ∈ cs, c.length ≤ 17592186044416) : Ev (fun k => depotref02_Formed.f k v cs) (isFormula v cs) := by
  have hj : ∀ b, Ev (fun k => depotref02_Formed.j0 k b v cs) (!b && cs.all fun c => within c v) := by
    intro b
    refine Ev.succ ?_
    simp only [depotref02_Formed.j0]
    cases b with
    | true => exact Ev.now _
    | false => exact depotref02_Formed_l0 v cs hn hc cs.length 0 (by omega)
  unfold depotref02_Formed.f isFormula
  by_cases h0 : v < 0
  · simp only [h0, if_true]
    have := hj true
    rw [decide_eq_false (by omega)]
    simpa using this
  · simp only [h0, if_false]
    have := hj (decide (v > 1048576))
    rw [show (!decide (v > 1048576)) = decide (0 ≤ v ∧ v ≤ 1048576) by rw [Bool.eq_iff_iff]; simp; omega] at this
    exact this
theorem depotref00_SameInts_l0 (a b : List Int) (hn : a.length ≤ 17592186044416) (hl : a.length = b.length) (d : Nat) : ∀ i : Nat, i + d = a.length → Ev (fun k => depotref00_SameInts.l0 k a b (i : Int)) (a.drop i == b.drop i) := by
  induction d with
  | zero =>
    intro i hi
    refine Ev.succ ?_
    simp only [depotref00_SameInts.l0]
    have h1 : ¬ ((i : Int) < (a.length : Int)) := by omega
    simp only [h1, if_false]
    rw [List.drop_of_length_le (by omega), List.drop_of_length_le (by omega)]
    exact Ev.now _
  | succ d ih =>
    intro i hi
    refine Ev.succ ?_
    simp only [depotref00_SameInts.l0]
    have h1 : (i : Int) < (a.length : Int) := by omega
    have h2 : (i : Int) < (b.length : Int) := by omega
    have h0 : (0 : Int) ≤ (i : Int) := by omega
    simp only [h1, h2, h0, if_true]
    rw [drop_rd (show i < a.length by omega), drop_rd (show i < b.length by omega), List.cons_beq_cons]
    by_cases hx : rd a i = rd b i
    · simp only [hx, if_true, beq_self_eq_true, Bool.true_and, w64s (show (i : Int) < 9223372036854775807 by omega)]
      exact ih (i + 1) (by omega)
    · have hx2 : (rd a i == rd b i) = false := by simpa using hx
      simp only [hx, if_false, hx2, Bool.false_and]
      exact Ev.now _
theorem depotref00_SameInts_ev (a b : List Int) (hn : a.length ≤ 17592186044416) : Ev (fun k => depotref00_SameInts.f k a b) (a == b) := by
  unfold depotref00_SameInts.f
  by_cases hl : (a.length : Int) = (b.length : Int)
  · simp only [hl, if_true]
    exact depotref00_SameInts_l0 a b hn (by omega) a.length 0 (by omega)
  · simp only [hl, if_false]
    have : (a == b) = false := by
      rw [beq_eq_false_iff_ne]
      rintro rfl
      exact hl rfl
    rw [this]
    exact Ev.now _
theorem depotref01_Index_eq (l : Int) : depotref01_Index.f l = some (idxOf l) := by
  unfold depotref01_Index.f idxOf
  rw [depotref01_Formed_eq]
  simp only [Option.bind_some]
  by_cases h : formed l = true
  · have := formed_bd h
    have e1 : wrap64 (wrap64 (-2 * l) - 1) = -2 * l - 1 := by unfold wrap64; omega
    have e2 : wrap64 (wrap64 (2 * l) - 2) = 2 * l - 2 := by unfold wrap64; omega
    rw [if_pos h, if_pos h, e1, e2]
    split <;> rfl
  · rw [if_neg h, if_neg h]
theorem depotref01_Equal_l0 (a b : List Int) (hn : a.length ≤ 17592186044416) (he : a.length = b.length) (d : Nat) : ∀ i : Nat, i + d = a.length → Ev (fun k => depotref01_Equal.l0 k a b (i : Int)) (a.drop i == b.drop i) := by
  induction d with
  | zero =>
    intro i hi
    refine Ev.succ ?_
    simp only [depotref01_Equal.l0]
    have h1 : ¬ ((i : Int) < (a.length : Int)) := by omega
    simp only [h1, if_false]
    rw [List.drop_of_length_le (by omega), List.drop_of_length_le (by omega)]
    exact Ev.now _
  | succ d ih =>
    intro i hi
    refine Ev.succ ?_
    simp only [depotref01_Equal.l0]
    have h1 : (i : Int) < (a.length : Int) := by omega
    have h2 : (i : Int) < (b.length : Int) := by omega
    have h0 : (0 : Int) ≤ (i : Int) := by omega
    simp only [h1, h2, h0, if_true]
    rw [drop_rd (show i < a.length by omega), drop_rd (show i < b.length by omega)]
    by_cases hf : rd a i = rd b i
    · simp only [hf, if_true, w64s (show (i : Int) < 9223372036854775807 by omega), List.cons_beq_cons, beq_self_eq_true, Bool.true_and]
      exact ih (i + 1) (by omega)
    · have : (rd a i == rd b i) = false := by simpa using hf
      simp only [hf, if_false, List.cons_beq_cons, this, Bool.false_and]
      exact Ev.now _
theorem depotref01_Equal_ev (a b : List Int) (hn : a.length ≤ 17592186044416) : Ev (fun k => depotref01_Equal.f k a b) (a == b) := by
  unfold depotref01_Equal.f
  by_cases he : a.length = b.length
  · have : (a.length : Int) = (b.length : Int) := by omega
    simp only [this, if_true]
    exact depotref01_Equal_l0 a b hn he a.length 0 (by omega)
  · have : ¬ (a.length : Int) = (b.length : Int) := by omega
    simp only [this, if_false]
    have e : (a == b) = false := by
      simp only [beq_eq_false_iff_ne, ne_eq]
      rintro rfl; exact he rfl
    rw [e]
    exact Ev.now _
theorem depotref01_merged_l0 (a b : List Int) (hn : a.length + b.length ≤ 17592186044416) (n : Nat) : ∀ (i j : Nat) (o : List Int), i ≤ a.length → j ≤ b.length → a.length - i + (b.length - j) ≤ n → o.length + (a.length - i + (b.length - j)) ≤ 17592186044416 →
    Ev (fun k => depotref01_merged.l0 k a b o (i : Int) (j : Int)) (o ++ mg (a.drop i) (b.drop j)) := by
  induction n with
  | zero =>
    intro i j o hi hj hd ho
    refine Ev.succ ?_
    simp only [depotref01_merged.l0]
    have h1 : ¬ ((i : Int) < (a.length : Int)) := by omega
    have h2 : ¬ ((j : Int) < (b.length : Int)) := by omega
    simp only [h1, if_false, decide_eq_false h2]
    refine Ev.succ ?_
    simp only [depotref01_merged.j1, Bool.false_eq_true, if_false]
    rw [List.drop_of_length_le (by omega), List.drop_of_length_le (by omega), mg_nil, List.append_nil]
    exact Ev.now _
  | succ n ih =>
    intro i j o hi hj hd ho
    have h0i : (0 : Int) ≤ (i : Int) := by omega
    have h0j : (0 : Int) ≤ (j : Int) := by omega
    refine Ev.succ ?_
    simp only [depotref01_merged.l0]
    by_cases h1 : i < a.length
    · have h1' : (i : Int) < (a.length : Int) := by omega
      have hii : ¬ (i : Int) = (a.length : Int) := by omega
      simp only [h1', if_true]
      refine Ev.succ ?_
      simp only [depotref01_merged.j1, if_true]
      have hol : o.length < 17592186044416 := by omega
      by_cases h2 : j < b.length
      · have h2' : (j : Int) < (b.length : Int) := by omega
        have hjj : ¬ (j : Int) = (b.length : Int) := by omega
        simp only [hjj, if_false, h1', if_true, h0i, h0j, h2', depotref01_Index_eq, Option.bind_some]
        rw [drop_rd h1, drop_rd h2]
        refine Ev.succ ?_
        by_cases c1 : idxOf (rd a i) < idxOf (rd b j)
        · simp only [depotref01_merged.j2, decide_eq_true c1, if_true, h0i, h1', hol, w64s (show (i : Int) < 9223372036854775807 by omega)]
          rw [mg_lt c1, ← drop_rd h2]
          have := ih (i + 1) j (o ++ [rd a i]) (by omega) hj (by omega) (by simp only [List.length_append, List.length_singleton]; omega)
          simpa using this
        · simp only [depotref01_merged.j2, decide_eq_false c1, Bool.false_eq_true, if_false, hii, h0i, h0j, h1', h2', if_true, depotref01_Index_eq, Option.bind_some]
          by_cases c2 : idxOf (rd b j) < idxOf (rd a i)
          · simp only [c2, if_true, hol, w64s (show (j : Int) < 9223372036854775807 by omega)]
            rw [mg_gt c2, ← drop_rd h1]
            have := ih i (j + 1) (o ++ [rd b j]) hi (by omega) (by omega) (by simp only [List.length_append, List.length_singleton]; omega)
            simpa using this
          · simp only [c2, if_false, hol, if_true, w64s (show (i : Int) < 9223372036854775807 by omega), w64s (show (j : Int) < 9223372036854775807 by omega)]
            rw [mg_eq (by omega)]
            have := ih (i + 1) (j + 1) (o ++ [rd a i]) (by omega) (by omega) (by omega) (by simp only [List.length_append, List.length_singleton]; omega)
            simpa using this
      · have hjj : (j : Int) = (b.length : Int) := by omega
        simp only [hjj, if_true]
        refine Ev.succ ?_
        simp only [depotref01_merged.j2, if_true, h0i, h1', hol, w64s (show (i : Int) < 9223372036854775807 by omega)]
        rw [drop_rd h1, List.drop_of_length_le (show b.length ≤ j by omega), mg_nil']
        have := ih (i + 1) j (o ++ [rd a i]) (by omega) hj (by omega) (by simp only [List.length_append, List.length_singleton]; omega)
        rw [List.drop_of_length_le (show b.length ≤ j by omega), mg_nil', hjj] at this
        simpa using this
    · have h1' : ¬ (i : Int) < (a.length : Int) := by omega
      have hii : (i : Int) = (a.length : Int) := by omega
      simp only [h1', if_false]
      by_cases h2 : j < b.length
      · have h2' : (j : Int) < (b.length : Int) := by omega
        have hjj : ¬ (j : Int) = (b.length : Int) := by omega
        have hol : o.length < 17592186044416 := by omega
        simp only [decide_eq_true h2']
        refine Ev.succ ?_
        simp only [depotref01_merged.j1, if_true, hjj, if_false, h1']
        refine Ev.succ ?_
        simp only [depotref01_merged.j2, Bool.false_eq_true, if_false, hii, if_true, h0j, h2', hol, w64s (show (j : Int) < 9223372036854775807 by omega)]
        rw [drop_rd h2, List.drop_of_length_le (show a.length ≤ i by omega), mg_nil]
        have := ih i (j + 1) (o ++ [rd b j]) hi (by omega) (by omega) (by simp only [List.length_append, List.length_singleton]; omega)
        rw [List.drop_of_length_le (show a.length ≤ i by omega), mg_nil, hii] at this
        simpa using this
      · have h2' : ¬ ((j : Int) < (b.length : Int)) := by omega
        simp only [decide_eq_false h2']
        refine Ev.succ ?_
        simp only [depotref01_merged.j1, Bool.false_eq_true, if_false]
        rw [List.drop_of_length_le (show a.length ≤ i by omega), List.drop_of_length_le (show b.length ≤ j by omega), mg_nil, List.append_nil]
        exact Ev.now _
theorem depotref01_merged_ev (a b : List Int) (hn : a.length + b.length ≤ 17592186044416) : Ev (fun k => depotref01_merged.f k a b) (mg a b) := by
  have := depotref01_merged_l0 a b hn _ 0 0 [] (by omega) (by omega) (Nat.le_refl _) (by simp only [List.length_nil]; omega)
  simpa [depotref01_merged.f] using this
theorem depotref01_Tidy_ev (n : Nat) : ∀ l : List Int, l.length ≤ n → l.length ≤ 17592186044416 → Ev (fun k => depotref01_Tidy.f k l) (tidyOf l) := by
  induction n with
  | zero =>
    intro l h hn
    refine Ev.succ ?_
    have : l = [] := List.eq_nil_of_length_eq_zero (by omega)
    subst this
    simp only [depotref01_Tidy.f, List.length_nil]
    exact Ev.now _
  | succ n ih =>
    intro l h hn
    refine Ev.succ ?_
    match l, h, hn with
    | [], _, _ =>
      simp only [depotref01_Tidy.f, List.length_nil]
      exact Ev.now _
    | [x], _, _ =>
      have e1 : (([x] : List Int).length : Int) = 1 := rfl
      have r0 : rd [x] 0 = x := rfl
      simp only [depotref01_Tidy.f, e1, r0, show ¬ (1 : Int) = 0 by decide, if_false, if_true, show (0 : Int) < 1 by decide, depotref01_Formed_eq, tidyOf_one, Option.bind_some]
      by_cases hf : formed x = true
      · simp only [hf, if_true]; exact Ev.now _
      · simp only [hf, if_false]; exact Ev.now _
    | x :: y :: l, h, hn =>
      simp only [depotref01_Tidy.f]
      generalize hL : x :: y :: l = L at h hn ⊢
      have hL' : 2 ≤ L.length := by rw [← hL]; simp
      have h1 : ¬ (L.length : Int) = 0 := by omega
      have h2 : ¬ (L.length : Int) = 1 := by omega
      have e1 : wrap64 ((L.length : Int) / 2) = ((L.length / 2 : Nat) : Int) := by rw [w64 (by omega) (by omega)]; omega
      have h3 : (0 : Int) ≤ ((L.length / 2 : Nat) : Int) := by omega
      have h4 : ((L.length / 2 : Nat) : Int) ≤ (L.length : Int) := by omega
      simp only [h1, h2, if_false, e1, h3, h4, if_true, Int.toNat_natCast]
      refine Ev.bind (ih (L.take (L.length / 2)) (by simp only [List.length_take]; omega) (by simp only [List.length_take]; omega)) (Ev.bind (ih (L.drop (L.length / 2)) (by simp only [List.length_drop]; omega) (by simp only [List.length_drop]; omega)) ?_)
      have t1 := tidyOf_length (L.take (L.length / 2))
      have t2 := tidyOf_length (L.drop (L.length / 2))
      simp only [List.length_take, List.length_drop] at t1 t2
      refine Ev.bind (depotref01_merged_ev _ _ (by omega)) ?_
      rw [← tidyOf_append, List.take_append_drop]
      exact Ev.now _
theorem depotref01_Tidy_evl (l : List Int) (hn : l.length ≤ 17592186044416) : Ev (fun k => depotref01_Tidy.f k l) (tidyOf l) := depotref01_Tidy_ev l.length l (Nat.le_refl _) hn
theorem depotref01_Taut_l0 (t : List Int) (hf : ∀ x ∈ t, formed x = true) (hn : t.length ≤ 17592186044416) (d : Nat) : ∀ i : Nat, 0 < i → i + d = t.length → Ev (fun k => depotref01_Taut.l0 k t (i : Int)) (tautIn (t.drop (i - 1))) := by
  induction d with
  | zero =>
    intro i h0 hi
    refine Ev.succ ?_
    simp only [depotref01_Taut.l0]
    have h1 : ¬ ((i : Int) < (t.length : Int)) := by omega
    simp only [h1, if_false]
    rw [drop_rd (show i - 1 < t.length by omega), List.drop_of_length_le (by omega)]
    exact Ev.now _
  | succ d ih =>
    intro i h0 hi
    refine Ev.succ ?_
    simp only [depotref01_Taut.l0]
    have h1 : (i : Int) < (t.length : Int) := by omega
    have h2 : (0 : Int) ≤ (i : Int) := by omega
    have h3 : (0 : Int) ≤ ((i - 1 : Nat) : Int) := by omega
    have h4 : ((i - 1 : Nat) : Int) < (t.length : Int) := by omega
    have hb := formed_bd (hf _ (rd_mem (show i - 1 < t.length by omega)))
    have e1 : wrap64 (-(rd t ((i - 1 : Nat) : Int))) = -(rd t ((i - 1 : Nat) : Int)) := by unfold wrap64; omega
    simp only [h1, h2, if_true, w64p h0 (show (i : Int) < 9223372036854775807 by omega), h3, h4, e1, w64s (show (i : Int) < 9223372036854775807 by omega)]
    rw [drop_rd (show i - 1 < t.length by omega), show i - 1 + 1 = i by omega, drop_rd (show i < t.length by omega)]
    have := ih (i + 1) (by omega) (by omega)
    rw [show i + 1 - 1 = i by omega, drop_rd (show i < t.length by omega)] at this
    by_cases c : rd t (i : Int) = -(rd t ((i - 1 : Nat) : Int))
    · have : (rd t (i : Int) == -(rd t ((i - 1 : Nat) : Int))) = true := by simpa using c
      simp only [c, if_true, tautIn, beq_self_eq_true, Bool.true_or]
      exact Ev.now _
    · have e : (rd t (i : Int) == -(rd t ((i - 1 : Nat) : Int))) = false := by simpa using c
      simp only [c, if_false, tautIn, e, Bool.false_or]
      exact this
theorem depotref01_Taut_ev (l : List Int) (hn : l.length ≤ 17592186044416) : Ev (fun k => depotref01_Taut.f k l) (tautIn (tidyOf l)) := by
  unfold depotref01_Taut.f
  have ht := tidyOf_length l
  refine Ev.bind (depotref01_Tidy_evl l hn) ?_
  by_cases h : (tidyOf l).length = 0
  · rw [List.eq_nil_of_length_eq_zero h]
    refine Ev.succ ?_
    simp only [depotref01_Taut.l0]
    exact Ev.now _
  · have := depotref01_Taut_l0 (tidyOf l) (fun _ h => tidyOf_formed h) (by omega) ((tidyOf l).length - 1) 1 (by omega) (by omega)
    simpa using this
theorem depotref01_Same_ev (a b : List Int) (ha : a.length ≤ 17592186044416) (hb : b.length ≤ 17592186044416) : Ev (fun k => depotref01_Same.f k a b) (sound a && (sound b && (tidyOf a == tidyOf b))) := by
  unfold depotref01_Same.f
  have t1 := tidyOf_length a
  refine Ev.bind (depotref01_Sound_ev a ha) ?_
  cases sound a
  · simp only [Bool.false_eq_true, if_false, Bool.false_and]; exact Ev.now _
  · simp only [if_true, Bool.true_and]
    refine Ev.bind (depotref01_Sound_ev b hb) ?_
    cases sound b
    · simp only [Bool.false_eq_true, if_false, Bool.false_and]; exact Ev.now _
    · simp only [if_true, Bool.true_and]
      exact Ev.bind (depotref01_Tidy_evl a ha) (Ev.bind (depotref01_Tidy_evl b hb) (Ev.bind (depotref01_Equal_ev _ _ (by omega)) (Ev.now _)))
theorem drop_L1 {l : List (List Int)} {i : Nat} (h : i < l.length) : l.drop i = rd_L1 l (i : Int) :: l.drop (i + 1) := drop_getD (z := ([] : List Int)) h
theorem rd_L1_mem {l : List (List Int)} {i : Nat} (h : i < l.length) : rd_L1 l (i : Int) ∈ l := by
  have := getD_nat (z := ([] : List Int)) h
  show l.getD ((i : Int).toNat) ([] : List Int) ∈ l
  rw [this]; exact List.getElem_mem h
theorem take_L1 {l : List (List Int)} {i : Nat} (h : i < l.length) : l.take (i + 1) = l.take i ++ [rd_L1 l (i : Int)] := take_getD (z := ([] : List Int)) h
theorem depotref00_SameClauses_l0 (a b : List (List Int)) (hn : a.length ≤ 17592186044416) (hs : ∀ x ∈ a, x.length ≤ 17592186044416) (he : a.length = b.length) (d : Nat) : ∀ i : Nat, i + d = a.length → Ev (fun k => depotref00_SameClauses.l0 k a b (i : Int)) (a.drop i == b.drop i) := by
  induction d with
  | zero =>
    intro i hi
    refine Ev.succ ?_
    have h1 : ¬ ((i : Int) < (a.length : Int)) := by omega
    simp only [depotref00_SameClauses.l0, h1, if_false]
    rw [List.drop_of_length_le (by omega), List.drop_of_length_le (by omega)]
    exact Ev.now _
  | succ d ih =>
    intro i hi
    refine Ev.succ ?_
    have h1 : (i : Int) < (a.length : Int) := by omega
    have h2 : (i : Int) < (b.length : Int) := by omega
    have h0 : (0 : Int) ≤ (i : Int) := by omega
    simp only [depotref00_SameClauses.l0, h1, h2, h0, if_true]
    have hl := hs _ (rd_L1_mem (show i < a.length by omega))
    rw [drop_L1 (show i < a.length by omega), drop_L1 (show i < b.length by omega)]
    refine Ev.bind (depotref00_SameInts_ev _ _ hl) ?_
    rw [List.cons_beq_cons]
    by_cases hf : (rd_L1 a i == rd_L1 b i) = true
    · simp only [hf, if_true, w64s (show (i : Int) < 9223372036854775807 by omega), Bool.true_and]
      exact ih (i + 1) (by omega)
    · simp only [Bool.not_eq_true] at hf
      simp only [hf, Bool.false_eq_true, if_false, Bool.false_and]
      exact Ev.now _
theorem depotref00_SameClauses_ev (a b : List (List Int)) (hn : a.length ≤ 17592186044416) (hs : ∀ x ∈ a, x.length ≤ 17592186044416) : Ev (fun k => depotref00_SameClauses.f k a b) (a == b) := by
  unfold depotref00_SameClauses.f
  by_cases he : a.length = b.length
  · have : (a.length : Int) = (b.length : Int) := by omega
    simp only [this, if_true]
    exact depotref00_SameClauses_l0 a b hn hs he a.length 0 (by omega)
  · have : ¬ (a.length : Int) = (b.length : Int) := by omega
    simp only [this, if_false]
    have e : (a == b) = false := by
      simp only [beq_eq_false_iff_ne, ne_eq]
      rintro rfl; exact he rfl
    rw [e]
    exact Ev.now _
theorem depotref00_SameFormula_ev (v w : Int) (a b : List (List Int)) (hn : a.length ≤ 17592186044416) (hs : ∀ x ∈ a, x.length ≤ 17592186044416) : Ev (fun k => depotref00_SameFormula.f k v a w b) (decide (v = w) && a == b) := by
  unfold depotref00_SameFormula.f
  by_cases h : v = w
  · simp only [h, if_true, decide_true, Bool.true_and]
    exact Ev.bind (depotref00_SameClauses_ev a b hn hs) (Ev.now _)
  · simp only [h, if_false, decide_false, Bool.false_and]
    exact Ev.now _
theorem depotref02_Tidy_l1 (i : Nat) (v v0 : Int) (cs acc : List (List Int)) (r : Int × List (List Int) × Int) (hi : i < cs.length) (hn : cs.length ≤ 5864062014805) (hs : ∀ c ∈ cs, c.length ≤ 17592186044416) (hf : ∀ c ∈ cs, sound c = true) (ha : acc.length < 5864062014805)
    (hk : Ev (fun k => depotref02_Tidy.l0 k (wrap64 ((i : Int) + 1)) v cs v0 (acc ++ (if (cs.take i).any (fun d => tidyOf d == tidyOf (rd_L1 cs (i : Int))) = true then [] else [tidyOf (rd_L1 cs (i : Int))]))) r) (d : Nat) : ∀ j : Nat, j + d = i →
    Ev (fun k => depotref02_Tidy.l1 k (i : Int) ((cs.take j).any (fun d => tidyOf d == tidyOf (rd_L1 cs (i : Int)))) (j : Int) v cs v0 acc) r := by
  have h0 : (0 : Int) ≤ (i : Int) := by omega
  have h1 : (i : Int) < (cs.length : Int) := by omega
  induction d with
  | zero =>
    intro j hj
    obtain rfl : j = i := by omega
    refine Ev.succ ?_
    have h2 : ¬ ((j : Int) < (j : Int)) := by omega
    simp only [depotref02_Tidy.l1, h0, h1, h2, if_true, if_false]
    cases ho : (cs.take j).any (fun d => tidyOf d == tidyOf (rd_L1 cs (j : Int))) with
    | true => simp only [ho, if_true, List.append_nil] at hk ⊢; exact hk
    | false =>
      simp only [ho, Bool.false_eq_true, if_false] at hk ⊢
      refine Ev.bind (depotref01_Tidy_evl _ (hs _ (rd_L1_mem hi))) ?_
      simp only [ha, if_true]
      exact hk
  | succ d ih =>
    intro j hj
    refine Ev.succ ?_
    have hlt : j < cs.length := by omega
    have h2 : (j : Int) < (i : Int) := by omega
    have h3 : (0 : Int) ≤ (j : Int) := by omega
    have h4 : (j : Int) < (cs.length : Int) := by omega
    have next := ih (j + 1) (by omega)
    have e : (cs.take (j + 1)).any (fun d => tidyOf d == tidyOf (rd_L1 cs (i : Int))) = ((cs.take j).any (fun d => tidyOf d == tidyOf (rd_L1 cs (i : Int))) || (tidyOf (rd_L1 cs (j : Int)) == tidyOf (rd_L1 cs (i : Int)))) := by
      have e2 : cs.take (j + 1) = cs.take j ++ [rd_L1 cs (j : Int)] := take_getD hlt
      rw [e2, List.any_append]
      simp
    rw [e] at next
    simp only [depotref02_Tidy.l1, h0, h1, h2, h3, h4, if_true, w64s (show (j : Int) < 9223372036854775807 by omega)]
    refine Ev.bind (depotref01_Same_ev _ _ (hs _ (rd_L1_mem hlt)) (hs _ (rd_L1_mem hi))) ?_
    rw [hf _ (rd_L1_mem hlt), hf _ (rd_L1_mem hi), Bool.true_and, Bool.true_and]
    cases hm : (tidyOf (rd_L1 cs (j : Int)) == tidyOf (rd_L1 cs (i : Int))) with
    | true => simp only [hm, Bool.or_true, if_true] at next ⊢; exact next
    | false => simp only [hm, Bool.or_false, Bool.false_eq_true, if_false] at next ⊢; exact next
theorem depotref02_Tidy_l0 (v v0 : Int) (cs : List (List Int)) (hn : cs.length ≤ 5864062014805) (hs : ∀ c ∈ cs, c.length ≤ 17592186044416) (hf : ∀ c ∈ cs, sound c = true) (d : Nat) : ∀ i : Nat, i + d = cs.length →
    Ev (fun k => depotref02_Tidy.l0 k (i : Int) v cs v0 (tidyAll (cs.take i))) (v0, tidyAll cs, 0) := by
  induction d with
  | zero =>
    intro i hi
    refine Ev.succ ?_
    have h1 : ¬ ((i : Int) < (cs.length : Int)) := by omega
    simp only [depotref02_Tidy.l0, h1, if_false]
    rw [List.take_of_length_le (by omega)]
    exact Ev.now _
  | succ d ih =>
    intro i hi
    refine Ev.succ ?_
    have hlt : i < cs.length := by omega
    have h1 : (i : Int) < (cs.length : Int) := by omega
    have h0 : (0 : Int) ≤ (i : Int) := by omega
    simp only [depotref02_Tidy.l0, h1, h0, if_true]
    have ha : (tidyAll (cs.take i)).length < 5864062014805 := by
      have := tidyAll_length (cs.take i)
      rw [List.length_take] at this
      omega
    have next := ih (i + 1) (by omega)
    have e : tidyAll (cs.take (i + 1)) = tidyAll (cs.take i) ++ (if tidyOf (rd_L1 cs (i : Int)) ∈ (cs.take i).map tidyOf ∨ tautIn (tidyOf (rd_L1 cs (i : Int))) = true then [] else [tidyOf (rd_L1 cs (i : Int))]) := tidyAll_take hlt
    rw [e] at next
    refine Ev.bind (depotref01_Taut_ev _ (hs _ (rd_L1_mem hlt))) ?_
    cases ht : tautIn (tidyOf (rd_L1 cs (i : Int))) with
    | true =>
      rw [if_pos (.inr ht), List.append_nil] at next
      simp only [if_true, w64s (show (i : Int) < 9223372036854775807 by omega)]
      exact next
    | false =>
      simp only [Bool.false_eq_true, if_false]
      have hk : Ev (fun k => depotref02_Tidy.l0 k (wrap64 ((i : Int) + 1)) v cs v0 (tidyAll (cs.take i) ++ (if (cs.take i).any (fun d => tidyOf d == tidyOf (rd_L1 cs (i : Int))) = true then [] else [tidyOf (rd_L1 cs (i : Int))]))) (v0, tidyAll cs, 0) := by
        rw [w64s (show (i : Int) < 9223372036854775807 by omega)]
        have hiff : ((cs.take i).any (fun d => tidyOf d == tidyOf (rd_L1 cs (i : Int))) = true) ↔ tidyOf (rd_L1 cs (i : Int)) ∈ (cs.take i).map tidyOf := by
          rw [List.any_eq_true, List.mem_map]
          constructor
          · rintro ⟨d, h1, h2⟩; exact ⟨d, h1, by simpa using h2⟩
          · rintro ⟨d, h1, h2⟩; exact ⟨d, h1, by simpa using h2⟩
        by_cases hm : tidyOf (rd_L1 cs (i : Int)) ∈ (cs.take i).map tidyOf
        · rw [if_pos (.inl hm)] at next
          rw [if_pos (hiff.2 hm)]
          exact next
        · rw [if_neg (by rintro (h | h); exact hm h; rw [ht] at h; cases h)] at next
          rw [if_neg (fun h => hm (hiff.1 h))]
          exact next
      have := depotref02_Tidy_l1 i v v0 cs (tidyAll (cs.take i)) _ hlt hn hs hf ha hk i 0 (by omega)
      simpa using this
theorem depotref02_Tidy_ev (v : Int) (cs : List (List Int)) (hn : cs.length ≤ 5864062014805) (hs : ∀ c ∈ cs, c.length ≤ 17592186044416) : Ev (fun k => depotref02_Tidy.f k v cs) (tidiedOf v cs) := by
  unfold depotref02_Tidy.f tidiedOf
  refine Ev.bind (depotref02_Formed_ev v cs (by omega) hs) ?_
  cases h1 : isFormula v cs with
  | false => simp only [Bool.false_eq_true, if_false]; exact Ev.now _
  | true =>
    simp only [if_true]
    have hf : ∀ c ∈ cs, sound c = true := fun c hc => by
      have := isFormula_clause h1 hc
      unfold within at this
      rw [Bool.and_eq_true] at this
      exact this.1
    have := depotref02_Tidy_l0 v v cs hn hs hf cs.length 0 (by omega)
    rw [List.take_zero] at this
    exact this
end Go.Proofs.YtggnnnddnppcpaaDoor.PCnfTidies
/-! text YtggnnnddnppcpaaDoorGCnfMeansx0 -/
namespace Go.Proofs.YtggnnnddnppcpaaDoor.PCnfMeans
open Go.RowKit Go.Proofs.YtggnnnddnppcpaaDoorW.PrintWords Go.Proofs.YtggnnnddnppcpaaDoorW.PrintLast Go.Proofs.YtggnnnddnppcpaaDoorW.PrintMore
attribute [local go_sem] max2_int min2_int max_two min_two max_three min_three max_four min_four   -- for this text's walks alone
set_option linter.unusedVariables false
set_option linter.unusedSimpArgs false



def errW : Option Int → Value
  | none => .nilIface
  | some c => .iface 0 (.int .i64 c)
theorem errW_none : errW none = .nilIface := rfl
theorem errW_some (c : Int) : errW (some c) = .iface 0 (.int .i64 c) := rfl

theorem info3 : (Tryd.prog.info? 3).map (fun i => (i.zero, i.size, i.bytes)) = some (some (.int .i64 0), 1, 8) := by kernel_rfl
theorem info4 : (Tryd.prog.info? 4).map (fun i => (i.zero, i.size, i.bytes)) = some (some (.bool false), 1, 1) := by kernel_rfl
theorem info40 : (Tryd.prog.info? 40).map (fun i => (i.zero, i.size, i.bytes)) = some (some (.slice none 0 0), 1, 24) := by kernel_rfl
-- the values' own types
def rd_L1 (xs : List (List Int)) (i : Int) : (List Int) := xs.getD i.toNat ([] : List Int)
theorem at_L1 {w : World} {A : Option Addr} {n : Nat} {xs : List (List Int)} (h : Kd.C (Kd.slice 3 (Kd.int .i64)) w A n xs) (i : Int) (h0 : 0 ≤ i) (h1 : i < n) : ∃ ad A0 c0, A = some ad ∧ w.cell? (ad.add i.toNat) = some (.slice A0 (rd_L1 xs i).length c0) ∧ (rd_L1 xs i).length ≤ c0 ∧ (Kd.int .i64).C w A0 (rd_L1 xs i).length (rd_L1 xs i) := by
  obtain ⟨ad, c, e, _, hK, hc0⟩ := Kd.C_get h ([] : List Int) i h0 h1
  have hc : ∀ j u, c[j]? = some u → w.cell? (ad.add (i.toNat * 1 + j)) = some u := hc0
  obtain ⟨A0, c0, rfl, l0, g0⟩ := hK
  exact ⟨ad, A0, c0, e, by have hq := hc 0 _ rfl; rwa [Nat.mul_one, Nat.add_zero] at hq, l0, g0⟩

end Go.Proofs.YtggnnnddnppcpaaDoor.PCnfMeans
