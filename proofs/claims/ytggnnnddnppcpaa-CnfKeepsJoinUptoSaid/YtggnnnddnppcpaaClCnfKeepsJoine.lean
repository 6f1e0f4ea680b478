/- Plain words on numbers and lists that the laws' statements are told in; rounds. -/
import Derived.Test.YtggnnnddnppcpaaClCnfKeepsJoinp0
import Derived.Test.YtggnnnddnppcpaaClCnfKeepsJoinp23
import Derived.Lib.SlicesCompact
import Derived.Sort.Statements
import Derived.Test.YtggnnnddnppcpaaProg
import Derived.Test.YtggnnnddnppcpaaClCnfKeepsJoinp1
import Derived.Test.YtggnnnddnppcpaaClCnfKeepsJoinp7
import Derived.Test.YtggnnnddnppcpaaClCnfKeepsJoinp8
import Derived.Test.YtggnnnddnppcpaaClCnfKeepsJoinp9
import Derived.Test.YtggnnnddnppcpaaClCnfKeepsJoinp2
import Derived.Test.YtggnnnddnppcpaaClCnfKeepsJoinp3
import Derived.Test.YtggnnnddnppcpaaClCnfKeepsJoinp10
import Derived.Test.YtggnnnddnppcpaaClCnfKeepsJoinp4
import Derived.Test.YtggnnnddnppcpaaClCnfKeepsJoinp5
import Derived.Test.YtggnnnddnppcpaaClCnfKeepsJoinp6
import Derived.Test.YtggnnnddnppcpaaClCnfKeepsJoinp11
import Derived.Test.YtggnnnddnppcpaaClCnfKeepsJoinp12
import Derived.Test.YtggnnnddnppcpaaClCnfKeepsJoinp13
import Derived.Test.YtggnnnddnppcpaaClCnfKeepsJoinp20
import Derived.Shelf.Small.Bits
import Derived.Shelf.Strconv.Itoa0
import Derived.Ground.Names2Prog
import Derived.Shelf.Slices.CompactI
import Derived.Ground.SlgnProg
import Derived.Shelf.SlicesE.Compact
import Derived.Ground.SlgfProg
import Derived.Shelf.SlicesE.IndexFunc
import Derived.Shelf.SlicesE.DeleteFunc
import Derived.Ground.SlsfProg
import Derived.Shelf.SlSortCmp.Insertion
import Derived.Shelf.SlSortCmp.SiftDown1
import Derived.Shelf.SlSortCmp.HeapSort1
import Derived.Shelf.SlSortCmp.Insertion1
import Derived.Shelf.SlSortCmp.Median1
import Derived.Shelf.SlSortCmp.Pivot1
import Derived.Shelf.SlSortCmp.ReverseRange1
import Derived.Shelf.SlSortCmp.PartialInsertion1
import Derived.Shelf.SlSortCmp.PartitionEqual1
import Derived.Shelf.SlSortCmp.Partition1
import Derived.Shelf.SlSortCmp.Pdq1
import Derived.Shelf.SlSortCmp.Whole1
import Derived.Shelf.SlCmpFuncs.BinarySearchFunc
import Derived.Shelf.SlCmpFuncs.None
import Derived.Ground.SlsgProg
import Derived.Shelf.Spec.SlicesGrow
import Derived.Ground.Names8Prog
import Derived.Sort.OwnSortedInts
import Derived.Lib.RowBridge
import Derived.Deep.RegionHeld3
import Derived.Test.YtggnnnddnppcpaaClCnfKeepsJoinc
import Derived.Test.YtggnnnddnppcpaaClCnfKeepsJoind
/-! text YtggnnnddnppcpaaMath -/
namespace Go.Proofs.YtggnnnddnppcpaaMath
open Go.RowKit Go.Proofs.YtggnnnddnppcpaaW.PrintWords
set_option linter.unusedVariables false
set_option linter.unusedSimpArgs false

theorem Ev.succ {α : Type} {g : Nat → Option α} {r : α} (h : Ev (fun k => g (k + 1)) r) : Ev g r := Ev.step (fun _ => rfl) h
theorem Ev.bound {α β : Type} {x : Option α} {f : Nat → α → Option β} {a : α} {r : β} (h : x = some a) (k : Ev (fun n => f n a) r) : Ev (fun n => x.bind (f n)) r := by
  subst h
  exact k
theorem Ev.fixed {α : Type} {x : Option α} {r : α} (h : x = some r) : Ev (fun _ => x) r := by
  subst h
  exact Ev.now _

theorem w64 {x : Int} (h1 : -9223372036854775808 ≤ x) (h2 : x ≤ 9223372036854775807) : wrap64 x = x := by
  unfold wrap64
  omega
theorem w64s {i : Nat} (h : (i : Int) < 9223372036854775807) : wrap64 ((i : Int) + 1) = ((i + 1 : Nat) : Int) := by
  rw [w64 (by omega) (by omega)]
  omega
/-! reading -/
theorem rd_nat {l : List Int} {i : Nat} (h : i < l.length) : rd l (i : Int) = l[i] := by
  simp [rd, List.getD_eq_getElem?_getD, List.getElem?_eq_getElem h]
theorem drop_rd {l : List Int} {i : Nat} (h : i < l.length) : l.drop i = rd l (i : Int) :: l.drop (i + 1) := by
  rw [rd_nat h]
  exact List.drop_eq_getElem_cons h
theorem rd_mem {l : List Int} {i : Nat} (h : i < l.length) : rd l (i : Int) ∈ l := by
  rw [rd_nat h]
  exact List.getElem_mem h
theorem getD_nat {α : Type} {z : α} {l : List α} {i : Nat} (h : i < l.length) : l.getD ((i : Int).toNat) z = l[i] := by
  simp [List.getD_eq_getElem?_getD, List.getElem?_eq_getElem h]
theorem drop_getD {α : Type} {z : α} {l : List α} {i : Nat} (h : i < l.length) : l.drop i = l.getD ((i : Int).toNat) z :: l.drop (i + 1) := by
  rw [getD_nat h]
  exact List.drop_eq_getElem_cons h
theorem take_snoc {α : Type} {l : List α} {i : Nat} (h : i < l.length) : l.take (i + 1) = l.take i ++ [l[i]] := by
  rw [List.take_succ_eq_append_getElem h]
theorem take_rd {l : List Int} {i : Nat} (h : i < l.length) : l.take (i + 1) = l.take i ++ [rd l (i : Int)] := by
  rw [rd_nat h]; exact take_snoc h
theorem take_getD {α : Type} {z : α} {l : List α} {i : Nat} (h : i < l.length) : l.take (i + 1) = l.take i ++ [l.getD ((i : Int).toNat) z] := by
  rw [getD_nat h]; exact take_snoc h

/-! literals -/
def formed (l : Int) : Bool := decide (l ≠ 0 ∧ -1048576 ≤ l ∧ l ≤ 1048576)
theorem formed_iff {l : Int} : formed l = true ↔ l ≠ 0 ∧ -1048576 ≤ l ∧ l ≤ 1048576 := by simp [formed]
def sound (c : List Int) : Bool := c.all formed
def has (c : List Int) (l : Int) : Bool := formed l && c.contains l
def varOf (l : Int) : Int := if formed l = true then (if l < 0 then -l else l) else 0
def within (c : List Int) (v : Int) : Bool := sound c && c.all fun l => decide (l ≤ v ∧ -l ≤ v)
def isFormula (v : Int) (cs : List (List Int)) : Bool := decide (0 ≤ v ∧ v ≤ 1048576) && cs.all fun c => within c v
theorem formed_bd {l : Int} (h : formed l = true) : -1048576 ≤ l ∧ l ≤ 1048576 := by
  rw [formed_iff] at h
  omega
theorem sound_mem {c : List Int} (h : sound c = true) {l : Int} (hl : l ∈ c) : formed l = true := List.all_eq_true.1 h l hl

/-- The numbers of those of which p holds, from number i on. -/
def idxs {α : Type} (p : α → Bool) : Nat → List α → List Int
  | _, [] => []
  | i, c :: cs => if p c = true then (i : Int) :: idxs p (i + 1) cs else idxs p (i + 1) cs
/-! models -/
def truth (m : List Bool) (l : Int) : Bool := (m.getD (l.natAbs - 1) false) == decide (l > 0)
def holdsIn (c : List Int) (m : List Bool) : Bool := c.any (truth m)
def allIn (cs : List (List Int)) (m : List Bool) : Bool := cs.all fun c => holdsIn c m
def fitsIn (v : Int) (cs : List (List Int)) (m : List Bool) : Bool := isFormula v cs && decide ((m.length : Int) = v)
def satisfies (v : Int) (cs : List (List Int)) (m : List Bool) : Bool := fitsIn v cs m && allIn cs m
def falses (v : Int) (cs : List (List Int)) (m : List Bool) : List Int := if fitsIn v cs m = true then idxs (fun c => !holdsIn c m) 0 cs else []
def sizeFrom : Int → List (List Int) → Int
  | a, [] => a
  | a, c :: cs => sizeFrom (wrap64 (a + (c.length : Int))) cs
/-! counting -/
def cnt : List Bool → Nat
  | [] => 0
  | b :: bs => (if b = true then 1 else 0) + cnt bs
def rowF (c : Nat) : Nat → Nat → List Bool
  | _, 0 => []
  | j, d + 1 => decide (c > j) :: rowF c (j + 1) d
def fillF (k : Nat) : Nat → List Bool → List Bool
  | _, [] => []
  | c, b :: bs => rowF (if b = true then c + 1 else c) 0 k ++ fillF k (if b = true then c + 1 else c) bs
def fillOf (on : List Bool) (k : Int) : List Bool × Int :=
  if k < 0 ∨ (cnt on : Int) > k then ([], 2) else if k = 0 ∨ k ≥ (on.length : Int) then ([], 0) else (fillF k.toNat 0 (on.take (on.length - 1)), 0)

/-! places -/
def idxOf (l : Int) : Int := if formed l = true then (if l < 0 then -2 * l - 1 else 2 * l - 2) else -1
def atOf (i : Int) : Int := if 0 ≤ i ∧ i < 2097152 then (if i % 2 = 1 then -(i / 2 + 1) else i / 2 + 1) else 0

end Go.Proofs.YtggnnnddnppcpaaMath
/-! text YtggnnnddnppcpaaCnfLib -/
namespace Go.Proofs.Ytggnnnddnppcpaa.PCnfTold
open Go.RowKit Go.Proofs.YtggnnnddnppcpaaW.PrintWords Go.Proofs.YtggnnnddnppcpaaW.PrintLast Go.Proofs.YtggnnnddnppcpaaMath
set_option linter.unusedVariables false
set_option linter.unusedSimpArgs false
theorem lits_Formed_eq (l : Int) : lits_Formed.f l = some (formed l) := by
  unfold lits_Formed.f formed
  by_cases h0 : l = 0
  · simp [h0]
  · by_cases h1 : l ≥ -1048576
    · rw [if_neg h0, if_pos h1]; congr 1; rw [Bool.eq_iff_iff]; simp; omega
    · rw [if_neg h0, if_neg h1]; congr 1; symm; simp; omega
theorem lits_Var_eq (l : Int) : lits_Var.f l = some (varOf l) := by
  unfold lits_Var.f varOf
  rw [lits_Formed_eq]
  simp only [Option.bind_some]
  by_cases h : formed l = true
  · have := formed_bd h
    rw [if_pos h, if_pos h, w64 (by omega) (by omega)]
    split <;> rfl
  · rw [if_neg h, if_neg h]
theorem lits_Sound_l0 (l : List Int) (hn : l.length ≤ 17592186044416) (d : Nat) : ∀ i : Nat, i + d = l.length → Ev (fun k => lits_Sound.l0 k l (l.length : Int) (i : Int)) (sound (l.drop i)) := by
  induction d with
  | zero =>
    intro i hi
    refine Ev.succ ?_
    simp only [lits_Sound.l0]
    have h1 : ¬ ((i : Int) < (l.length : Int)) := by omega
    simp only [h1, if_false]
    rw [List.drop_of_length_le (by omega)]
    exact Ev.now _
  | succ d ih =>
    intro i hi
    refine Ev.succ ?_
    simp only [lits_Sound.l0, lits_Formed_eq, Option.bind_some]
    have h1 : (i : Int) < (l.length : Int) := by omega
    have h0 : (0 : Int) ≤ (i : Int) := by omega
    simp only [h1, h0, if_true]
    rw [drop_rd (show i < l.length by omega)]
    by_cases hf : formed (rd l i) = true
    · simp only [hf, if_true, w64s (show (i : Int) < 9223372036854775807 by omega), sound, List.all_cons, Bool.true_and]
      exact ih (i + 1) (by omega)
    · simp only [Bool.not_eq_true] at hf
      simp only [hf, Bool.false_eq_true, if_false, sound, List.all_cons, Bool.false_and]
      exact Ev.now _
theorem lits_Sound_ev (l : List Int) (hn : l.length ≤ 17592186044416) : Ev (fun k => lits_Sound.f k l) (sound l) := lits_Sound_l0 l hn l.length 0 (by omega)
theorem cnf_within_l0 (l : List Int) (v : Int) (hn : l.length ≤ 17592186044416) (hs : sound l = true) (d : Nat) : ∀ i : Nat, i + d = l.length → Ev (fun k => cnf_within.l0 k v l (l.length : Int) (i : Int)) ((l.drop i).all fun l => decide (l ≤ v ∧ -l ≤ v)) := by
  induction d with
  | zero =>
    intro i hi
    refine Ev.succ ?_
    simp only [cnf_within.l0]
    have h1 : ¬ ((i : Int) < (l.length : Int)) := by omega
    simp only [h1, if_false]
    rw [List.drop_of_length_le (by omega)]
    exact Ev.now _
  | succ d ih =>
    intro i hi
    refine Ev.succ ?_
    simp only [cnf_within.l0, lits_Var_eq, Option.bind_some]
    have h1 : (i : Int) < (l.length : Int) := by omega
    have h0 : (0 : Int) ≤ (i : Int) := by omega
    simp only [h1, h0, if_true]
    rw [drop_rd (show i < l.length by omega)]
    have hf : formed (rd l i) = true := sound_mem hs (rd_mem (by omega))
    have hv : varOf (rd l i) > v ↔ ¬ (rd l i ≤ v ∧ - rd l i ≤ v) := by
      unfold varOf
      rw [if_pos hf]
      split <;> omega
    by_cases hc : rd l i ≤ v ∧ - rd l i ≤ v
    · have h2 : ¬ varOf (rd l i) > v := fun h => hv.1 h hc
      simp only [h2, if_false, w64s (show (i : Int) < 9223372036854775807 by omega), List.all_cons, decide_eq_true hc, Bool.true_and]
      exact ih (i + 1) (by omega)
    · have h2 : varOf (rd l i) > v := hv.2 hc
      simp only [h2, if_true, List.all_cons, decide_eq_false hc, Bool.false_and]
      exact Ev.now _
theorem cnf_within_ev (l : List Int) (v : Int) (hn : l.length ≤ 17592186044416) : Ev (fun k => cnf_within.f k l v) (within l v) := by
  unfold cnf_within.f within
  refine Ev.bind (lits_Sound_ev l hn) ?_
  by_cases hs : sound l = true
  · simp only [hs, if_true, Bool.true_and]
    exact cnf_within_l0 l v hn hs l.length 0 (by omega)
  · simp only [Bool.not_eq_true] at hs
    simp only [hs, Bool.false_eq_true, if_false, Bool.false_and]
    exact Ev.now _
theorem cnf_Formed_l0 (v : Int) (cs : List (List Int)) (hn : cs.length ≤ 17592186044416) (hc : ∀ c ∈ cs, c.length ≤ 17592186044416) (d : Nat) : ∀ i : Nat, i + d = cs.length → Ev (fun k => cnf_Formed.l0 k cs (cs.length : Int) (i : Int) v cs) ((cs.drop i).all fun c => within c v) := by
  induction d with
  | zero =>
    intro i hi
    refine Ev.succ ?_
    simp only [cnf_Formed.l0]
    have h1 : ¬ ((i : Int) < (cs.length : Int)) := by omega
    simp only [h1, if_false]
    rw [List.drop_of_length_le (by omega)]
    exact Ev.now _
  | succ d ih =>
    intro i hi
    refine Ev.succ ?_
    simp only [cnf_Formed.l0, rd_L1]
    have h1 : (i : Int) < (cs.length : Int) := by omega
    have h0 : (0 : Int) ≤ (i : Int) := by omega
    simp only [h1, h0, if_true]
    rw [drop_getD (z := ([] : List Int)) (show i < cs.length by omega), List.all_cons]
    have hm : (cs.getD ((i : Int).toNat) ([] : List Int)).length ≤ 17592186044416 := by
      rw [getD_nat (show i < cs.length by omega)]
      exact hc _ (List.getElem_mem _)
    refine Ev.bind (cnf_within_ev _ v hm) ?_
    by_cases hf : within (cs.getD ((i : Int).toNat) ([] : List Int)) v = true
    · simp only [hf, if_true, w64s (show (i : Int) < 9223372036854775807 by omega), Bool.true_and]
      exact ih (i + 1) (by omega)
    · simp only [Bool.not_eq_true] at hf
      simp only [hf, Bool.false_eq_true, if_false, Bool.false_and]
      exact Ev.now _
theorem cnf_Formed_ev (v : Int) (cs : List (List Int)) (hn : cs.length ≤ 17592186044416) (hc : ∀ c ∈ cs, c.length ≤ 17592186044416) : Ev (fun k => cnf_Formed.f k v cs) (isFormula v cs) := by
  have hj : ∀ b, Ev (fun k => cnf_Formed.j0 k b v cs) (!b && cs.all fun c => within c v) := by
    intro b
    refine Ev.succ ?_
    simp only [cnf_Formed.j0]
    cases b with
    | true => exact Ev.now _
    | false => exact cnf_Formed_l0 v cs hn hc cs.length 0 (by omega)
  unfold cnf_Formed.f isFormula
  by_cases h0 : v < 0
  · simp only [h0, if_true]
    have := hj true
    rw [decide_eq_false (by omega)]
    simpa using this
  · simp only [h0, if_false]
    have := hj (decide (v > 1048576))
    rw [show (!decide (v > 1048576)) = decide (0 ≤ v ∧ v ≤ 1048576) by rw [Bool.eq_iff_iff]; simp; omega] at this
    exact this
end Go.Proofs.Ytggnnnddnppcpaa.PCnfTold
/-! text YtggnnnddnppcpaaCnfFormed -/
namespace Go.Proofs.YtggnnnddnppcpaaHand
open Go.RowKit Go.Proofs.YtggnnnddnppcpaaW.PrintWords Go.Proofs.YtggnnnddnppcpaaW.PrintLast Go.Proofs.YtggnnnddnppcpaaMath
open Go.Proofs.Ytggnnnddnppcpaa.PCnfTold
set_option linter.unusedVariables false
set_option linter.unusedSimpArgs false
theorem isFormula_calls (v : Int) (A0 : Option Addr) (c0 : Nat) (cs : List (List Int)) (w : World) (hr0 : Kd.C (Kd.slice 3 (Kd.int .i64)) w A0 cs.length cs) (hc0 : cs.length ≤ c0) (hn : cs.length ≤ 17592186044416) (hs : ∀ c ∈ cs, c.length ≤ 17592186044416) :
    Calls Try.prog 16 #[.agg #[.int .i64 v, .slice A0 cs.length c0]] w fun e w' => e = .returned (.bool (isFormula v cs)) ∧ Below w.heap.size w w' := by
  obtain ⟨k, h⟩ := (cnf_Formed_ev v cs hn hs).rounds
  exact cnf_Formed.calls k v A0 c0 cs _ w hr0 hc0 h
end Go.Proofs.YtggnnnddnppcpaaHand
/-! text YtggnnnddnppcpaaTidyMath -/
namespace Go.Proofs.YtggnnnddnppcpaaMath
open Go.RowKit Go.Proofs.YtggnnnddnppcpaaW.PrintWords
set_option linter.unusedVariables false
set_option linter.unusedSimpArgs false

/-- rising by place -/
def Rising (t : List Int) : Prop := t.Pairwise fun a b => idxOf a < idxOf b
def ins (x : Int) : List Int → List Int
  | [] => [x]
  | y :: t => if idxOf x < idxOf y then x :: y :: t else if x = y then y :: t else y :: ins x t
def tidyOf : List Int → List Int
  | [] => []
  | x :: c => if formed x = true then ins x (tidyOf c) else tidyOf c

/-! what a sort by place and slices.Compact leave -/
def byIdx (a b : Int) : Int := idxOf a - idxOf b
end Go.Proofs.YtggnnnddnppcpaaMath
/-! text YtggnnnddnppcpaaLitsFormed -/
namespace Go.Proofs.YtggnnnddnppcpaaHand
open Go.RowKit Go.Proofs.YtggnnnddnppcpaaW.PrintWords Go.Proofs.YtggnnnddnppcpaaW.PrintLast Go.Proofs.YtggnnnddnppcpaaMath
set_option linter.unusedVariables false
set_option linter.unusedSimpArgs false

end Go.Proofs.YtggnnnddnppcpaaHand
/-! text YtggnnnddnppcpaaLitsBase -/
namespace Go.Proofs.YtggnnnddnppcpaaHand
open Go.RowKit Go.Proofs.YtggnnnddnppcpaaW.PrintWords Go.Proofs.YtggnnnddnppcpaaW.PrintLast Go.Proofs.YtggnnnddnppcpaaMath
set_option linter.unusedVariables false
set_option linter.unusedSimpArgs false

end Go.Proofs.YtggnnnddnppcpaaHand
/-! text YtggnnnddnppcpaaShelf -/
namespace Go.Proofs
open Go.Shelf
def Try.searchF_ren : Go.Shelf.Ren := ⟨fun | 14 => 88 | n => n, fun | 22 => 43 | 24 => 3 | 29 => 3 | 32 => 77 | 3 => 3 | 4 => 4 | 35 => 102 | 0 => 0 | n => n, fun | n => n⟩
def Try.deleteF_ren : Go.Shelf.Ren := ⟨fun | 10 => 100 | 6 => 114 | n => n, fun | 22 => 43 | 23 => 3 | 25 => 96 | 3 => 3 | 4 => 4 | 0 => 0 | n => n, fun | n => n⟩
def Try.growF_ren : Go.Shelf.Ren := ⟨fun | 4 => 113 | n => n, fun | 22 => 43 | 25 => 3 | 3 => 3 | 4 => 4 | 9 => 9 | 20 => 20 | 0 => 0 | n => n, fun | n => n⟩
def Try.laysNm220_ren : Go.Shelf.Ren := ⟨fun | 20 => 91 | n => n, fun | 22 => 43 | 3 => 3 | 4 => 4 | 0 => 0 | n => n, fun | n => n⟩
def Try.laysSlF6_f90_ren : Go.Shelf.Ren := ⟨fun | 6 => 90 | 15 => 98 | 14 => 97 | 28 => 111 | 29 => 112 | 20 => 103 | 21 => 104 | 22 => 105 | 23 => 106 | 24 => 107 | 25 => 108 | 26 => 109 | 27 => 110 | 46 => 115 | 47 => 116 | 48 => 117 | 49 => 118 | 50 => 119 | 57 => 120 | n => n, fun | 22 => 43 | 24 => 3 | 25 => 77 | 3 => 3 | 39 => 102 | 0 => 0 | 53 => 115 | 55 => 117 | 4 => 4 | 46 => 109 | 45 => 108 | 50 => 97 | 5 => 5 | 9 => 9 | 66 => 119 | 70 => 123 | 76 => 125 | 77 => 126 | n => n, fun | n => n⟩
end Go.Proofs
/-! text YtggnnnddnppcpaaTidy -/
namespace Go.Proofs.YtggnnnddnppcpaaHand
open Go.RowKit Go.Sort Go.Lib Go.Shelf Go.Proofs.YtggnnnddnppcpaaW.PrintWords Go.Proofs.YtggnnnddnppcpaaW.PrintLast Go.Proofs.YtggnnnddnppcpaaMath
set_option linter.unusedVariables false
set_option linter.unusedSimpArgs false

/-! rows of ints of the call's own -/
abbrev OwnInts (W : World) (base : Nat) (v : Value) (xs : List Int) : Prop := W.ownsRow base 3 1 v xs.length (nums .i64 xs)
theorem own_R {W : World} {base : Nat} {v : Value} {xs : List Int} (h : OwnInts W base v xs) : Kd.R (Kd.int .i64) 3 W base (fun _ => True) v xs := by
  have hl : xs.length * 1 = xs.length := Nat.mul_one _
  refine ⟨fun _ _ => trivial, ⟨nums .i64 xs, h, ?_⟩⟩
  refine ⟨by simp [nums, Kd.int, Kd.scalar], ?_⟩
  intro j p hj
  have hlt : j < xs.length := by
    rcases Nat.lt_or_ge j xs.length with h | h
    · exact h
    · rw [List.getElem?_eq_none h] at hj
      cases hj
  have e : xs[j] = p := by
    rw [List.getElem?_eq_getElem hlt] at hj
    exact Option.some.inj hj
  show ((nums .i64 xs).drop (j * 1)).take 1 = [Value.int .i64 p]
  rw [Nat.mul_one, nums, ← List.map_drop, ← List.map_take]
  rw [List.drop_eq_getElem_cons hlt, e]
  rfl
/-- The same row, its cells written anew by the library. -/
theorem own_put {W : World} {base g cap n : Nat} {os : Array Obj} {xs ys : List Int} (h : OwnInts W base (.slice (some ⟨g, 0, none⟩) xs.length cap) xs) (hl : ys.length = xs.length) :
    OwnInts (grow (putRow (Value.int .i64) (Sort.ahead W n) g 0 ys.toArray) os) base (.slice (some ⟨g, 0, none⟩) ys.length cap) ys ∧ W.grownBy (grow (putRow (Value.int .i64) (Sort.ahead W n) g 0 ys.toArray) os) (some g) := by
  rcases h.2 with ⟨h0, _⟩ | ⟨g', cap', cur, hv, hb, hh, h1, h2, h3, h4⟩
  · cases h0
  · cases hv
    refine ⟨?_, grownBy_sortedI _⟩
    have := ownsRow_sortedI (n := n) (os := os) hl hb hh h1 h2 h3
    rw [← hl] at this
    exact this
theorem infoI : (Try.prog.info? 3).map (fun i => (i.zero, i.size, i.bytes)) = some (some (.int .i64 0), 1, 8) := by kernel_rfl

end Go.Proofs.YtggnnnddnppcpaaHand
/-! text YtggnnnddnppcpaaCnfBase -/
namespace Go.Proofs.YtggnnnddnppcpaaHand
open Go.RowKit Go.Proofs.YtggnnnddnppcpaaW.PrintWords Go.Proofs.YtggnnnddnppcpaaW.PrintLast Go.Proofs.YtggnnnddnppcpaaMath Go.Proofs.Ytggnnnddnppcpaa.PCnfTold
set_option linter.unusedVariables false
set_option linter.unusedSimpArgs false
end Go.Proofs.YtggnnnddnppcpaaHand
/-! text YtggnnnddnppcpaaLaid0 -/
namespace Go.Proofs.YtggnnnddnppcpaaHand
open Go.RowKit Go.Proofs.YtggnnnddnppcpaaW.PrintWords Go.Proofs.YtggnnnddnppcpaaW.PrintLast Go.Proofs.YtggnnnddnppcpaaMath
set_option linter.unusedVariables false
set_option linter.unusedSimpArgs false

theorem infoRow : (Try.prog.info? 43).map (fun i => (i.zero, i.size, i.bytes)) = some (some (.slice none 0 0), 1, 24) := by kernel_rfl
theorem row_at {w : World} {A : Option Addr} {n : Nat} {xs : List (List Int)} (h : Kd.C (Kd.slice 3 (Kd.int .i64)) w A n xs) (i : Int) (h0 : 0 ≤ i) (h1 : i < n) : ∃ ad A0 c0, A = some ad ∧ w.cell? (ad.add i.toNat) = some (.slice A0 (xs.getD i.toNat []).length c0) ∧ (xs.getD i.toNat []).length ≤ c0 ∧ (Kd.int .i64).C w A0 (xs.getD i.toNat []).length (xs.getD i.toNat []) := by
  obtain ⟨ad, c, e, _, hK, hc0⟩ := Kd.C_get h ([] : List Int) i h0 h1
  have hc : ∀ j u, c[j]? = some u → w.cell? (ad.add (i.toNat * 1 + j)) = some u := hc0
  obtain ⟨A0, c0, rfl, l0, g0⟩ := hK
  exact ⟨ad, A0, c0, e, by have hq := hc 0 _ rfl; rwa [Nat.mul_one, Nat.add_zero] at hq, l0, g0⟩
theorem below_grown_none {W W1 : World} (hg : W.grownBy W1 (Value.slice none 0 0).ownBlock) : Below W.heap.size W W1 := ⟨hg.os, hg.tape, hg.output, hg.size, fun k hk => hg.block k hk (by simp [Value.ownBlock])⟩
theorem elder {n k : Nat} {v1 : Value} (hat : v1.ownBlock = (Value.slice none 0 0).ownBlock ∨ ∃ b, v1.ownBlock = some b ∧ n ≤ b) (hk : v1.ownBlock = some k) : n ≤ k := by
  rcases hat with h | ⟨b, h, hb⟩
  · rw [hk] at h; simp [Value.ownBlock] at h
  · rw [hk] at h; cases h; exact hb
def rowAt (xs : List (List Int)) (i : Int) : List Int := xs.getD i.toNat []

end Go.Proofs.YtggnnnddnppcpaaHand
/-! text YtggnnnddnppcpaaLaid -/
namespace Go.Proofs.YtggnnnddnppcpaaHand
open Go.RowKit Go.Proofs.YtggnnnddnppcpaaW.PrintWords Go.Proofs.YtggnnnddnppcpaaW.PrintLast Go.Proofs.YtggnnnddnppcpaaMath
set_option linter.unusedVariables false
set_option linter.unusedSimpArgs false

set_option maxHeartbeats 4000000 in
set_option maxRecDepth 100000 in
theorem laid_calls (A1 : Option Addr) (c1 : Nat) (xs l1 : List (List Int)) (uu : Value) (w0 w : World) (hr1 : Kd.C (Kd.slice 3 (Kd.int .i64)) w0 A1 l1.length l1) (hc1 : l1.length ≤ c1) (hB : Below w0.heap.size w0 w)
    (ho : Kd.S (Kd.slice 3 (Kd.int .i64)) 43 w w0.heap.size (fun _ => True) uu xs) (hn : xs.length + l1.length ≤ 5864062014805) (hs : ∀ c ∈ l1, c.length ≤ 17592186044416) :
    Calls Try.prog 59 #[uu, .slice A1 l1.length c1] w fun e w' => ∃ v : Value, e = .returned v ∧ Kd.S (Kd.slice 3 (Kd.int .i64)) 43 w' w0.heap.size (fun _ => True) v (xs ++ l1) ∧ Below w0.heap.size w0 w' := by
  have HR1 := Aside0.mk hr1
  have HB := Aside0.mk hB
  have HO := Aside0.mk ho
  have HN := Aside0.mk hn
  have HS := Aside0.mk hs
  clear hr1 hB ho hn hs
  go_enter Try.func59, Try.ntmps59
  go_wp2
  go_loopw [0, 6, 9] (fun v0 _ v9 wr => ∃ (k : Nat) (x : Int), v9 = .int .i64 x ∧ Aside0 (x = k ∧ k ≤ l1.length) ∧ Aside0 (Kd.S (Kd.slice 3 (Kd.int .i64)) 43 wr w0.heap.size (fun _ => True) v0 (xs ++ l1.take k)) ∧ Aside0 (Below w0.heap.size w0 wr)) (fun _ _ i _ => l1.length - (intOf i).toNat)
  case atStart => exact ⟨0, 0, rfl, ⟨rfl, Nat.zero_le _⟩, ⟨by simpa using HO.out⟩, ⟨HB.out⟩⟩
  case round =>
    clear HO HB
    obtain ⟨k, x, rfl, HX, HO, HB⟩ := hrel
    obtain ⟨hxk, hk⟩ := HX.out
    by_cases hlt : k < l1.length
    · have p1 : 0 ≤ x := by omega
      have q1 : x < (l1.length : Int) := by omega
      obtain ⟨ad, A, c, e1, hcell, hlc, hrow⟩ := row_at (Kd.C_below HR1.out HB.out) x p1 q1
      subst e1
      have p2 := eq_true p1
      have q2 := eq_true q1
      have q3 : decide (x < (l1.length : Int)) = true := decide_eq_true q1
      have hmem : l1.getD x.toNat [] ∈ l1 := by rw [hxk]; rw [getD_nat hlt]; exact List.getElem_mem hlt
      have htk : xs ++ l1.take (k + 1) = (xs ++ l1.take k) ++ [l1.getD x.toNat []] := by rw [hxk, take_getD (z := ([] : List Int)) hlt, List.append_assoc]
      have HX2 : Aside0 (wrap64 (x + 1) = ((k + 1 : Nat) : Int) ∧ k + 1 ≤ l1.length) := by
        have := HN.out
        exact ⟨by rw [w64 (by omega) (by omega)]; omega, by omega⟩
      have hm : (intOf (.int .i64 (wrap64 (x + 1)))).toNat = k + 1 := by rw [HX2.out.1]; simp [intOf]
      have hm0 : (intOf (.int .i64 x)).toNat = k := by rw [hxk]; simp [intOf]
      have HM : Aside0 (l1.length - (intOf (.int .i64 (wrap64 (x + 1)))).toNat < l1.length - (intOf (.int .i64 x)).toNat) := ⟨by rw [hm, hm0]; omega⟩
      have HLR : Aside0 ((l1.getD x.toNat []).length ≤ 17592186044416) := ⟨HS.out _ hmem⟩
      have HLX : Aside0 ((xs ++ l1.take k).length < 5864062014805) := by
        have := HN.out
        rw [List.length_append, List.length_take]
        exact ⟨by omega⟩
      have HTK := Aside0.mk htk
      have HROW := Aside0.mk hrow
      clear hm hm0 hxk hk hlt p1 q1 hrow hlc hmem htk HX
      generalize l1.getD x.toNat [] = row at *
      generalize xs ++ l1.take k = ys at *
      go_wp2_with (first
        | ((with_reducible refine gate_builtin (b := .append) (xs := #[.const (.slice none 0 0), .tmp 14]) rfl ?_); at_builtin; refine print_append_row (w0 := w0) w0.heap.size rfl (.const (.slice none 0 0)) (.tmp 14) 43 3 .i64 8 rfl Try.underlying43 infoI (by decide) _ ([] : List Int) row A _ _ rfl rfl ?aO ?aR ?aB ?aS ?aL ?_; (case aO => exact World.ownsRow_nil _ _ _ _); (case aR => exact Kd.reads_of_C HROW.out); (case aB => exact HB.out); (case aS => exact HB.out.size); (case aL => have := HLR.out; simp; omega); intro v1 w1 ho hb hg hat; have HI := Aside0.mk (own_R (xs := row) (by simpa using ho)); have HO1 := Aside0.mk (Kd.S_elder' (v := v1) HO.out (fun k hk => elder hat hk) (below_grown_none hg)); have HB1 := Aside0.mk hb; clear ho hb hg hat; obtain ⟨Ao, co, eo⟩ := Kd.R_slice HI.out; subst eo)
        | ((with_reducible refine gate_builtin (b := .append) (xs := #[.tmp 13, .tmp 16]) rfl ?_); at_builtin; refine Kd.S_append (Kd.slice 3 (Kd.int .i64)) (w0 := w0) w0.heap.size rfl (.tmp 13) (.tmp 16) 22 43 (.slice none 0 0) 24 rfl Try.underlying22 infoRow rfl (by decide) (by omega) u0 ys row [.slice Ao row.length co] (fun _ => True) (fun k_ => some k_ = (.slice Ao row.length co : Value).ownBlock) rfl rfl ?aP (fun k_ hk_ => ((Kd.R_mono (ok' := fun k_ => ((fun _ => True)) k_ ∧ some k_ ≠ (u0 : Value).ownBlock) (Kd.R_apart' (HI.out) (Kd.S_typed HO1.out) (by decide)) (fun k_ hk => ⟨trivial, hk.2⟩))).1 k_ hk_.symm) ?aF ?aO ?aB ?aS ?aL ?_; (case aP => exact Kd.M_row (Kd.R_mono (Kd.R_tight rfl (Kd.R_mono (ok' := fun k_ => ((fun _ => True)) k_ ∧ some k_ ≠ (u0 : Value).ownBlock) (Kd.R_apart' (HI.out) (Kd.S_typed HO1.out) (by decide)) (fun k_ hk => ⟨trivial, hk.2⟩))) (fun _ h_ => h_))); (case aB => exact HB1.out); (case aF => exact (fun _ _ => trivial)); (case aO => exact (Kd.S_mono HO1.out (fun k_ hk => ⟨trivial, fun e_ => hk.2 e_⟩))); (case aS => exact HB1.out.size); (case aL => have := HLX.out; omega); intro v2 w2 ho hb hg hat; have HO2 := Aside0.mk ho; have HB2 := Aside0.mk hb; clear ho hb hg hat))
      go_roundw
      case measure => exact HM.out
      case rel => exact ⟨k + 1, _, rfl, HX2, ⟨by rw [HTK.out]; exact HO2.out⟩, ⟨HB2.out⟩⟩
    · obtain rfl : k = l1.length := by omega
      have q3 : decide (x < (l1.length : Int)) = false := decide_eq_false (by omega)
      have ho := HO.out
      rw [List.take_length] at ho
      have HO2 := Aside0.mk ho
      clear hxk hk hlt HX HO ho
      go_wp2
      go_ret
      exact ⟨_, rfl, HO2.out, HB.out⟩
end Go.Proofs.YtggnnnddnppcpaaHand
/-! text YtggnnnddnppcpaaCnfJoin -/
namespace Go.Proofs.YtggnnnddnppcpaaMath
def joinOf (v1 : Int) (l1 : List (List Int)) (v2 : Int) (l2 : List (List Int)) : Int × List (List Int) × Int :=
  if (isFormula v1 l1 && isFormula v2 l2) = true then (max v1 v2, l1 ++ l2, 0) else (0, [], 1)
end Go.Proofs.YtggnnnddnppcpaaMath
namespace Go.Proofs.YtggnnnddnppcpaaHand
open Go.RowKit Go.Proofs.YtggnnnddnppcpaaW.PrintWords Go.Proofs.YtggnnnddnppcpaaW.PrintLast Go.Proofs.YtggnnnddnppcpaaMath
set_option linter.unusedVariables false
set_option linter.unusedSimpArgs false

/-- three variables of a struct's two cells in new blocks -/
structure Three (w : World) (a0 a1 b0 b1 c0 c1 : Value) (W : World) : Prop where
  hz : w.heap.size + 3 ≤ W.heap.size
  hB : Below w.heap.size w W
  f0 : W.cell? ⟨w.heap.size, 0, none⟩ = some a0
  f1 : W.cell? ⟨w.heap.size, 1, none⟩ = some a1
  g0 : W.cell? ⟨w.heap.size + 1, 0, none⟩ = some b0
  g1 : W.cell? ⟨w.heap.size + 1, 1, none⟩ = some b1
  k0 : W.cell? ⟨w.heap.size + 1 + 1, 0, none⟩ = some c0
  k1 : W.cell? ⟨w.heap.size + 1 + 1, 1, none⟩ = some c1
  z0 : W.frozen? ⟨w.heap.size + 1 + 1, 0, none⟩ = false
  z1 : W.frozen? ⟨w.heap.size + 1 + 1, 1, none⟩ = false
theorem three (w : World) (a0 a1 b0 b1 c0 c1 : Value) (t : Nat) (W : World) (h : W = ((w.alloc (.cells #[a0, a1] t)).alloc (.cells #[b0, b1] t)).alloc (.cells #[c0, c1] t)) : Three w a0 a1 b0 b1 c0 c1 W := by
  subst h
  refine ⟨by simp, by repeat (first | exact Below.refl _ _ | apply below_alloc), ?_, ?_, ?_, ?_, ?_, ?_, ?_, ?_⟩ <;> simp [go_sem]
theorem Three.keep {w : World} {a0 a1 b0 b1 c0 c1 : Value} {W W1 : World} (h : Three w a0 a1 b0 b1 c0 c1 W) (k : Below W.heap.size W W1) : Three w a0 a1 b0 b1 c0 c1 W1 := by
  obtain ⟨hz, hB, f0, f1, g0, g1, k0, k1, z0, z1⟩ := h
  have e : ∀ b, b < w.heap.size + 3 → ∀ o, W1.cell? ⟨b, o, none⟩ = W.cell? ⟨b, o, none⟩ := fun b hb o => k.cell (p := ⟨b, o, none⟩) (show b < _ by omega)
  have e2 : ∀ b, b < w.heap.size + 3 → ∀ o, W1.frozen? ⟨b, o, none⟩ = W.frozen? ⟨b, o, none⟩ := fun b hb o => World.frozen?_of_block (a := ⟨b, o, none⟩) (k.block b (show b < _ by omega))
  refine ⟨Nat.le_trans hz k.size, below_then hB hB.size k, ?_, ?_, ?_, ?_, ?_, ?_, ?_, ?_⟩
  · rw [e _ (by omega)]; exact f0
  · rw [e _ (by omega)]; exact f1
  · rw [e _ (by omega)]; exact g0
  · rw [e _ (by omega)]; exact g1
  · rw [e _ (by omega)]; exact k0
  · rw [e _ (by omega)]; exact k1
  · rw [e2 _ (by omega)]; exact z0
  · rw [e2 _ (by omega)]; exact z1
theorem Three.drew {w : World} {a0 a1 b0 b1 c0 c1 : Value} {W : World} (h : Three w a0 a1 b0 b1 c0 c1 W) : Three w a0 a1 b0 b1 c0 c1 W.drew := h.keep (below_drew (Below.refl _ _))
theorem Three.drewN {w : World} {a0 a1 b0 b1 c0 c1 : Value} {W : World} (h : Three w a0 a1 b0 b1 c0 c1 W) (n : Nat) : Three w a0 a1 b0 b1 c0 c1 (W.drewN n) := h.keep (pw_below_drewN (Below.refl _ _) _)

set_option maxHeartbeats 8000000 in
set_option maxRecDepth 100000 in
theorem join_good (v1 v2 : Int) (A1 A2 : Option Addr) (c1 c2 : Nat) (l1 l2 : List (List Int)) (w : World) (hr1 : Kd.C (Kd.slice 3 (Kd.int .i64)) w A1 l1.length l1) (hc1 : l1.length ≤ c1) (hr2 : Kd.C (Kd.slice 3 (Kd.int .i64)) w A2 l2.length l2) (hc2 : l2.length ≤ c2)
    (hn : l1.length + l2.length ≤ 5864062014805) (hs : ∀ c ∈ l1 ++ l2, c.length ≤ 17592186044416) (hf1 : isFormula v1 l1 = true) (hf2 : isFormula v2 l2 = true) :
    Calls Try.prog 21 #[.agg #[.int .i64 v1, .slice A1 l1.length c1], .agg #[.int .i64 v2, .slice A2 l2.length c2]] w fun e w' => ∃ v : Value, e = .returned (.tuple #[.agg #[.int .i64 (joinOf v1 l1 v2 l2).1, v], .int .i64 (joinOf v1 l1 v2 l2).2.2]) ∧ Kd.S (Kd.slice 3 (Kd.int .i64)) 43 w' w.heap.size (fun _ => True) v (joinOf v1 l1 v2 l2).2.1 ∧ Below w.heap.size w w' := by
  have hs1 : ∀ c ∈ l1, c.length ≤ 17592186044416 := fun c h => hs c (by simp [h])
  have hs2 : ∀ c ∈ l2, c.length ≤ 17592186044416 := fun c h => hs c (by simp [h])
  have HR1 := Aside0.mk hr1
  have HR2 := Aside0.mk hr2
  have F1 := fun W h => isFormula_calls v1 A1 c1 l1 W h hc1 (by omega) hs1
  have F2 := fun W h => isFormula_calls v2 A2 c2 l2 W h hc2 (by omega) hs2
  rw [hf1] at F1
  rw [hf2] at F2
  have HF1 := Aside0.mk F1
  have HF2 := Aside0.mk F2
  have HE : Aside0 (joinOf v1 l1 v2 l2 = (max v1 v2, l1 ++ l2, 0)) := ⟨by unfold joinOf; rw [hf1, hf2]; rfl⟩
  have HC1 := Aside0.mk hc1
  have HC2 := Aside0.mk hc2
  have HN := Aside0.mk hn
  have HS1 := Aside0.mk hs1
  have HS2 := Aside0.mk hs2
  clear F1 F2 hr1 hr2 hc1 hc2 hn hs hs1 hs2 hf1 hf2
  go_enter Try.func21, Try.ntmps21
  go_wp2_with fail
  obtain ⟨W0, hW0⟩ : ∃ W0, W0 = ((w.alloc (.cells #[.int .i64 v1, .slice A1 l1.length c1] 24)).alloc (.cells #[.int .i64 v2, .slice A2 l2.length c2] 24)).alloc (.cells #[.int .i64 0, .slice none 0 0] 24) := ⟨_, rfl⟩
  rw [← hW0]
  have T0 := three w _ _ _ _ _ _ _ W0 hW0
  clear hW0
  (with_reducible refine (HF1.out _ (Kd.C_below HR1.out T0.hB)).mono ?_)
  rintro e W1 ⟨rfl, hb⟩
  have T1 := T0.keep hb
  have g0 := T1.g0
  have g1 := T1.g1
  clear T0 hb
  go_wp2_with fail
  (with_reducible refine (HF2.out _ (Kd.C_below HR2.out T1.hB)).mono ?_)
  rintro e W2 ⟨rfl, hb⟩
  have T2 := T1.keep hb
  clear T1 hb g0 g1
  have HT := Aside0.mk T2
  clear T2
  have f0 := HT.out.f0
  have f1 := HT.out.f1
  have g0 := HT.out.g0
  have g1 := HT.out.g1
  have k0 := HT.out.k0
  have k1 := HT.out.k1
  have z0 := HT.out.z0
  have z1 := HT.out.z1
  go_wp2_with fail
  have hkeep : ∀ W, Three w (.int .i64 v1) (.slice A1 l1.length c1) (.int .i64 v2) (.slice A2 l2.length c2) (.int .i64 0) (.slice none 0 0) W → W.cell? ⟨w.heap.size, 0, none⟩ = some (.int .i64 v1) ∧ W.cell? ⟨w.heap.size, 1, none⟩ = some (.slice A1 l1.length c1) ∧ W.cell? ⟨w.heap.size + 1, 0, none⟩ = some (.int .i64 v2) ∧ W.cell? ⟨w.heap.size + 1, 1, none⟩ = some (.slice A2 l2.length c2) := fun W h => ⟨h.f0, h.f1, h.g0, h.g1⟩
  have HK := Aside0.mk hkeep
  clear hkeep
  go_region_held3 (fun w' => w'.cell? ⟨w.heap.size, 0, none⟩ = some (.int .i64 v1) ∧ w'.cell? ⟨w.heap.size, 1, none⟩ = some (.slice A1 l1.length c1) ∧ w'.cell? ⟨w.heap.size + 1, 0, none⟩ = some (.int .i64 v2) ∧ w'.cell? ⟨w.heap.size + 1, 1, none⟩ = some (.slice A2 l2.length c2))
    (first | exact HK.out _ HT4.out | exact HK.out _ HT3.out | exact HK.out _ HT.out | exact HK.out _ HT.out.drew | (refine ⟨?_, ?_, ?_, ?_⟩ <;> simp [go_sem, HT4.out.f0, HT4.out.f1, HT4.out.g0, HT4.out.g1]))
    (first
    | (go_at_call 59; (with_reducible refine (laid_calls A1 c1 [] l1 (.slice none 0 0) W2 _ (Kd.C_below HR1.out HT.out.hB) HC1.out ?hB ?ho ?hn HS1.out).mono ?_); (case hB => first | exact below_drew (Below.refl _ _) | exact below_drew (below_drew (Below.refl _ _)) | exact Below.refl _ _); (case ho => exact Kd.S_nil _ _ _ _ _); (case hn => have := HN.out; simp; omega); rintro e w3 ⟨v3, rfl, hs3, hb3⟩; obtain ⟨Ao3, co3, eo3⟩ := Kd.S_slice hs3; subst eo3; have HT3 := Aside0.mk (HT.out.keep hb3); have HS3 := Aside0.mk hs3; have HB3 := Aside0.mk hb3; clear hs3 hb3)
    | (go_at_call 59; (with_reducible refine (laid_calls A2 c2 ([] ++ l1) l2 _ W2 _ (Kd.C_below HR2.out HT.out.hB) HC2.out ?hB ?ho ?hn HS2.out).mono ?_); (case hB => first | exact HB3.out | exact below_drew HB3.out | exact below_drew (below_drew HB3.out)); (case ho => first | exact HS3.out | exact Kd.S_drew HS3.out); (case hn => have := HN.out; simp; omega); rintro e w4 ⟨v4, rfl, hs4, hb4⟩; obtain ⟨Ao4, co4, eo4⟩ := Kd.S_slice hs4; subst eo4; have HT4 := Aside0.mk (HT.out.keep hb4); have k0'' := HT4.out.k0; have k1'' := HT4.out.k1; have z0'' := HT4.out.z0; have z1'' := HT4.out.z1; have HS4 := Aside0.mk hs4; clear hs4 hb4))
  all_goals
    go_wp2_with fail
    have HL : Aside0 (Kd.S (Kd.slice 3 (Kd.int .i64)) 43 ((w4.setCell ⟨w.heap.size + 1 + 1, 0, none⟩ (.int .i64 (max v1 v2))).setCell ⟨w.heap.size + 1 + 1, 1, none⟩ (.slice Ao4 ([] ++ l1 ++ l2).length co4)) w.heap.size (fun _ => True) (.slice Ao4 ([] ++ l1 ++ l2).length co4) ([] ++ l1 ++ l2)) := by
      have hb := Kd.S_bound HS4.out
      have hz := HT.out.hz
      exact ⟨Kd.S_mono (Kd.S_lower (Kd.S_far (p := ⟨w.heap.size + 1 + 1, 1, none⟩) (Kd.S_far (p := ⟨w.heap.size + 1 + 1, 0, none⟩) hb (fun k hk => by have := hk.2.1; show k ≠ w.heap.size + 1 + 1; omega) _) (fun k hk => by have := hk.2.1; show k ≠ w.heap.size + 1 + 1; omega) _) (by omega)) (fun _ _ => trivial)⟩
    refine bodyPost_ret (v := .tuple #[.agg #[.int .i64 (max v1 v2), .slice Ao4 ([] ++ l1 ++ l2).length co4], .int .i64 0]) (by simp [results, Try.results21, go_sem, k0'', k1'']) rfl ?_
    rw [HE.out]
    exact ⟨_, rfl, by simpa using HL.out, (HT4.out.hB.setCell (p := ⟨w.heap.size + 1 + 1, 0, none⟩) (show w.heap.size ≤ w.heap.size + 1 + 1 by omega) _).setCell (p := ⟨w.heap.size + 1 + 1, 1, none⟩) (show w.heap.size ≤ w.heap.size + 1 + 1 by omega) _⟩

set_option maxHeartbeats 8000000 in
set_option maxRecDepth 100000 in
theorem join_bad (v1 v2 : Int) (A1 A2 : Option Addr) (c1 c2 : Nat) (l1 l2 : List (List Int)) (w : World) (hr1 : Kd.C (Kd.slice 3 (Kd.int .i64)) w A1 l1.length l1) (hc1 : l1.length ≤ c1) (hr2 : Kd.C (Kd.slice 3 (Kd.int .i64)) w A2 l2.length l2) (hc2 : l2.length ≤ c2)
    (hn : l1.length + l2.length ≤ 5864062014805) (hs : ∀ c ∈ l1 ++ l2, c.length ≤ 17592186044416) (hbad : (isFormula v1 l1 && isFormula v2 l2) = false) :
    Calls Try.prog 21 #[.agg #[.int .i64 v1, .slice A1 l1.length c1], .agg #[.int .i64 v2, .slice A2 l2.length c2]] w fun e w' => ∃ v : Value, e = .returned (.tuple #[.agg #[.int .i64 (joinOf v1 l1 v2 l2).1, v], .int .i64 (joinOf v1 l1 v2 l2).2.2]) ∧ Kd.S (Kd.slice 3 (Kd.int .i64)) 43 w' w.heap.size (fun _ => True) v (joinOf v1 l1 v2 l2).2.1 ∧ Below w.heap.size w w' := by
  have hs1 : ∀ c ∈ l1, c.length ≤ 17592186044416 := fun c h => hs c (by simp [h])
  have hs2 : ∀ c ∈ l2, c.length ≤ 17592186044416 := fun c h => hs c (by simp [h])
  have HR1 := Aside0.mk hr1
  have HR2 := Aside0.mk hr2
  have F1 := fun W h => isFormula_calls v1 A1 c1 l1 W h hc1 (by omega) hs1
  have F2 := fun W h => isFormula_calls v2 A2 c2 l2 W h hc2 (by omega) hs2
  have HE : Aside0 (joinOf v1 l1 v2 l2 = (0, [], 1)) := ⟨by unfold joinOf; rw [hbad]; rfl⟩
  cases hf1 : isFormula v1 l1 with
  | false =>
    rw [hf1] at F1
    have HF1 := Aside0.mk F1
    clear F1 F2 hr1 hr2 hc1 hc2 hn hs hs1 hs2 hf1 hbad
    go_enter Try.func21, Try.ntmps21
    go_wp2_with fail
    obtain ⟨W0, hW0⟩ : ∃ W0, W0 = ((w.alloc (.cells #[.int .i64 v1, .slice A1 l1.length c1] 24)).alloc (.cells #[.int .i64 v2, .slice A2 l2.length c2] 24)).alloc (.cells #[.int .i64 0, .slice none 0 0] 24) := ⟨_, rfl⟩
    rw [← hW0]
    have T0 := three w _ _ _ _ _ _ _ W0 hW0
    clear hW0
    (with_reducible refine (HF1.out _ (Kd.C_below HR1.out T0.hB)).mono ?_)
    rintro e W1 ⟨rfl, hb⟩
    have HT := Aside0.mk (T0.keep hb)
    clear T0 hb
    have k0 := HT.out.k0
    have k1 := HT.out.k1
    have z0 := HT.out.z0
    have z1 := HT.out.z1
    go_wp2_with fail
    refine bodyPost_ret (v := .tuple #[.agg #[.int .i64 0, .slice none 0 0], .int .i64 1]) (by simp [results, Try.results21, go_sem, k0, k1]) rfl ?_
    rw [HE.out]
    exact ⟨_, rfl, Kd.S_nil _ _ _ _ _, (HT.out.hB.setCell (p := ⟨w.heap.size + 1 + 1, 0, none⟩) (show w.heap.size ≤ w.heap.size + 1 + 1 by omega) _).setCell (p := ⟨w.heap.size + 1 + 1, 1, none⟩) (show w.heap.size ≤ w.heap.size + 1 + 1 by omega) _⟩
  | true =>
    rw [hf1, Bool.true_and] at hbad
    rw [hf1] at F1
    rw [hbad] at F2
    have HF1 := Aside0.mk F1
    have HF2 := Aside0.mk F2
    clear F1 F2 hr1 hr2 hc1 hc2 hn hs hs1 hs2 hf1 hbad
    go_enter Try.func21, Try.ntmps21
    go_wp2_with fail
    obtain ⟨W0, hW0⟩ : ∃ W0, W0 = ((w.alloc (.cells #[.int .i64 v1, .slice A1 l1.length c1] 24)).alloc (.cells #[.int .i64 v2, .slice A2 l2.length c2] 24)).alloc (.cells #[.int .i64 0, .slice none 0 0] 24) := ⟨_, rfl⟩
    rw [← hW0]
    have T0 := three w _ _ _ _ _ _ _ W0 hW0
    clear hW0
    (with_reducible refine (HF1.out _ (Kd.C_below HR1.out T0.hB)).mono ?_)
    rintro e W1 ⟨rfl, hb⟩
    have T1 := T0.keep hb
    have g0 := T1.g0
    have g1 := T1.g1
    clear T0 hb
    go_wp2_with fail
    (with_reducible refine (HF2.out _ (Kd.C_below HR2.out T1.hB)).mono ?_)
    rintro e W2 ⟨rfl, hb⟩
    have HT := Aside0.mk (T1.keep hb)
    clear T1 hb g0 g1
    have k0 := HT.out.k0
    have k1 := HT.out.k1
    have z0 := HT.out.z0
    have z1 := HT.out.z1
    go_wp2_with fail
    refine bodyPost_ret (v := .tuple #[.agg #[.int .i64 0, .slice none 0 0], .int .i64 1]) (by simp [results, Try.results21, go_sem, k0, k1]) rfl ?_
    rw [HE.out]
    exact ⟨_, rfl, Kd.S_nil _ _ _ _ _, (HT.out.hB.setCell (p := ⟨w.heap.size + 1 + 1, 0, none⟩) (show w.heap.size ≤ w.heap.size + 1 + 1 by omega) _).setCell (p := ⟨w.heap.size + 1 + 1, 1, none⟩) (show w.heap.size ≤ w.heap.size + 1 + 1 by omega) _⟩

theorem join_calls' (v1 v2 : Int) (A1 A2 : Option Addr) (c1 c2 : Nat) (l1 l2 : List (List Int)) (w : World) (hr1 : Kd.C (Kd.slice 3 (Kd.int .i64)) w A1 l1.length l1) (hc1 : l1.length ≤ c1) (hr2 : Kd.C (Kd.slice 3 (Kd.int .i64)) w A2 l2.length l2) (hc2 : l2.length ≤ c2)
    (hn : l1.length + l2.length ≤ 5864062014805) (hs : ∀ c ∈ l1 ++ l2, c.length ≤ 17592186044416) :
    Calls Try.prog 21 #[.agg #[.int .i64 v1, .slice A1 l1.length c1], .agg #[.int .i64 v2, .slice A2 l2.length c2]] w fun e w' => ∃ v : Value, e = .returned (.tuple #[.agg #[.int .i64 (joinOf v1 l1 v2 l2).1, v], .int .i64 (joinOf v1 l1 v2 l2).2.2]) ∧ Kd.S (Kd.slice 3 (Kd.int .i64)) 43 w' w.heap.size (fun _ => True) v (joinOf v1 l1 v2 l2).2.1 ∧ Below w.heap.size w w' := by
  cases h : (isFormula v1 l1 && isFormula v2 l2) with
  | false => exact join_bad v1 v2 A1 A2 c1 c2 l1 l2 w hr1 hc1 hr2 hc2 hn hs h
  | true =>
    rw [Bool.and_eq_true] at h
    exact join_good v1 v2 A1 A2 c1 c2 l1 l2 w hr1 hc1 hr2 hc2 hn hs h.1 h.2
end Go.Proofs.YtggnnnddnppcpaaHand
/-! text YtggnnnddnppcpaaGCnfKeepsJoinx2 -/
namespace Go.Proofs.Ytggnnnddnppcpaa.PCnfKeepsJoin
open Go.RowKit Go.Proofs.YtggnnnddnppcpaaW.PrintWords Go.Proofs.YtggnnnddnppcpaaW.PrintLast Go.Proofs.YtggnnnddnppcpaaW.PrintMore
attribute [local go_sem] max2_int min2_int max_two min_two max_three min_three max_four min_four   -- for this text's walks alone
set_option linter.unusedVariables false
set_option linter.unusedSimpArgs false

/-! ### cnf_Join: function 21 -/
def cnf_Join.f (k : Nat) (a0_0 : Int) (l0_1 : List (List Int)) (a1_0 : Int) (l1_1 : List (List Int)) : Option (Int × (List (List Int)) × Int) := if l0_1.length + l1_1.length ≤ 5864062014805 ∧ ∀ c ∈ l0_1 ++ l1_1, c.length ≤ 17592186044416 then some (Go.Proofs.YtggnnnddnppcpaaMath.joinOf a0_0 l0_1 a1_0 l1_1) else none
theorem cnf_Join.mono : ∀ a0 a1 a2 a3 k, LeO (cnf_Join.f k a0 a1 a2 a3) (cnf_Join.f (k + 1) a0 a1 a2 a3) := fun _ _ _ _ _ => LeO.refl _
theorem cnf_Join.calls (k : Nat) (a0_0 : Int) (A0_1 : Option Addr) (c0_1 : Nat) (l0_1 : List (List Int)) (a1_0 : Int) (A1_1 : Option Addr) (c1_1 : Nat) (l1_1 : List (List Int)) (r1 : Int) (r2 : List (List Int)) (r3 : Int) (w : World) (hr0_1 : Kd.C (Kd.slice 3 (Kd.int .i64)) w A0_1 l0_1.length l0_1) (hc0_1 : l0_1.length ≤ c0_1) (hr1_1 : Kd.C (Kd.slice 3 (Kd.int .i64)) w A1_1 l1_1.length l1_1) (hc1_1 : l1_1.length ≤ c1_1) (h : cnf_Join.f k a0_0 l0_1 a1_0 l1_1 = some (r1, r2, r3)) :
    Calls Try.prog 21 #[.agg #[.int .i64 a0_0, .slice A0_1 l0_1.length c0_1], .agg #[.int .i64 a1_0, .slice A1_1 l1_1.length c1_1]] w fun e w' => ∃ v1_ : Value, e = .returned (.tuple #[.agg #[.int .i64 r1, v1_], .int .i64 r3]) ∧ Kd.S (Kd.slice 3 (Kd.int .i64)) 43 w' w.heap.size (fun _ => True) v1_ r2 ∧ Below w.heap.size w w' := by
  unfold cnf_Join.f at h
  by_cases hn : l0_1.length + l1_1.length ≤ 5864062014805 ∧ ∀ c ∈ l0_1 ++ l1_1, c.length ≤ 17592186044416
  · rw [if_pos hn] at h
    have h2 := Go.Proofs.YtggnnnddnppcpaaHand.join_calls' a0_0 a1_0 A0_1 A1_1 c0_1 c1_1 l0_1 l1_1 w hr0_1 hc0_1 hr1_1 hc1_1 hn.1 hn.2
    rw [Option.some.inj h] at h2
    exact h2
  · rw [if_neg hn] at h; exact absurd h (by simp)
end Go.Proofs.Ytggnnnddnppcpaa.PCnfKeepsJoin
