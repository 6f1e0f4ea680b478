/- Plain words on numbers and lists that the laws' statements are told in; rounds. -/
import Derived.Test.YtkkkbcjmkmadhaaWWords
namespace Go.Proofs.YtkkkbcjmkmadhaaMath
open Go.RowKit Go.Proofs.YtkkkbcjmkmadhaaW.PrintWords
set_option linter.unusedVariables false
set_option linter.unusedSimpArgs false

theorem Ev.succ {α : Type} {g : Nat → Option α} {r : α} (h : Ev (fun k => g (k + 1)) r) : Ev g r := Ev.step (fun _ => rfl) h
theorem Ev.bound {α β : Type} {x : Option α} {f : Nat → α → Option β} {a : α} {r : β} (h : x = some a) (k : Ev (fun n => f n a) r) : Ev (fun n => x.bind (f n)) r := by
  subst h
  exact k
theorem Ev.fixed {α : Type} {x : Option α} {r : α} (h : x = some r) : Ev (fun _ => x) r := by
  subst h
  exact Ev.now _

theorem w64 {x : Int} (h1 : -9223372036854775808 ≤ x) (h2 : x ≤ 9223372036854775807) : wrap64 x = x := by
  unfold wrap64
  omega
theorem w64s {i : Nat} (h : (i : Int) < 9223372036854775807) : wrap64 ((i : Int) + 1) = ((i + 1 : Nat) : Int) := by
  rw [w64 (by omega) (by omega)]
  omega
theorem w64p {i : Nat} (h0 : 0 < i) (h : (i : Int) < 9223372036854775807) : wrap64 ((i : Int) - 1) = ((i - 1 : Nat) : Int) := by
  rw [w64 (by omega) (by omega)]
  omega
theorem wf_lo {x : Int} (h : (Lit.int .i64 x).wf = true) : -9223372036854775808 ≤ x ∧ x ≤ 9223372036854775807 := by
  have h2 : (decide (IntKind.i64.min ≤ x) && decide (x ≤ IntKind.i64.max)) = true := h
  rw [Bool.and_eq_true, decide_eq_true_eq, decide_eq_true_eq] at h2
  have e1 : IntKind.i64.min = -9223372036854775808 := by decide
  have e2 : IntKind.i64.max = 9223372036854775807 := by decide
  omega

/-! reading -/
theorem rd_nat {l : List Int} {i : Nat} (h : i < l.length) : rd l (i : Int) = l[i] := by
  simp [rd, List.getD_eq_getElem?_getD, List.getElem?_eq_getElem h]
theorem drop_rd {l : List Int} {i : Nat} (h : i < l.length) : l.drop i = rd l (i : Int) :: l.drop (i + 1) := by
  rw [rd_nat h]
  exact List.drop_eq_getElem_cons h
theorem rd_mem {l : List Int} {i : Nat} (h : i < l.length) : rd l (i : Int) ∈ l := by
  rw [rd_nat h]
  exact List.getElem_mem h
theorem rdOf_nat {α : Type} {z : α} {l : List α} {i : Nat} (h : i < l.length) : rdOf z l (i : Int) = l[i] := by
  simp [rdOf, List.getD_eq_getElem?_getD, List.getElem?_eq_getElem h]
theorem drop_rdOf {α : Type} {z : α} {l : List α} {i : Nat} (h : i < l.length) : l.drop i = rdOf z l (i : Int) :: l.drop (i + 1) := by
  rw [rdOf_nat h]
  exact List.drop_eq_getElem_cons h
theorem getD_nat {α : Type} {z : α} {l : List α} {i : Nat} (h : i < l.length) : l.getD ((i : Int).toNat) z = l[i] := by
  simp [List.getD_eq_getElem?_getD, List.getElem?_eq_getElem h]
theorem drop_getD {α : Type} {z : α} {l : List α} {i : Nat} (h : i < l.length) : l.drop i = l.getD ((i : Int).toNat) z :: l.drop (i + 1) := by
  rw [getD_nat h]
  exact List.drop_eq_getElem_cons h
theorem take_snoc {α : Type} {l : List α} {i : Nat} (h : i < l.length) : l.take (i + 1) = l.take i ++ [l[i]] := by
  rw [List.take_succ_eq_append_getElem h]
theorem take_rd {l : List Int} {i : Nat} (h : i < l.length) : l.take (i + 1) = l.take i ++ [rd l (i : Int)] := by
  rw [rd_nat h]; exact take_snoc h
theorem take_rdOf {α : Type} {z : α} {l : List α} {i : Nat} (h : i < l.length) : l.take (i + 1) = l.take i ++ [rdOf z l (i : Int)] := by
  rw [rdOf_nat h]; exact take_snoc h
theorem take_getD {α : Type} {z : α} {l : List α} {i : Nat} (h : i < l.length) : l.take (i + 1) = l.take i ++ [l.getD ((i : Int).toNat) z] := by
  rw [getD_nat h]; exact take_snoc h

/-! literals -/
def formed (l : Int) : Bool := decide (l ≠ 0 ∧ -1048576 ≤ l ∧ l ≤ 1048576)
theorem formed_iff {l : Int} : formed l = true ↔ l ≠ 0 ∧ -1048576 ≤ l ∧ l ≤ 1048576 := by simp [formed]
theorem formed_neg (l : Int) : formed (-l) = formed l := by
  rw [Bool.eq_iff_iff, formed_iff, formed_iff]
  omega
def sound (c : List Int) : Bool := c.all formed
def has (c : List Int) (l : Int) : Bool := formed l && c.contains l
def varOf (l : Int) : Int := if formed l = true then (if l < 0 then -l else l) else 0
def within (c : List Int) (v : Int) : Bool := sound c && c.all fun l => decide (l ≤ v ∧ -l ≤ v)
def isFormula (v : Int) (cs : List (List Int)) : Bool := decide (0 ≤ v ∧ v ≤ 1048576) && cs.all fun c => within c v
theorem formed_bd {l : Int} (h : formed l = true) : -1048576 ≤ l ∧ l ≤ 1048576 := by
  rw [formed_iff] at h
  omega
theorem sound_mem {c : List Int} (h : sound c = true) {l : Int} (hl : l ∈ c) : formed l = true := List.all_eq_true.1 h l hl

/-- The numbers of those of which p holds, from number i on. -/
def idxs {α : Type} (p : α → Bool) : Nat → List α → List Int
  | _, [] => []
  | i, c :: cs => if p c = true then (i : Int) :: idxs p (i + 1) cs else idxs p (i + 1) cs
theorem idxs_length {α : Type} (p : α → Bool) (cs : List α) : ∀ i, (idxs p i cs).length ≤ cs.length := by
  induction cs with
  | nil => intro i; simp [idxs]
  | cons c cs ih =>
    intro i
    simp only [idxs]
    have := ih (i + 1)
    split <;> simp <;> omega

end Go.Proofs.YtkkkbcjmkmadhaaMath
