/- Plain words on numbers and lists that the laws' statements are told in; rounds. -/
import Derived.Test.YtamefocngapkpaaWWords
namespace Go.Proofs.YtamefocngapkpaaMath
open Go.RowKit Go.Proofs.YtamefocngapkpaaW.PrintWords
set_option linter.unusedVariables false
set_option linter.unusedSimpArgs false

theorem Ev.succ {α : Type} {g : Nat → Option α} {r : α} (h : Ev (fun k => g (k + 1)) r) : Ev g r := Ev.step (fun _ => rfl) h
theorem Ev.bound {α β : Type} {x : Option α} {f : Nat → α → Option β} {a : α} {r : β} (h : x = some a) (k : Ev (fun n => f n a) r) : Ev (fun n => x.bind (f n)) r := by
  subst h
  exact k
theorem Ev.fixed {α : Type} {x : Option α} {r : α} (h : x = some r) : Ev (fun _ => x) r := by
  subst h
  exact Ev.now _

theorem w64 {x : Int} (h1 : -9223372036854775808 ≤ x) (h2 : x ≤ 9223372036854775807) : wrap64 x = x := by
  unfold wrap64
  omega
theorem w64s {i : Nat} (h : (i : Int) < 9223372036854775807) : wrap64 ((i : Int) + 1) = ((i + 1 : Nat) : Int) := by
  rw [w64 (by omega) (by omega)]
  omega
theorem w64p {i : Nat} (h0 : 0 < i) (h : (i : Int) < 9223372036854775807) : wrap64 ((i : Int) - 1) = ((i - 1 : Nat) : Int) := by
  rw [w64 (by omega) (by omega)]
  omega
theorem wf_lo {x : Int} (h : (Lit.int .i64 x).wf = true) : -9223372036854775808 ≤ x ∧ x ≤ 9223372036854775807 := by
  have h2 : (decide (IntKind.i64.min ≤ x) && decide (x ≤ IntKind.i64.max)) = true := h
  rw [Bool.and_eq_true, decide_eq_true_eq, decide_eq_true_eq] at h2
  have e1 : IntKind.i64.min = -9223372036854775808 := by decide
  have e2 : IntKind.i64.max = 9223372036854775807 := by decide
  omega

/-! reading -/
theorem rd_nat {l : List Int} {i : Nat} (h : i < l.length) : rd l (i : Int) = l[i] := by
  simp [rd, List.getD_eq_getElem?_getD, List.getElem?_eq_getElem h]
theorem drop_rd {l : List Int} {i : Nat} (h : i < l.length) : l.drop i = rd l (i : Int) :: l.drop (i + 1) := by
  rw [rd_nat h]
  exact List.drop_eq_getElem_cons h
theorem rd_mem {l : List Int} {i : Nat} (h : i < l.length) : rd l (i : Int) ∈ l := by
  rw [rd_nat h]
  exact List.getElem_mem h
theorem rdOf_nat {α : Type} {z : α} {l : List α} {i : Nat} (h : i < l.length) : rdOf z l (i : Int) = l[i] := by
  simp [rdOf, List.getD_eq_getElem?_getD, List.getElem?_eq_getElem h]
theorem drop_rdOf {α : Type} {z : α} {l : List α} {i : Nat} (h : i < l.length) : l.drop i = rdOf z l (i : Int) :: l.drop (i + 1) := by
  rw [rdOf_nat h]
  exact List.drop_eq_getElem_cons h
theorem getD_nat {α : Type} {z : α} {l : List α} {i : Nat} (h : i < l.length) : l.getD ((i : Int).toNat) z = l[i] := by
  simp [List.getD_eq_getElem?_getD, List.getElem?_eq_getElem h]
theorem drop_getD {α : Type} {z : α} {l : List α} {i : Nat} (h : i < l.length) : l.drop i = l.getD ((i : Int).toNat) z :: l.drop (i + 1) := by
  rw [getD_nat h]
  exact List.drop_eq_getElem_cons h
theorem take_snoc {α : Type} {l : List α} {i : Nat} (h : i < l.length) : l.take (i + 1) = l.take i ++ [l[i]] := by
  rw [List.take_succ_eq_append_getElem h]
theorem take_rd {l : List Int} {i : Nat} (h : i < l.length) : l.take (i + 1) = l.take i ++ [rd l (i : Int)] := by
  rw [rd_nat h]; exact take_snoc h
theorem take_rdOf {α : Type} {z : α} {l : List α} {i : Nat} (h : i < l.length) : l.take (i + 1) = l.take i ++ [rdOf z l (i : Int)] := by
  rw [rdOf_nat h]; exact take_snoc h
theorem take_getD {α : Type} {z : α} {l : List α} {i : Nat} (h : i < l.length) : l.take (i + 1) = l.take i ++ [l.getD ((i : Int).toNat) z] := by
  rw [getD_nat h]; exact take_snoc h

/-! literals -/
def formed (l : Int) : Bool := decide (l ≠ 0 ∧ -1048576 ≤ l ∧ l ≤ 1048576)
theorem formed_iff {l : Int} : formed l = true ↔ l ≠ 0 ∧ -1048576 ≤ l ∧ l ≤ 1048576 := by simp [formed]
theorem formed_neg (l : Int) : formed (-l) = formed l := by
  rw [Bool.eq_iff_iff, formed_iff, formed_iff]
  omega
def sound (c : List Int) : Bool := c.all formed
def has (c : List Int) (l : Int) : Bool := formed l && c.contains l
def varOf (l : Int) : Int := if formed l = true then (if l < 0 then -l else l) else 0
def within (c : List Int) (v : Int) : Bool := sound c && c.all fun l => decide (l ≤ v ∧ -l ≤ v)
def isFormula (v : Int) (cs : List (List Int)) : Bool := decide (0 ≤ v ∧ v ≤ 1048576) && cs.all fun c => within c v
theorem formed_bd {l : Int} (h : formed l = true) : -1048576 ≤ l ∧ l ≤ 1048576 := by
  rw [formed_iff] at h
  omega
theorem sound_mem {c : List Int} (h : sound c = true) {l : Int} (hl : l ∈ c) : formed l = true := List.all_eq_true.1 h l hl

/-- The numbers of those of which p holds, from number i on. -/
def idxs {α : Type} (p : α → Bool) : Nat → List α → List Int
  | _, [] => []
  | i, c :: cs => if p c = true then (i : Int) :: idxs p (i + 1) cs else idxs p (i + 1) cs
theorem idxs_length {α : Type} (p : α → Bool) (cs : List α) : ∀ i, (idxs p i cs).length ≤ cs.length := by
  induction cs with
  | nil => intro i; simp [idxs]
  | cons c cs ih =>
    intro i
    simp only [idxs]
    have := ih (i + 1)
    split <;> simp <;> omega

/-! models -/
def truth (m : List Bool) (l : Int) : Bool := (m.getD (l.natAbs - 1) false) == decide (l > 0)
def holdsIn (c : List Int) (m : List Bool) : Bool := c.any (truth m)
def allIn (cs : List (List Int)) (m : List Bool) : Bool := cs.all fun c => holdsIn c m
def fitsIn (v : Int) (cs : List (List Int)) (m : List Bool) : Bool := isFormula v cs && decide ((m.length : Int) = v)
def satisfies (v : Int) (cs : List (List Int)) (m : List Bool) : Bool := fitsIn v cs m && allIn cs m
def falses (v : Int) (cs : List (List Int)) (m : List Bool) : List Int := if fitsIn v cs m = true then idxs (fun c => !holdsIn c m) 0 cs else []
def sizeFrom : Int → List (List Int) → Int
  | a, [] => a
  | a, c :: cs => sizeFrom (wrap64 (a + (c.length : Int))) cs
theorem within_lit {c : List Int} {v : Int} (h : within c v = true) {l : Int} (hl : l ∈ c) : formed l = true ∧ l ≤ v ∧ -l ≤ v := by
  unfold within at h
  rw [Bool.and_eq_true] at h
  refine ⟨sound_mem h.1 hl, ?_⟩
  simpa using List.all_eq_true.1 h.2 l hl
theorem rdOf_truth {m : List Bool} {l : Int} (h : formed l = true) : (rdOf false m ((l.natAbs : Int) - 1) == decide (l > 0)) = truth m l := by
  have hb := formed_iff.1 h
  unfold truth rdOf
  rw [show ((l.natAbs : Int) - 1).toNat = l.natAbs - 1 by omega]
theorem isFormula_clause {v : Int} {cs : List (List Int)} (h : isFormula v cs = true) {c : List Int} (hc : c ∈ cs) : within c v = true := by
  unfold isFormula at h
  rw [Bool.and_eq_true] at h
  exact List.all_eq_true.1 h.2 c hc
theorem isFormula_bd {v : Int} {cs : List (List Int)} (h : isFormula v cs = true) : 0 ≤ v ∧ v ≤ 1048576 := by
  unfold isFormula at h
  rw [Bool.and_eq_true] at h
  simpa using h.1

/-! counting -/
def cnt : List Bool → Nat
  | [] => 0
  | b :: bs => (if b = true then 1 else 0) + cnt bs
theorem cnt_le (l : List Bool) : cnt l ≤ l.length := by
  induction l with
  | nil => simp [cnt]
  | cons b bs ih =>
    simp only [cnt, List.length_cons]
    split <;> omega
def rowF (c : Nat) : Nat → Nat → List Bool
  | _, 0 => []
  | j, d + 1 => decide (c > j) :: rowF c (j + 1) d
theorem rowF_length (c : Nat) (d : Nat) : ∀ j, (rowF c j d).length = d := by
  induction d with
  | zero => intro j; rfl
  | succ d ih => intro j; simp [rowF, ih]
def fillF (k : Nat) : Nat → List Bool → List Bool
  | _, [] => []
  | c, b :: bs => rowF (if b = true then c + 1 else c) 0 k ++ fillF k (if b = true then c + 1 else c) bs
theorem fillF_length (k : Nat) (bs : List Bool) : ∀ c, (fillF k c bs).length = bs.length * k := by
  induction bs with
  | nil => intro c; simp [fillF]
  | cons b bs ih => intro c; simp only [fillF, List.length_append, rowF_length, ih, List.length_cons, Nat.add_mul]; omega
def fillOf (on : List Bool) (k : Int) : List Bool × Int :=
  if k < 0 ∨ (cnt on : Int) > k then ([], 2) else if k = 0 ∨ k ≥ (on.length : Int) then ([], 0) else (fillF k.toNat 0 (on.take (on.length - 1)), 0)

/-! places -/
def idxOf (l : Int) : Int := if formed l = true then (if l < 0 then -2 * l - 1 else 2 * l - 2) else -1
def atOf (i : Int) : Int := if 0 ≤ i ∧ i < 2097152 then (if i % 2 = 1 then -(i / 2 + 1) else i / 2 + 1) else 0

end Go.Proofs.YtamefocngapkpaaMath
