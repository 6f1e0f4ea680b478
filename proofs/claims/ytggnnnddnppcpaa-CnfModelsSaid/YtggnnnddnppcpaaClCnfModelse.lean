/- One text of the claim of CnfModels: its functions as plain Lean functions, each with the proof that the code comes to these answers. Laid by standin.py out of the print of the seat; what the print does not take is proved by hand. -/
import Derived.Test.YtggnnnddnppcpaaClCnfModelsa
import Derived.Test.YtggnnnddnppcpaaClCnfModelsd
import Derived.Test.YtggnnnddnppcpaaWWords
import Derived.Lib.SlicesCompact
import Derived.Sort.Statements
import Derived.Test.YtggnnnddnppcpaaProg
import Derived.Test.YtggnnnddnppcpaaWLast
import Derived.Test.YtggnnnddnppcpaaWTab
import Derived.Test.YtggnnnddnppcpaaWFour
import Derived.Test.YtggnnnddnppcpaaWQPut
import Derived.Test.YtggnnnddnppcpaaWApart
import Derived.Test.YtggnnnddnppcpaaWArr
import Derived.Test.YtggnnnddnppcpaaWZeros
import Derived.Test.YtggnnnddnppcpaaWFoot
import Derived.Test.YtggnnnddnppcpaaWKept
import Derived.Test.YtggnnnddnppcpaaWShare
import Derived.Test.YtggnnnddnppcpaaWN
import Derived.Test.YtggnnnddnppcpaaWFootNe
import Derived.Test.YtggnnnddnppcpaaWAt
import Derived.Test.YtggnnnddnppcpaaWMore
/-! text YtggnnnddnppcpaaGCnfModelsx4 -/
namespace Go.Proofs.Ytggnnnddnppcpaa.PCnfModels
open Go.RowKit Go.Proofs.YtggnnnddnppcpaaW.PrintWords Go.Proofs.YtggnnnddnppcpaaW.PrintLast Go.Proofs.YtggnnnddnppcpaaW.PrintMore
attribute [local go_sem] max2_int min2_int max_two min_two max_three min_three max_four min_four   -- for this text's walks alone
set_option linter.unusedVariables false
set_option linter.unusedSimpArgs false

/-! ### depotref00_SameBools: function 38 -/
def depotref00_SameBools.l0 : Nat → List Bool → List Bool → Int → Option (Bool)
  | 0, _, _, _ => none
  | k + 1, x0, x1, x5 => if x5 < (x0.length : Int) then (if 0 ≤ x5 then (if x5 < (x1.length : Int) then (if ((rdOf false x0 x5) != (rdOf false x1 x5)) = true then (some false) else (depotref00_SameBools.l0 k x0 x1 (wrap64 (x5 + 1)))) else (none)) else (none)) else (some true)
def depotref00_SameBools.f (k : Nat) (l0 : List Bool) (l1 : List Bool) : Option (Bool) := if (l0.length : Int) = (l1.length : Int) then (depotref00_SameBools.l0 k l0 l1 0) else (some false)
theorem depotref00_SameBools.mono_l : ∀ k, (∀ y0 y1 y2, LeO (depotref00_SameBools.l0 k y0 y1 y2) (depotref00_SameBools.l0 (k + 1) y0 y1 y2))
  | 0 => fun _ _ _ r h => by simp [depotref00_SameBools.l0] at h
  | k + 1 => by
    have ih0 := depotref00_SameBools.mono_l k
    · intro y0 y1 y2
      unfold depotref00_SameBools.l0
      repeat' first
      | (with_reducible exact ih0 _ _ _)
      | (with_reducible exact LeO.refl _)
      | (with_reducible exact LeO.none _)
      | (with_reducible refine LeO.ite ?_ ?_)
      | (with_reducible refine LeO.bind ?_ (fun _ => ?_))
      | exact ih0 _ _ _
      | exact LeO.none _
      | refine LeO.ite ?_ ?_
      | refine LeO.bind ?_ (fun _ => ?_)
theorem depotref00_SameBools.mono : ∀ a0 a1 k, LeO (depotref00_SameBools.f k a0 a1) (depotref00_SameBools.f (k + 1) a0 a1) := by
  intro a0 a1 k
  have ih0 := depotref00_SameBools.mono_l k
  unfold depotref00_SameBools.f
  repeat' first
      | (with_reducible exact ih0 _ _ _)
      | (with_reducible exact LeO.refl _)
      | (with_reducible exact LeO.none _)
      | (with_reducible refine LeO.ite ?_ ?_)
      | (with_reducible refine LeO.bind ?_ (fun _ => ?_))
      | exact ih0 _ _ _
      | exact LeO.none _
      | refine LeO.ite ?_ ?_
      | refine LeO.bind ?_ (fun _ => ?_)
set_option maxHeartbeats 8000000 in
set_option maxRecDepth 100000 in
theorem depotref00_SameBools.calls (k : Nat) (A0 : Option Addr) (c0 : Nat) (l0 : List Bool) (A1 : Option Addr) (c1 : Nat) (l1 : List Bool) (r : Bool) (w : World) (hr0 : Kd.C Kd.bool w A0 l0.length l0) (hc0 : l0.length ≤ c0) (hr1 : Kd.C Kd.bool w A1 l1.length l1) (hc1 : l1.length ≤ c1) (h : depotref00_SameBools.f k l0 l1 = some r) :
    Calls Try.prog 38 #[.slice A0 l0.length c0, .slice A1 l1.length c1] w fun e w' => e = .returned (.bool r) ∧ Drawn0 w w' := by
  have HR0 := Aside0.mk hr0
  have HC0 := Aside0.mk hc0
  clear hr0 hc0
  have HR1 := Aside0.mk hr1
  have HC1 := Aside0.mk hc1
  clear hr1 hc1
  have H : (if (l0.length : Int) = (l1.length : Int) then (depotref00_SameBools.l0 k l0 l1 0) else (some false)) = some r := h
  clear h
  by_cases c3 : (l0.length : Int) = (l1.length : Int)
  · rw [if_pos c3] at H
    have c3b0 : ((l0.length : Int) == (l1.length : Int)) = true := beq_iff_eq.mpr c3
    have c3b1 : ((l0.length : Int) != (l1.length : Int)) = false := bne_eq_false_iff_eq.mpr c3
    have c3b2 : (l0.length == l1.length) = true := by first | simpa using c3 | (simp at c3 ⊢; omega)
    clear c3
    have H' := Aside0.mk H
    clear H
    go_enter Try.func38, Try.ntmps38
    go_wp2
    repeat (go_quiet (fail); try go_wp2)
    go_loopg [5] k (fun kq v5 w' => ∃ (x5_1 : Int), v5 = .int .i64 x5_1 ∧ Aside0 (depotref00_SameBools.l0 kq l0 l1 x5_1 = some r) ∧ Aside0 (kq ≤ k) ∧ Drawn0 w w')
    case atStart => exact ⟨(0), (by first | rfl | (simp; done) | (simp [*]; done)), H', ⟨Nat.le_refl _⟩, by repeat (first | exact Drawn0.refl _ | apply Drawn0.step)⟩
    case round =>
      clear H'
      try clear c1
      try clear p2
      try clear c3
      try clear c3b0
      try clear c3b1
      try clear c3b2
      obtain ⟨x5_1, rfl, HA, HK1, ⟨m1, rfl⟩⟩ := hrel
      cases gk with
      | zero => exact absurd HA.out (by simp [depotref00_SameBools.l0])
      | succ k1 =>
        have H := HA.out
        clear HA
        simp only [depotref00_SameBools.l0] at H
        by_cases c4 : x5_1 < (l0.length : Int)
        · rw [if_pos c4] at H
          have c4b0 : decide (x5_1 < (l0.length : Int)) = true := decide_eq_true c4
          clear c4
          by_cases c5 : 0 ≤ x5_1
          · rw [if_pos c5] at H
            have c5b0 : decide (0 ≤ x5_1) = true := decide_eq_true c5
            clear c5
            by_cases c6 : x5_1 < (l1.length : Int)
            · rw [if_pos c6] at H
              have c6b0 : decide (x5_1 < (l1.length : Int)) = true := decide_eq_true c6
              clear c6
              by_cases c7 : ((rdOf false l0 x5_1) != (rdOf false l1 x5_1)) = true
              · rw [if_pos c7] at H
                have c7b0 : ((rdOf false l0 x5_1) != (rdOf false l1 x5_1)) = true := c7
                (try (have c7b1 : decide ((rdOf false l0 x5_1) = (rdOf false l1 x5_1)) = false := by simpa using c7))
                (try (have c7b2 : ((rdOf false l0 x5_1) == (rdOf false l1 x5_1)) = false := by simpa using c7))
                (try (have c7b3 : ¬ ((rdOf false l0 x5_1) = (rdOf false l1 x5_1)) := by simpa using c7))
                clear c7
                obtain rfl := Option.some.inj H
                have p158 : 0 ≤ (x5_1 : Int) := of_decide_eq_true (by first | (with_reducible assumption) | assumption)
                have q158 : x5_1 < (l0.length : Int) := of_decide_eq_true (by first | (with_reducible assumption) | assumption)
                obtain ⟨ad158, e158, hx158_0⟩ := Kd.at_bool HR0.out x5_1 p158 q158
                cases e158
                replace p158 := eq_true p158
                replace q158 := eq_true q158
                have p159 : 0 ≤ (x5_1 : Int) := of_decide_eq_true (by first | (with_reducible assumption) | assumption)
                have q159 : x5_1 < (l1.length : Int) := of_decide_eq_true (by first | (with_reducible assumption) | assumption)
                obtain ⟨ad159, e159, hx159_0⟩ := Kd.at_bool HR1.out x5_1 p159 q159
                cases e159
                replace p159 := eq_true p159
                replace q159 := eq_true q159
                go_wp2
                repeat (go_quiet (fail); try go_wp2)
                go_ret
                exact ⟨by first | rfl | (simp; done) | (simp [*]; done), by repeat (first | exact Drawn0.refl _ | apply Drawn0.step)⟩
              · rw [if_neg c7] at H
                have c7b0 : ((rdOf false l0 x5_1) != (rdOf false l1 x5_1)) = false := by simpa using c7
                (try (have c7b1 : decide ((rdOf false l0 x5_1) = (rdOf false l1 x5_1)) = true := by simpa using c7))
                (try (have c7b2 : ((rdOf false l0 x5_1) == (rdOf false l1 x5_1)) = true := by simpa using c7))
                clear c7
                have H' := Aside0.mk H
                clear H
                have p158 : 0 ≤ (x5_1 : Int) := of_decide_eq_true (by first | (with_reducible assumption) | assumption)
                have q158 : x5_1 < (l0.length : Int) := of_decide_eq_true (by first | (with_reducible assumption) | assumption)
                obtain ⟨ad158, e158, hx158_0⟩ := Kd.at_bool HR0.out x5_1 p158 q158
                cases e158
                replace p158 := eq_true p158
                replace q158 := eq_true q158
                have p159 : 0 ≤ (x5_1 : Int) := of_decide_eq_true (by first | (with_reducible assumption) | assumption)
                have q159 : x5_1 < (l1.length : Int) := of_decide_eq_true (by first | (with_reducible assumption) | assumption)
                obtain ⟨ad159, e159, hx159_0⟩ := Kd.at_bool HR1.out x5_1 p159 q159
                cases e159
                replace p159 := eq_true p159
                replace q159 := eq_true q159
                go_wp2
                repeat (go_quiet (fail); try go_wp2)
                go_roundg k1
                case measure => have := HK1.out; omega
                case rel => exact ⟨(wrap64 (x5_1 + 1)), (by first | rfl | (simp; done) | (simp [*]; done)), H', ⟨by have := HK1.out; omega⟩, by repeat (first | exact Drawn0.refl _ | apply Drawn0.step)⟩
            · rw [if_neg c6] at H
              exact absurd H (by simp)
          · rw [if_neg c5] at H
            exact absurd H (by simp)
        · rw [if_neg c4] at H
          have c4b0 : decide (x5_1 < (l0.length : Int)) = false := decide_eq_false c4
          clear c4
          obtain rfl := Option.some.inj H
          go_wp2
          repeat (go_quiet (fail); try go_wp2)
          go_ret
          exact ⟨by first | rfl | (simp; done) | (simp [*]; done), by repeat (first | exact Drawn0.refl _ | apply Drawn0.step)⟩
  · rw [if_neg c3] at H
    have c3b0 : ((l0.length : Int) == (l1.length : Int)) = false := beq_eq_false_iff_ne.mpr c3
    have c3b1 : ((l0.length : Int) != (l1.length : Int)) = true := bne_iff_ne.mpr c3
    have c3b2 : (l0.length == l1.length) = false := by first | simpa using c3 | (simp at c3 ⊢; omega)
    obtain rfl := Option.some.inj H
    go_enter Try.func38, Try.ntmps38
    go_wp2
    repeat (go_quiet (fail); try go_wp2)
    go_ret
    exact ⟨by first | rfl | (simp; done) | (simp [*]; done), by repeat (first | exact Drawn0.refl _ | apply Drawn0.step)⟩

-- NOT PRINTED: function 7 (depotlaw02_CnfModels)

end Go.Proofs.Ytggnnnddnppcpaa.PCnfModels
/-! text YtggnnnddnppcpaaMath -/
namespace Go.Proofs.YtggnnnddnppcpaaMath
open Go.RowKit Go.Proofs.YtggnnnddnppcpaaW.PrintWords
set_option linter.unusedVariables false
set_option linter.unusedSimpArgs false

theorem Ev.succ {α : Type} {g : Nat → Option α} {r : α} (h : Ev (fun k => g (k + 1)) r) : Ev g r := Ev.step (fun _ => rfl) h
theorem Ev.bound {α β : Type} {x : Option α} {f : Nat → α → Option β} {a : α} {r : β} (h : x = some a) (k : Ev (fun n => f n a) r) : Ev (fun n => x.bind (f n)) r := by
  subst h
  exact k
theorem Ev.fixed {α : Type} {x : Option α} {r : α} (h : x = some r) : Ev (fun _ => x) r := by
  subst h
  exact Ev.now _

theorem w64 {x : Int} (h1 : -9223372036854775808 ≤ x) (h2 : x ≤ 9223372036854775807) : wrap64 x = x := by
  unfold wrap64
  omega
theorem w64s {i : Nat} (h : (i : Int) < 9223372036854775807) : wrap64 ((i : Int) + 1) = ((i + 1 : Nat) : Int) := by
  rw [w64 (by omega) (by omega)]
  omega
theorem w64p {i : Nat} (h0 : 0 < i) (h : (i : Int) < 9223372036854775807) : wrap64 ((i : Int) - 1) = ((i - 1 : Nat) : Int) := by
  rw [w64 (by omega) (by omega)]
  omega
theorem wf_lo {x : Int} (h : (Lit.int .i64 x).wf = true) : -9223372036854775808 ≤ x ∧ x ≤ 9223372036854775807 := by
  have h2 : (decide (IntKind.i64.min ≤ x) && decide (x ≤ IntKind.i64.max)) = true := h
  rw [Bool.and_eq_true, decide_eq_true_eq, decide_eq_true_eq] at h2
  have e1 : IntKind.i64.min = -9223372036854775808 := by decide
  have e2 : IntKind.i64.max = 9223372036854775807 := by decide
  omega

/-! reading -/
theorem rd_nat {l : List Int} {i : Nat} (h : i < l.length) : rd l (i : Int) = l[i] := by
  simp [rd, List.getD_eq_getElem?_getD, List.getElem?_eq_getElem h]
theorem drop_rd {l : List Int} {i : Nat} (h : i < l.length) : l.drop i = rd l (i : Int) :: l.drop (i + 1) := by
  rw [rd_nat h]
  exact List.drop_eq_getElem_cons h
theorem rd_mem {l : List Int} {i : Nat} (h : i < l.length) : rd l (i : Int) ∈ l := by
  rw [rd_nat h]
  exact List.getElem_mem h
theorem rdOf_nat {α : Type} {z : α} {l : List α} {i : Nat} (h : i < l.length) : rdOf z l (i : Int) = l[i] := by
  simp [rdOf, List.getD_eq_getElem?_getD, List.getElem?_eq_getElem h]
theorem drop_rdOf {α : Type} {z : α} {l : List α} {i : Nat} (h : i < l.length) : l.drop i = rdOf z l (i : Int) :: l.drop (i + 1) := by
  rw [rdOf_nat h]
  exact List.drop_eq_getElem_cons h
theorem getD_nat {α : Type} {z : α} {l : List α} {i : Nat} (h : i < l.length) : l.getD ((i : Int).toNat) z = l[i] := by
  simp [List.getD_eq_getElem?_getD, List.getElem?_eq_getElem h]
theorem drop_getD {α : Type} {z : α} {l : List α} {i : Nat} (h : i < l.length) : l.drop i = l.getD ((i : Int).toNat) z :: l.drop (i + 1) := by
  rw [getD_nat h]
  exact List.drop_eq_getElem_cons h
theorem take_snoc {α : Type} {l : List α} {i : Nat} (h : i < l.length) : l.take (i + 1) = l.take i ++ [l[i]] := by
  rw [List.take_succ_eq_append_getElem h]
theorem take_rd {l : List Int} {i : Nat} (h : i < l.length) : l.take (i + 1) = l.take i ++ [rd l (i : Int)] := by
  rw [rd_nat h]; exact take_snoc h
theorem take_rdOf {α : Type} {z : α} {l : List α} {i : Nat} (h : i < l.length) : l.take (i + 1) = l.take i ++ [rdOf z l (i : Int)] := by
  rw [rdOf_nat h]; exact take_snoc h
theorem take_getD {α : Type} {z : α} {l : List α} {i : Nat} (h : i < l.length) : l.take (i + 1) = l.take i ++ [l.getD ((i : Int).toNat) z] := by
  rw [getD_nat h]; exact take_snoc h

/-! literals -/
def formed (l : Int) : Bool := decide (l ≠ 0 ∧ -1048576 ≤ l ∧ l ≤ 1048576)
theorem formed_iff {l : Int} : formed l = true ↔ l ≠ 0 ∧ -1048576 ≤ l ∧ l ≤ 1048576 := by simp [formed]
theorem formed_neg (l : Int) : formed (-l) = formed l := by
  rw [Bool.eq_iff_iff, formed_iff, formed_iff]
  omega
def sound (c : List Int) : Bool := c.all formed
def has (c : List Int) (l : Int) : Bool := formed l && c.contains l
def varOf (l : Int) : Int := if formed l = true then (if l < 0 then -l else l) else 0
def within (c : List Int) (v : Int) : Bool := sound c && c.all fun l => decide (l ≤ v ∧ -l ≤ v)
def isFormula (v : Int) (cs : List (List Int)) : Bool := decide (0 ≤ v ∧ v ≤ 1048576) && cs.all fun c => within c v
theorem formed_bd {l : Int} (h : formed l = true) : -1048576 ≤ l ∧ l ≤ 1048576 := by
  rw [formed_iff] at h
  omega
theorem sound_mem {c : List Int} (h : sound c = true) {l : Int} (hl : l ∈ c) : formed l = true := List.all_eq_true.1 h l hl

/-- The numbers of those of which p holds, from number i on. -/
def idxs {α : Type} (p : α → Bool) : Nat → List α → List Int
  | _, [] => []
  | i, c :: cs => if p c = true then (i : Int) :: idxs p (i + 1) cs else idxs p (i + 1) cs
theorem idxs_length {α : Type} (p : α → Bool) (cs : List α) : ∀ i, (idxs p i cs).length ≤ cs.length := by
  induction cs with
  | nil => intro i; simp [idxs]
  | cons c cs ih =>
    intro i
    simp only [idxs]
    have := ih (i + 1)
    split <;> simp <;> omega

/-! models -/
def truth (m : List Bool) (l : Int) : Bool := (m.getD (l.natAbs - 1) false) == decide (l > 0)
def holdsIn (c : List Int) (m : List Bool) : Bool := c.any (truth m)
def allIn (cs : List (List Int)) (m : List Bool) : Bool := cs.all fun c => holdsIn c m
def fitsIn (v : Int) (cs : List (List Int)) (m : List Bool) : Bool := isFormula v cs && decide ((m.length : Int) = v)
def satisfies (v : Int) (cs : List (List Int)) (m : List Bool) : Bool := fitsIn v cs m && allIn cs m
def falses (v : Int) (cs : List (List Int)) (m : List Bool) : List Int := if fitsIn v cs m = true then idxs (fun c => !holdsIn c m) 0 cs else []
def sizeFrom : Int → List (List Int) → Int
  | a, [] => a
  | a, c :: cs => sizeFrom (wrap64 (a + (c.length : Int))) cs
theorem within_lit {c : List Int} {v : Int} (h : within c v = true) {l : Int} (hl : l ∈ c) : formed l = true ∧ l ≤ v ∧ -l ≤ v := by
  unfold within at h
  rw [Bool.and_eq_true] at h
  refine ⟨sound_mem h.1 hl, ?_⟩
  simpa using List.all_eq_true.1 h.2 l hl
theorem rdOf_truth {m : List Bool} {l : Int} (h : formed l = true) : (rdOf false m ((l.natAbs : Int) - 1) == decide (l > 0)) = truth m l := by
  have hb := formed_iff.1 h
  unfold truth rdOf
  rw [show ((l.natAbs : Int) - 1).toNat = l.natAbs - 1 by omega]
theorem isFormula_clause {v : Int} {cs : List (List Int)} (h : isFormula v cs = true) {c : List Int} (hc : c ∈ cs) : within c v = true := by
  unfold isFormula at h
  rw [Bool.and_eq_true] at h
  exact List.all_eq_true.1 h.2 c hc
theorem isFormula_bd {v : Int} {cs : List (List Int)} (h : isFormula v cs = true) : 0 ≤ v ∧ v ≤ 1048576 := by
  unfold isFormula at h
  rw [Bool.and_eq_true] at h
  simpa using h.1

/-! counting -/
def cnt : List Bool → Nat
  | [] => 0
  | b :: bs => (if b = true then 1 else 0) + cnt bs
theorem cnt_le (l : List Bool) : cnt l ≤ l.length := by
  induction l with
  | nil => simp [cnt]
  | cons b bs ih =>
    simp only [cnt, List.length_cons]
    split <;> omega
def rowF (c : Nat) : Nat → Nat → List Bool
  | _, 0 => []
  | j, d + 1 => decide (c > j) :: rowF c (j + 1) d
theorem rowF_length (c : Nat) (d : Nat) : ∀ j, (rowF c j d).length = d := by
  induction d with
  | zero => intro j; rfl
  | succ d ih => intro j; simp [rowF, ih]
def fillF (k : Nat) : Nat → List Bool → List Bool
  | _, [] => []
  | c, b :: bs => rowF (if b = true then c + 1 else c) 0 k ++ fillF k (if b = true then c + 1 else c) bs
theorem fillF_length (k : Nat) (bs : List Bool) : ∀ c, (fillF k c bs).length = bs.length * k := by
  induction bs with
  | nil => intro c; simp [fillF]
  | cons b bs ih => intro c; simp only [fillF, List.length_append, rowF_length, ih, List.length_cons, Nat.add_mul]; omega
def fillOf (on : List Bool) (k : Int) : List Bool × Int :=
  if k < 0 ∨ (cnt on : Int) > k then ([], 2) else if k = 0 ∨ k ≥ (on.length : Int) then ([], 0) else (fillF k.toNat 0 (on.take (on.length - 1)), 0)

/-! places -/
def idxOf (l : Int) : Int := if formed l = true then (if l < 0 then -2 * l - 1 else 2 * l - 2) else -1
def atOf (i : Int) : Int := if 0 ≤ i ∧ i < 2097152 then (if i % 2 = 1 then -(i / 2 + 1) else i / 2 + 1) else 0

end Go.Proofs.YtggnnnddnppcpaaMath
/-! text YtggnnnddnppcpaaTidyMath -/
namespace Go.Proofs.YtggnnnddnppcpaaMath
open Go.RowKit Go.Proofs.YtggnnnddnppcpaaW.PrintWords
set_option linter.unusedVariables false
set_option linter.unusedSimpArgs false

theorem idx_formed {l : Int} (h : formed l = true) : 0 ≤ idxOf l ∧ idxOf l < 2097152 ∧ ((l < 0 ∧ idxOf l = -2 * l - 1) ∨ (0 < l ∧ idxOf l = 2 * l - 2)) := by
  have hb := formed_iff.1 h
  unfold idxOf
  rw [if_pos h]
  split <;> omega
theorem idx_none {l : Int} (h : formed l = false) : idxOf l = -1 := by
  unfold idxOf
  rw [h]
  rfl
theorem idx_bound (l : Int) : -1 ≤ idxOf l ∧ idxOf l < 2097152 := by
  cases h : formed l with
  | true => have := idx_formed h; omega
  | false => rw [idx_none h]; omega
theorem idx_inj {a b : Int} (ha : formed a = true) (hb : formed b = true) (h : idxOf a = idxOf b) : a = b := by
  have h1 := idx_formed ha
  have h2 := idx_formed hb
  omega
theorem idx_neg {a b : Int} (ha : formed a = true) (hb : formed b = true) : a = -b ↔ (idxOf a / 2 = idxOf b / 2 ∧ idxOf a ≠ idxOf b) := by
  have h1 := idx_formed ha
  have h2 := idx_formed hb
  omega

/-- rising by place -/
def Rising (t : List Int) : Prop := t.Pairwise fun a b => idxOf a < idxOf b
def ins (x : Int) : List Int → List Int
  | [] => [x]
  | y :: t => if idxOf x < idxOf y then x :: y :: t else if x = y then y :: t else y :: ins x t
def tidyOf : List Int → List Int
  | [] => []
  | x :: c => if formed x = true then ins x (tidyOf c) else tidyOf c

theorem mem_ins (x y : Int) (t : List Int) : y ∈ ins x t ↔ y = x ∨ y ∈ t := by
  induction t with
  | nil => simp [ins]
  | cons z t ih =>
    simp only [ins]
    split
    · simp
    · split
      · rename_i h
        subst h
        simp
      · simp only [List.mem_cons, ih]
        constructor
        · rintro (h | h | h) <;> simp [h]
        · rintro (h | h | h) <;> simp [h]
theorem mem_tidyOf (y : Int) (c : List Int) : y ∈ tidyOf c ↔ y ∈ c ∧ formed y = true := by
  induction c with
  | nil => simp [tidyOf]
  | cons x c ih =>
    simp only [tidyOf]
    by_cases hx : formed x = true
    · rw [if_pos hx, mem_ins, ih, List.mem_cons]
      constructor
      · rintro (rfl | ⟨h1, h2⟩)
        · exact ⟨.inl rfl, hx⟩
        · exact ⟨.inr h1, h2⟩
      · rintro ⟨rfl | h1, h2⟩
        · exact .inl rfl
        · exact .inr ⟨h1, h2⟩
    · rw [if_neg hx, ih, List.mem_cons]
      constructor
      · rintro ⟨h1, h2⟩
        exact ⟨.inr h1, h2⟩
      · rintro ⟨rfl | h1, h2⟩
        · exact absurd h2 hx
        · exact ⟨h1, h2⟩
theorem tidyOf_formed {c : List Int} {y : Int} (h : y ∈ tidyOf c) : formed y = true := ((mem_tidyOf y c).1 h).2
theorem rising_ins {x : Int} (hx : formed x = true) : ∀ {t : List Int}, (∀ y ∈ t, formed y = true) → Rising t → Rising (ins x t)
  | [], _, _ => by simp [ins, Rising]
  | y :: t, hf, hr => by
    have hr' := List.pairwise_cons.1 hr
    simp only [ins]
    split
    · rename_i h
      refine List.pairwise_cons.2 ⟨?_, hr⟩
      intro z hz
      rcases List.mem_cons.1 hz with rfl | hz
      · exact h
      · have := hr'.1 z hz
        omega
    · split
      · exact hr
      · rename_i h1 h2
        refine List.pairwise_cons.2 ⟨?_, rising_ins hx (fun z hz => hf z (List.mem_cons_of_mem _ hz)) hr'.2⟩
        intro z hz
        rcases (mem_ins x z t).1 hz with rfl | hz
        · have h3 : idxOf z ≠ idxOf y := fun e => h2 (idx_inj hx (hf y List.mem_cons_self) e)
          omega
        · exact hr'.1 z hz
theorem rising_tidyOf (c : List Int) : Rising (tidyOf c) := by
  induction c with
  | nil => simp [tidyOf, Rising]
  | cons x c ih =>
    simp only [tidyOf]
    by_cases hx : formed x = true
    · rw [if_pos hx]
      exact rising_ins hx (fun y hy => tidyOf_formed hy) ih
    · rw [if_neg hx]
      exact ih
/-- Rising lists that hold the same are one. -/
theorem rising_ext : ∀ {s t : List Int}, Rising s → Rising t → (∀ x, x ∈ s ↔ x ∈ t) → s = t
  | [], [], _, _, _ => rfl
  | [], y :: t, _, _, h => absurd ((h y).2 List.mem_cons_self) (by simp)
  | x :: s, [], _, _, h => absurd ((h x).1 List.mem_cons_self) (by simp)
  | x :: s, y :: t, hs, ht, h => by
    have hs' := List.pairwise_cons.1 hs
    have ht' := List.pairwise_cons.1 ht
    have e : x = y := by
      rcases List.mem_cons.1 ((h x).1 List.mem_cons_self) with e | hx
      · exact e
      · rcases List.mem_cons.1 ((h y).2 List.mem_cons_self) with e | hy
        · exact e.symm
        · have h1 := hs'.1 y hy
          have h2 := ht'.1 x hx
          omega
    subst e
    congr 1
    refine rising_ext hs'.2 ht'.2 fun z => ?_
    constructor
    · intro hz
      rcases List.mem_cons.1 ((h z).1 (List.mem_cons_of_mem _ hz)) with rfl | hz'
      · have := hs'.1 z hz
        omega
      · exact hz'
    · intro hz
      rcases List.mem_cons.1 ((h z).2 (List.mem_cons_of_mem _ hz)) with rfl | hz'
      · have := ht'.1 z hz
        omega
      · exact hz'
theorem tidyOf_eq {c t : List Int} (hr : Rising t) (hm : ∀ x, x ∈ t ↔ x ∈ c ∧ formed x = true) : tidyOf c = t :=
  rising_ext (rising_tidyOf c) hr fun x => by rw [mem_tidyOf, hm]
theorem rising_nodup {t : List Int} (h : Rising t) : t.Nodup := by
  refine List.Pairwise.imp ?_ h
  intro a b h e
  subst e
  omega
theorem ins_length (x : Int) (t : List Int) : (ins x t).length ≤ t.length + 1 := by
  induction t with
  | nil => simp [ins]
  | cons y t ih =>
    simp only [ins]
    split
    · simp
    · split
      · simp
      · simp only [List.length_cons]; omega
theorem tidyOf_length (c : List Int) : (tidyOf c).length ≤ c.length := by
  induction c with
  | nil => simp [tidyOf]
  | cons x c ih =>
    simp only [tidyOf]
    have := ins_length x (tidyOf c)
    split <;> simp only [List.length_cons] <;> omega

/-! what a sort by place and slices.Compact leave -/
def byIdx (a b : Int) : Int := idxOf a - idxOf b
theorem compact_tidy (c : List Int) (d : Array Int) (hp : d.toList.Perm (c.filter formed)) (hs : ∀ i j, i < j → j < d.size → idxOf d[i]! ≤ idxOf d[j]!) : Go.Lib.compact d.toList = tidyOf c := by
  have hf : ∀ i, i < d.size → formed d[i]! = true := fun i hi => by
    have h1 : d[i]! ∈ d.toList := by
      rw [getElem!_pos d i hi]
      exact Array.getElem_mem_toList hi
    have := hp.subset h1
    exact (List.mem_filter.1 this).2
  have key : ∀ m, m ≤ d.size → Rising (Go.Lib.compactUpTo d m) ∧ (∀ x, x ∈ Go.Lib.compactUpTo d m ↔ ∃ i, i < m ∧ d[i]! = x) := by
    intro m
    induction m with
    | zero =>
      intro _
      exact ⟨by simp [Go.Lib.compactUpTo, Rising], by simp [Go.Lib.compactUpTo]⟩
    | succ m ih =>
      intro hm
      obtain ⟨h1, h2⟩ := ih (by omega)
      rw [Go.Lib.compactUpTo_succ]
      cases hk : Go.Lib.keeps d m with
      | true =>
        simp only [if_true]
        refine ⟨List.pairwise_append.2 ⟨h1, by simp, ?_⟩, ?_⟩
        · intro a ha b hb
          rw [List.mem_singleton] at hb
          subst hb
          obtain ⟨i, hi, rfl⟩ := (h2 a).1 ha
          have h3 := hs i m hi (by omega)
          have h4 : idxOf d[i]! ≠ idxOf d[m]! := by
            intro e
            have hne : m ≠ 0 := by omega
            have h5 : d[m]! ≠ d[m - 1]! := by simpa [Go.Lib.keeps, hne] using hk
            apply h5
            have h6 : idxOf d[i]! ≤ idxOf d[m - 1]! := by
              rcases Nat.lt_or_ge i (m - 1) with h | h
              · exact hs i (m - 1) h (by omega)
              · rw [show i = m - 1 by omega]
                exact Int.le_refl _
            have h7 := hs (m - 1) m (by omega) (by omega)
            exact idx_inj (hf m (by omega)) (hf (m - 1) (by omega)) (by omega)
          omega
        · intro x
          rw [List.mem_append, h2, List.mem_singleton]
          constructor
          · rintro (⟨i, hi, rfl⟩ | rfl)
            · exact ⟨i, by omega, rfl⟩
            · exact ⟨m, by omega, rfl⟩
          · rintro ⟨i, hi, rfl⟩
            rcases Nat.lt_or_ge i m with h | h
            · exact .inl ⟨i, h, rfl⟩
            · rw [show i = m by omega]
              exact .inr rfl
      | false =>
        simp only [Bool.false_eq_true, if_false, List.append_nil]
        refine ⟨h1, ?_⟩
        intro x
        rw [h2]
        constructor
        · rintro ⟨i, hi, rfl⟩
          exact ⟨i, by omega, rfl⟩
        · rintro ⟨i, hi, rfl⟩
          rcases Nat.lt_or_ge i m with h | h
          · exact ⟨i, h, rfl⟩
          · obtain rfl : i = m := by omega
            have hne : i ≠ 0 := by
              rintro rfl
              simp [Go.Lib.keeps] at hk
            have h5 : d[i]! = d[i - 1]! := by simpa [Go.Lib.keeps, hne] using hk
            exact ⟨i - 1, by omega, h5.symm⟩
  obtain ⟨h1, h2⟩ := key d.size (Nat.le_refl _)
  have e : Go.Lib.compact d.toList = Go.Lib.compactUpTo d d.size := by simp [Go.Lib.compact]
  rw [e]
  symm
  refine tidyOf_eq h1 fun x => ?_
  rw [h2]
  have h3 : (x ∈ d.toList) ↔ (x ∈ c ∧ formed x = true) := by rw [hp.mem_iff, List.mem_filter]
  rw [← h3]
  constructor
  · rintro ⟨i, hi, rfl⟩
    rw [getElem!_pos d i hi]
    exact Array.getElem_mem_toList hi
  · intro hx
    obtain ⟨i, hi, rfl⟩ := List.getElem_of_mem hx
    have hi' : i < d.size := by simpa using hi
    refine ⟨i, hi', ?_⟩
    rw [getElem!_pos d i hi']
    simp

end Go.Proofs.YtggnnnddnppcpaaMath
/-! text YtggnnnddnppcpaaLitsFormed -/
namespace Go.Proofs.YtggnnnddnppcpaaHand
open Go.RowKit Go.Proofs.YtggnnnddnppcpaaW.PrintWords Go.Proofs.YtggnnnddnppcpaaW.PrintLast Go.Proofs.YtggnnnddnppcpaaMath
set_option linter.unusedVariables false
set_option linter.unusedSimpArgs false

theorem formed_calls (l : Int) (b : Bool) (w : World) (h : formed l = b) : Calls Try.prog 86 #[.int .i64 l] w fun e w' => e = .returned (.bool b) ∧ Drawn0 w w' := by
  by_cases h0 : l = 0
  · have a1 : (l != 0) = false := by simp [h0]
    obtain rfl : b = false := by rw [← h]; unfold formed; simp [h0]
    clear h h0
    go_enter Try.func86, Try.ntmps86
    go_wp2
    go_ret
    exact ⟨rfl, by repeat (first | exact Drawn0.refl _ | apply Drawn0.step)⟩
  · have a1 : (l != 0) = true := by simp [h0]
    by_cases h1 : -1048576 ≤ l
    · have a2 : decide (-1048576 ≤ l) = true := decide_eq_true h1
      have a3 : decide (l ≤ 1048576) = b := by rw [← h]; unfold formed; rw [Bool.eq_iff_iff]; simp; omega
      clear h h0 h1
      go_enter Try.func86, Try.ntmps86
      go_wp2
      go_ret
      exact ⟨rfl, by repeat (first | exact Drawn0.refl _ | apply Drawn0.step)⟩
    · have a2 : decide (-1048576 ≤ l) = false := decide_eq_false h1
      obtain rfl : b = false := by rw [← h]; unfold formed; simp; omega
      clear h h0 h1
      go_enter Try.func86, Try.ntmps86
      go_wp2
      go_ret
      exact ⟨rfl, by repeat (first | exact Drawn0.refl _ | apply Drawn0.step)⟩

end Go.Proofs.YtggnnnddnppcpaaHand
/-! text YtggnnnddnppcpaaLitsBase -/
namespace Go.Proofs.YtggnnnddnppcpaaHand
open Go.RowKit Go.Proofs.YtggnnnddnppcpaaW.PrintWords Go.Proofs.YtggnnnddnppcpaaW.PrintLast Go.Proofs.YtggnnnddnppcpaaMath
set_option linter.unusedVariables false
set_option linter.unusedSimpArgs false

theorem index_calls (l r : Int) (w : World) (h : idxOf l = r) : Calls Try.prog 96 #[.int .i64 l] w fun e w' => e = .returned (.int .i64 r) ∧ Drawn0 w w' := by
  cases hf : formed l with
  | false =>
    have F := fun w => formed_calls l false w hf
    obtain rfl : r = -1 := by rw [← h, idx_none hf]
    clear h hf
    go_enter Try.func96, Try.ntmps96
    go_wp2_with (go_at_call 86; (with_reducible refine (F _).mono ?_); rintro e w' ⟨rfl, ⟨nd, rfl⟩⟩)
    go_ret
    exact ⟨rfl, by repeat (first | exact Drawn0.refl _ | apply Drawn0.step)⟩
  | true =>
    have F := fun w => formed_calls l true w hf
    obtain ⟨h1, h2, h3⟩ := idx_formed hf
    have hb := formed_bd hf
    by_cases hn : l < 0
    · have a1 : decide (l < 0) = true := decide_eq_true hn
      have e : wrap64 (wrap64 (2 * wrap64 (-l)) - 1) = r := by unfold wrap64; omega
      clear h hf h1 h2 h3 hb hn
      have E := Aside0.mk e
      clear e
      go_enter Try.func96, Try.ntmps96
      go_wp2_with (go_at_call 86; (with_reducible refine (F _).mono ?_); rintro e w' ⟨rfl, ⟨nd, rfl⟩⟩)
      go_ret
      exact ⟨by rw [← E.out]; rfl, by repeat (first | exact Drawn0.refl _ | apply Drawn0.step)⟩
    · have a1 : decide (l < 0) = false := decide_eq_false hn
      have e : wrap64 (wrap64 (2 * l) - 2) = r := by unfold wrap64; omega
      clear h hf h1 h2 h3 hb hn
      have E := Aside0.mk e
      clear e
      go_enter Try.func96, Try.ntmps96
      go_wp2_with (go_at_call 86; (with_reducible refine (F _).mono ?_); rintro e w' ⟨rfl, ⟨nd, rfl⟩⟩)
      go_ret
      exact ⟨by rw [← E.out]; rfl, by repeat (first | exact Drawn0.refl _ | apply Drawn0.step)⟩

theorem byIndex_calls (a b : Int) (w : World) : Calls Try.prog 89 #[.int .i64 a, .int .i64 b] w fun e w' => e = .returned (.int .i64 (byIdx a b)) ∧ Drawn0 w w' := by
  have X := fun w => index_calls a _ w rfl
  have Y := fun w => index_calls b _ w rfl
  have e : wrap64 (idxOf a - idxOf b) = byIdx a b := by
    have := idx_bound a
    have := idx_bound b
    unfold byIdx wrap64
    omega
  have E := Aside0.mk e
  clear e
  generalize byIdx a b = r at E ⊢
  generalize idxOf a = x at X E
  generalize idxOf b = y at Y E
  go_enter Try.func89, Try.ntmps89
  go_wp2_with fail
  (with_reducible refine (X _).mono ?_)
  rintro e w' ⟨rfl, ⟨nd, rfl⟩⟩
  go_wp2_with fail
  (with_reducible refine (Y _).mono ?_)
  rintro e w' ⟨rfl, ⟨nd2, rfl⟩⟩
  go_wp2
  go_ret
  exact ⟨by rw [← E.out]; rfl, by repeat (first | exact Drawn0.refl _ | apply Drawn0.step)⟩

end Go.Proofs.YtggnnnddnppcpaaHand
