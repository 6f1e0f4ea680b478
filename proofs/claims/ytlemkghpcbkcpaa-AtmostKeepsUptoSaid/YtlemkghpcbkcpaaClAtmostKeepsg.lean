/- What atmost.AtMost answers, on lists; what its clauses say. -/
import Derived.Test.YtlemkghpcbkcpaaClAtmostKeepsf
import Derived.Maps.OwnSet
import Derived.Maps.OwnIn
import Derived.WalkKit
import Derived.Below
import Derived.Deep.Draws
import Derived.Test.YtlemkghpcbkcpaaProg
import Derived.Test.YtlemkghpcbkcpaaWLast
import Derived.Test.YtlemkghpcbkcpaaWTab
import Derived.Test.YtlemkghpcbkcpaaWFour
import Derived.Test.YtlemkghpcbkcpaaWQPut
import Derived.Test.YtlemkghpcbkcpaaWApart
import Derived.Test.YtlemkghpcbkcpaaWArr
import Derived.Test.YtlemkghpcbkcpaaWZeros
import Derived.Test.YtlemkghpcbkcpaaWFoot
import Derived.Test.YtlemkghpcbkcpaaWKept
import Derived.Test.YtlemkghpcbkcpaaWShare
import Derived.Test.YtlemkghpcbkcpaaWN
import Derived.Test.YtlemkghpcbkcpaaWFootNe
import Derived.Test.YtlemkghpcbkcpaaWAt
import Derived.Test.YtlemkghpcbkcpaaWMore
/-! text YtlemkghpcbkcpaaAtmostMath -/
namespace Go.Proofs.YtlemkghpcbkcpaaMath
open Go.RowKit Go.Proofs.YtlemkghpcbkcpaaW.PrintWords
set_option linter.unusedVariables false
set_option linter.unusedSimpArgs false

def helpersOf (n k : Int) : Int := if k = 0 ∨ k ≥ n then 0 else (n - 1) * k
/-- the number of a helper -/
def sv (k first : Int) (i j : Int) : Int := first + (i - 1) * k + j - 1
def pairAt (x k first i : Int) (h : Nat) : List (List Int) := [[x, -(sv k first (i - 1) ((h : Int) + 1)), sv k first i ((h : Int) + 2)], [-(sv k first (i - 1) ((h : Int) + 2)), sv k first i ((h : Int) + 2)]]
def midAt (l : List Int) (k : Nat) (first : Int) (m : Nat) : List (List Int) :=
  [[-(rd l ((m : Int) + 1)), sv k first ((m : Int) + 2) 1], [-(sv k first ((m : Int) + 1) 1), sv k first ((m : Int) + 2) 1]] ++
    ((List.range (k - 1)).flatMap fun h : Nat => [[-(rd l ((m : Int) + 1)), -(sv k first ((m : Int) + 1) ((h : Int) + 1)), sv k first ((m : Int) + 2) ((h : Int) + 2)], [-(sv k first ((m : Int) + 1) ((h : Int) + 2)), sv k first ((m : Int) + 2) ((h : Int) + 2)]]) ++
    [[-(rd l ((m : Int) + 1)), -(sv k first ((m : Int) + 1) k)]]
def clausesOf (l : List Int) (k : Nat) (first : Int) : List (List Int) :=
  if k = 0 then l.map (fun x => [-x]) else
  [[-(rd l 0), sv k first 1 1]] ++ (List.range (k - 1)).map (fun j : Nat => [-(sv k first 1 ((j : Int) + 2))]) ++ (List.range (l.length - 2)).flatMap (midAt l k first) ++ [[-(rd l ((l.length : Int) - 1)), -(sv k first ((l.length : Int) - 1) k)]]
def unlikeOf (l : List Int) : Bool := sound l && decide ((l.map varOf).Nodup)
def atmostOf (l : List Int) (k first : Int) : List (List Int) × Int × Int :=
  if unlikeOf l = false then ([], 0, 1) else
  if k < 0 ∨ first < 1 ∨ first > 1048577 ∨ (k < (l.length : Int) ∧ helpersOf l.length k > 1048577 - first) then ([], 0, 2) else
  if (l.any fun x => decide (first ≤ varOf x)) = true then ([], 0, 2) else
  (if k < (l.length : Int) then clausesOf l k.toNat first else [], first + helpersOf l.length k, 0)

theorem filter_both {α : Type} (p : α → Bool) (l : List α) : l.length = (l.filter p).length + (l.filter fun x => !p x).length := by
  induction l with
  | nil => rfl
  | cons x l ih =>
    cases h : p x <;> simp [h] <;> omega
theorem nodup_count (l : List Int) (n : Nat) (h : l.Nodup) (hb : ∀ x ∈ l, 1 ≤ x ∧ x ≤ n) : l.length ≤ n := by
  induction n generalizing l with
  | zero =>
    cases l with
    | nil => simp
    | cons x l => have := hb x (by simp); omega
  | succ n ih =>
    have h1 := ih (l.filter fun x => !(x == (n : Int) + 1)) (h.filter _) (fun x hx => by
      rw [List.mem_filter] at hx
      have := hb x hx.1
      have hne : x ≠ (n : Int) + 1 := by simpa using hx.2
      omega)
    have h2 : (l.filter fun x => (x == (n : Int) + 1)).length ≤ 1 := by
      have hn := h.filter (fun x => (x == (n : Int) + 1))
      match hl : l.filter fun x => (x == (n : Int) + 1) with
      | [] => simp
      | [a] => simp
      | a :: b :: r =>
        rw [hl] at hn
        have ha : a ∈ l.filter fun x => (x == (n : Int) + 1) := by rw [hl]; simp
        have hb' : b ∈ l.filter fun x => (x == (n : Int) + 1) := by rw [hl]; simp
        rw [List.mem_filter] at ha hb'
        have e1 : a = (n : Int) + 1 := by simpa using ha.2
        have e2 : b = (n : Int) + 1 := by simpa using hb'.2
        exact absurd (e1.trans e2.symm) ((List.pairwise_cons.1 hn).1 b (by simp))
    have h3 : l.length = (l.filter fun x => (x == (n : Int) + 1)).length + (l.filter fun x => !(x == (n : Int) + 1)).length := filter_both _ l
    omega
theorem unlike_length {l : List Int} (h : unlikeOf l = true) : l.length ≤ 1048576 := by
  unfold unlikeOf at h
  rw [Bool.and_eq_true, decide_eq_true_eq] at h
  have := nodup_count (l.map varOf) 1048576 h.2 (fun x hx => by
    obtain ⟨y, hy, rfl⟩ := List.mem_map.1 hx
    have := varOf_formed (sound_mem h.1 hy)
    omega)
  rwa [List.length_map] at this
theorem unlike_sound {l : List Int} (h : unlikeOf l = true) : sound l = true := by
  unfold unlikeOf at h
  rw [Bool.and_eq_true] at h
  exact h.1
theorem midAt_length (l : List Int) (k : Nat) (hk : 0 < k) (first : Int) (m : Nat) : (midAt l k first m).length = 2 * k + 1 := by
  simp only [midAt, List.length_append, List.length_flatMap, List.length_cons, List.length_nil]
  have : ((List.range (k - 1)).map fun _ => 2).sum = 2 * (k - 1) := by
    rw [List.map_const', List.sum_replicate_nat, List.length_range]; omega
  simp only [Nat.zero_add, Nat.reduceAdd] at this ⊢
  rw [this]
  omega
theorem sum_const_range {n c : Nat} (f : Nat → Nat) (h : ∀ i, f i = c) : ((List.range n).map f).sum = n * c := by
  have : (List.range n).map f = List.replicate n c := by
    rw [List.eq_replicate_iff]
    exact ⟨by simp, fun x hx => by obtain ⟨i, _, rfl⟩ := List.mem_map.1 hx; exact h i⟩
  rw [this, List.sum_replicate_nat]
theorem clausesOf_length (l : List Int) (k : Nat) (first : Int) (hk : 0 < k) (hn : k < l.length) : (clausesOf l k first).length = k + 1 + (l.length - 2) * (2 * k + 1) := by
  unfold clausesOf
  rw [if_neg (by omega)]
  simp only [List.length_append, List.length_flatMap, List.length_cons, List.length_nil, List.length_map, List.length_range]
  rw [sum_const_range _ (midAt_length l k hk first)]
  omega
theorem clausesOf_zero (l : List Int) (first : Int) : clausesOf l 0 first = l.map (fun x => [-x]) := rfl

/-! ### what the clauses say -/
/-- how many of the first so many are true -/
def upto (t : Nat → Bool) : Nat → Nat
  | 0 => 0
  | i + 1 => upto t i + (if t i = true then 1 else 0)
theorem upto_le (t : Nat → Bool) (i : Nat) : upto t i ≤ i := by
  induction i with
  | zero => simp [upto]
  | succ i ih => simp only [upto]; split <;> omega
theorem upto_mono (t : Nat → Bool) (i : Nat) : upto t i ≤ upto t (i + 1) := by simp only [upto]; omega

/-- A clause of these holds, where val says what literals are true. -/
def holdsC (val : Int → Bool) (c : List Int) : Bool := c.any val
def allC (val : Int → Bool) (cs : List (List Int)) : Bool := cs.all (holdsC val)
theorem allC_append (val : Int → Bool) (a b : List (List Int)) : allC val (a ++ b) = (allC val a && allC val b) := by simp [allC]
theorem allC_flat (val : Int → Bool) (n : Nat) (f : Nat → List (List Int)) : allC val ((List.range n).flatMap f) = true ↔ ∀ i, i < n → allC val (f i) = true := by
  simp only [allC, List.all_eq_true, List.mem_flatMap, List.mem_range]
  constructor
  · intro h i hi c hc
    exact h c ⟨i, hi, hc⟩
  · rintro h c ⟨i, hi, hc⟩
    exact h i hi c hc
theorem allC_map (val : Int → Bool) (n : Nat) (f : Nat → List Int) : allC val ((List.range n).map f) = true ↔ ∀ i, i < n → holdsC val (f i) = true := by
  simp only [allC, List.all_eq_true, List.mem_map, List.mem_range]
  constructor
  · intro h i hi
    exact h _ ⟨i, hi, rfl⟩
  · rintro h c ⟨i, hi, rfl⟩
    exact h i hi

/-- t: the literals' truths from 0 on; H i j: the helper of i and j (both from 1 on) -/
structure Says (val : Int → Bool) (l : List Int) (k : Nat) (first : Int) (t : Nat → Bool) (H : Nat → Nat → Bool) : Prop where
  lit : ∀ i, i < l.length → val (-(rd l (i : Int))) = !t i
  pos : ∀ i j, 1 ≤ i → i < l.length → 1 ≤ j → j ≤ k → val (sv k first i j) = H i j
  neg : ∀ i j, 1 ≤ i → i < l.length → 1 ≤ j → j ≤ k → val (-(sv k first i j)) = !H i j

theorem clauses_say {val : Int → Bool} {l : List Int} {k : Nat} {first : Int} {t : Nat → Bool} {H : Nat → Nat → Bool} (S : Says val l k first t H) (hk : 0 < k) (hn : k < l.length) :
    allC val (clausesOf l k first) = true ↔
      (t 0 = true → H 1 1 = true) ∧ (∀ j, 2 ≤ j → j ≤ k → H 1 j = false) ∧
      (∀ i, 1 ≤ i → i + 1 < l.length → (t i = true → H (i + 1) 1 = true) ∧ (∀ j, 1 ≤ j → j ≤ k → H i j = true → H (i + 1) j = true) ∧ (∀ j, 1 ≤ j → j < k → t i = true → H i j = true → H (i + 1) (j + 1) = true) ∧ (t i = true → H i k = false)) ∧
      (t (l.length - 1) = true → H (l.length - 1) k = false) := by
  have e0 := S.lit 0 (by omega)
  have eL := S.lit (l.length - 1) (by omega)
  have p11 := S.pos 1 1 (by omega) (by omega) (by omega) (by omega)
  have nL := S.neg (l.length - 1) k (by omega) (by omega) (by omega) (by omega)
  rw [show ((l.length - 1 : Nat) : Int) = (l.length : Int) - 1 by omega] at eL nL
  simp only [Int.ofNat_zero, Int.natCast_one] at e0 p11
  unfold clausesOf
  rw [if_neg (by omega), allC_append, allC_append, allC_append]
  simp only [Bool.and_eq_true, allC_flat, allC_map]
  have h1 : allC val [[-(rd l 0), sv k first 1 1]] = true ↔ (t 0 = true → H 1 1 = true) := by
    simp only [allC, List.all_cons, List.all_nil, Bool.and_true, holdsC, List.any_cons, List.any_nil, Bool.or_false]
    rw [e0, p11]
    cases t 0 <;> cases H 1 1 <;> simp
  have h4 : allC val [[-(rd l ((l.length : Int) - 1)), -(sv k first ((l.length : Int) - 1) k)]] = true ↔ (t (l.length - 1) = true → H (l.length - 1) k = false) := by
    simp only [allC, List.all_cons, List.all_nil, Bool.and_true, holdsC, List.any_cons, List.any_nil, Bool.or_false]
    rw [eL, nL]
    cases t (l.length - 1) <;> cases H (l.length - 1) k <;> simp
  have h2 : (∀ i, i < k - 1 → holdsC val [-(sv k first 1 ((i : Int) + 2))] = true) ↔ (∀ j, 2 ≤ j → j ≤ k → H 1 j = false) := by
    have hs : ∀ i : Nat, i < k - 1 → holdsC val [-(sv k first 1 ((i : Int) + 2))] = !H 1 (i + 2) := fun i hi => by
      have := S.neg 1 (i + 2) (by omega) (by omega) (by omega) (by omega)
      simp only [Int.natCast_one, Int.natCast_add, Int.cast_ofNat_Int] at this
      simp only [holdsC, List.any_cons, List.any_nil, Bool.or_false]
      exact this
    constructor
    · intro h j hj1 hj2
      obtain ⟨i, rfl⟩ : ∃ i, j = i + 2 := ⟨j - 2, by omega⟩
      have := h i (by omega)
      rw [hs i (by omega)] at this
      simpa using this
    · intro h i hi
      rw [hs i hi, h (i + 2) (by omega) (by omega)]
      rfl
  have h3 : (∀ i, i < l.length - 2 → allC val (midAt l k first i) = true) ↔ (∀ i, 1 ≤ i → i + 1 < l.length → (t i = true → H (i + 1) 1 = true) ∧ (∀ j, 1 ≤ j → j ≤ k → H i j = true → H (i + 1) j = true) ∧ (∀ j, 1 ≤ j → j < k → t i = true → H i j = true → H (i + 1) (j + 1) = true) ∧ (t i = true → H i k = false)) := by
    have hm : ∀ m, m < l.length - 2 → (allC val (midAt l k first m) = true ↔ (t (m + 1) = true → H (m + 1 + 1) 1 = true) ∧ (∀ j, 1 ≤ j → j ≤ k → H (m + 1) j = true → H (m + 1 + 1) j = true) ∧ (∀ j, 1 ≤ j → j < k → t (m + 1) = true → H (m + 1) j = true → H (m + 1 + 1) (j + 1) = true) ∧ (t (m + 1) = true → H (m + 1) k = false)) := by
      intro m hm
      have q1 := S.lit (m + 1) (by omega)
      have q2 : ∀ j, 1 ≤ j → j ≤ k → _ := fun j hj1 hj2 => S.pos (m + 2) j (by omega) (by omega) hj1 hj2
      have q3 : ∀ j, 1 ≤ j → j ≤ k → _ := fun j hj1 hj2 => S.neg (m + 1) j (by omega) (by omega) hj1 hj2
      simp only [Int.natCast_add, Int.natCast_one, Int.cast_ofNat_Int] at q1 q2 q3
      have r1 := q2 1 (by omega) (by omega)
      have r2 := q3 1 (by omega) (by omega)
      have r3 := q3 k (by omega) (by omega)
      simp only [Int.natCast_one] at r1 r2
      unfold midAt
      rw [allC_append, allC_append, Bool.and_eq_true, Bool.and_eq_true, allC_flat]
      have u1 : allC val [[-(rd l ((m : Int) + 1)), sv k first ((m : Int) + 2) 1], [-(sv k first ((m : Int) + 1) 1), sv k first ((m : Int) + 2) 1]] = true ↔ (t (m + 1) = true → H (m + 1 + 1) 1 = true) ∧ (H (m + 1) 1 = true → H (m + 1 + 1) 1 = true) := by
        simp only [allC, List.all_cons, List.all_nil, Bool.and_true, holdsC, List.any_cons, List.any_nil, Bool.or_false]
        rw [q1, r1, r2]
        cases t (m + 1) <;> cases H (m + 1) 1 <;> cases hh : H (m + 2) 1 <;> simp [hh]
      have u3 : allC val [[-(rd l ((m : Int) + 1)), -(sv k first ((m : Int) + 1) k)]] = true ↔ (t (m + 1) = true → H (m + 1) k = false) := by
        simp only [allC, List.all_cons, List.all_nil, Bool.and_true, holdsC, List.any_cons, List.any_nil, Bool.or_false]
        rw [q1, r3]
        cases t (m + 1) <;> cases H (m + 1) k <;> simp
      have u2 : (∀ h, h < k - 1 → allC val [[-(rd l ((m : Int) + 1)), -(sv k first ((m : Int) + 1) ((h : Int) + 1)), sv k first ((m : Int) + 2) ((h : Int) + 2)], [-(sv k first ((m : Int) + 1) ((h : Int) + 2)), sv k first ((m : Int) + 2) ((h : Int) + 2)]] = true) ↔
          (∀ h, h < k - 1 → (t (m + 1) = true → H (m + 1) (h + 1) = true → H (m + 1 + 1) (h + 2) = true) ∧ (H (m + 1) (h + 2) = true → H (m + 1 + 1) (h + 2) = true)) := by
        have v : ∀ h, h < k - 1 → (allC val [[-(rd l ((m : Int) + 1)), -(sv k first ((m : Int) + 1) ((h : Int) + 1)), sv k first ((m : Int) + 2) ((h : Int) + 2)], [-(sv k first ((m : Int) + 1) ((h : Int) + 2)), sv k first ((m : Int) + 2) ((h : Int) + 2)]] = true ↔ ((t (m + 1) = true → H (m + 1) (h + 1) = true → H (m + 1 + 1) (h + 2) = true) ∧ (H (m + 1) (h + 2) = true → H (m + 1 + 1) (h + 2) = true))) := by
          intro h hh
          have s1 := q3 (h + 1) (by omega) (by omega)
          have s2 := q3 (h + 2) (by omega) (by omega)
          have s3 := q2 (h + 2) (by omega) (by omega)
          simp only [Int.natCast_add, Int.natCast_one, Int.cast_ofNat_Int] at s1 s2 s3
          simp only [allC, List.all_cons, List.all_nil, Bool.and_true, holdsC, List.any_cons, List.any_nil, Bool.or_false]
          rw [q1, s1, s2, s3]
          cases t (m + 1) <;> cases H (m + 1) (h + 1) <;> cases H (m + 1) (h + 2) <;> cases hx : H (m + 2) (h + 2) <;> simp [hx]
        exact ⟨fun h i hi => (v i hi).1 (h i hi), fun h i hi => (v i hi).2 (h i hi)⟩
      rw [u1, u2, u3]
      constructor
      · rintro ⟨⟨⟨a1, a2⟩, a3⟩, a4⟩
        refine ⟨a1, ?_, ?_, a4⟩
        · intro j hj1 hj2 hH
          rcases Nat.lt_or_ge 1 j with hj | hj
          · obtain ⟨h, rfl⟩ : ∃ h, j = h + 2 := ⟨j - 2, by omega⟩
            exact (a3 h (by omega)).2 hH
          · obtain rfl : j = 1 := by omega
            exact a2 hH
        · intro j hj1 hj2 ht hH
          obtain ⟨h, rfl⟩ : ∃ h, j = h + 1 := ⟨j - 1, by omega⟩
          exact (a3 h (by omega)).1 ht hH
      · rintro ⟨a1, a2, a3, a4⟩
        exact ⟨⟨⟨a1, a2 1 (by omega) (by omega)⟩, fun h hh => ⟨fun ht hH => a3 (h + 1) (by omega) (by omega) ht hH, a2 (h + 2) (by omega) (by omega)⟩⟩, a4⟩
    constructor
    · intro h i hi1 hi2
      obtain ⟨m, rfl⟩ : ∃ m, i = m + 1 := ⟨i - 1, by omega⟩
      exact (hm m (by omega)).1 (h m (by omega))
    · intro h m hm'
      exact (hm m hm').2 (h (m + 1) (by omega) (by omega))
  rw [h1, h2, h3, h4, and_assoc, and_assoc]

/-- If all clauses hold, at most k of the literals are true. -/
theorem at_most {val : Int → Bool} {l : List Int} {k : Nat} {first : Int} {t : Nat → Bool} {H : Nat → Nat → Bool} (S : Says val l k first t H) (hk : 0 < k) (hn : k < l.length) (h : allC val (clausesOf l k first) = true) : upto t l.length ≤ k := by
  obtain ⟨a1, a2, a3, a4⟩ := (clauses_say S hk hn).1 h
  have key : ∀ i, i + 1 < l.length → (∀ j, 1 ≤ j → j ≤ k → j ≤ upto t (i + 1) → H (i + 1) j = true) := by
    intro i
    induction i with
    | zero =>
      intro _ j hj1 hj2 hj
      simp only [upto] at hj
      have ht : t 0 = true := by
        cases h0 : t 0 with
        | true => rfl
        | false => rw [h0] at hj; simp at hj; omega
      obtain rfl : j = 1 := by split at hj <;> omega
      exact a1 ht
    | succ i ih =>
      intro hi j hj1 hj2 hj
      obtain ⟨b1, b2, b3, b4⟩ := a3 (i + 1) (by omega) (by omega)
      rcases Nat.lt_or_ge (upto t (i + 1)) j with hlt | hge
      · have e : upto t (i + 1 + 1) = upto t (i + 1) + (if t (i + 1) = true then 1 else 0) := rfl
        have ht : t (i + 1) = true := by
          cases h0 : t (i + 1) with
          | true => rfl
          | false => rw [e, h0] at hj; simp at hj; omega
        rw [e, if_pos ht] at hj
        rcases Nat.lt_or_ge 1 j with hj3 | hj3
        · obtain ⟨h', rfl⟩ : ∃ h', j = h' + 1 := ⟨j - 1, by omega⟩
          exact b3 h' (by omega) (by omega) ht (ih (by omega) h' (by omega) (by omega) (by omega))
        · obtain rfl : j = 1 := by omega
          exact b1 ht
      · exact b2 j hj1 hj2 (ih (by omega) j hj1 hj2 hge)
  have bound : ∀ i, i ≤ l.length → upto t i ≤ k := by
    intro i
    induction i with
    | zero => intro _; simp [upto]
    | succ i ih =>
      intro hi
      have e : upto t (i + 1) = upto t i + (if t i = true then 1 else 0) := rfl
      have h0 := ih (by omega)
      rcases Nat.lt_or_ge (upto t i) k with hlt | hge
      · rw [e]; split <;> omega
      · cases ht : t i with
        | false => rw [e, ht]; simpa using h0
        | true =>
          exfalso
          cases i with
          | zero => simp [upto] at hge; omega
          | succ i =>
            have hH := key i (by omega) k (by omega) (by omega) hge
            rcases Nat.lt_or_ge (i + 1 + 1) l.length with h5 | h5
            · have := (a3 (i + 1) (by omega) (by omega)).2.2.2 ht
              rw [hH] at this; cases this
            · have e6 : l.length - 1 = i + 1 := by omega
              rw [e6] at a4
              have := a4 ht
              rw [hH] at this; cases this
  exact bound _ (Nat.le_refl _)

/-- If at most k are true, all clauses hold where the helpers count. -/
theorem all_hold {val : Int → Bool} {l : List Int} {k : Nat} {first : Int} {t : Nat → Bool} {H : Nat → Nat → Bool} (S : Says val l k first t H) (hk : 0 < k) (hn : k < l.length) (hH : ∀ i j, 1 ≤ i → i < l.length → 1 ≤ j → j ≤ k → H i j = decide (j ≤ upto t i)) (h : upto t l.length ≤ k) : allC val (clausesOf l k first) = true := by
  have mono : ∀ i d, upto t i ≤ upto t (i + d) := by
    intro i d
    induction d with
    | zero => exact Nat.le_refl _
    | succ d ih => exact Nat.le_trans ih (upto_mono t (i + d))
  have full : ∀ i, i ≤ l.length → upto t i ≤ k := fun i hi => by
    have := mono i (l.length - i)
    rw [show i + (l.length - i) = l.length by omega] at this
    omega
  refine (clauses_say S hk hn).2 ⟨?_, ?_, ?_, ?_⟩
  · intro ht
    rw [hH 1 1 (by omega) (by omega) (by omega) (by omega)]
    simp [upto, ht]
  · intro j hj1 hj2
    rw [hH 1 j (by omega) (by omega) (by omega) (by omega)]
    have := upto_le t 1
    simp; omega
  · intro i hi1 hi2
    have e : upto t (i + 1) = upto t i + (if t i = true then 1 else 0) := rfl
    refine ⟨?_, ?_, ?_, ?_⟩
    · intro ht
      rw [hH (i + 1) 1 (by omega) (by omega) (by omega) (by omega), e, if_pos ht]
      simp
    · intro j hj1 hj2 hj
      rw [hH i j (by omega) (by omega) (by omega) (by omega)] at hj
      rw [hH (i + 1) j (by omega) (by omega) (by omega) (by omega)]
      have := upto_mono t i
      simp only [decide_eq_true_eq] at hj ⊢
      omega
    · intro j hj1 hj2 ht hj
      rw [hH i j (by omega) (by omega) (by omega) (by omega)] at hj
      rw [hH (i + 1) (j + 1) (by omega) (by omega) (by omega) (by omega), e, if_pos ht]
      simp only [decide_eq_true_eq] at hj ⊢
      omega
    · intro ht
      have := full (i + 1) (by omega)
      rw [e, if_pos ht] at this
      rw [hH i k (by omega) (by omega) (by omega) (by omega)]
      simp; omega
  · intro ht
    have e : upto t (l.length - 1 + 1) = upto t (l.length - 1) + (if t (l.length - 1) = true then 1 else 0) := rfl
    rw [if_pos ht, show l.length - 1 + 1 = l.length by omega] at e
    rw [hH (l.length - 1) k (by omega) (by omega) (by omega) (by omega)]
    simp; omega
end Go.Proofs.YtlemkghpcbkcpaaMath
/-! text YtlemkghpcbkcpaaIntMap -/
namespace Go.Proofs.YtlemkghpcbkcpaaMaps
open Go Go.Maps Go.RowKit
set_option linter.unusedVariables false
set_option linter.unusedSimpArgs false

/-- kinds of keys -/
structure Keys (κ : Type) where
  kl : κ → Lit
  inj : ∀ {a b}, kl a = kl b → a = b
  isKey : ∀ a, WideAt.IsKeyLit (kl a)
def intKeys : Keys Int where
  kl := Lit.int .i64
  inj := fun h => by injection h
  isKey := fun a => by simp [WideAt.IsKeyLit]
def strKeys : Keys (List UInt8) where
  kl := Lit.string
  inj := fun h => by injection h
  isKey := fun a => by simp [WideAt.IsKeyLit]
/-- kinds of elements -/
structure Elem (α : Type) where
  enc : α → Value
  el : α → DataW Unit
  R : Value → Option (DataW Unit × List MemPlace)
  ok : α → Prop
  inv : ∀ {v z}, R v = some z → ∃ a, v = enc a ∧ z.1 = el a
  reads : ∀ {a}, ok a → R (enc a) = some (el a, [])
  inj : ∀ {a b}, el a = el b → a = b
def intElem (P : Program) (e : TypeId) (he : P.underlying e = some (.int .i64)) : Elem Int where
  enc := Value.int .i64
  el := fun c => .lit (.int .i64 c)
  R := plainElem P e
  ok := fun c => (Lit.int .i64 c).wf = true
  inv := fun h => by
    obtain ⟨a, rfl, rfl, _⟩ := plainElem_int_inv he h
    exact ⟨a, rfl, rfl⟩
  reads := fun h => plainElem_int he h
  inj := fun h => by injection h with h; injection h
noncomputable def markR (v : Value) : Option (DataW Unit × List MemPlace) := by classical exact if v = .agg #[.bool true] then some (.lit (.bool true), []) else if v = .agg #[.bool false] then some (.lit (.bool false), []) else none
noncomputable def markElem : Elem Bool where
  enc := fun b => .agg #[.bool b]
  el := fun b => .lit (.bool b)
  R := markR
  ok := fun _ => True
  inv := fun {v z} h => by
    unfold markR at h
    split at h
    · rename_i hv
      cases h
      exact ⟨true, hv, rfl⟩
    · split at h
      · rename_i hv
        cases h
        exact ⟨false, hv, rfl⟩
      · cases h
  reads := fun {a} _ => by cases a <;> simp [markR]
  inj := fun h => by injection h with h; injection h

variable {κ α : Type}
/-- Block B of W is a map that holds at each key what f says: at most n, just c of them. -/
def IM (P : Program) (k : TypeId) (Ky : Keys κ) (E : Elem α) (W : World) (B n : Nat) (f : κ → Option α) (c : Nat) : Prop :=
  ∃ D, W.ownsMap P k E.R B n D ∧ Maps.size D = c ∧ ∀ x, Maps.has D (Ky.kl x) = (f x).isSome ∧ ∀ z, D.atKey (Ky.kl x) z = ((f x).map E.el).getD z

noncomputable def upd (f : κ → Option α) (x : κ) (v : α) : κ → Option α := by classical exact fun y => if y = x then some v else f y
noncomputable def del (f : κ → Option α) (x : κ) : κ → Option α := by classical exact fun y => if y = x then none else f y
theorem upd_same (f : κ → Option α) (x : κ) (v : α) : upd f x v x = some v := by simp [upd]
theorem upd_other (f : κ → Option α) {x y : κ} (v : α) (h : y ≠ x) : upd f x v y = f y := by simp [upd, h]
theorem del_same (f : κ → Option α) (x : κ) : del f x x = none := by simp [del]
theorem del_other (f : κ → Option α) {x y : κ} (h : y ≠ x) : del f x y = f y := by simp [del, h]

section
variable {P : Program} {k : TypeId} {Ky : Keys κ} {E : Elem α} {W : World} {B n c : Nat} {f : κ → Option α}
theorem IM.made (W : World) : IM P k Ky E (W.alloc (.map #[] 0)) W.heap.size 0 (fun _ => none) 0 :=
  ⟨_, World.ownsMap_made W P k E.R, rfl, fun x => ⟨rfl, fun z => rfl⟩⟩
theorem IM.lt (h : IM P k Ky E W B n f c) : B < W.heap.size := by
  obtain ⟨D, h, _⟩ := h
  exact h.lt
theorem IM.kept {W' : World} {row : Option Nat} (h : IM P k Ky E W B n f c) (hg : W.grownBy W' row) (hne : some B ≠ row) : IM P k Ky E W' B n f c := by
  obtain ⟨D, h, r⟩ := h
  exact ⟨D, h.kept hg hne, r⟩
theorem IM.block {W' : World} (h : IM P k Ky E W B n f c) (hb : W'.heap[B]? = W.heap[B]?) : IM P k Ky E W' B n f c := by
  obtain ⟨D, ⟨es, clock, h1, h2⟩, r⟩ := h
  exact ⟨D, ⟨es, clock, hb.trans h1, h2⟩, r⟩
theorem IM.below {W' : World} (h : IM P k Ky E W B n f c) (hb : Below W.heap.size W W') : IM P k Ky E W' B n f c := h.block (hb.block B h.lt)
theorem IM.alloc (h : IM P k Ky E W B n f c) (o : Obj) : IM P k Ky E (W.alloc o) B n f c := by
  obtain ⟨D, h, r⟩ := h
  exact ⟨D, h.alloc o, r⟩
theorem IM.drewN (h : IM P k Ky E W B n f c) (m : Nat) : IM P k Ky E (W.drewN m) B n f c := h
theorem IM.drew (h : IM P k Ky E W B n f c) : IM P k Ky E W.drew B n f c := h
theorem IM.setCell (h : IM P k Ky E W B n f c) {a : Addr} (ha : B ≠ a.block) (u : Value) : IM P k Ky E (W.setCell a u) B n f c := by
  obtain ⟨D, h, r⟩ := h
  exact ⟨D, h.setCell ha u, r⟩
theorem IM.mono (h : IM P k Ky E W B n f c) {n' : Nat} (hn : n ≤ n') : IM P k Ky E W B n' f c := by
  obtain ⟨D, h, r⟩ := h
  exact ⟨D, h.mono hn, r⟩
theorem IM.congr (h : IM P k Ky E W B n f c) {g : κ → Option α} (hg : ∀ x, g x = f x) : IM P k Ky E W B n g c := by
  obtain rfl : g = f := funext hg
  exact h
theorem IM.size_le (h : IM P k Ky E W B n f c) : c ≤ n := by
  obtain ⟨D, h, rfl, _⟩ := h
  exact h.size_le
theorem put_reads {D : DataW Unit} (hD : Maps.Tidy D) (hr : ∀ x, Maps.has D (Ky.kl x) = (f x).isSome ∧ ∀ z, D.atKey (Ky.kl x) z = ((f x).map E.el).getD z) (x : κ) (v : α) :
    Maps.size (D.put (Ky.kl x) (E.el v)) = (if (f x).isSome = true then Maps.size D else Maps.size D + 1) ∧ ∀ y, Maps.has (D.put (Ky.kl x) (E.el v)) (Ky.kl y) = (upd f x v y).isSome ∧ ∀ z, (D.put (Ky.kl x) (E.el v)).atKey (Ky.kl y) z = ((upd f x v y).map E.el).getD z := by
  refine ⟨by rw [Maps.size_put hD, (hr x).1], fun y => ?_⟩
  by_cases hy : y = x
  · subst hy
    rw [upd_same]
    exact ⟨Maps.has_put_same hD.isMap (Ky.isKey _) _, fun z => Maps.atKey_put_same hD.isMap (Ky.isKey _) _ z⟩
  · rw [upd_other f v hy]
    have hne : Ky.kl y ≠ Ky.kl x := fun h => hy (Ky.inj h)
    exact ⟨(Maps.has_put_other hne _).trans (hr y).1, fun z => (Maps.atKey_put_other hne _ z).trans ((hr y).2 z)⟩
theorem del_reads {D : DataW Unit} (hD : Maps.Tidy D) (hr : ∀ x, Maps.has D (Ky.kl x) = (f x).isSome ∧ ∀ z, D.atKey (Ky.kl x) z = ((f x).map E.el).getD z) (x : κ) :
    Maps.size (D.del (Ky.kl x)) = (if (f x).isSome = true then Maps.size D - 1 else Maps.size D) ∧ ∀ y, Maps.has (D.del (Ky.kl x)) (Ky.kl y) = (del f x y).isSome ∧ ∀ z, (D.del (Ky.kl x)).atKey (Ky.kl y) z = ((del f x y).map E.el).getD z := by
  refine ⟨?_, fun y => ?_⟩
  · have h := Maps.size_del (k := Ky.kl x) hD
    rw [(hr x).1] at h
    split <;> simp_all <;> omega
  by_cases hy : y = x
  · subst hy
    rw [del_same]
    exact ⟨Maps.has_del_same, fun z => Maps.atKey_del_same z⟩
  · rw [del_other f hy]
    have hne : Ky.kl y ≠ Ky.kl x := fun h => hy (Ky.inj h)
    exact ⟨(Maps.has_del_other hne).trans (hr y).1, fun z => (Maps.atKey_del_other hne z).trans ((hr y).2 z)⟩
theorem IM.look (h : IM P k Ky E W B n f c) {t e : TypeId} (K : Keyed P k) (ht : P.underlying t = some (.map k e)) {z : α} (hz : (zeroValue e).run P W = .ok (E.enc z) W) (hzk : E.ok z) {xv : Value} {x : κ} (hkey : keyOf P k xv = some (Ky.kl x)) :
    (Instr.lookup t (.map (some B)) xv false).run P W = .ok (E.enc ((f x).getD z)) W := by
  obtain ⟨D, h, _, hr⟩ := h
  obtain ⟨v, ps, hrun, hv⟩ := h.lookup K ht hz (E.reads hzk) hkey
  obtain ⟨a, rfl, ha⟩ := E.inv hv
  rw [(hr x).2] at ha
  have : a = (f x).getD z := by
    cases hf : f x with
    | none => rw [hf] at ha; exact (E.inj ha).symm
    | some b => rw [hf] at ha; exact (E.inj ha).symm
  rw [hrun, this]
theorem IM.look_ok (h : IM P k Ky E W B n f c) {t e : TypeId} (K : Keyed P k) (ht : P.underlying t = some (.map k e)) {z : α} (hz : (zeroValue e).run P W = .ok (E.enc z) W) (hzk : E.ok z) {xv : Value} {x : κ} (hkey : keyOf P k xv = some (Ky.kl x)) :
    (Instr.lookup t (.map (some B)) xv true).run P W = .ok (.tuple #[E.enc ((f x).getD z), .bool (f x).isSome]) W := by
  obtain ⟨D, h, _, hr⟩ := h
  obtain ⟨v, ps, hrun, hv⟩ := h.look_ok K ht hz (E.reads hzk) hkey
  obtain ⟨a, rfl, ha⟩ := E.inv hv
  rw [(hr x).2] at ha
  have : a = (f x).getD z := by
    cases hf : f x with
    | none => rw [hf] at ha; exact (E.inj ha).symm
    | some b => rw [hf] at ha; exact (E.inj ha).symm
  rw [hrun, this, (hr x).1]
theorem IM.store (h : IM P k Ky E W B n f c) {t e : TypeId} (K : Keyed P k) (ht : P.underlying t = some (.map k e)) (hn : n < maxLen) {xv : Value} {x : κ} {v : α} (hkey : keyOf P k xv = some (Ky.kl x)) (hv : E.ok v) :
    ∃ w', (Instr.mapUpdate t (.map (some B)) xv (E.enc v)).run P W = .ok () w' ∧ IM P k Ky E w' B (n + 1) (upd f x v) (if (f x).isSome = true then c else c + 1) ∧ W.grownBy w' (some B) := by
  obtain ⟨D, h, rfl, hr⟩ := h
  obtain ⟨w', hrun, h1, h2⟩ := h.update K ht hn hkey (E.reads hv)
  obtain ⟨p1, p2⟩ := put_reads (h.tidy K) hr x v
  exact ⟨w', hrun, ⟨_, h1, p1, p2⟩, h2⟩
theorem IM.drop (h : IM P k Ky E W B n f c) {t e : TypeId} (K : Keyed P k) (ht : P.underlying t = some (.map k e)) {xv : Value} {x : κ} (hkey : keyOf P k xv = some (Ky.kl x)) (ty : TypeId) :
    ∃ w', (Builtin.delete_ #[t, k] ty #[.map (some B), xv]).run P W = .ok (.tuple #[]) w' ∧ IM P k Ky E w' B n (del f x) (if (f x).isSome = true then c - 1 else c) ∧ W.grownBy w' (some B) := by
  obtain ⟨D, h, rfl, hr⟩ := h
  obtain ⟨w', hrun, h1, h2⟩ := h.drop K ht hkey ty
  obtain ⟨p1, p2⟩ := del_reads (h.tidy K) hr x
  exact ⟨w', hrun, ⟨_, h1, p1, p2⟩, h2.grown⟩
theorem IM.len (h : IM P k Ky E W B n f c) {t e : TypeId} (ht : P.underlying t = some (.map k e)) (ty : TypeId) : (Builtin.len_ #[t] ty #[.map (some B)]).run P W = .ok (.int .i64 c) W := by
  obtain ⟨D, h, rfl, _⟩ := h
  exact h.len ht ty
end

/-! at the operation, for the walk -/
section
variable {P : Program} (w : World) {ops : Array Oper} {rest : List Oper} {o : Oper} {a : Act} {Q : Exit → Act → World → Prop} {k e : TypeId} {Ky : Keys κ} {E : Elem α} {B n c : Nat} {f : κ → Option α}
theorem im_look (hg : o.guard = none) (m x : Operand) (t : TypeId) (hop : o.op = Op.lookup t m x false) (K : Keyed P k) (ht : P.underlying t = some (.map k e)) {z : α} (hz : (zeroValue e).run P w = .ok (E.enc z) w) (hzk : E.ok z)
    (hm : a.eval m = .map (some B)) (h : IM P k Ky E w B n f c) (xv : Value) (key : κ) (hx : a.eval x = xv) (hkey : keyOf P k xv = some (Ky.kl key))
    (hK : wpList P ops Q rest (a.put o.dst (E.enc ((f key).getD z))) w) : wpList P ops Q (o :: rest) a w := by
  refine wpList_plain hg fun K' hK' => ?_
  have hrun := h.look K ht hz hzk hkey
  unfold Oper.wp
  simp [execOp, hop, hm, hx, hrun, Result.andThen]
  exact hK' _ _ hK
theorem im_look_int (he : P.underlying e = some (.int .i64)) (hg : o.guard = none) (m x : Operand) (t : TypeId) (hop : o.op = Op.lookup t m x false) (K : Keyed P k) (ht : P.underlying t = some (.map k e)) (hz : (zeroValue e).run P w = .ok (.int .i64 0) w)
    (hm : a.eval m = .map (some B)) {f : κ → Option Int} (h : IM P k Ky (intElem P e he) w B n f c) (xv : Value) (key : κ) (hx : a.eval x = xv) (hkey : keyOf P k xv = some (Ky.kl key))
    (hK : wpList P ops Q rest (a.put o.dst (.int .i64 ((f key).getD 0))) w) : wpList P ops Q (o :: rest) a w :=
  im_look w hg m x t hop K ht (z := (0 : Int)) hz (show (Lit.int .i64 0).wf = true by decide) hm h xv key hx hkey hK
theorem im_look_mark (hg : o.guard = none) (m x : Operand) (t : TypeId) (hop : o.op = Op.lookup t m x false) (K : Keyed P k) (ht : P.underlying t = some (.map k e)) (hz : (zeroValue e).run P w = .ok (.agg #[.bool false]) w)
    (hm : a.eval m = .map (some B)) {f : κ → Option Bool} (h : IM P k Ky markElem w B n f c) (xv : Value) (key : κ) (hx : a.eval x = xv) (hkey : keyOf P k xv = some (Ky.kl key))
    (hK : wpList P ops Q rest (a.put o.dst (.agg #[.bool ((f key).getD false)])) w) : wpList P ops Q (o :: rest) a w :=
  im_look w hg m x t hop K ht (z := false) hz trivial hm h xv key hx hkey hK
theorem im_ok (hg : o.guard = none) (m x : Operand) (t : TypeId) (hop : o.op = Op.lookup t m x true) (K : Keyed P k) (ht : P.underlying t = some (.map k e)) {z : α} (hz : (zeroValue e).run P w = .ok (E.enc z) w) (hzk : E.ok z)
    (hm : a.eval m = .map (some B)) (h : IM P k Ky E w B n f c) (xv : Value) (key : κ) (hx : a.eval x = xv) (hkey : keyOf P k xv = some (Ky.kl key))
    (hK : wpList P ops Q rest (a.put o.dst (.tuple #[E.enc ((f key).getD z), .bool (f key).isSome])) w) : wpList P ops Q (o :: rest) a w := by
  refine wpList_plain hg fun K' hK' => ?_
  have hrun := h.look_ok K ht hz hzk hkey
  unfold Oper.wp
  simp [execOp, hop, hm, hx, hrun, Result.andThen]
  exact hK' _ _ hK
theorem im_ok_int (he : P.underlying e = some (.int .i64)) (hg : o.guard = none) (m x : Operand) (t : TypeId) (hop : o.op = Op.lookup t m x true) (K : Keyed P k) (ht : P.underlying t = some (.map k e)) (hz : (zeroValue e).run P w = .ok (.int .i64 0) w)
    (hm : a.eval m = .map (some B)) {f : κ → Option Int} (h : IM P k Ky (intElem P e he) w B n f c) (xv : Value) (key : κ) (hx : a.eval x = xv) (hkey : keyOf P k xv = some (Ky.kl key))
    (hK : wpList P ops Q rest (a.put o.dst (.tuple #[.int .i64 ((f key).getD 0), .bool (f key).isSome])) w) : wpList P ops Q (o :: rest) a w :=
  im_ok w hg m x t hop K ht (z := (0 : Int)) hz (show (Lit.int .i64 0).wf = true by decide) hm h xv key hx hkey hK
theorem im_ok_mark (hg : o.guard = none) (m x : Operand) (t : TypeId) (hop : o.op = Op.lookup t m x true) (K : Keyed P k) (ht : P.underlying t = some (.map k e)) (hz : (zeroValue e).run P w = .ok (.agg #[.bool false]) w)
    (hm : a.eval m = .map (some B)) {f : κ → Option Bool} (h : IM P k Ky markElem w B n f c) (xv : Value) (key : κ) (hx : a.eval x = xv) (hkey : keyOf P k xv = some (Ky.kl key))
    (hK : wpList P ops Q rest (a.put o.dst (.tuple #[.agg #[.bool ((f key).getD false)], .bool (f key).isSome])) w) : wpList P ops Q (o :: rest) a w :=
  im_ok w hg m x t hop K ht (z := false) hz trivial hm h xv key hx hkey hK
theorem im_store (hg : o.guard = none) (m x v : Operand) (t : TypeId) (hop : o.op = Op.mapUpdate t m x v) (K : Keyed P k) (ht : P.underlying t = some (.map k e)) (hm : a.eval m = .map (some B)) (h : IM P k Ky E w B n f c) (hn : n < maxLen)
    (xv vv : Value) (key : κ) (val : α) (hx : a.eval x = xv) (hv : a.eval v = vv) (hkey : keyOf P k xv = some (Ky.kl key)) (hval : vv = E.enc val) (hok : E.ok val)
    (hK : ∀ w', IM P k Ky E w' B (n + 1) (upd f key val) (if (f key).isSome = true then c else c + 1) → w.grownBy w' (some B) → wpList P ops Q rest (a.put o.dst undef) w') : wpList P ops Q (o :: rest) a w := by
  refine wpList_plain hg fun K' hK' => ?_
  subst hval
  obtain ⟨w', hrun, r1, r2⟩ := h.store K ht hn hkey hok
  unfold Oper.wp
  simp [execOp, hop, hm, hx, hv, hrun, Result.andThen]
  exact hK' _ _ (hK w' r1 r2)
theorem im_store_int (he : P.underlying e = some (.int .i64)) (hg : o.guard = none) (m x v : Operand) (t : TypeId) (hop : o.op = Op.mapUpdate t m x v) (K : Keyed P k) (ht : P.underlying t = some (.map k e)) (hm : a.eval m = .map (some B)) {f : κ → Option Int} (h : IM P k Ky (intElem P e he) w B n f c) (hn : n < maxLen)
    (xv : Value) (key : κ) (val : Int) (hx : a.eval x = xv) (hv : a.eval v = .int .i64 val) (hkey : keyOf P k xv = some (Ky.kl key)) (hok : (Lit.int .i64 val).wf = true)
    (hK : ∀ w', IM P k Ky (intElem P e he) w' B (n + 1) (upd f key val) (if (f key).isSome = true then c else c + 1) → w.grownBy w' (some B) → wpList P ops Q rest (a.put o.dst undef) w') : wpList P ops Q (o :: rest) a w :=
  im_store w hg m x v t hop K ht hm h hn xv (.int .i64 val) key val hx hv hkey rfl hok hK
theorem im_store_mark (hg : o.guard = none) (m x v : Operand) (t : TypeId) (hop : o.op = Op.mapUpdate t m x v) (K : Keyed P k) (ht : P.underlying t = some (.map k e)) (hm : a.eval m = .map (some B)) {f : κ → Option Bool} (h : IM P k Ky markElem w B n f c) (hn : n < maxLen)
    (xv : Value) (key : κ) (val : Bool) (hx : a.eval x = xv) (hv : a.eval v = .agg #[.bool val]) (hkey : keyOf P k xv = some (Ky.kl key))
    (hK : ∀ w', IM P k Ky markElem w' B (n + 1) (upd f key val) (if (f key).isSome = true then c else c + 1) → w.grownBy w' (some B) → wpList P ops Q rest (a.put o.dst undef) w') : wpList P ops Q (o :: rest) a w :=
  im_store w hg m x v t hop K ht hm h hn xv (.agg #[.bool val]) key val hx hv hkey rfl trivial hK
theorem im_delete (hg : o.guard = none) (m x : Operand) (t : TypeId) (hop : o.op = Op.call { callee := Callee.builtin Builtin.delete, args := #[m, x], argTypes := #[t, k] }) (K : Keyed P k) (ht : P.underlying t = some (.map k e)) (hm : a.eval m = .map (some B)) (h : IM P k Ky E w B n f c)
    (xv : Value) (key : κ) (hx : a.eval x = xv) (hkey : keyOf P k xv = some (Ky.kl key))
    (hK : ∀ w', IM P k Ky E w' B n (del f key) (if (f key).isSome = true then c - 1 else c) → w.grownBy w' (some B) → wpList P ops Q rest (a.put o.dst (.tuple #[])) w') : wpList P ops Q (o :: rest) a w := by
  refine wpList_plain hg fun K' hK' => ?_
  obtain ⟨w', hrun, r1, r2⟩ := h.drop K ht hkey o.type
  unfold Oper.wp
  simp [execOp, hop, resolve, invoke, builtin, hm, hx, hrun, Result.andThen]
  exact hK' _ _ (hK w' r1 r2)
theorem im_len (hg : o.guard = none) (m : Operand) (t : TypeId) (hop : o.op = Op.call { callee := Callee.builtin Builtin.len, args := #[m], argTypes := #[t] }) (ht : P.underlying t = some (.map k e)) (hm : a.eval m = .map (some B)) (h : IM P k Ky E w B n f c)
    (hK : wpList P ops Q rest (a.put o.dst (.int .i64 c)) w) : wpList P ops Q (o :: rest) a w := by
  refine wpList_plain hg fun K' hK' => ?_
  have hrun := h.len ht o.type
  unfold Oper.wp
  simp [execOp, hop, resolve, invoke, builtin, hm, hrun, Result.andThen]
  exact hK' _ _ hK
end
end Go.Proofs.YtlemkghpcbkcpaaMaps
/-! text YtlemkghpcbkcpaaLitsFormed -/
namespace Go.Proofs.YtlemkghpcbkcpaaHand
open Go.RowKit Go.Proofs.YtlemkghpcbkcpaaW.PrintWords Go.Proofs.YtlemkghpcbkcpaaW.PrintLast Go.Proofs.YtlemkghpcbkcpaaMath
set_option linter.unusedVariables false
set_option linter.unusedSimpArgs false

theorem formed_calls (l : Int) (b : Bool) (w : World) (h : formed l = b) : Calls Try.prog 46 #[.int .i64 l] w fun e w' => e = .returned (.bool b) ∧ Drawn0 w w' := by
  by_cases h0 : l = 0
  · have a1 : (l != 0) = false := by simp [h0]
    obtain rfl : b = false := by rw [← h]; unfold formed; simp [h0]
    clear h h0
    go_enter Try.func46, Try.ntmps46
    go_wp2
    go_ret
    exact ⟨rfl, by repeat (first | exact Drawn0.refl _ | apply Drawn0.step)⟩
  · have a1 : (l != 0) = true := by simp [h0]
    by_cases h1 : -1048576 ≤ l
    · have a2 : decide (-1048576 ≤ l) = true := decide_eq_true h1
      have a3 : decide (l ≤ 1048576) = b := by rw [← h]; unfold formed; rw [Bool.eq_iff_iff]; simp; omega
      clear h h0 h1
      go_enter Try.func46, Try.ntmps46
      go_wp2
      go_ret
      exact ⟨rfl, by repeat (first | exact Drawn0.refl _ | apply Drawn0.step)⟩
    · have a2 : decide (-1048576 ≤ l) = false := decide_eq_false h1
      obtain rfl : b = false := by rw [← h]; unfold formed; simp; omega
      clear h h0 h1
      go_enter Try.func46, Try.ntmps46
      go_wp2
      go_ret
      exact ⟨rfl, by repeat (first | exact Drawn0.refl _ | apply Drawn0.step)⟩

end Go.Proofs.YtlemkghpcbkcpaaHand
/-! text YtlemkghpcbkcpaaLitsVar -/
namespace Go.Proofs.YtlemkghpcbkcpaaHand
open Go.RowKit Go.Proofs.YtlemkghpcbkcpaaW.PrintWords Go.Proofs.YtlemkghpcbkcpaaW.PrintLast Go.Proofs.YtlemkghpcbkcpaaMath
set_option linter.unusedVariables false
set_option linter.unusedSimpArgs false

theorem var_calls (l r : Int) (w : World) (h : varOf l = r) : Calls Try.prog 35 #[.int .i64 l] w fun e w' => e = .returned (.int .i64 r) ∧ Drawn0 w w' := by
  cases hf : formed l with
  | false =>
    have F := fun w => formed_calls l false w hf
    rw [varOf_none hf] at h
    subst h
    clear hf
    go_enter Try.func35, Try.ntmps35
    go_wp2_with (go_at_call 46; (with_reducible refine (F _).mono ?_); rintro e w' ⟨rfl, ⟨nd, rfl⟩⟩)
    go_ret
    exact ⟨rfl, by repeat (first | exact Drawn0.refl _ | apply Drawn0.step)⟩
  | true =>
    have F := fun w => formed_calls l true w hf
    have hb := formed_bd hf
    unfold varOf at h
    rw [if_pos hf] at h
    by_cases hlt : l < 0
    · rw [if_pos hlt] at h
      have e1 : decide (l < 0) = true := decide_eq_true hlt
      have HE : Aside0 (wrap64 (-l) = r) := ⟨by rw [w64 (by omega) (by omega)]; exact h⟩
      clear hf h hb hlt
      go_enter Try.func35, Try.ntmps35
      go_wp2_with (go_at_call 46; (with_reducible refine (F _).mono ?_); rintro e w' ⟨rfl, ⟨nd, rfl⟩⟩)
      go_ret
      exact ⟨by rw [← HE.out]; rfl, by repeat (first | exact Drawn0.refl _ | apply Drawn0.step)⟩
    · rw [if_neg hlt] at h
      subst h
      have e1 : decide (l < 0) = false := decide_eq_false hlt
      clear hf hb hlt
      go_enter Try.func35, Try.ntmps35
      go_wp2_with (go_at_call 46; (with_reducible refine (F _).mono ?_); rintro e w' ⟨rfl, ⟨nd, rfl⟩⟩)
      go_ret
      exact ⟨rfl, by repeat (first | exact Drawn0.refl _ | apply Drawn0.step)⟩

end Go.Proofs.YtlemkghpcbkcpaaHand
