/- What atmost.AtMost answers, on lists; what its clauses say. -/
import Derived.Test.YtlemkghpcbkcpaaTidyPure
import Derived.Test.YtlemkghpcbkcpaaVarMath
namespace Go.Proofs.YtlemkghpcbkcpaaMath
open Go.RowKit Go.Proofs.YtlemkghpcbkcpaaW.PrintWords
set_option linter.unusedVariables false
set_option linter.unusedSimpArgs false

def helpersOf (n k : Int) : Int := if k = 0 ∨ k ≥ n then 0 else (n - 1) * k
/-- the number of a helper -/
def sv (k first : Int) (i j : Int) : Int := first + (i - 1) * k + j - 1
def pairAt (x k first i : Int) (h : Nat) : List (List Int) := [[x, -(sv k first (i - 1) ((h : Int) + 1)), sv k first i ((h : Int) + 2)], [-(sv k first (i - 1) ((h : Int) + 2)), sv k first i ((h : Int) + 2)]]
def midAt (l : List Int) (k : Nat) (first : Int) (m : Nat) : List (List Int) :=
  [[-(rd l ((m : Int) + 1)), sv k first ((m : Int) + 2) 1], [-(sv k first ((m : Int) + 1) 1), sv k first ((m : Int) + 2) 1]] ++
    ((List.range (k - 1)).flatMap fun h : Nat => [[-(rd l ((m : Int) + 1)), -(sv k first ((m : Int) + 1) ((h : Int) + 1)), sv k first ((m : Int) + 2) ((h : Int) + 2)], [-(sv k first ((m : Int) + 1) ((h : Int) + 2)), sv k first ((m : Int) + 2) ((h : Int) + 2)]]) ++
    [[-(rd l ((m : Int) + 1)), -(sv k first ((m : Int) + 1) k)]]
def clausesOf (l : List Int) (k : Nat) (first : Int) : List (List Int) :=
  if k = 0 then l.map (fun x => [-x]) else
  [[-(rd l 0), sv k first 1 1]] ++ (List.range (k - 1)).map (fun j : Nat => [-(sv k first 1 ((j : Int) + 2))]) ++ (List.range (l.length - 2)).flatMap (midAt l k first) ++ [[-(rd l ((l.length : Int) - 1)), -(sv k first ((l.length : Int) - 1) k)]]
def unlikeOf (l : List Int) : Bool := sound l && decide ((l.map varOf).Nodup)
def atmostOf (l : List Int) (k first : Int) : List (List Int) × Int × Int :=
  if unlikeOf l = false then ([], 0, 1) else
  if k < 0 ∨ first < 1 ∨ first > 1048577 ∨ (k < (l.length : Int) ∧ helpersOf l.length k > 1048577 - first) then ([], 0, 2) else
  if (l.any fun x => decide (first ≤ varOf x)) = true then ([], 0, 2) else
  (if k < (l.length : Int) then clausesOf l k.toNat first else [], first + helpersOf l.length k, 0)

theorem filter_both {α : Type} (p : α → Bool) (l : List α) : l.length = (l.filter p).length + (l.filter fun x => !p x).length := by
  induction l with
  | nil => rfl
  | cons x l ih =>
    cases h : p x <;> simp [h] <;> omega
theorem nodup_count (l : List Int) (n : Nat) (h : l.Nodup) (hb : ∀ x ∈ l, 1 ≤ x ∧ x ≤ n) : l.length ≤ n := by
  induction n generalizing l with
  | zero =>
    cases l with
    | nil => simp
    | cons x l => have := hb x (by simp); omega
  | succ n ih =>
    have h1 := ih (l.filter fun x => !(x == (n : Int) + 1)) (h.filter _) (fun x hx => by
      rw [List.mem_filter] at hx
      have := hb x hx.1
      have hne : x ≠ (n : Int) + 1 := by simpa using hx.2
      omega)
    have h2 : (l.filter fun x => (x == (n : Int) + 1)).length ≤ 1 := by
      have hn := h.filter (fun x => (x == (n : Int) + 1))
      match hl : l.filter fun x => (x == (n : Int) + 1) with
      | [] => simp
      | [a] => simp
      | a :: b :: r =>
        rw [hl] at hn
        have ha : a ∈ l.filter fun x => (x == (n : Int) + 1) := by rw [hl]; simp
        have hb' : b ∈ l.filter fun x => (x == (n : Int) + 1) := by rw [hl]; simp
        rw [List.mem_filter] at ha hb'
        have e1 : a = (n : Int) + 1 := by simpa using ha.2
        have e2 : b = (n : Int) + 1 := by simpa using hb'.2
        exact absurd (e1.trans e2.symm) ((List.pairwise_cons.1 hn).1 b (by simp))
    have h3 : l.length = (l.filter fun x => (x == (n : Int) + 1)).length + (l.filter fun x => !(x == (n : Int) + 1)).length := filter_both _ l
    omega
theorem unlike_length {l : List Int} (h : unlikeOf l = true) : l.length ≤ 1048576 := by
  unfold unlikeOf at h
  rw [Bool.and_eq_true, decide_eq_true_eq] at h
  have := nodup_count (l.map varOf) 1048576 h.2 (fun x hx => by
    obtain ⟨y, hy, rfl⟩ := List.mem_map.1 hx
    have := varOf_formed (sound_mem h.1 hy)
    omega)
  rwa [List.length_map] at this
theorem unlike_sound {l : List Int} (h : unlikeOf l = true) : sound l = true := by
  unfold unlikeOf at h
  rw [Bool.and_eq_true] at h
  exact h.1
theorem midAt_length (l : List Int) (k : Nat) (hk : 0 < k) (first : Int) (m : Nat) : (midAt l k first m).length = 2 * k + 1 := by
  simp only [midAt, List.length_append, List.length_flatMap, List.length_cons, List.length_nil]
  have : ((List.range (k - 1)).map fun _ => 2).sum = 2 * (k - 1) := by
    rw [List.map_const', List.sum_replicate_nat, List.length_range]; omega
  simp only [Nat.zero_add, Nat.reduceAdd] at this ⊢
  rw [this]
  omega
theorem sum_const_range {n c : Nat} (f : Nat → Nat) (h : ∀ i, f i = c) : ((List.range n).map f).sum = n * c := by
  have : (List.range n).map f = List.replicate n c := by
    rw [List.eq_replicate_iff]
    exact ⟨by simp, fun x hx => by obtain ⟨i, _, rfl⟩ := List.mem_map.1 hx; exact h i⟩
  rw [this, List.sum_replicate_nat]
theorem clausesOf_length (l : List Int) (k : Nat) (first : Int) (hk : 0 < k) (hn : k < l.length) : (clausesOf l k first).length = k + 1 + (l.length - 2) * (2 * k + 1) := by
  unfold clausesOf
  rw [if_neg (by omega)]
  simp only [List.length_append, List.length_flatMap, List.length_cons, List.length_nil, List.length_map, List.length_range]
  rw [sum_const_range _ (midAt_length l k hk first)]
  omega
theorem clausesOf_zero (l : List Int) (first : Int) : clausesOf l 0 first = l.map (fun x => [-x]) := rfl

/-! ### what the clauses say -/
/-- how many of the first so many are true -/
def upto (t : Nat → Bool) : Nat → Nat
  | 0 => 0
  | i + 1 => upto t i + (if t i = true then 1 else 0)
theorem upto_le (t : Nat → Bool) (i : Nat) : upto t i ≤ i := by
  induction i with
  | zero => simp [upto]
  | succ i ih => simp only [upto]; split <;> omega
theorem upto_mono (t : Nat → Bool) (i : Nat) : upto t i ≤ upto t (i + 1) := by simp only [upto]; omega

/-- A clause of these holds, where val says what literals are true. -/
def holdsC (val : Int → Bool) (c : List Int) : Bool := c.any val
def allC (val : Int → Bool) (cs : List (List Int)) : Bool := cs.all (holdsC val)
theorem allC_append (val : Int → Bool) (a b : List (List Int)) : allC val (a ++ b) = (allC val a && allC val b) := by simp [allC]
theorem allC_flat (val : Int → Bool) (n : Nat) (f : Nat → List (List Int)) : allC val ((List.range n).flatMap f) = true ↔ ∀ i, i < n → allC val (f i) = true := by
  simp only [allC, List.all_eq_true, List.mem_flatMap, List.mem_range]
  constructor
  · intro h i hi c hc
    exact h c ⟨i, hi, hc⟩
  · rintro h c ⟨i, hi, hc⟩
    exact h i hi c hc
theorem allC_map (val : Int → Bool) (n : Nat) (f : Nat → List Int) : allC val ((List.range n).map f) = true ↔ ∀ i, i < n → holdsC val (f i) = true := by
  simp only [allC, List.all_eq_true, List.mem_map, List.mem_range]
  constructor
  · intro h i hi
    exact h _ ⟨i, hi, rfl⟩
  · rintro h c ⟨i, hi, rfl⟩
    exact h i hi

/-- t: the literals' truths from 0 on; H i j: the helper of i and j (both from 1 on) -/
structure Says (val : Int → Bool) (l : List Int) (k : Nat) (first : Int) (t : Nat → Bool) (H : Nat → Nat → Bool) : Prop where
  lit : ∀ i, i < l.length → val (-(rd l (i : Int))) = !t i
  pos : ∀ i j, 1 ≤ i → i < l.length → 1 ≤ j → j ≤ k → val (sv k first i j) = H i j
  neg : ∀ i j, 1 ≤ i → i < l.length → 1 ≤ j → j ≤ k → val (-(sv k first i j)) = !H i j

theorem clauses_say {val : Int → Bool} {l : List Int} {k : Nat} {first : Int} {t : Nat → Bool} {H : Nat → Nat → Bool} (S : Says val l k first t H) (hk : 0 < k) (hn : k < l.length) :
    allC val (clausesOf l k first) = true ↔
      (t 0 = true → H 1 1 = true) ∧ (∀ j, 2 ≤ j → j ≤ k → H 1 j = false) ∧
      (∀ i, 1 ≤ i → i + 1 < l.length → (t i = true → H (i + 1) 1 = true) ∧ (∀ j, 1 ≤ j → j ≤ k → H i j = true → H (i + 1) j = true) ∧ (∀ j, 1 ≤ j → j < k → t i = true → H i j = true → H (i + 1) (j + 1) = true) ∧ (t i = true → H i k = false)) ∧
      (t (l.length - 1) = true → H (l.length - 1) k = false) := by
  have e0 := S.lit 0 (by omega)
  have eL := S.lit (l.length - 1) (by omega)
  have p11 := S.pos 1 1 (by omega) (by omega) (by omega) (by omega)
  have nL := S.neg (l.length - 1) k (by omega) (by omega) (by omega) (by omega)
  rw [show ((l.length - 1 : Nat) : Int) = (l.length : Int) - 1 by omega] at eL nL
  simp only [Int.ofNat_zero, Int.natCast_one] at e0 p11
  unfold clausesOf
  rw [if_neg (by omega), allC_append, allC_append, allC_append]
  simp only [Bool.and_eq_true, allC_flat, allC_map]
  have h1 : allC val [[-(rd l 0), sv k first 1 1]] = true ↔ (t 0 = true → H 1 1 = true) := by
    simp only [allC, List.all_cons, List.all_nil, Bool.and_true, holdsC, List.any_cons, List.any_nil, Bool.or_false]
    rw [e0, p11]
    cases t 0 <;> cases H 1 1 <;> simp
  have h4 : allC val [[-(rd l ((l.length : Int) - 1)), -(sv k first ((l.length : Int) - 1) k)]] = true ↔ (t (l.length - 1) = true → H (l.length - 1) k = false) := by
    simp only [allC, List.all_cons, List.all_nil, Bool.and_true, holdsC, List.any_cons, List.any_nil, Bool.or_false]
    rw [eL, nL]
    cases t (l.length - 1) <;> cases H (l.length - 1) k <;> simp
  have h2 : (∀ i, i < k - 1 → holdsC val [-(sv k first 1 ((i : Int) + 2))] = true) ↔ (∀ j, 2 ≤ j → j ≤ k → H 1 j = false) := by
    have hs : ∀ i : Nat, i < k - 1 → holdsC val [-(sv k first 1 ((i : Int) + 2))] = !H 1 (i + 2) := fun i hi => by
      have := S.neg 1 (i + 2) (by omega) (by omega) (by omega) (by omega)
      simp only [Int.natCast_one, Int.natCast_add, Int.cast_ofNat_Int] at this
      simp only [holdsC, List.any_cons, List.any_nil, Bool.or_false]
      exact this
    constructor
    · intro h j hj1 hj2
      obtain ⟨i, rfl⟩ : ∃ i, j = i + 2 := ⟨j - 2, by omega⟩
      have := h i (by omega)
      rw [hs i (by omega)] at this
      simpa using this
    · intro h i hi
      rw [hs i hi, h (i + 2) (by omega) (by omega)]
      rfl
  have h3 : (∀ i, i < l.length - 2 → allC val (midAt l k first i) = true) ↔ (∀ i, 1 ≤ i → i + 1 < l.length → (t i = true → H (i + 1) 1 = true) ∧ (∀ j, 1 ≤ j → j ≤ k → H i j = true → H (i + 1) j = true) ∧ (∀ j, 1 ≤ j → j < k → t i = true → H i j = true → H (i + 1) (j + 1) = true) ∧ (t i = true → H i k = false)) := by
    have hm : ∀ m, m < l.length - 2 → (allC val (midAt l k first m) = true ↔ (t (m + 1) = true → H (m + 1 + 1) 1 = true) ∧ (∀ j, 1 ≤ j → j ≤ k → H (m + 1) j = true → H (m + 1 + 1) j = true) ∧ (∀ j, 1 ≤ j → j < k → t (m + 1) = true → H (m + 1) j = true → H (m + 1 + 1) (j + 1) = true) ∧ (t (m + 1) = true → H (m + 1) k = false)) := by
      intro m hm
      have q1 := S.lit (m + 1) (by omega)
      have q2 : ∀ j, 1 ≤ j → j ≤ k → _ := fun j hj1 hj2 => S.pos (m + 2) j (by omega) (by omega) hj1 hj2
      have q3 : ∀ j, 1 ≤ j → j ≤ k → _ := fun j hj1 hj2 => S.neg (m + 1) j (by omega) (by omega) hj1 hj2
      simp only [Int.natCast_add, Int.natCast_one, Int.cast_ofNat_Int] at q1 q2 q3
      have r1 := q2 1 (by omega) (by omega)
      have r2 := q3 1 (by omega) (by omega)
      have r3 := q3 k (by omega) (by omega)
      simp only [Int.natCast_one] at r1 r2
      unfold midAt
      rw [allC_append, allC_append, Bool.and_eq_true, Bool.and_eq_true, allC_flat]
      have u1 : allC val [[-(rd l ((m : Int) + 1)), sv k first ((m : Int) + 2) 1], [-(sv k first ((m : Int) + 1) 1), sv k first ((m : Int) + 2) 1]] = true ↔ (t (m + 1) = true → H (m + 1 + 1) 1 = true) ∧ (H (m + 1) 1 = true → H (m + 1 + 1) 1 = true) := by
        simp only [allC, List.all_cons, List.all_nil, Bool.and_true, holdsC, List.any_cons, List.any_nil, Bool.or_false]
        rw [q1, r1, r2]
        cases t (m + 1) <;> cases H (m + 1) 1 <;> cases hh : H (m + 2) 1 <;> simp [hh]
      have u3 : allC val [[-(rd l ((m : Int) + 1)), -(sv k first ((m : Int) + 1) k)]] = true ↔ (t (m + 1) = true → H (m + 1) k = false) := by
        simp only [allC, List.all_cons, List.all_nil, Bool.and_true, holdsC, List.any_cons, List.any_nil, Bool.or_false]
        rw [q1, r3]
        cases t (m + 1) <;> cases H (m + 1) k <;> simp
      have u2 : (∀ h, h < k - 1 → allC val [[-(rd l ((m : Int) + 1)), -(sv k first ((m : Int) + 1) ((h : Int) + 1)), sv k first ((m : Int) + 2) ((h : Int) + 2)], [-(sv k first ((m : Int) + 1) ((h : Int) + 2)), sv k first ((m : Int) + 2) ((h : Int) + 2)]] = true) ↔
          (∀ h, h < k - 1 → (t (m + 1) = true → H (m + 1) (h + 1) = true → H (m + 1 + 1) (h + 2) = true) ∧ (H (m + 1) (h + 2) = true → H (m + 1 + 1) (h + 2) = true)) := by
        have v : ∀ h, h < k - 1 → (allC val [[-(rd l ((m : Int) + 1)), -(sv k first ((m : Int) + 1) ((h : Int) + 1)), sv k first ((m : Int) + 2) ((h : Int) + 2)], [-(sv k first ((m : Int) + 1) ((h : Int) + 2)), sv k first ((m : Int) + 2) ((h : Int) + 2)]] = true ↔ ((t (m + 1) = true → H (m + 1) (h + 1) = true → H (m + 1 + 1) (h + 2) = true) ∧ (H (m + 1) (h + 2) = true → H (m + 1 + 1) (h + 2) = true))) := by
          intro h hh
          have s1 := q3 (h + 1) (by omega) (by omega)
          have s2 := q3 (h + 2) (by omega) (by omega)
          have s3 := q2 (h + 2) (by omega) (by omega)
          simp only [Int.natCast_add, Int.natCast_one, Int.cast_ofNat_Int] at s1 s2 s3
          simp only [allC, List.all_cons, List.all_nil, Bool.and_true, holdsC, List.any_cons, List.any_nil, Bool.or_false]
          rw [q1, s1, s2, s3]
          cases t (m + 1) <;> cases H (m + 1) (h + 1) <;> cases H (m + 1) (h + 2) <;> cases hx : H (m + 2) (h + 2) <;> simp [hx]
        exact ⟨fun h i hi => (v i hi).1 (h i hi), fun h i hi => (v i hi).2 (h i hi)⟩
      rw [u1, u2, u3]
      constructor
      · rintro ⟨⟨⟨a1, a2⟩, a3⟩, a4⟩
        refine ⟨a1, ?_, ?_, a4⟩
        · intro j hj1 hj2 hH
          rcases Nat.lt_or_ge 1 j with hj | hj
          · obtain ⟨h, rfl⟩ : ∃ h, j = h + 2 := ⟨j - 2, by omega⟩
            exact (a3 h (by omega)).2 hH
          · obtain rfl : j = 1 := by omega
            exact a2 hH
        · intro j hj1 hj2 ht hH
          obtain ⟨h, rfl⟩ : ∃ h, j = h + 1 := ⟨j - 1, by omega⟩
          exact (a3 h (by omega)).1 ht hH
      · rintro ⟨a1, a2, a3, a4⟩
        exact ⟨⟨⟨a1, a2 1 (by omega) (by omega)⟩, fun h hh => ⟨fun ht hH => a3 (h + 1) (by omega) (by omega) ht hH, a2 (h + 2) (by omega) (by omega)⟩⟩, a4⟩
    constructor
    · intro h i hi1 hi2
      obtain ⟨m, rfl⟩ : ∃ m, i = m + 1 := ⟨i - 1, by omega⟩
      exact (hm m (by omega)).1 (h m (by omega))
    · intro h m hm'
      exact (hm m hm').2 (h (m + 1) (by omega) (by omega))
  rw [h1, h2, h3, h4, and_assoc, and_assoc]

/-- If all clauses hold, at most k of the literals are true. -/
theorem at_most {val : Int → Bool} {l : List Int} {k : Nat} {first : Int} {t : Nat → Bool} {H : Nat → Nat → Bool} (S : Says val l k first t H) (hk : 0 < k) (hn : k < l.length) (h : allC val (clausesOf l k first) = true) : upto t l.length ≤ k := by
  obtain ⟨a1, a2, a3, a4⟩ := (clauses_say S hk hn).1 h
  have key : ∀ i, i + 1 < l.length → (∀ j, 1 ≤ j → j ≤ k → j ≤ upto t (i + 1) → H (i + 1) j = true) := by
    intro i
    induction i with
    | zero =>
      intro _ j hj1 hj2 hj
      simp only [upto] at hj
      have ht : t 0 = true := by
        cases h0 : t 0 with
        | true => rfl
        | false => rw [h0] at hj; simp at hj; omega
      obtain rfl : j = 1 := by split at hj <;> omega
      exact a1 ht
    | succ i ih =>
      intro hi j hj1 hj2 hj
      obtain ⟨b1, b2, b3, b4⟩ := a3 (i + 1) (by omega) (by omega)
      rcases Nat.lt_or_ge (upto t (i + 1)) j with hlt | hge
      · have e : upto t (i + 1 + 1) = upto t (i + 1) + (if t (i + 1) = true then 1 else 0) := rfl
        have ht : t (i + 1) = true := by
          cases h0 : t (i + 1) with
          | true => rfl
          | false => rw [e, h0] at hj; simp at hj; omega
        rw [e, if_pos ht] at hj
        rcases Nat.lt_or_ge 1 j with hj3 | hj3
        · obtain ⟨h', rfl⟩ : ∃ h', j = h' + 1 := ⟨j - 1, by omega⟩
          exact b3 h' (by omega) (by omega) ht (ih (by omega) h' (by omega) (by omega) (by omega))
        · obtain rfl : j = 1 := by omega
          exact b1 ht
      · exact b2 j hj1 hj2 (ih (by omega) j hj1 hj2 hge)
  have bound : ∀ i, i ≤ l.length → upto t i ≤ k := by
    intro i
    induction i with
    | zero => intro _; simp [upto]
    | succ i ih =>
      intro hi
      have e : upto t (i + 1) = upto t i + (if t i = true then 1 else 0) := rfl
      have h0 := ih (by omega)
      rcases Nat.lt_or_ge (upto t i) k with hlt | hge
      · rw [e]; split <;> omega
      · cases ht : t i with
        | false => rw [e, ht]; simpa using h0
        | true =>
          exfalso
          cases i with
          | zero => simp [upto] at hge; omega
          | succ i =>
            have hH := key i (by omega) k (by omega) (by omega) hge
            rcases Nat.lt_or_ge (i + 1 + 1) l.length with h5 | h5
            · have := (a3 (i + 1) (by omega) (by omega)).2.2.2 ht
              rw [hH] at this; cases this
            · have e6 : l.length - 1 = i + 1 := by omega
              rw [e6] at a4
              have := a4 ht
              rw [hH] at this; cases this
  exact bound _ (Nat.le_refl _)

/-- If at most k are true, all clauses hold where the helpers count. -/
theorem all_hold {val : Int → Bool} {l : List Int} {k : Nat} {first : Int} {t : Nat → Bool} {H : Nat → Nat → Bool} (S : Says val l k first t H) (hk : 0 < k) (hn : k < l.length) (hH : ∀ i j, 1 ≤ i → i < l.length → 1 ≤ j → j ≤ k → H i j = decide (j ≤ upto t i)) (h : upto t l.length ≤ k) : allC val (clausesOf l k first) = true := by
  have mono : ∀ i d, upto t i ≤ upto t (i + d) := by
    intro i d
    induction d with
    | zero => exact Nat.le_refl _
    | succ d ih => exact Nat.le_trans ih (upto_mono t (i + d))
  have full : ∀ i, i ≤ l.length → upto t i ≤ k := fun i hi => by
    have := mono i (l.length - i)
    rw [show i + (l.length - i) = l.length by omega] at this
    omega
  refine (clauses_say S hk hn).2 ⟨?_, ?_, ?_, ?_⟩
  · intro ht
    rw [hH 1 1 (by omega) (by omega) (by omega) (by omega)]
    simp [upto, ht]
  · intro j hj1 hj2
    rw [hH 1 j (by omega) (by omega) (by omega) (by omega)]
    have := upto_le t 1
    simp; omega
  · intro i hi1 hi2
    have e : upto t (i + 1) = upto t i + (if t i = true then 1 else 0) := rfl
    refine ⟨?_, ?_, ?_, ?_⟩
    · intro ht
      rw [hH (i + 1) 1 (by omega) (by omega) (by omega) (by omega), e, if_pos ht]
      simp
    · intro j hj1 hj2 hj
      rw [hH i j (by omega) (by omega) (by omega) (by omega)] at hj
      rw [hH (i + 1) j (by omega) (by omega) (by omega) (by omega)]
      have := upto_mono t i
      simp only [decide_eq_true_eq] at hj ⊢
      omega
    · intro j hj1 hj2 ht hj
      rw [hH i j (by omega) (by omega) (by omega) (by omega)] at hj
      rw [hH (i + 1) (j + 1) (by omega) (by omega) (by omega) (by omega), e, if_pos ht]
      simp only [decide_eq_true_eq] at hj ⊢
      omega
    · intro ht
      have := full (i + 1) (by omega)
      rw [e, if_pos ht] at this
      rw [hH i k (by omega) (by omega) (by omega) (by omega)]
      simp; omega
  · intro ht
    have e : upto t (l.length - 1 + 1) = upto t (l.length - 1) + (if t (l.length - 1) = true then 1 else 0) := rfl
    rw [if_pos ht, show l.length - 1 + 1 = l.length by omega] at e
    rw [hH (l.length - 1) k (by omega) (by omega) (by omega) (by omega)]
    simp; omega
end Go.Proofs.YtlemkghpcbkcpaaMath
