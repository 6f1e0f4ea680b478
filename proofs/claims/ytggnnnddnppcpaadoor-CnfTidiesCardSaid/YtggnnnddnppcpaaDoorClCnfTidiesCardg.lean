/- Two rising lists as one; what the reference's Tidy and Join come to. -/
import Derived.Test.YtggnnnddnppcpaaDoorClCnfTidiesCardf
import Derived.Lib.ItoaLen
import Derived.Maps.OwnSet
import Derived.Maps.OwnIn
import Derived.WalkKit
import Derived.Below
import Derived.Deep.Draws
/-! text YtggnnnddnppcpaaDoorTidyPure -/
set_option linter.unusedVariables false
set_option linter.unusedSimpArgs false
namespace Go.Proofs.YtggnnnddnppcpaaDoorMath
open Go.RowKit Go.Proofs.YtggnnnddnppcpaaDoorW.PrintWords

def mg : List Int → List Int → List Int
  | [], bs => bs
  | a :: az, [] => a :: az
  | a :: az, b :: bs => if idxOf a < idxOf b then a :: mg az (b :: bs) else if idxOf b < idxOf a then b :: mg (a :: az) bs else a :: mg az bs
termination_by a b => a.length + b.length
theorem mg_nil (b : List Int) : mg [] b = b := by rw [mg]
theorem mg_nil' (a : List Int) : mg a [] = a := by cases a <;> rw [mg]
theorem mg_lt {a b : Int} {az bs : List Int} (h : idxOf a < idxOf b) : mg (a :: az) (b :: bs) = a :: mg az (b :: bs) := by rw [mg, if_pos h]
theorem mg_gt {a b : Int} {az bs : List Int} (h : idxOf b < idxOf a) : mg (a :: az) (b :: bs) = b :: mg (a :: az) bs := by rw [mg, if_neg (by omega), if_pos h]
theorem mg_eq {a b : Int} {az bs : List Int} (h : idxOf a = idxOf b) : mg (a :: az) (b :: bs) = a :: mg az bs := by rw [mg, if_neg (by omega), if_neg (by omega)]
theorem mg_length (n : Nat) : ∀ a b : List Int, a.length + b.length ≤ n → (mg a b).length ≤ a.length + b.length := by
  induction n with
  | zero =>
    intro a b h
    cases a with
    | nil => simp [mg_nil]
    | cons => simp at h
  | succ n ih =>
    intro a b h
    cases a with
    | nil => simp [mg_nil]
    | cons x az =>
      cases b with
      | nil => simp [mg_nil']
      | cons y bs =>
        simp only [List.length_cons] at h
        by_cases h1 : idxOf x < idxOf y
        · have := ih az (y :: bs) (by simp only [List.length_cons]; omega)
          rw [mg_lt h1]; simp only [List.length_cons] at this ⊢; omega
        · by_cases h2 : idxOf y < idxOf x
          · have := ih (x :: az) bs (by simp only [List.length_cons]; omega)
            rw [mg_gt h2]; simp only [List.length_cons] at this ⊢; omega
          · have := ih az bs (by omega)
            rw [mg_eq (by omega)]; simp only [List.length_cons]; omega
theorem mg_mem (n : Nat) : ∀ a b : List Int, a.length + b.length ≤ n → (∀ x ∈ a, formed x = true) → (∀ x ∈ b, formed x = true) → ∀ x, x ∈ mg a b ↔ x ∈ a ∨ x ∈ b := by
  induction n with
  | zero =>
    intro a b h _ _ x
    cases a with
    | nil => simp [mg_nil]
    | cons => simp at h
  | succ n ih =>
    intro a b h ha hb x
    cases a with
    | nil => simp [mg_nil]
    | cons p az =>
      cases b with
      | nil => simp [mg_nil']
      | cons q bs =>
        simp only [List.length_cons] at h
        have ha' : ∀ x ∈ az, formed x = true := fun x hx => ha x (List.mem_cons_of_mem _ hx)
        have hb' : ∀ x ∈ bs, formed x = true := fun x hx => hb x (List.mem_cons_of_mem _ hx)
        by_cases h1 : idxOf p < idxOf q
        · have := ih az (q :: bs) (by simp only [List.length_cons]; omega) ha' hb x
          rw [mg_lt h1]; simp only [List.mem_cons] at this ⊢; rw [this]; simp only [or_assoc]
        · by_cases h2 : idxOf q < idxOf p
          · have := ih (p :: az) bs (by simp only [List.length_cons]; omega) ha hb' x
            rw [mg_gt h2]; simp only [List.mem_cons] at this ⊢; rw [this]
            constructor
            · rintro (h | (h | h) | h) <;> simp [h]
            · rintro ((h | h) | h | h) <;> simp [h]
          · have e : p = q := idx_inj (ha p (List.mem_cons_self ..)) (hb q (List.mem_cons_self ..)) (by omega)
            have := ih az bs (by omega) ha' hb' x
            rw [mg_eq (by omega)]; simp only [List.mem_cons] at this ⊢; rw [this, e]
            constructor
            · rintro (h | h | h) <;> simp [h]
            · rintro ((h | h) | h | h) <;> simp [h]
theorem mg_rising (n : Nat) : ∀ a b : List Int, a.length + b.length ≤ n → (∀ x ∈ a, formed x = true) → (∀ x ∈ b, formed x = true) → Rising a → Rising b → Rising (mg a b) := by
  induction n with
  | zero =>
    intro a b h _ _ r1 r2
    cases a with
    | nil => rwa [mg_nil]
    | cons => simp at h
  | succ n ih =>
    intro a b h ha hb r1 r2
    cases a with
    | nil => rwa [mg_nil]
    | cons p az =>
      cases b with
      | nil => rwa [mg_nil']
      | cons q bs =>
        simp only [List.length_cons] at h
        have ha' : ∀ x ∈ az, formed x = true := fun x hx => ha x (List.mem_cons_of_mem _ hx)
        have hb' : ∀ x ∈ bs, formed x = true := fun x hx => hb x (List.mem_cons_of_mem _ hx)
        obtain ⟨p1, p2⟩ := List.pairwise_cons.1 r1
        obtain ⟨q1, q2⟩ := List.pairwise_cons.1 r2
        by_cases h1 : idxOf p < idxOf q
        · rw [mg_lt h1]
          refine List.pairwise_cons.2 ⟨fun x hx => ?_, ih az (q :: bs) (by simp only [List.length_cons]; omega) ha' hb p2 r2⟩
          rcases (mg_mem _ az (q :: bs) (Nat.le_refl _) ha' hb x).1 hx with h | h
          · exact p1 x h
          · rcases List.mem_cons.1 h with h | h
            · rw [h]; exact h1
            · have := q1 x h; omega
        · by_cases h2 : idxOf q < idxOf p
          · rw [mg_gt h2]
            refine List.pairwise_cons.2 ⟨fun x hx => ?_, ih (p :: az) bs (by simp only [List.length_cons]; omega) ha hb' r1 q2⟩
            rcases (mg_mem _ (p :: az) bs (Nat.le_refl _) ha hb' x).1 hx with h | h
            · rcases List.mem_cons.1 h with h | h
              · rw [h]; exact h2
              · have := p1 x h; omega
            · exact q1 x h
          · rw [mg_eq (by omega)]
            refine List.pairwise_cons.2 ⟨fun x hx => ?_, ih az bs (by omega) ha' hb' p2 q2⟩
            rcases (mg_mem _ az bs (Nat.le_refl _) ha' hb' x).1 hx with h | h
            · exact p1 x h
            · have := q1 x h; omega
theorem tidyOf_append (a b : List Int) : tidyOf (a ++ b) = mg (tidyOf a) (tidyOf b) :=
  tidyOf_eq (mg_rising _ _ _ (Nat.le_refl _) (fun _ h => tidyOf_formed h) (fun _ h => tidyOf_formed h) (rising_tidyOf a) (rising_tidyOf b)) fun x => by
    rw [mg_mem _ _ _ (Nat.le_refl _) (fun _ h => tidyOf_formed h) (fun _ h => tidyOf_formed h), mem_tidyOf, mem_tidyOf, List.mem_append]
    constructor
    · rintro (⟨h, g⟩ | ⟨h, g⟩) <;> simp [h, g]
    · rintro ⟨h | h, g⟩ <;> simp [h, g]
theorem tidyOf_nil : tidyOf [] = [] := rfl
theorem tidyOf_one (x : Int) : tidyOf [x] = if formed x = true then [x] else [] := by
  refine tidyOf_eq ?_ fun y => ?_
  · split
    · exact List.pairwise_singleton ..
    · exact List.Pairwise.nil
  · split
    · rename_i h
      simp only [List.mem_singleton]
      exact ⟨fun e => ⟨e, e ▸ h⟩, fun e => e.1⟩
    · rename_i h
      simp only [List.mem_singleton, List.not_mem_nil, false_iff]
      rintro ⟨rfl, g⟩; exact h g
theorem tidyOf_tidyOf (a : List Int) : tidyOf (tidyOf a) = tidyOf a :=
  tidyOf_eq (rising_tidyOf a) fun x => ⟨fun h => ⟨h, tidyOf_formed h⟩, fun h => h.1⟩
theorem rising_filter {a : List Int} (p : Int → Bool) (h : Rising a) : Rising (a.filter p) := List.Pairwise.filter _ h
theorem tidyOf_rising {t : List Int} (hr : Rising t) (hf : ∀ x ∈ t, formed x = true) : tidyOf t = t :=
  tidyOf_eq hr fun x => ⟨fun h => ⟨h, hf x h⟩, fun h => h.1⟩
theorem withoutOf_tidy (a : List Int) (p : Int → Bool) : tidyOf ((tidyOf a).filter p) = (tidyOf a).filter p :=
  tidyOf_rising (rising_filter p (rising_tidyOf a)) fun x h => tidyOf_formed (List.mem_filter.1 h).1
theorem mg_len (n : Nat) : ∀ a b : List Int, a.length + b.length ≤ n → (∀ x ∈ a, formed x = true) → (∀ x ∈ b, formed x = true) → b.length ≤ (mg a b).length ∧ ((mg a b).length = b.length → ∀ x ∈ a, x ∈ b) := by
  induction n with
  | zero =>
    intro a b h _ _
    cases a with
    | nil => simp [mg_nil]
    | cons => simp at h
  | succ n ih =>
    intro a b h ha hb
    cases a with
    | nil => simp [mg_nil]
    | cons p az =>
      cases b with
      | nil => simp [mg_nil']
      | cons q bs =>
        simp only [List.length_cons] at h
        have ha' : ∀ x ∈ az, formed x = true := fun x hx => ha x (List.mem_cons_of_mem _ hx)
        have hb' : ∀ x ∈ bs, formed x = true := fun x hx => hb x (List.mem_cons_of_mem _ hx)
        by_cases h1 : idxOf p < idxOf q
        · have := (ih az (q :: bs) (by simp only [List.length_cons]; omega) ha' hb).1
          rw [mg_lt h1]; simp only [List.length_cons] at this ⊢
          exact ⟨by omega, fun h => by omega⟩
        · by_cases h2 : idxOf q < idxOf p
          · have := ih (p :: az) bs (by simp only [List.length_cons]; omega) ha hb'
            rw [mg_gt h2]; simp only [List.length_cons] at this ⊢
            exact ⟨by omega, fun h x hx => List.mem_cons_of_mem _ (this.2 (by omega) x hx)⟩
          · have e : p = q := idx_inj (ha p (List.mem_cons_self ..)) (hb q (List.mem_cons_self ..)) (by omega)
            have := ih az bs (by omega) ha' hb'
            rw [mg_eq (by omega)]; simp only [List.length_cons]
            refine ⟨by omega, fun h x hx => ?_⟩
            rcases List.mem_cons.1 hx with rfl | hx
            · rw [e]; exact List.mem_cons_self ..
            · exact List.mem_cons_of_mem _ (this.2 (by omega) x hx)
/-- a rising list of literals has at most 2097152 places -/
theorem rising_count (t : List Int) : ∀ m : Int, Rising t → (∀ x ∈ t, formed x = true) → (∀ x ∈ t, m ≤ idxOf x) → m ≤ 2097152 → (t.length : Int) ≤ 2097152 - m := by
  induction t with
  | nil => intro m _ _ _ h; simp; omega
  | cons x t ih =>
    intro m hr hf hm h
    obtain ⟨h1, h2⟩ := List.pairwise_cons.1 hr
    have hx := idx_formed (hf x (List.mem_cons_self ..))
    have hmx := hm x (List.mem_cons_self ..)
    have := ih (idxOf x + 1) h2 (fun y hy => hf y (List.mem_cons_of_mem _ hy)) (fun y hy => by have := h1 y hy; omega) (by omega)
    simp only [List.length_cons]
    omega
theorem formed_count (t : List Int) (hr : Rising t) (hf : ∀ x ∈ t, formed x = true) : t.length ≤ 2097152 := by
  have := rising_count t 0 hr hf (fun x hx => (idx_formed (hf x hx)).1) (by omega)
  omega
/-- two neighbours are opposites -/
def tautIn : List Int → Bool
  | [] => false
  | [_] => false
  | a :: b :: t => (b == -a) || tautIn (b :: t)
/-- the one is a list of literals, and each stands in the other one, that is one too -/
def subOf (a b : List Int) : Bool := sound a && (sound b && a.all fun l => (tidyOf b).contains l)
theorem tautIn_iff (t : List Int) : Rising t → (∀ x ∈ t, formed x = true) → (tautIn t = true ↔ ∃ x ∈ t, -x ∈ t) := by
  induction t with
  | nil => intro _ _; simp [tautIn]
  | cons a t ih =>
    intro hr hf
    obtain ⟨h1, h2⟩ := List.pairwise_cons.1 hr
    have ih := ih h2 (fun y hy => hf y (List.mem_cons_of_mem _ hy))
    have ha := hf a (List.mem_cons_self ..)
    cases t with
    | nil =>
      simp only [tautIn, Bool.false_eq_true, List.mem_singleton, exists_eq_left, false_iff]
      have := (formed_iff.1 ha).1
      omega
    | cons b t =>
      have hb := hf b (by simp)
      have key : ∀ y ∈ b :: t, y = -a → b = -a := by
        intro y hy hya
        have hfy := hf y (List.mem_cons_of_mem _ hy)
        have e := (idx_neg hfy ha).1 hya
        have l1 := h1 b (List.mem_cons_self ..)
        have l2 := h1 y hy
        have l3 : idxOf b ≤ idxOf y := by
          rcases List.mem_cons.1 hy with rfl | hy
          · omega
          · exact Int.le_of_lt ((List.pairwise_cons.1 h2).1 y hy)
        have : b = y := idx_inj hb hfy (by omega)
        rw [this, hya]
      simp only [tautIn, Bool.or_eq_true, beq_iff_eq, ih]
      constructor
      · rintro (h | ⟨x, hx, hy⟩)
        · exact ⟨a, List.mem_cons_self .., by rw [← h]; simp⟩
        · exact ⟨x, List.mem_cons_of_mem _ hx, List.mem_cons_of_mem _ hy⟩
      · rintro ⟨x, hx, hy⟩
        rcases List.mem_cons.1 hx with rfl | hx
        · rcases List.mem_cons.1 hy with hy | hy
          · have := (formed_iff.1 ha).1; omega
          · exact .inl (key _ hy rfl)
        · rcases List.mem_cons.1 hy with hy | hy
          · exact .inl (key x hx (by omega))
          · exact .inr ⟨x, hx, hy⟩
theorem mem_tidy_sound {b : List Int} (hb : sound b = true) (x : Int) : x ∈ tidyOf b ↔ x ∈ b := by
  rw [mem_tidyOf]
  exact ⟨fun h => h.1, fun h => ⟨h, sound_mem hb h⟩⟩
theorem subOf_sound {a b : List Int} (ha : sound a = true) (hb : sound b = true) : subOf a b = a.all fun x => b.contains x := by
  unfold subOf
  rw [ha, hb, Bool.true_and, Bool.true_and, Bool.eq_iff_iff]
  simp only [List.all_eq_true, List.contains_iff_mem, mem_tidy_sound hb]
theorem taut_sound {b : List Int} (hb : sound b = true) : tautIn (tidyOf b) = b.any fun x => b.contains (-x) := by
  rw [Bool.eq_iff_iff, tautIn_iff _ (rising_tidyOf b) (fun _ h => tidyOf_formed h)]
  simp only [List.any_eq_true, List.contains_iff_mem, mem_tidy_sound hb]
theorem same_sound {a b : List Int} (ha : sound a = true) (hb : sound b = true) : (tidyOf a == tidyOf b) = (subOf a b && subOf b a) := by
  rw [subOf_sound ha hb, subOf_sound hb ha, Bool.eq_iff_iff]
  simp only [beq_iff_eq, Bool.and_eq_true, List.all_eq_true, List.contains_iff_mem]
  constructor
  · intro h
    exact ⟨fun x hx => (mem_tidy_sound hb x).1 (h ▸ (mem_tidy_sound ha x).2 hx), fun x hx => (mem_tidy_sound ha x).1 (h ▸ (mem_tidy_sound hb x).2 hx)⟩
  · rintro ⟨h1, h2⟩
    refine rising_ext (rising_tidyOf a) (rising_tidyOf b) fun x => ?_
    rw [mem_tidy_sound ha, mem_tidy_sound hb]
    exact ⟨h1 x, h2 x⟩
end Go.Proofs.YtggnnnddnppcpaaDoorMath
/-! text YtggnnnddnppcpaaDoorNameMath -/
namespace Go.Proofs.YtggnnnddnppcpaaDoorMath
open Go.Lib
set_option linter.unusedVariables false
set_option linter.unusedSimpArgs false
def valOf (l : List UInt8) : Nat := l.foldl (fun a b => a * 10 + (b.toNat - 48)) 0
theorem valOf_dec (u : Nat) : valOf (decDigits u) = u := by
  induction u using Nat.strongRecOn with
  | _ u ih =>
    by_cases h : u < 10
    · rw [decDigits, dif_pos h]
      have e : (UInt8.ofNat (48 + u)).toNat = 48 + u := by simp; omega
      simp only [valOf, List.foldl_cons, List.foldl_nil, e]
      omega
    · rw [decDigits, dif_neg h, valOf, List.foldl_append]
      have e : (UInt8.ofNat (48 + u % 10)).toNat = 48 + u % 10 := by simp; omega
      have := ih (u / 10) (by omega)
      unfold valOf at this
      simp only [List.foldl_cons, List.foldl_nil, e, this]
      omega
theorem decDigits_inj {u v : Nat} (h : decDigits u = decDigits v) : u = v := by rw [← valOf_dec u, h, valOf_dec]
theorem decDigits_mem (u : Nat) : ∀ b ∈ decDigits u, 48 ≤ b.toNat ∧ b.toNat ≤ 57 := by
  induction u using Nat.strongRecOn with
  | _ u ih =>
    intro b hb
    by_cases h : u < 10
    · rw [decDigits, dif_pos h, List.mem_singleton] at hb
      subst hb
      have e : (UInt8.ofNat (48 + u)).toNat = 48 + u := by simp; omega
      omega
    · rw [decDigits, dif_neg h, List.mem_append, List.mem_singleton] at hb
      rcases hb with hb | rfl
      · exact ih (u / 10) (by omega) b hb
      · have e : (UInt8.ofNat (48 + u % 10)).toNat = 48 + u % 10 := by simp; omega
        omega
theorem itoa_mem (n : Int) : ∀ b ∈ itoa n, b ≠ 32 := by
  intro b hb e
  subst e
  unfold itoa at hb
  split at hb
  · rcases List.mem_cons.1 hb with h | h
    · cases h
    · have := (decDigits_mem _ _ h).1
      exact absurd this (by decide)
  · have := (decDigits_mem _ _ hb).1
    exact absurd this (by decide)
theorem itoa_inj {a b : Int} (h : itoa a = itoa b) : a = b := by
  have h45 : ∀ u r, (45 : UInt8) :: r ≠ decDigits u := fun u r e => by
    have := (decDigits_mem u 45 (by rw [← e]; exact List.mem_cons_self)).1
    exact absurd this (by decide)
  unfold itoa at h
  split at h <;> split at h
  · injection h with _ h
    have := decDigits_inj h
    omega
  · exact absurd h (h45 _ _)
  · exact absurd h.symm (h45 _ _)
  · have := decDigits_inj h
    omega
def nameOf (c : List Int) : List UInt8 := c.flatMap fun l => itoa l ++ [32]
theorem split_blank {a b r s : List UInt8} (ha : ∀ x ∈ a, x ≠ 32) (hb : ∀ x ∈ b, x ≠ 32) (h : a ++ 32 :: r = b ++ 32 :: s) : a = b ∧ r = s := by
  induction a generalizing b with
  | nil =>
    cases b with
    | nil => injection h with _ h; exact ⟨rfl, h⟩
    | cons y b => injection h with h _; exact absurd h.symm (hb y List.mem_cons_self)
  | cons x a ih =>
    cases b with
    | nil => injection h with h _; exact absurd h (ha x List.mem_cons_self)
    | cons y b =>
      injection h with h1 h2
      obtain ⟨e1, e2⟩ := ih (fun z hz => ha z (List.mem_cons_of_mem _ hz)) (fun z hz => hb z (List.mem_cons_of_mem _ hz)) h2
      exact ⟨by rw [h1, e1], e2⟩
theorem nameOf_inj {c d : List Int} (h : nameOf c = nameOf d) : c = d := by
  have hc : ∀ (x : Int) (r : List Int), nameOf (x :: r) = itoa x ++ 32 :: nameOf r := fun x r => by simp [nameOf]
  induction c generalizing d with
  | nil =>
    cases d with
    | nil => rfl
    | cons y d => rw [hc] at h; exact absurd h (by simp [nameOf])
  | cons x c ih =>
    cases d with
    | nil => rw [hc] at h; exact absurd h (by simp [nameOf])
    | cons y d =>
      rw [hc, hc] at h
      obtain ⟨h1, h2⟩ := split_blank (itoa_mem x) (itoa_mem y) h
      rw [itoa_inj h1, ih h2]
theorem nameOf_snoc (c : List Int) (x : Int) : nameOf (c ++ [x]) = nameOf c ++ itoa x ++ [32] := by simp [nameOf]
theorem nameOf_length {c : List Int} (h : ∀ x ∈ c, -9223372036854775808 ≤ x ∧ x ≤ 9223372036854775807) : (nameOf c).length ≤ 22 * c.length := by
  induction c with
  | nil => simp [nameOf]
  | cons x c ih =>
    have h1 := itoa_length_le x (h x List.mem_cons_self).1 (h x List.mem_cons_self).2
    have h2 := ih fun y hy => h y (List.mem_cons_of_mem _ hy)
    have e : nameOf (x :: c) = itoa x ++ 32 :: nameOf c := by simp [nameOf]
    rw [e, List.length_append, List.length_cons, List.length_cons]
    omega
end Go.Proofs.YtggnnnddnppcpaaDoorMath
/-! text YtggnnnddnppcpaaDoorIntMap -/
namespace Go.Proofs.YtggnnnddnppcpaaDoorMaps
open Go Go.Maps Go.RowKit
set_option linter.unusedVariables false
set_option linter.unusedSimpArgs false

/-- kinds of keys -/
structure Keys (κ : Type) where
  kl : κ → Lit
  inj : ∀ {a b}, kl a = kl b → a = b
  isKey : ∀ a, WideAt.IsKeyLit (kl a)
def intKeys : Keys Int where
  kl := Lit.int .i64
  inj := fun h => by injection h
  isKey := fun a => by simp [WideAt.IsKeyLit]
def strKeys : Keys (List UInt8) where
  kl := Lit.string
  inj := fun h => by injection h
  isKey := fun a => by simp [WideAt.IsKeyLit]
/-- kinds of elements -/
structure Elem (α : Type) where
  enc : α → Value
  el : α → DataW Unit
  R : Value → Option (DataW Unit × List MemPlace)
  ok : α → Prop
  inv : ∀ {v z}, R v = some z → ∃ a, v = enc a ∧ z.1 = el a
  reads : ∀ {a}, ok a → R (enc a) = some (el a, [])
  inj : ∀ {a b}, el a = el b → a = b
def intElem (P : Program) (e : TypeId) (he : P.underlying e = some (.int .i64)) : Elem Int where
  enc := Value.int .i64
  el := fun c => .lit (.int .i64 c)
  R := plainElem P e
  ok := fun c => (Lit.int .i64 c).wf = true
  inv := fun h => by
    obtain ⟨a, rfl, rfl, _⟩ := plainElem_int_inv he h
    exact ⟨a, rfl, rfl⟩
  reads := fun h => plainElem_int he h
  inj := fun h => by injection h with h; injection h
noncomputable def markR (v : Value) : Option (DataW Unit × List MemPlace) := by classical exact if v = .agg #[.bool true] then some (.lit (.bool true), []) else if v = .agg #[.bool false] then some (.lit (.bool false), []) else none
noncomputable def markElem : Elem Bool where
  enc := fun b => .agg #[.bool b]
  el := fun b => .lit (.bool b)
  R := markR
  ok := fun _ => True
  inv := fun {v z} h => by
    unfold markR at h
    split at h
    · rename_i hv
      cases h
      exact ⟨true, hv, rfl⟩
    · split at h
      · rename_i hv
        cases h
        exact ⟨false, hv, rfl⟩
      · cases h
  reads := fun {a} _ => by cases a <;> simp [markR]
  inj := fun h => by injection h with h; injection h

variable {κ α : Type}
/-- Block B of W is a map that holds at each key what f says: at most n, just c of them. -/
def IM (P : Program) (k : TypeId) (Ky : Keys κ) (E : Elem α) (W : World) (B n : Nat) (f : κ → Option α) (c : Nat) : Prop :=
  ∃ D, W.ownsMap P k E.R B n D ∧ Maps.size D = c ∧ ∀ x, Maps.has D (Ky.kl x) = (f x).isSome ∧ ∀ z, D.atKey (Ky.kl x) z = ((f x).map E.el).getD z

noncomputable def upd (f : κ → Option α) (x : κ) (v : α) : κ → Option α := by classical exact fun y => if y = x then some v else f y
noncomputable def del (f : κ → Option α) (x : κ) : κ → Option α := by classical exact fun y => if y = x then none else f y
theorem upd_same (f : κ → Option α) (x : κ) (v : α) : upd f x v x = some v := by simp [upd]
theorem upd_other (f : κ → Option α) {x y : κ} (v : α) (h : y ≠ x) : upd f x v y = f y := by simp [upd, h]
theorem del_same (f : κ → Option α) (x : κ) : del f x x = none := by simp [del]
theorem del_other (f : κ → Option α) {x y : κ} (h : y ≠ x) : del f x y = f y := by simp [del, h]

section
variable {P : Program} {k : TypeId} {Ky : Keys κ} {E : Elem α} {W : World} {B n c : Nat} {f : κ → Option α}
theorem IM.made (W : World) : IM P k Ky E (W.alloc (.map #[] 0)) W.heap.size 0 (fun _ => none) 0 :=
  ⟨_, World.ownsMap_made W P k E.R, rfl, fun x => ⟨rfl, fun z => rfl⟩⟩
theorem IM.lt (h : IM P k Ky E W B n f c) : B < W.heap.size := by
  obtain ⟨D, h, _⟩ := h
  exact h.lt
theorem IM.kept {W' : World} {row : Option Nat} (h : IM P k Ky E W B n f c) (hg : W.grownBy W' row) (hne : some B ≠ row) : IM P k Ky E W' B n f c := by
  obtain ⟨D, h, r⟩ := h
  exact ⟨D, h.kept hg hne, r⟩
theorem IM.block {W' : World} (h : IM P k Ky E W B n f c) (hb : W'.heap[B]? = W.heap[B]?) : IM P k Ky E W' B n f c := by
  obtain ⟨D, ⟨es, clock, h1, h2⟩, r⟩ := h
  exact ⟨D, ⟨es, clock, hb.trans h1, h2⟩, r⟩
theorem IM.below {W' : World} (h : IM P k Ky E W B n f c) (hb : Below W.heap.size W W') : IM P k Ky E W' B n f c := h.block (hb.block B h.lt)
theorem IM.alloc (h : IM P k Ky E W B n f c) (o : Obj) : IM P k Ky E (W.alloc o) B n f c := by
  obtain ⟨D, h, r⟩ := h
  exact ⟨D, h.alloc o, r⟩
theorem IM.drewN (h : IM P k Ky E W B n f c) (m : Nat) : IM P k Ky E (W.drewN m) B n f c := h
theorem IM.drew (h : IM P k Ky E W B n f c) : IM P k Ky E W.drew B n f c := h
theorem IM.setCell (h : IM P k Ky E W B n f c) {a : Addr} (ha : B ≠ a.block) (u : Value) : IM P k Ky E (W.setCell a u) B n f c := by
  obtain ⟨D, h, r⟩ := h
  exact ⟨D, h.setCell ha u, r⟩
theorem IM.mono (h : IM P k Ky E W B n f c) {n' : Nat} (hn : n ≤ n') : IM P k Ky E W B n' f c := by
  obtain ⟨D, h, r⟩ := h
  exact ⟨D, h.mono hn, r⟩
theorem IM.congr (h : IM P k Ky E W B n f c) {g : κ → Option α} (hg : ∀ x, g x = f x) : IM P k Ky E W B n g c := by
  obtain rfl : g = f := funext hg
  exact h
theorem IM.size_le (h : IM P k Ky E W B n f c) : c ≤ n := by
  obtain ⟨D, h, rfl, _⟩ := h
  exact h.size_le
theorem put_reads {D : DataW Unit} (hD : Maps.Tidy D) (hr : ∀ x, Maps.has D (Ky.kl x) = (f x).isSome ∧ ∀ z, D.atKey (Ky.kl x) z = ((f x).map E.el).getD z) (x : κ) (v : α) :
    Maps.size (D.put (Ky.kl x) (E.el v)) = (if (f x).isSome = true then Maps.size D else Maps.size D + 1) ∧ ∀ y, Maps.has (D.put (Ky.kl x) (E.el v)) (Ky.kl y) = (upd f x v y).isSome ∧ ∀ z, (D.put (Ky.kl x) (E.el v)).atKey (Ky.kl y) z = ((upd f x v y).map E.el).getD z := by
  refine ⟨by rw [Maps.size_put hD, (hr x).1], fun y => ?_⟩
  by_cases hy : y = x
  · subst hy
    rw [upd_same]
    exact ⟨Maps.has_put_same hD.isMap (Ky.isKey _) _, fun z => Maps.atKey_put_same hD.isMap (Ky.isKey _) _ z⟩
  · rw [upd_other f v hy]
    have hne : Ky.kl y ≠ Ky.kl x := fun h => hy (Ky.inj h)
    exact ⟨(Maps.has_put_other hne _).trans (hr y).1, fun z => (Maps.atKey_put_other hne _ z).trans ((hr y).2 z)⟩
theorem del_reads {D : DataW Unit} (hD : Maps.Tidy D) (hr : ∀ x, Maps.has D (Ky.kl x) = (f x).isSome ∧ ∀ z, D.atKey (Ky.kl x) z = ((f x).map E.el).getD z) (x : κ) :
    Maps.size (D.del (Ky.kl x)) = (if (f x).isSome = true then Maps.size D - 1 else Maps.size D) ∧ ∀ y, Maps.has (D.del (Ky.kl x)) (Ky.kl y) = (del f x y).isSome ∧ ∀ z, (D.del (Ky.kl x)).atKey (Ky.kl y) z = ((del f x y).map E.el).getD z := by
  refine ⟨?_, fun y => ?_⟩
  · have h := Maps.size_del (k := Ky.kl x) hD
    rw [(hr x).1] at h
    split <;> simp_all <;> omega
  by_cases hy : y = x
  · subst hy
    rw [del_same]
    exact ⟨Maps.has_del_same, fun z => Maps.atKey_del_same z⟩
  · rw [del_other f hy]
    have hne : Ky.kl y ≠ Ky.kl x := fun h => hy (Ky.inj h)
    exact ⟨(Maps.has_del_other hne).trans (hr y).1, fun z => (Maps.atKey_del_other hne z).trans ((hr y).2 z)⟩
theorem IM.look (h : IM P k Ky E W B n f c) {t e : TypeId} (K : Keyed P k) (ht : P.underlying t = some (.map k e)) {z : α} (hz : (zeroValue e).run P W = .ok (E.enc z) W) (hzk : E.ok z) {xv : Value} {x : κ} (hkey : keyOf P k xv = some (Ky.kl x)) :
    (Instr.lookup t (.map (some B)) xv false).run P W = .ok (E.enc ((f x).getD z)) W := by
  obtain ⟨D, h, _, hr⟩ := h
  obtain ⟨v, ps, hrun, hv⟩ := h.lookup K ht hz (E.reads hzk) hkey
  obtain ⟨a, rfl, ha⟩ := E.inv hv
  rw [(hr x).2] at ha
  have : a = (f x).getD z := by
    cases hf : f x with
    | none => rw [hf] at ha; exact (E.inj ha).symm
    | some b => rw [hf] at ha; exact (E.inj ha).symm
  rw [hrun, this]
theorem IM.look_ok (h : IM P k Ky E W B n f c) {t e : TypeId} (K : Keyed P k) (ht : P.underlying t = some (.map k e)) {z : α} (hz : (zeroValue e).run P W = .ok (E.enc z) W) (hzk : E.ok z) {xv : Value} {x : κ} (hkey : keyOf P k xv = some (Ky.kl x)) :
    (Instr.lookup t (.map (some B)) xv true).run P W = .ok (.tuple #[E.enc ((f x).getD z), .bool (f x).isSome]) W := by
  obtain ⟨D, h, _, hr⟩ := h
  obtain ⟨v, ps, hrun, hv⟩ := h.look_ok K ht hz (E.reads hzk) hkey
  obtain ⟨a, rfl, ha⟩ := E.inv hv
  rw [(hr x).2] at ha
  have : a = (f x).getD z := by
    cases hf : f x with
    | none => rw [hf] at ha; exact (E.inj ha).symm
    | some b => rw [hf] at ha; exact (E.inj ha).symm
  rw [hrun, this, (hr x).1]
theorem IM.store (h : IM P k Ky E W B n f c) {t e : TypeId} (K : Keyed P k) (ht : P.underlying t = some (.map k e)) (hn : n < maxLen) {xv : Value} {x : κ} {v : α} (hkey : keyOf P k xv = some (Ky.kl x)) (hv : E.ok v) :
    ∃ w', (Instr.mapUpdate t (.map (some B)) xv (E.enc v)).run P W = .ok () w' ∧ IM P k Ky E w' B (n + 1) (upd f x v) (if (f x).isSome = true then c else c + 1) ∧ W.grownBy w' (some B) := by
  obtain ⟨D, h, rfl, hr⟩ := h
  obtain ⟨w', hrun, h1, h2⟩ := h.update K ht hn hkey (E.reads hv)
  obtain ⟨p1, p2⟩ := put_reads (h.tidy K) hr x v
  exact ⟨w', hrun, ⟨_, h1, p1, p2⟩, h2⟩
theorem IM.drop (h : IM P k Ky E W B n f c) {t e : TypeId} (K : Keyed P k) (ht : P.underlying t = some (.map k e)) {xv : Value} {x : κ} (hkey : keyOf P k xv = some (Ky.kl x)) (ty : TypeId) :
    ∃ w', (Builtin.delete_ #[t, k] ty #[.map (some B), xv]).run P W = .ok (.tuple #[]) w' ∧ IM P k Ky E w' B n (del f x) (if (f x).isSome = true then c - 1 else c) ∧ W.grownBy w' (some B) := by
  obtain ⟨D, h, rfl, hr⟩ := h
  obtain ⟨w', hrun, h1, h2⟩ := h.drop K ht hkey ty
  obtain ⟨p1, p2⟩ := del_reads (h.tidy K) hr x
  exact ⟨w', hrun, ⟨_, h1, p1, p2⟩, h2.grown⟩
theorem IM.len (h : IM P k Ky E W B n f c) {t e : TypeId} (ht : P.underlying t = some (.map k e)) (ty : TypeId) : (Builtin.len_ #[t] ty #[.map (some B)]).run P W = .ok (.int .i64 c) W := by
  obtain ⟨D, h, rfl, _⟩ := h
  exact h.len ht ty
end

/-! at the operation, for the walk -/
section
variable {P : Program} (w : World) {ops : Array Oper} {rest : List Oper} {o : Oper} {a : Act} {Q : Exit → Act → World → Prop} {k e : TypeId} {Ky : Keys κ} {E : Elem α} {B n c : Nat} {f : κ → Option α}
theorem im_look (hg : o.guard = none) (m x : Operand) (t : TypeId) (hop : o.op = Op.lookup t m x false) (K : Keyed P k) (ht : P.underlying t = some (.map k e)) {z : α} (hz : (zeroValue e).run P w = .ok (E.enc z) w) (hzk : E.ok z)
    (hm : a.eval m = .map (some B)) (h : IM P k Ky E w B n f c) (xv : Value) (key : κ) (hx : a.eval x = xv) (hkey : keyOf P k xv = some (Ky.kl key))
    (hK : wpList P ops Q rest (a.put o.dst (E.enc ((f key).getD z))) w) : wpList P ops Q (o :: rest) a w := by
  refine wpList_plain hg fun K' hK' => ?_
  have hrun := h.look K ht hz hzk hkey
  unfold Oper.wp
  simp [execOp, hop, hm, hx, hrun, Result.andThen]
  exact hK' _ _ hK
theorem im_look_int (he : P.underlying e = some (.int .i64)) (hg : o.guard = none) (m x : Operand) (t : TypeId) (hop : o.op = Op.lookup t m x false) (K : Keyed P k) (ht : P.underlying t = some (.map k e)) (hz : (zeroValue e).run P w = .ok (.int .i64 0) w)
    (hm : a.eval m = .map (some B)) {f : κ → Option Int} (h : IM P k Ky (intElem P e he) w B n f c) (xv : Value) (key : κ) (hx : a.eval x = xv) (hkey : keyOf P k xv = some (Ky.kl key))
    (hK : wpList P ops Q rest (a.put o.dst (.int .i64 ((f key).getD 0))) w) : wpList P ops Q (o :: rest) a w :=
  im_look w hg m x t hop K ht (z := (0 : Int)) hz (show (Lit.int .i64 0).wf = true by decide) hm h xv key hx hkey hK
theorem im_look_mark (hg : o.guard = none) (m x : Operand) (t : TypeId) (hop : o.op = Op.lookup t m x false) (K : Keyed P k) (ht : P.underlying t = some (.map k e)) (hz : (zeroValue e).run P w = .ok (.agg #[.bool false]) w)
    (hm : a.eval m = .map (some B)) {f : κ → Option Bool} (h : IM P k Ky markElem w B n f c) (xv : Value) (key : κ) (hx : a.eval x = xv) (hkey : keyOf P k xv = some (Ky.kl key))
    (hK : wpList P ops Q rest (a.put o.dst (.agg #[.bool ((f key).getD false)])) w) : wpList P ops Q (o :: rest) a w :=
  im_look w hg m x t hop K ht (z := false) hz trivial hm h xv key hx hkey hK
theorem im_ok (hg : o.guard = none) (m x : Operand) (t : TypeId) (hop : o.op = Op.lookup t m x true) (K : Keyed P k) (ht : P.underlying t = some (.map k e)) {z : α} (hz : (zeroValue e).run P w = .ok (E.enc z) w) (hzk : E.ok z)
    (hm : a.eval m = .map (some B)) (h : IM P k Ky E w B n f c) (xv : Value) (key : κ) (hx : a.eval x = xv) (hkey : keyOf P k xv = some (Ky.kl key))
    (hK : wpList P ops Q rest (a.put o.dst (.tuple #[E.enc ((f key).getD z), .bool (f key).isSome])) w) : wpList P ops Q (o :: rest) a w := by
  refine wpList_plain hg fun K' hK' => ?_
  have hrun := h.look_ok K ht hz hzk hkey
  unfold Oper.wp
  simp [execOp, hop, hm, hx, hrun, Result.andThen]
  exact hK' _ _ hK
theorem im_ok_int (he : P.underlying e = some (.int .i64)) (hg : o.guard = none) (m x : Operand) (t : TypeId) (hop : o.op = Op.lookup t m x true) (K : Keyed P k) (ht : P.underlying t = some (.map k e)) (hz : (zeroValue e).run P w = .ok (.int .i64 0) w)
    (hm : a.eval m = .map (some B)) {f : κ → Option Int} (h : IM P k Ky (intElem P e he) w B n f c) (xv : Value) (key : κ) (hx : a.eval x = xv) (hkey : keyOf P k xv = some (Ky.kl key))
    (hK : wpList P ops Q rest (a.put o.dst (.tuple #[.int .i64 ((f key).getD 0), .bool (f key).isSome])) w) : wpList P ops Q (o :: rest) a w :=
  im_ok w hg m x t hop K ht (z := (0 : Int)) hz (show (Lit.int .i64 0).wf = true by decide) hm h xv key hx hkey hK
theorem im_ok_mark (hg : o.guard = none) (m x : Operand) (t : TypeId) (hop : o.op = Op.lookup t m x true) (K : Keyed P k) (ht : P.underlying t = some (.map k e)) (hz : (zeroValue e).run P w = .ok (.agg #[.bool false]) w)
    (hm : a.eval m = .map (some B)) {f : κ → Option Bool} (h : IM P k Ky markElem w B n f c) (xv : Value) (key : κ) (hx : a.eval x = xv) (hkey : keyOf P k xv = some (Ky.kl key))
    (hK : wpList P ops Q rest (a.put o.dst (.tuple #[.agg #[.bool ((f key).getD false)], .bool (f key).isSome])) w) : wpList P ops Q (o :: rest) a w :=
  im_ok w hg m x t hop K ht (z := false) hz trivial hm h xv key hx hkey hK
theorem im_store (hg : o.guard = none) (m x v : Operand) (t : TypeId) (hop : o.op = Op.mapUpdate t m x v) (K : Keyed P k) (ht : P.underlying t = some (.map k e)) (hm : a.eval m = .map (some B)) (h : IM P k Ky E w B n f c) (hn : n < maxLen)
    (xv vv : Value) (key : κ) (val : α) (hx : a.eval x = xv) (hv : a.eval v = vv) (hkey : keyOf P k xv = some (Ky.kl key)) (hval : vv = E.enc val) (hok : E.ok val)
    (hK : ∀ w', IM P k Ky E w' B (n + 1) (upd f key val) (if (f key).isSome = true then c else c + 1) → w.grownBy w' (some B) → wpList P ops Q rest (a.put o.dst undef) w') : wpList P ops Q (o :: rest) a w := by
  refine wpList_plain hg fun K' hK' => ?_
  subst hval
  obtain ⟨w', hrun, r1, r2⟩ := h.store K ht hn hkey hok
  unfold Oper.wp
  simp [execOp, hop, hm, hx, hv, hrun, Result.andThen]
  exact hK' _ _ (hK w' r1 r2)
theorem im_store_int (he : P.underlying e = some (.int .i64)) (hg : o.guard = none) (m x v : Operand) (t : TypeId) (hop : o.op = Op.mapUpdate t m x v) (K : Keyed P k) (ht : P.underlying t = some (.map k e)) (hm : a.eval m = .map (some B)) {f : κ → Option Int} (h : IM P k Ky (intElem P e he) w B n f c) (hn : n < maxLen)
    (xv : Value) (key : κ) (val : Int) (hx : a.eval x = xv) (hv : a.eval v = .int .i64 val) (hkey : keyOf P k xv = some (Ky.kl key)) (hok : (Lit.int .i64 val).wf = true)
    (hK : ∀ w', IM P k Ky (intElem P e he) w' B (n + 1) (upd f key val) (if (f key).isSome = true then c else c + 1) → w.grownBy w' (some B) → wpList P ops Q rest (a.put o.dst undef) w') : wpList P ops Q (o :: rest) a w :=
  im_store w hg m x v t hop K ht hm h hn xv (.int .i64 val) key val hx hv hkey rfl hok hK
theorem im_store_mark (hg : o.guard = none) (m x v : Operand) (t : TypeId) (hop : o.op = Op.mapUpdate t m x v) (K : Keyed P k) (ht : P.underlying t = some (.map k e)) (hm : a.eval m = .map (some B)) {f : κ → Option Bool} (h : IM P k Ky markElem w B n f c) (hn : n < maxLen)
    (xv : Value) (key : κ) (val : Bool) (hx : a.eval x = xv) (hv : a.eval v = .agg #[.bool val]) (hkey : keyOf P k xv = some (Ky.kl key))
    (hK : ∀ w', IM P k Ky markElem w' B (n + 1) (upd f key val) (if (f key).isSome = true then c else c + 1) → w.grownBy w' (some B) → wpList P ops Q rest (a.put o.dst undef) w') : wpList P ops Q (o :: rest) a w :=
  im_store w hg m x v t hop K ht hm h hn xv (.agg #[.bool val]) key val hx hv hkey rfl trivial hK
theorem im_delete (hg : o.guard = none) (m x : Operand) (t : TypeId) (hop : o.op = Op.call { callee := Callee.builtin Builtin.delete, args := #[m, x], argTypes := #[t, k] }) (K : Keyed P k) (ht : P.underlying t = some (.map k e)) (hm : a.eval m = .map (some B)) (h : IM P k Ky E w B n f c)
    (xv : Value) (key : κ) (hx : a.eval x = xv) (hkey : keyOf P k xv = some (Ky.kl key))
    (hK : ∀ w', IM P k Ky E w' B n (del f key) (if (f key).isSome = true then c - 1 else c) → w.grownBy w' (some B) → wpList P ops Q rest (a.put o.dst (.tuple #[])) w') : wpList P ops Q (o :: rest) a w := by
  refine wpList_plain hg fun K' hK' => ?_
  obtain ⟨w', hrun, r1, r2⟩ := h.drop K ht hkey o.type
  unfold Oper.wp
  simp [execOp, hop, resolve, invoke, builtin, hm, hx, hrun, Result.andThen]
  exact hK' _ _ (hK w' r1 r2)
theorem im_len (hg : o.guard = none) (m : Operand) (t : TypeId) (hop : o.op = Op.call { callee := Callee.builtin Builtin.len, args := #[m], argTypes := #[t] }) (ht : P.underlying t = some (.map k e)) (hm : a.eval m = .map (some B)) (h : IM P k Ky E w B n f c)
    (hK : wpList P ops Q rest (a.put o.dst (.int .i64 c)) w) : wpList P ops Q (o :: rest) a w := by
  refine wpList_plain hg fun K' hK' => ?_
  have hrun := h.len ht o.type
  unfold Oper.wp
  simp [execOp, hop, resolve, invoke, builtin, hm, hrun, Result.andThen]
  exact hK' _ _ hK
end
end Go.Proofs.YtggnnnddnppcpaaDoorMaps
