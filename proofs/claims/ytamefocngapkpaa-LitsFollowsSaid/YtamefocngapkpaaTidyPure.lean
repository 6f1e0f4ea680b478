/- Two rising lists as one; what the reference's Tidy and Join come to. -/
import Derived.Test.YtamefocngapkpaaTidyMath
set_option linter.unusedVariables false
set_option linter.unusedSimpArgs false
namespace Go.Proofs.YtamefocngapkpaaMath
open Go.RowKit Go.Proofs.YtamefocngapkpaaW.PrintWords

def mg : List Int → List Int → List Int
  | [], bs => bs
  | a :: az, [] => a :: az
  | a :: az, b :: bs => if idxOf a < idxOf b then a :: mg az (b :: bs) else if idxOf b < idxOf a then b :: mg (a :: az) bs else a :: mg az bs
termination_by a b => a.length + b.length
theorem mg_nil (b : List Int) : mg [] b = b := by rw [mg]
theorem mg_nil' (a : List Int) : mg a [] = a := by cases a <;> rw [mg]
theorem mg_lt {a b : Int} {az bs : List Int} (h : idxOf a < idxOf b) : mg (a :: az) (b :: bs) = a :: mg az (b :: bs) := by rw [mg, if_pos h]
theorem mg_gt {a b : Int} {az bs : List Int} (h : idxOf b < idxOf a) : mg (a :: az) (b :: bs) = b :: mg (a :: az) bs := by rw [mg, if_neg (by omega), if_pos h]
theorem mg_eq {a b : Int} {az bs : List Int} (h : idxOf a = idxOf b) : mg (a :: az) (b :: bs) = a :: mg az bs := by rw [mg, if_neg (by omega), if_neg (by omega)]
theorem mg_length (n : Nat) : ∀ a b : List Int, a.length + b.length ≤ n → (mg a b).length ≤ a.length + b.length := by
  induction n with
  | zero =>
    intro a b h
    cases a with
    | nil => simp [mg_nil]
    | cons => simp at h
  | succ n ih =>
    intro a b h
    cases a with
    | nil => simp [mg_nil]
    | cons x az =>
      cases b with
      | nil => simp [mg_nil']
      | cons y bs =>
        simp only [List.length_cons] at h
        by_cases h1 : idxOf x < idxOf y
        · have := ih az (y :: bs) (by simp only [List.length_cons]; omega)
          rw [mg_lt h1]; simp only [List.length_cons] at this ⊢; omega
        · by_cases h2 : idxOf y < idxOf x
          · have := ih (x :: az) bs (by simp only [List.length_cons]; omega)
            rw [mg_gt h2]; simp only [List.length_cons] at this ⊢; omega
          · have := ih az bs (by omega)
            rw [mg_eq (by omega)]; simp only [List.length_cons]; omega
theorem mg_mem (n : Nat) : ∀ a b : List Int, a.length + b.length ≤ n → (∀ x ∈ a, formed x = true) → (∀ x ∈ b, formed x = true) → ∀ x, x ∈ mg a b ↔ x ∈ a ∨ x ∈ b := by
  induction n with
  | zero =>
    intro a b h _ _ x
    cases a with
    | nil => simp [mg_nil]
    | cons => simp at h
  | succ n ih =>
    intro a b h ha hb x
    cases a with
    | nil => simp [mg_nil]
    | cons p az =>
      cases b with
      | nil => simp [mg_nil']
      | cons q bs =>
        simp only [List.length_cons] at h
        have ha' : ∀ x ∈ az, formed x = true := fun x hx => ha x (List.mem_cons_of_mem _ hx)
        have hb' : ∀ x ∈ bs, formed x = true := fun x hx => hb x (List.mem_cons_of_mem _ hx)
        by_cases h1 : idxOf p < idxOf q
        · have := ih az (q :: bs) (by simp only [List.length_cons]; omega) ha' hb x
          rw [mg_lt h1]; simp only [List.mem_cons] at this ⊢; rw [this]; simp only [or_assoc]
        · by_cases h2 : idxOf q < idxOf p
          · have := ih (p :: az) bs (by simp only [List.length_cons]; omega) ha hb' x
            rw [mg_gt h2]; simp only [List.mem_cons] at this ⊢; rw [this]
            constructor
            · rintro (h | (h | h) | h) <;> simp [h]
            · rintro ((h | h) | h | h) <;> simp [h]
          · have e : p = q := idx_inj (ha p (List.mem_cons_self ..)) (hb q (List.mem_cons_self ..)) (by omega)
            have := ih az bs (by omega) ha' hb' x
            rw [mg_eq (by omega)]; simp only [List.mem_cons] at this ⊢; rw [this, e]
            constructor
            · rintro (h | h | h) <;> simp [h]
            · rintro ((h | h) | h | h) <;> simp [h]
theorem mg_rising (n : Nat) : ∀ a b : List Int, a.length + b.length ≤ n → (∀ x ∈ a, formed x = true) → (∀ x ∈ b, formed x = true) → Rising a → Rising b → Rising (mg a b) := by
  induction n with
  | zero =>
    intro a b h _ _ r1 r2
    cases a with
    | nil => rwa [mg_nil]
    | cons => simp at h
  | succ n ih =>
    intro a b h ha hb r1 r2
    cases a with
    | nil => rwa [mg_nil]
    | cons p az =>
      cases b with
      | nil => rwa [mg_nil']
      | cons q bs =>
        simp only [List.length_cons] at h
        have ha' : ∀ x ∈ az, formed x = true := fun x hx => ha x (List.mem_cons_of_mem _ hx)
        have hb' : ∀ x ∈ bs, formed x = true := fun x hx => hb x (List.mem_cons_of_mem _ hx)
        obtain ⟨p1, p2⟩ := List.pairwise_cons.1 r1
        obtain ⟨q1, q2⟩ := List.pairwise_cons.1 r2
        by_cases h1 : idxOf p < idxOf q
        · rw [mg_lt h1]
          refine List.pairwise_cons.2 ⟨fun x hx => ?_, ih az (q :: bs) (by simp only [List.length_cons]; omega) ha' hb p2 r2⟩
          rcases (mg_mem _ az (q :: bs) (Nat.le_refl _) ha' hb x).1 hx with h | h
          · exact p1 x h
          · rcases List.mem_cons.1 h with h | h
            · rw [h]; exact h1
            · have := q1 x h; omega
        · by_cases h2 : idxOf q < idxOf p
          · rw [mg_gt h2]
            refine List.pairwise_cons.2 ⟨fun x hx => ?_, ih (p :: az) bs (by simp only [List.length_cons]; omega) ha hb' r1 q2⟩
            rcases (mg_mem _ (p :: az) bs (Nat.le_refl _) ha hb' x).1 hx with h | h
            · rcases List.mem_cons.1 h with h | h
              · rw [h]; exact h2
              · have := p1 x h; omega
            · exact q1 x h
          · rw [mg_eq (by omega)]
            refine List.pairwise_cons.2 ⟨fun x hx => ?_, ih az bs (by omega) ha' hb' p2 q2⟩
            rcases (mg_mem _ az bs (Nat.le_refl _) ha' hb' x).1 hx with h | h
            · exact p1 x h
            · have := q1 x h; omega
theorem tidyOf_append (a b : List Int) : tidyOf (a ++ b) = mg (tidyOf a) (tidyOf b) :=
  tidyOf_eq (mg_rising _ _ _ (Nat.le_refl _) (fun _ h => tidyOf_formed h) (fun _ h => tidyOf_formed h) (rising_tidyOf a) (rising_tidyOf b)) fun x => by
    rw [mg_mem _ _ _ (Nat.le_refl _) (fun _ h => tidyOf_formed h) (fun _ h => tidyOf_formed h), mem_tidyOf, mem_tidyOf, List.mem_append]
    constructor
    · rintro (⟨h, g⟩ | ⟨h, g⟩) <;> simp [h, g]
    · rintro ⟨h | h, g⟩ <;> simp [h, g]
theorem tidyOf_nil : tidyOf [] = [] := rfl
theorem tidyOf_one (x : Int) : tidyOf [x] = if formed x = true then [x] else [] := by
  refine tidyOf_eq ?_ fun y => ?_
  · split
    · exact List.pairwise_singleton ..
    · exact List.Pairwise.nil
  · split
    · rename_i h
      simp only [List.mem_singleton]
      exact ⟨fun e => ⟨e, e ▸ h⟩, fun e => e.1⟩
    · rename_i h
      simp only [List.mem_singleton, List.not_mem_nil, false_iff]
      rintro ⟨rfl, g⟩; exact h g
theorem tidyOf_tidyOf (a : List Int) : tidyOf (tidyOf a) = tidyOf a :=
  tidyOf_eq (rising_tidyOf a) fun x => ⟨fun h => ⟨h, tidyOf_formed h⟩, fun h => h.1⟩
theorem rising_filter {a : List Int} (p : Int → Bool) (h : Rising a) : Rising (a.filter p) := List.Pairwise.filter _ h
theorem tidyOf_rising {t : List Int} (hr : Rising t) (hf : ∀ x ∈ t, formed x = true) : tidyOf t = t :=
  tidyOf_eq hr fun x => ⟨fun h => ⟨h, hf x h⟩, fun h => h.1⟩
theorem withoutOf_tidy (a : List Int) (p : Int → Bool) : tidyOf ((tidyOf a).filter p) = (tidyOf a).filter p :=
  tidyOf_rising (rising_filter p (rising_tidyOf a)) fun x h => tidyOf_formed (List.mem_filter.1 h).1
theorem mg_len (n : Nat) : ∀ a b : List Int, a.length + b.length ≤ n → (∀ x ∈ a, formed x = true) → (∀ x ∈ b, formed x = true) → b.length ≤ (mg a b).length ∧ ((mg a b).length = b.length → ∀ x ∈ a, x ∈ b) := by
  induction n with
  | zero =>
    intro a b h _ _
    cases a with
    | nil => simp [mg_nil]
    | cons => simp at h
  | succ n ih =>
    intro a b h ha hb
    cases a with
    | nil => simp [mg_nil]
    | cons p az =>
      cases b with
      | nil => simp [mg_nil']
      | cons q bs =>
        simp only [List.length_cons] at h
        have ha' : ∀ x ∈ az, formed x = true := fun x hx => ha x (List.mem_cons_of_mem _ hx)
        have hb' : ∀ x ∈ bs, formed x = true := fun x hx => hb x (List.mem_cons_of_mem _ hx)
        by_cases h1 : idxOf p < idxOf q
        · have := (ih az (q :: bs) (by simp only [List.length_cons]; omega) ha' hb).1
          rw [mg_lt h1]; simp only [List.length_cons] at this ⊢
          exact ⟨by omega, fun h => by omega⟩
        · by_cases h2 : idxOf q < idxOf p
          · have := ih (p :: az) bs (by simp only [List.length_cons]; omega) ha hb'
            rw [mg_gt h2]; simp only [List.length_cons] at this ⊢
            exact ⟨by omega, fun h x hx => List.mem_cons_of_mem _ (this.2 (by omega) x hx)⟩
          · have e : p = q := idx_inj (ha p (List.mem_cons_self ..)) (hb q (List.mem_cons_self ..)) (by omega)
            have := ih az bs (by omega) ha' hb'
            rw [mg_eq (by omega)]; simp only [List.length_cons]
            refine ⟨by omega, fun h x hx => ?_⟩
            rcases List.mem_cons.1 hx with rfl | hx
            · rw [e]; exact List.mem_cons_self ..
            · exact List.mem_cons_of_mem _ (this.2 (by omega) x hx)
/-- a rising list of literals has at most 2097152 places -/
theorem rising_count (t : List Int) : ∀ m : Int, Rising t → (∀ x ∈ t, formed x = true) → (∀ x ∈ t, m ≤ idxOf x) → m ≤ 2097152 → (t.length : Int) ≤ 2097152 - m := by
  induction t with
  | nil => intro m _ _ _ h; simp; omega
  | cons x t ih =>
    intro m hr hf hm h
    obtain ⟨h1, h2⟩ := List.pairwise_cons.1 hr
    have hx := idx_formed (hf x (List.mem_cons_self ..))
    have hmx := hm x (List.mem_cons_self ..)
    have := ih (idxOf x + 1) h2 (fun y hy => hf y (List.mem_cons_of_mem _ hy)) (fun y hy => by have := h1 y hy; omega) (by omega)
    simp only [List.length_cons]
    omega
theorem formed_count (t : List Int) (hr : Rising t) (hf : ∀ x ∈ t, formed x = true) : t.length ≤ 2097152 := by
  have := rising_count t 0 hr hf (fun x hx => (idx_formed (hf x hx)).1) (by omega)
  omega
/-- two neighbours are opposites -/
def tautIn : List Int → Bool
  | [] => false
  | [_] => false
  | a :: b :: t => (b == -a) || tautIn (b :: t)
/-- the one is a list of literals, and each stands in the other one, that is one too -/
def subOf (a b : List Int) : Bool := sound a && (sound b && a.all fun l => (tidyOf b).contains l)
theorem tautIn_iff (t : List Int) : Rising t → (∀ x ∈ t, formed x = true) → (tautIn t = true ↔ ∃ x ∈ t, -x ∈ t) := by
  induction t with
  | nil => intro _ _; simp [tautIn]
  | cons a t ih =>
    intro hr hf
    obtain ⟨h1, h2⟩ := List.pairwise_cons.1 hr
    have ih := ih h2 (fun y hy => hf y (List.mem_cons_of_mem _ hy))
    have ha := hf a (List.mem_cons_self ..)
    cases t with
    | nil =>
      simp only [tautIn, Bool.false_eq_true, List.mem_singleton, exists_eq_left, false_iff]
      have := (formed_iff.1 ha).1
      omega
    | cons b t =>
      have hb := hf b (by simp)
      have key : ∀ y ∈ b :: t, y = -a → b = -a := by
        intro y hy hya
        have hfy := hf y (List.mem_cons_of_mem _ hy)
        have e := (idx_neg hfy ha).1 hya
        have l1 := h1 b (List.mem_cons_self ..)
        have l2 := h1 y hy
        have l3 : idxOf b ≤ idxOf y := by
          rcases List.mem_cons.1 hy with rfl | hy
          · omega
          · exact Int.le_of_lt ((List.pairwise_cons.1 h2).1 y hy)
        have : b = y := idx_inj hb hfy (by omega)
        rw [this, hya]
      simp only [tautIn, Bool.or_eq_true, beq_iff_eq, ih]
      constructor
      · rintro (h | ⟨x, hx, hy⟩)
        · exact ⟨a, List.mem_cons_self .., by rw [← h]; simp⟩
        · exact ⟨x, List.mem_cons_of_mem _ hx, List.mem_cons_of_mem _ hy⟩
      · rintro ⟨x, hx, hy⟩
        rcases List.mem_cons.1 hx with rfl | hx
        · rcases List.mem_cons.1 hy with hy | hy
          · have := (formed_iff.1 ha).1; omega
          · exact .inl (key _ hy rfl)
        · rcases List.mem_cons.1 hy with hy | hy
          · exact .inl (key x hx (by omega))
          · exact .inr ⟨x, hx, hy⟩
theorem mem_tidy_sound {b : List Int} (hb : sound b = true) (x : Int) : x ∈ tidyOf b ↔ x ∈ b := by
  rw [mem_tidyOf]
  exact ⟨fun h => h.1, fun h => ⟨h, sound_mem hb h⟩⟩
theorem subOf_sound {a b : List Int} (ha : sound a = true) (hb : sound b = true) : subOf a b = a.all fun x => b.contains x := by
  unfold subOf
  rw [ha, hb, Bool.true_and, Bool.true_and, Bool.eq_iff_iff]
  simp only [List.all_eq_true, List.contains_iff_mem, mem_tidy_sound hb]
theorem taut_sound {b : List Int} (hb : sound b = true) : tautIn (tidyOf b) = b.any fun x => b.contains (-x) := by
  rw [Bool.eq_iff_iff, tautIn_iff _ (rising_tidyOf b) (fun _ h => tidyOf_formed h)]
  simp only [List.any_eq_true, List.contains_iff_mem, mem_tidy_sound hb]
theorem same_sound {a b : List Int} (ha : sound a = true) (hb : sound b = true) : (tidyOf a == tidyOf b) = (subOf a b && subOf b a) := by
  rw [subOf_sound ha hb, subOf_sound hb ha, Bool.eq_iff_iff]
  simp only [beq_iff_eq, Bool.and_eq_true, List.all_eq_true, List.contains_iff_mem]
  constructor
  · intro h
    exact ⟨fun x hx => (mem_tidy_sound hb x).1 (h ▸ (mem_tidy_sound ha x).2 hx), fun x hx => (mem_tidy_sound ha x).1 (h ▸ (mem_tidy_sound hb x).2 hx)⟩
  · rintro ⟨h1, h2⟩
    refine rising_ext (rising_tidyOf a) (rising_tidyOf b) fun x => ?_
    rw [mem_tidy_sound ha, mem_tidy_sound hb]
    exact ⟨h1 x, h2 x⟩
end Go.Proofs.YtamefocngapkpaaMath
