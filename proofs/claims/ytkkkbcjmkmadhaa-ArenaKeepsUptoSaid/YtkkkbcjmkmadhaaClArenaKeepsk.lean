/- Two rising lists as one; what the reference's Tidy and Join come to. -/
import Derived.Test.YtkkkbcjmkmadhaaClArenaKeepsf
import Derived.Test.YtkkkbcjmkmadhaaClArenaKeepsj
import Derived.Test.YtkkkbcjmkmadhaaClArenaKeepse
import Derived.Test.YtkkkbcjmkmadhaaClArenaKeepsi
/-! text YtkkkbcjmkmadhaaTidyPure -/
set_option linter.unusedVariables false
set_option linter.unusedSimpArgs false
namespace Go.Proofs.YtkkkbcjmkmadhaaMath
open Go.RowKit Go.Proofs.YtkkkbcjmkmadhaaW.PrintWords

def mg : List Int → List Int → List Int
  | [], bs => bs
  | a :: az, [] => a :: az
  | a :: az, b :: bs => if idxOf a < idxOf b then a :: mg az (b :: bs) else if idxOf b < idxOf a then b :: mg (a :: az) bs else a :: mg az bs
termination_by a b => a.length + b.length
theorem mg_nil (b : List Int) : mg [] b = b := by rw [mg]
theorem mg_nil' (a : List Int) : mg a [] = a := by cases a <;> rw [mg]
theorem mg_lt {a b : Int} {az bs : List Int} (h : idxOf a < idxOf b) : mg (a :: az) (b :: bs) = a :: mg az (b :: bs) := by rw [mg, if_pos h]
theorem mg_gt {a b : Int} {az bs : List Int} (h : idxOf b < idxOf a) : mg (a :: az) (b :: bs) = b :: mg (a :: az) bs := by rw [mg, if_neg (by omega), if_pos h]
theorem mg_eq {a b : Int} {az bs : List Int} (h : idxOf a = idxOf b) : mg (a :: az) (b :: bs) = a :: mg az bs := by rw [mg, if_neg (by omega), if_neg (by omega)]
theorem mg_length (n : Nat) : ∀ a b : List Int, a.length + b.length ≤ n → (mg a b).length ≤ a.length + b.length := by
  induction n with
  | zero =>
    intro a b h
    cases a with
    | nil => simp [mg_nil]
    | cons => simp at h
  | succ n ih =>
    intro a b h
    cases a with
    | nil => simp [mg_nil]
    | cons x az =>
      cases b with
      | nil => simp [mg_nil']
      | cons y bs =>
        simp only [List.length_cons] at h
        by_cases h1 : idxOf x < idxOf y
        · have := ih az (y :: bs) (by simp only [List.length_cons]; omega)
          rw [mg_lt h1]; simp only [List.length_cons] at this ⊢; omega
        · by_cases h2 : idxOf y < idxOf x
          · have := ih (x :: az) bs (by simp only [List.length_cons]; omega)
            rw [mg_gt h2]; simp only [List.length_cons] at this ⊢; omega
          · have := ih az bs (by omega)
            rw [mg_eq (by omega)]; simp only [List.length_cons]; omega
theorem mg_mem (n : Nat) : ∀ a b : List Int, a.length + b.length ≤ n → (∀ x ∈ a, formed x = true) → (∀ x ∈ b, formed x = true) → ∀ x, x ∈ mg a b ↔ x ∈ a ∨ x ∈ b := by
  induction n with
  | zero =>
    intro a b h _ _ x
    cases a with
    | nil => simp [mg_nil]
    | cons => simp at h
  | succ n ih =>
    intro a b h ha hb x
    cases a with
    | nil => simp [mg_nil]
    | cons p az =>
      cases b with
      | nil => simp [mg_nil']
      | cons q bs =>
        simp only [List.length_cons] at h
        have ha' : ∀ x ∈ az, formed x = true := fun x hx => ha x (List.mem_cons_of_mem _ hx)
        have hb' : ∀ x ∈ bs, formed x = true := fun x hx => hb x (List.mem_cons_of_mem _ hx)
        by_cases h1 : idxOf p < idxOf q
        · have := ih az (q :: bs) (by simp only [List.length_cons]; omega) ha' hb x
          rw [mg_lt h1]; simp only [List.mem_cons] at this ⊢; rw [this]; simp only [or_assoc]
        · by_cases h2 : idxOf q < idxOf p
          · have := ih (p :: az) bs (by simp only [List.length_cons]; omega) ha hb' x
            rw [mg_gt h2]; simp only [List.mem_cons] at this ⊢; rw [this]
            constructor
            · rintro (h | (h | h) | h) <;> simp [h]
            · rintro ((h | h) | h | h) <;> simp [h]
          · have e : p = q := idx_inj (ha p (List.mem_cons_self ..)) (hb q (List.mem_cons_self ..)) (by omega)
            have := ih az bs (by omega) ha' hb' x
            rw [mg_eq (by omega)]; simp only [List.mem_cons] at this ⊢; rw [this, e]
            constructor
            · rintro (h | h | h) <;> simp [h]
            · rintro ((h | h) | h | h) <;> simp [h]
theorem mg_rising (n : Nat) : ∀ a b : List Int, a.length + b.length ≤ n → (∀ x ∈ a, formed x = true) → (∀ x ∈ b, formed x = true) → Rising a → Rising b → Rising (mg a b) := by
  induction n with
  | zero =>
    intro a b h _ _ r1 r2
    cases a with
    | nil => rwa [mg_nil]
    | cons => simp at h
  | succ n ih =>
    intro a b h ha hb r1 r2
    cases a with
    | nil => rwa [mg_nil]
    | cons p az =>
      cases b with
      | nil => rwa [mg_nil']
      | cons q bs =>
        simp only [List.length_cons] at h
        have ha' : ∀ x ∈ az, formed x = true := fun x hx => ha x (List.mem_cons_of_mem _ hx)
        have hb' : ∀ x ∈ bs, formed x = true := fun x hx => hb x (List.mem_cons_of_mem _ hx)
        obtain ⟨p1, p2⟩ := List.pairwise_cons.1 r1
        obtain ⟨q1, q2⟩ := List.pairwise_cons.1 r2
        by_cases h1 : idxOf p < idxOf q
        · rw [mg_lt h1]
          refine List.pairwise_cons.2 ⟨fun x hx => ?_, ih az (q :: bs) (by simp only [List.length_cons]; omega) ha' hb p2 r2⟩
          rcases (mg_mem _ az (q :: bs) (Nat.le_refl _) ha' hb x).1 hx with h | h
          · exact p1 x h
          · rcases List.mem_cons.1 h with h | h
            · rw [h]; exact h1
            · have := q1 x h; omega
        · by_cases h2 : idxOf q < idxOf p
          · rw [mg_gt h2]
            refine List.pairwise_cons.2 ⟨fun x hx => ?_, ih (p :: az) bs (by simp only [List.length_cons]; omega) ha hb' r1 q2⟩
            rcases (mg_mem _ (p :: az) bs (Nat.le_refl _) ha hb' x).1 hx with h | h
            · rcases List.mem_cons.1 h with h | h
              · rw [h]; exact h2
              · have := p1 x h; omega
            · exact q1 x h
          · rw [mg_eq (by omega)]
            refine List.pairwise_cons.2 ⟨fun x hx => ?_, ih az bs (by omega) ha' hb' p2 q2⟩
            rcases (mg_mem _ az bs (Nat.le_refl _) ha' hb' x).1 hx with h | h
            · exact p1 x h
            · have := q1 x h; omega
theorem tidyOf_append (a b : List Int) : tidyOf (a ++ b) = mg (tidyOf a) (tidyOf b) :=
  tidyOf_eq (mg_rising _ _ _ (Nat.le_refl _) (fun _ h => tidyOf_formed h) (fun _ h => tidyOf_formed h) (rising_tidyOf a) (rising_tidyOf b)) fun x => by
    rw [mg_mem _ _ _ (Nat.le_refl _) (fun _ h => tidyOf_formed h) (fun _ h => tidyOf_formed h), mem_tidyOf, mem_tidyOf, List.mem_append]
    constructor
    · rintro (⟨h, g⟩ | ⟨h, g⟩) <;> simp [h, g]
    · rintro ⟨h | h, g⟩ <;> simp [h, g]
theorem tidyOf_nil : tidyOf [] = [] := rfl
theorem tidyOf_one (x : Int) : tidyOf [x] = if formed x = true then [x] else [] := by
  refine tidyOf_eq ?_ fun y => ?_
  · split
    · exact List.pairwise_singleton ..
    · exact List.Pairwise.nil
  · split
    · rename_i h
      simp only [List.mem_singleton]
      exact ⟨fun e => ⟨e, e ▸ h⟩, fun e => e.1⟩
    · rename_i h
      simp only [List.mem_singleton, List.not_mem_nil, false_iff]
      rintro ⟨rfl, g⟩; exact h g
theorem tidyOf_tidyOf (a : List Int) : tidyOf (tidyOf a) = tidyOf a :=
  tidyOf_eq (rising_tidyOf a) fun x => ⟨fun h => ⟨h, tidyOf_formed h⟩, fun h => h.1⟩
theorem rising_filter {a : List Int} (p : Int → Bool) (h : Rising a) : Rising (a.filter p) := List.Pairwise.filter _ h
theorem tidyOf_rising {t : List Int} (hr : Rising t) (hf : ∀ x ∈ t, formed x = true) : tidyOf t = t :=
  tidyOf_eq hr fun x => ⟨fun h => ⟨h, hf x h⟩, fun h => h.1⟩
theorem withoutOf_tidy (a : List Int) (p : Int → Bool) : tidyOf ((tidyOf a).filter p) = (tidyOf a).filter p :=
  tidyOf_rising (rising_filter p (rising_tidyOf a)) fun x h => tidyOf_formed (List.mem_filter.1 h).1
theorem mg_len (n : Nat) : ∀ a b : List Int, a.length + b.length ≤ n → (∀ x ∈ a, formed x = true) → (∀ x ∈ b, formed x = true) → b.length ≤ (mg a b).length ∧ ((mg a b).length = b.length → ∀ x ∈ a, x ∈ b) := by
  induction n with
  | zero =>
    intro a b h _ _
    cases a with
    | nil => simp [mg_nil]
    | cons => simp at h
  | succ n ih =>
    intro a b h ha hb
    cases a with
    | nil => simp [mg_nil]
    | cons p az =>
      cases b with
      | nil => simp [mg_nil']
      | cons q bs =>
        simp only [List.length_cons] at h
        have ha' : ∀ x ∈ az, formed x = true := fun x hx => ha x (List.mem_cons_of_mem _ hx)
        have hb' : ∀ x ∈ bs, formed x = true := fun x hx => hb x (List.mem_cons_of_mem _ hx)
        by_cases h1 : idxOf p < idxOf q
        · have := (ih az (q :: bs) (by simp only [List.length_cons]; omega) ha' hb).1
          rw [mg_lt h1]; simp only [List.length_cons] at this ⊢
          exact ⟨by omega, fun h => by omega⟩
        · by_cases h2 : idxOf q < idxOf p
          · have := ih (p :: az) bs (by simp only [List.length_cons]; omega) ha hb'
            rw [mg_gt h2]; simp only [List.length_cons] at this ⊢
            exact ⟨by omega, fun h x hx => List.mem_cons_of_mem _ (this.2 (by omega) x hx)⟩
          · have e : p = q := idx_inj (ha p (List.mem_cons_self ..)) (hb q (List.mem_cons_self ..)) (by omega)
            have := ih az bs (by omega) ha' hb'
            rw [mg_eq (by omega)]; simp only [List.length_cons]
            refine ⟨by omega, fun h x hx => ?_⟩
            rcases List.mem_cons.1 hx with rfl | hx
            · rw [e]; exact List.mem_cons_self ..
            · exact List.mem_cons_of_mem _ (this.2 (by omega) x hx)
/-- a rising list of literals has at most 2097152 places -/
theorem rising_count (t : List Int) : ∀ m : Int, Rising t → (∀ x ∈ t, formed x = true) → (∀ x ∈ t, m ≤ idxOf x) → m ≤ 2097152 → (t.length : Int) ≤ 2097152 - m := by
  induction t with
  | nil => intro m _ _ _ h; simp; omega
  | cons x t ih =>
    intro m hr hf hm h
    obtain ⟨h1, h2⟩ := List.pairwise_cons.1 hr
    have hx := idx_formed (hf x (List.mem_cons_self ..))
    have hmx := hm x (List.mem_cons_self ..)
    have := ih (idxOf x + 1) h2 (fun y hy => hf y (List.mem_cons_of_mem _ hy)) (fun y hy => by have := h1 y hy; omega) (by omega)
    simp only [List.length_cons]
    omega
theorem formed_count (t : List Int) (hr : Rising t) (hf : ∀ x ∈ t, formed x = true) : t.length ≤ 2097152 := by
  have := rising_count t 0 hr hf (fun x hx => (idx_formed (hf x hx)).1) (by omega)
  omega
/-- two neighbours are opposites -/
def tautIn : List Int → Bool
  | [] => false
  | [_] => false
  | a :: b :: t => (b == -a) || tautIn (b :: t)
/-- the one is a list of literals, and each stands in the other one, that is one too -/
def subOf (a b : List Int) : Bool := sound a && (sound b && a.all fun l => (tidyOf b).contains l)
theorem tautIn_iff (t : List Int) : Rising t → (∀ x ∈ t, formed x = true) → (tautIn t = true ↔ ∃ x ∈ t, -x ∈ t) := by
  induction t with
  | nil => intro _ _; simp [tautIn]
  | cons a t ih =>
    intro hr hf
    obtain ⟨h1, h2⟩ := List.pairwise_cons.1 hr
    have ih := ih h2 (fun y hy => hf y (List.mem_cons_of_mem _ hy))
    have ha := hf a (List.mem_cons_self ..)
    cases t with
    | nil =>
      simp only [tautIn, Bool.false_eq_true, List.mem_singleton, exists_eq_left, false_iff]
      have := (formed_iff.1 ha).1
      omega
    | cons b t =>
      have hb := hf b (by simp)
      have key : ∀ y ∈ b :: t, y = -a → b = -a := by
        intro y hy hya
        have hfy := hf y (List.mem_cons_of_mem _ hy)
        have e := (idx_neg hfy ha).1 hya
        have l1 := h1 b (List.mem_cons_self ..)
        have l2 := h1 y hy
        have l3 : idxOf b ≤ idxOf y := by
          rcases List.mem_cons.1 hy with rfl | hy
          · omega
          · exact Int.le_of_lt ((List.pairwise_cons.1 h2).1 y hy)
        have : b = y := idx_inj hb hfy (by omega)
        rw [this, hya]
      simp only [tautIn, Bool.or_eq_true, beq_iff_eq, ih]
      constructor
      · rintro (h | ⟨x, hx, hy⟩)
        · exact ⟨a, List.mem_cons_self .., by rw [← h]; simp⟩
        · exact ⟨x, List.mem_cons_of_mem _ hx, List.mem_cons_of_mem _ hy⟩
      · rintro ⟨x, hx, hy⟩
        rcases List.mem_cons.1 hx with rfl | hx
        · rcases List.mem_cons.1 hy with hy | hy
          · have := (formed_iff.1 ha).1; omega
          · exact .inl (key _ hy rfl)
        · rcases List.mem_cons.1 hy with hy | hy
          · exact .inl (key x hx (by omega))
          · exact .inr ⟨x, hx, hy⟩
theorem mem_tidy_sound {b : List Int} (hb : sound b = true) (x : Int) : x ∈ tidyOf b ↔ x ∈ b := by
  rw [mem_tidyOf]
  exact ⟨fun h => h.1, fun h => ⟨h, sound_mem hb h⟩⟩
theorem subOf_sound {a b : List Int} (ha : sound a = true) (hb : sound b = true) : subOf a b = a.all fun x => b.contains x := by
  unfold subOf
  rw [ha, hb, Bool.true_and, Bool.true_and, Bool.eq_iff_iff]
  simp only [List.all_eq_true, List.contains_iff_mem, mem_tidy_sound hb]
theorem taut_sound {b : List Int} (hb : sound b = true) : tautIn (tidyOf b) = b.any fun x => b.contains (-x) := by
  rw [Bool.eq_iff_iff, tautIn_iff _ (rising_tidyOf b) (fun _ h => tidyOf_formed h)]
  simp only [List.any_eq_true, List.contains_iff_mem, mem_tidy_sound hb]
theorem same_sound {a b : List Int} (ha : sound a = true) (hb : sound b = true) : (tidyOf a == tidyOf b) = (subOf a b && subOf b a) := by
  rw [subOf_sound ha hb, subOf_sound hb ha, Bool.eq_iff_iff]
  simp only [beq_iff_eq, Bool.and_eq_true, List.all_eq_true, List.contains_iff_mem]
  constructor
  · intro h
    exact ⟨fun x hx => (mem_tidy_sound hb x).1 (h ▸ (mem_tidy_sound ha x).2 hx), fun x hx => (mem_tidy_sound ha x).1 (h ▸ (mem_tidy_sound hb x).2 hx)⟩
  · rintro ⟨h1, h2⟩
    refine rising_ext (rising_tidyOf a) (rising_tidyOf b) fun x => ?_
    rw [mem_tidy_sound ha, mem_tidy_sound hb]
    exact ⟨h1 x, h2 x⟩
end Go.Proofs.YtkkkbcjmkmadhaaMath
/-! text YtkkkbcjmkmadhaaKeepsLib -/
namespace Go.Proofs.Ytkkkbcjmkmadhaa.PArenaKeeps
open Go.RowKit Go.Proofs.YtkkkbcjmkmadhaaW.PrintWords Go.Proofs.YtkkkbcjmkmadhaaW.PrintLast Go.Proofs.YtkkkbcjmkmadhaaMath
set_option linter.unusedVariables false
set_option linter.unusedSimpArgs false
theorem depotlaw04_sound_l0 (l : List Int) (hn : l.length ≤ 17592186044416) (d : Nat) : ∀ i : Nat, i + d = l.length → Ev (fun k => depotlaw04_sound.l0 k l (i : Int)) (sound (l.drop i)) := by
  induction d with
  | zero =>
    intro i hi
    refine Ev.succ ?_
    simp only [depotlaw04_sound.l0]
    have h1 : ¬ ((i : Int) < (l.length : Int)) := by omega
    simp only [h1, if_false]
    rw [List.drop_of_length_le (by omega)]
    exact Ev.now _
  | succ d ih =>
    intro i hi
    refine Ev.succ ?_
    simp only [depotlaw04_sound.l0]
    have h1 : (i : Int) < (l.length : Int) := by omega
    have h0 : (0 : Int) ≤ (i : Int) := by omega
    simp only [h1, h0, if_true, w64s (show (i : Int) < 9223372036854775807 by omega)]
    rw [drop_rd (show i < l.length by omega)]
    have ih := ih (i + 1) (by omega)
    generalize rd l (i : Int) = x at *
    simp only [sound, List.all_cons] at ih ⊢
    by_cases a1 : x = 0
    · have : formed x = false := by simp [formed, a1]
      simp only [a1, if_true, this, Bool.false_and]
      rw [a1] at this
      rw [this, Bool.false_and]
      exact Ev.now _
    · by_cases a2 : x < -1048576
      · have : formed x = false := by unfold formed; exact decide_eq_false (by omega)
        simp only [a1, a2, if_true, if_false, this, Bool.false_and]
        exact Ev.now _
      · by_cases a3 : x > 1048576
        · have : formed x = false := by unfold formed; exact decide_eq_false (by omega)
          simp only [a1, a2, a3, if_true, if_false, this, Bool.false_and]
          exact Ev.now _
        · have : formed x = true := by unfold formed; exact decide_eq_true (by omega)
          simp only [a1, a2, a3, if_false, this, Bool.true_and]
          exact ih
theorem depotlaw04_sound_ev (l : List Int) (hn : l.length ≤ 17592186044416) : Ev (fun k => depotlaw04_sound.f k l) (sound l) := depotlaw04_sound_l0 l hn l.length 0 (by omega)
theorem depotlaw04_equal_l0 (a b : List Int) (hn : a.length ≤ 17592186044416) (he : a.length = b.length) (d : Nat) : ∀ i : Nat, i + d = a.length → Ev (fun k => depotlaw04_equal.l0 k a b (i : Int)) (a.drop i == b.drop i) := by
  induction d with
  | zero =>
    intro i hi
    refine Ev.succ ?_
    simp only [depotlaw04_equal.l0]
    have h1 : ¬ ((i : Int) < (a.length : Int)) := by omega
    simp only [h1, if_false]
    rw [List.drop_of_length_le (by omega), List.drop_of_length_le (by omega)]
    exact Ev.now _
  | succ d ih =>
    intro i hi
    refine Ev.succ ?_
    simp only [depotlaw04_equal.l0]
    have h1 : (i : Int) < (a.length : Int) := by omega
    have h2 : (i : Int) < (b.length : Int) := by omega
    have h0 : (0 : Int) ≤ (i : Int) := by omega
    simp only [h1, h2, h0, if_true]
    rw [drop_rd (show i < a.length by omega), drop_rd (show i < b.length by omega)]
    by_cases hf : rd a i = rd b i
    · simp only [hf, if_true, w64s (show (i : Int) < 9223372036854775807 by omega), List.cons_beq_cons, beq_self_eq_true, Bool.true_and]
      exact ih (i + 1) (by omega)
    · have : (rd a i == rd b i) = false := by simpa using hf
      simp only [hf, if_false, List.cons_beq_cons, this, Bool.false_and]
      exact Ev.now _
theorem depotlaw04_equal_ev (a b : List Int) (hn : a.length ≤ 17592186044416) : Ev (fun k => depotlaw04_equal.f k a b) (a == b) := by
  unfold depotlaw04_equal.f
  by_cases he : a.length = b.length
  · have : (a.length : Int) = (b.length : Int) := by omega
    simp only [this, if_true]
    exact depotlaw04_equal_l0 a b hn he a.length 0 (by omega)
  · have : ¬ (a.length : Int) = (b.length : Int) := by omega
    simp only [this, if_false]
    have e : (a == b) = false := by
      simp only [beq_eq_false_iff_ne, ne_eq]
      rintro rfl; exact he rfl
    rw [e]
    exact Ev.now _
end Go.Proofs.Ytkkkbcjmkmadhaa.PArenaKeeps
/-! text YtkkkbcjmkmadhaaFound -/
namespace Go.Proofs.YtkkkbcjmkmadhaaHand
open Go.RowKit Go.Proofs.YtkkkbcjmkmadhaaW.PrintWords Go.Proofs.YtkkkbcjmkmadhaaW.PrintLast Go.Proofs.YtkkkbcjmkmadhaaMath Go.Proofs.YtkkkbcjmkmadhaaMaps Go.Maps Go.Proofs.YtkkkbcjmkmadhaaOwn Go.Proofs.Ytkkkbcjmkmadhaa.PArenaKeeps
set_option linter.unusedVariables false
set_option linter.unusedSimpArgs false
/-- a book's entry, read -/
theorem bk_cell {w W : World} {l : List Asr} {g c : Nat} {E : List Bk} (h : Sep w nX l W) (ib : Nat) (hib : l[ib]? = some (bkA (.slice (some ⟨g, 0, none⟩) E.length c) E)) {i : Nat} {q : Bk} (hq : E[i]? = some q) (j : Nat) (hj : j < 4) {u : Value} (hu : q.cells[j]? = some u) : W.cell? ⟨g, i * 4 + j, none⟩ = some u ∧ W.frozen? ⟨g, i * 4 + j, none⟩ = false :=
  h.ownCell ib hib (i * 4 + j) (by rw [bookCells_at hq j hj, hu])
theorem equal_same (A0 A1 : Option Addr) (c0 c1 : Nat) (l : List Int) (w : World) (h0 : Kd.C kI w A0 l.length l) (hc0 : l.length ≤ c0) (h1 : Kd.C kI w A1 l.length l) (hc1 : l.length ≤ c1) (hn : l.length ≤ 8796093022208) :
    Calls Try.prog 80 #[.slice A0 l.length c0, .slice A1 l.length c1] w fun e w' => e = .returned (.bool true) ∧ Drawn0 w w' := by
  obtain ⟨k, hk⟩ := (depotlaw04_equal_ev l l (by omega)).rounds
  exact depotlaw04_equal.calls k A0 c0 l A1 c1 l true w h0 hc0 h1 hc1 (by rw [hk]; simp)
theorem step_fact {i m : Nat} (h : i < m) (hm : m ≤ 8796093022208) : wrap64 ((i : Int) + 1) = ((i + 1 : Nat) : Int) ∧ (0 : Int) ≤ (i : Int) ∧ (i : Int) < (m : Int) := ⟨by rw [w64s (by omega)], by omega, by omega⟩
set_option maxHeartbeats 8000000 in
set_option maxRecDepth 100000 in
theorem found_calls {w W : World} {l : List Asr} {b n g c : Nat} {L : List Cl} {E : List Bk} (h : Sep w nX l W) (ia ib il : Nat) (hia : l[ia]? = some (arA b L n)) (hib : l[ib]? = some (bkA (.slice (some ⟨g, 0, none⟩) E.length c) E)) (hil : l[il]? = some (ltA E)) (ht : Tied E L) (hsz : sizeL L ≤ 8796093022208) (hE : E.length ≤ 8796093022208) :
    Calls Try.prog 46 #[.pointer (some ⟨b, 0, none⟩), .slice (some ⟨g, 0, none⟩) E.length c] W fun e W' => e = .returned (.bool true) ∧ Below W.heap.size W W' := by
  obtain ⟨Aw, cw, B, Ao, co, h1⟩ := ar_open h ia hia
  have HS := Aside0.mk h
  have H1 := Aside0.mk h1
  have HIB := Aside0.mk hib
  have HIL := Aside0.mk hil
  have HT := Aside0.mk ht
  have HZ := Aside0.mk hsz
  have HE := Aside0.mk hE
  clear h h1 hia hib hil ht hsz hE
  go_enter Try.func46, Try.ntmps46
  go_wp2
  go_loopw [5, 6] (fun v5 v6 wr => ∃ i : Nat, v6 = .int .i64 (i : Int) ∧ v5 = .int .i64 (((E.take i).filter (·.live)).length : Nat) ∧ Aside0 (i ≤ E.length) ∧ Aside0 (Below W.heap.size W wr)) (fun _ x _ => E.length - (intOf x).toNat)
  case atStart => exact ⟨0, rfl, rfl, ⟨Nat.zero_le _⟩, ⟨Below.refl _ _⟩⟩
  case round =>
    obtain ⟨i, rfl, rfl, HI, HB⟩ := hrel
    by_cases hlt : i < E.length
    · obtain ⟨hw, p1, p2⟩ := step_fact hlt HE.out
      obtain ⟨q, hq⟩ : ∃ q, E[i]? = some q := ⟨_, List.getElem?_eq_getElem hlt⟩
      have hk := HS.out.keep HB.out
      have f0 : wr.cell? ⟨g, i * 4, none⟩ = some (.int .i64 q.at_) := (bk_cell hk ib HIB.out hq 0 (by decide) rfl).1
      have f1 := (bk_cell hk ib HIB.out hq 1 (by decide) rfl).1
      have f2 := (bk_cell hk ib HIB.out hq 2 (by decide) rfl).1
      have f3 := (bk_cell hk ib HIB.out hq 3 (by decide) rfl).1
      have HQ := Aside0.mk hq
      have HLT := Aside0.mk hlt
      have p3 : decide ((i : Int) < (E.length : Int)) = true := decide_eq_true p2
      have hcount := live_take hq
      have HN1 : Aside0 (i + 1 ≤ E.length) := ⟨hlt⟩
      have HMS : Aside0 (E.length - (intOf (.int .i64 ((i + 1 : Nat) : Int))).toNat < E.length - (intOf (.int .i64 (i : Int))).toNat) := ⟨by simp [intOf]; omega⟩
      clear hk hq hlt
      cases hlv : q.live with
      | false =>
        rw [hlv] at f3 hcount
        clear f0 f1 f2
        go_wp2
        go_roundw
        case measure => rw [hw]; exact HMS.out
        case rel =>
          refine ⟨i + 1, by rw [hw], ?_, HN1, HB⟩
          rw [hcount]
          simp
      | true =>
        rw [hlv] at f3 hcount
        obtain ⟨p, hp, hpl, e0, e1, e2⟩ := HT.out.get (List.mem_of_getElem? HQ.out) hlv
        have hg := get_some (H1.out.keep HB.out) hp hpl HZ.out q.at_ e0
        rw [← e1] at hg
        have HGET := Aside0.mk hg
        have HLQ : Aside0 (q.lits.length ≤ 8796093022208) := ⟨by have h1 := (placed_bd hp).2; have h2 := HZ.out; rw [e1]; unfold Cl.len at h1; omega⟩
        have HMK : Aside0 ((marksOf L q.at_).getD false = q.learnt) := ⟨by rw [e0, marksOf_live hp, if_pos hpl, e2]; rfl⟩
        have HAT : Aside0 (-9223372036854775808 ≤ q.at_ ∧ q.at_ ≤ 9223372036854775807) := ⟨by have h1 := (placed_bd hp).2; have h2 := HZ.out; rw [e0]; omega⟩
        have hn1 : wrap64 ((((E.take i).filter (·.live)).length : Int) + 1) = (((E.take (i + 1)).filter (·.live)).length : Nat) := by
          rw [hcount, w64s]
          · simp
          · have h1 := List.length_filter_le (·.live) (E.take i)
            have h2 := HE.out
            rw [List.length_take] at h1
            have := HLT.out
            omega
        clear hg hp hpl e0 e1 e2 hcount
        generalize ((E.take i).filter (·.live)).length = m0 at *
        obtain ⟨m1, hm1⟩ : ∃ m1, m1 = ((E.take (i + 1)).filter (·.live)).length := ⟨_, rfl⟩
        rw [← hm1] at hn1
        have HM1 := Aside0.mk hm1
        clear hm1
        go_upto_region 8 with (go_at_call 26; (with_reducible refine HGET.out.mono ?_); rintro e w1 ⟨A1, c1, rfl, hR1, hb1⟩; have HB1 := Aside0.mk (below_step HB.out hb1); have HR1 := Aside0.mk hR1; clear hb1 hR1)
        have hk1 := HS.out.keep HB1.out
        have g0 : w1.cell? ⟨g, i * 4, none⟩ = some (.int .i64 q.at_) := (bk_cell hk1 ib HIB.out HQ.out 0 (by decide) rfl).1
        have g1 := (bk_cell hk1 ib HIB.out HQ.out 1 (by decide) rfl).1
        have g2 := (bk_cell hk1 ib HIB.out HQ.out 2 (by decide) rfl).1
        obtain ⟨hqc, hqC⟩ := lt_C hk1 il HIL.out (List.mem_of_getElem? HQ.out)
        have hR := Kd.R_reads' HR1.out
        have bq : (q.learnt != q.learnt) = false := bne_self_eq_false _
        have HEQ : Aside0 (∀ m, Calls Try.prog 80 #[.slice A1 q.lits.length c1, .slice q.A q.lits.length q.c] (w1.drewN m) fun e w' => e = .returned (.bool true) ∧ Drawn0 (w1.drewN m) w') := ⟨fun m => equal_same _ _ _ _ _ _ (Kd.C_below hR.2.2 (pw_below_drewN (Below.refl _ _) _)) hR.2.1 (Kd.C_below hqC (pw_below_drewN (Below.refl _ _) _)) hqc HLQ.out⟩
        have HLN : Aside0 (∀ m, Calls Try.prog 44 #[.pointer (some ⟨b, 0, none⟩), .int .i64 q.at_] (w1.drewN m) fun e w' => e = .returned (.bool q.learnt) ∧ w' = w1.drewN m) := ⟨fun m => by
          have h3 := learnt_sep ((H1.out.keep HB1.out).keep (pw_below_drewN (Below.refl _ _) m)) q.at_ HAT.out
          rw [HMK.out] at h3
          exact h3⟩
        clear hk1 hqc hqC hR f0 f1 f2 f3
        go_quiet (first
          | (go_at_call 80; (with_reducible refine (HEQ.out _).mono ?_); rintro e w' ⟨rfl, ⟨nd, rfl⟩⟩; (try first | exact ⟨rfl, _, World.drewN_drewN _ _ _⟩ | exact ⟨rfl, _, Eq.trans (World.drewN_drewN _ _ _) (congrArg (World.drewN _) (Nat.add_assoc _ _ _))⟩))
          | (go_at_call 44; (with_reducible refine (HLN.out _).mono ?_); rintro e w' ⟨rfl, rfl⟩; (try exact ⟨rfl, _, rfl⟩)))
        have HB2 := Aside0.mk (pw_below_drewN HB1.out nq)
        clear g0 g1 g2 HEQ HLN HGET
        generalize w1.drewN nq = w2 at *
        go_wp2
        go_roundw
        case measure => rw [hw]; exact HMS.out
        case rel => exact ⟨i + 1, by rw [hw], by rw [HM1.out], HN1, HB2⟩
    · have hi : i = E.length := by have := HI.out; omega
      subst hi
      have q3 : decide ((E.length : Int) < (E.length : Int)) = false := decide_eq_false (by omega)
      have HC := Aside0.mk (count_sep (H1.out.keep HB.out))
      have hc := HT.out.count
      rw [List.take_length, hc]
      clear hc HI
      go_wp2_with (go_at_call 30; go_loud ((with_reducible refine HC.out.mono ?_); rintro e w3 ⟨rfl, rfl⟩))
      go_ret
      exact ⟨by first | rfl | (simp; done), HB.out⟩
end Go.Proofs.YtkkkbcjmkmadhaaHand
/-! text YtkkkbcjmkmadhaaSwept -/
namespace Go.Proofs.YtkkkbcjmkmadhaaOwn
open Go Go.RowKit Go.Proofs.YtkkkbcjmkmadhaaW.PrintWords
section
variable {w W : World} {X : Nat → Prop} {R : List Asr} {a b c d e f : Asr}
theorem set_frame6 (i : Nat) (A : Asr) : ([a, b, c, d, e, f] ++ R).set (6 + i) A = [a, b, c, d, e, f] ++ R.set i A := by
  rw [List.set_append_right _ _ (by simp), show 6 + i - [a, b, c, d, e, f].length = i by simp]
theorem get_frame6 (i : Nat) : ([a, b, c, d, e, f] ++ R)[6 + i]? = R[i]? := by
  rw [List.getElem?_append_right (by simp), show 6 + i - [a, b, c, d, e, f].length = i by simp]
theorem set_same {l : List Asr} {i : Nat} {A : Asr} (h : l[i]? = some A) : l.set i A = l := by
  apply List.ext_getElem?
  intro j
  rw [List.getElem?_set]
  split
  · rename_i e
    subst e
    rw [h, if_pos (List.getElem?_eq_some_iff.1 h).1]
  · rfl
theorem Sep.drop56 (h : Sep w X ([a, b, c, d, e, f] ++ R) W) : Sep w X ([a, b, c, d] ++ R) W := by
  refine h.move (fun i => if i < 4 then i else if i < 6 then R.length + 4 else i - 2) fun j A hj => ?_
  rcases Nat.lt_or_ge j 4 with h1 | h1
  · rw [List.getElem?_append_left (by simpa using h1)] at hj
    refine .inr ⟨j, ?_, by show (if j < 4 then _ else _) = j; rw [if_pos h1]⟩
    rw [List.getElem?_append_left (by simp; omega)]
    rw [← hj]
    match j, h1 with
    | 0, _ => rfl
    | 1, _ => rfl
    | 2, _ => rfl
    | 3, _ => rfl
  · rw [List.getElem?_append_right (by simpa using h1)] at hj
    refine .inr ⟨j + 2, ?_, by show (if j + 2 < 4 then _ else if j + 2 < 6 then _ else _) = j; rw [if_neg (by omega), if_neg (by omega)]; omega⟩
    rw [show j + 2 = 6 + (j - 4) by omega, get_frame6]
    exact hj
end
end Go.Proofs.YtkkkbcjmkmadhaaOwn
namespace Go.Proofs.YtkkkbcjmkmadhaaHand
open Go.RowKit Go.Proofs.YtkkkbcjmkmadhaaW.PrintWords Go.Proofs.YtkkkbcjmkmadhaaW.PrintLast Go.Proofs.YtkkkbcjmkmadhaaMath Go.Proofs.YtkkkbcjmkmadhaaMaps Go.Maps Go.Proofs.YtkkkbcjmkmadhaaOwn Go.Proofs.Ytkkkbcjmkmadhaa.PArenaKeeps
set_option linter.unusedVariables false
set_option linter.unusedSimpArgs false
set_option maxHeartbeats 4000000 in
set_option maxRecDepth 100000 in
theorem lead_calls (cb Bm nm cm : Nat) (f : Int → Option Int) (r : Int) (W : World) (h0 : W.cell? ⟨cb, 0, none⟩ = some (.map (some Bm))) (h1 : IM Try.prog 34 intKeys (intElem Try.prog 34 Try.underlying34) W Bm nm f cm) (hr : -9223372036854775808 ≤ r ∧ r ≤ 9223372036854775807) (u : Int) (hu : f r = some u) :
    Calls Try.prog 101 #[.int .i64 r, .pointer (some ⟨cb, 0, none⟩)] W fun e W' => e = .returned (.tuple #[.int .i64 u, .bool true]) ∧ W' = W := by
  have L1 : (Instr.lookup 138 (.map (some Bm)) (.int .i64 r) true).run Try.prog W = .ok (.tuple #[.int .i64 u, .bool true]) W := by
    have := h1.look_ok keyR Try.underlying138 (z := (0 : Int)) (by kernel_rfl) (by first | trivial | decide | (show (_ : Bool) = true; decide) | (constructor <;> decide)) (hkeyR hr)
    rwa [hu] at this
  clear h1 hr hu
  go_enter Try.func101, Try.ntmps101
  go_wp2
  go_ret2
  exact ⟨rfl, rfl⟩
/-- the book in the midst of a sweep, in memory -/
abbrev mdA (g c i : Nat) (E : List Bk) : Asr := .own 76 4 (.slice (some ⟨g, 0, none⟩) E.length c) E.length (bookCells (midE i E))
theorem md_cell {w W : World} {l : List Asr} {g c i : Nat} {E : List Bk} (h : Sep w nX l W) (ib : Nat) (hib : l[ib]? = some (mdA g c i E)) {q : Bk} (hq : E[i]? = some q) (hi : i ≤ E.length) (j : Nat) (hj : j < 4) {u : Value} (hu : q.cells[j]? = some u) : W.cell? ⟨g, i * 4 + j, none⟩ = some u ∧ W.frozen? ⟨g, i * 4 + j, none⟩ = false :=
  h.ownCell ib hib (i * 4 + j) (by rw [bookCells_at (by rw [midE_at hi]; exact hq) j hj, hu])
theorem md_put {w W : World} {l : List Asr} {g c i : Nat} {E : List Bk} (h : Sep w nX l W) (ib : Nat) (hib : l[ib]? = some (mdA g c i E)) {q : Bk} (hq : E[i]? = some q) (hl : q.live = true) : Sep w nX (l.set ib (mdA g c (i + 1) E)) (W.setCell ⟨g, i * 4, none⟩ (.int .i64 ((sizeE (E.take i) : Nat) : Int))) := by
  have hlt := (List.getElem?_eq_some_iff.1 hq).1
  have hm : (midE i E)[i]? = some q := by rw [midE_at (by omega)]; exact hq
  have h1 := h.ownPut nX_lt ib hib (i * 4) (by rw [bookCells_length, midE_length]; omega) (.int .i64 ((sizeE (E.take i) : Nat) : Int))
  have e := bookCells_set (j := 0) (u := .int .i64 ((sizeE (E.take i) : Nat) : Int)) (q' := { q with at_ := ((sizeE (E.take i) : Nat) : Int) }) hm (by decide) rfl
  rw [Nat.add_zero, ← midE_live hq hl] at e
  rw [e] at h1
  exact h1
theorem md_after {w W : World} {l : List Asr} {g c i : Nat} {E : List Bk} (h : Sep w nX l W) (ib : Nat) (hib : l[ib]? = some (mdA g c (i + 1) E)) {q : Bk} (hq : E[i]? = some q) (hl : q.live = true) : W.cell? ⟨g, i * 4 + 1, none⟩ = some (.slice q.A q.lits.length q.c) := by
  have hlt := (List.getElem?_eq_some_iff.1 hq).1
  refine (h.ownCell ib hib (i * 4 + 1) ?_).1
  rw [midE_live hq hl, bookCells_at (List.getElem?_set_self (by rw [midE_length]; exact hlt)) 1 (by decide)]
  rfl
theorem sweep_sum {s n t : Nat} (h : t = s + (n + 1)) (ht : t ≤ 8796093022208) : wrap64 (1 + (n : Int)) = (n : Int) + 1 ∧ wrap64 ((s : Int) + ((n : Int) + 1)) = (t : Int) :=
  ⟨by rw [w64 (by omega) (by omega)]; omega, by rw [w64 (by omega) (by omega)]; omega⟩
theorem at_range {L : List Cl} {p : Nat × Cl} (hp : p ∈ placed 0 L) (hsz : sizeL L ≤ 8796093022208) {x : Int} (e : x = (p.1 : Int)) : -9223372036854775808 ≤ x ∧ x ≤ 9223372036854775807 := by
  have := (placed_bd hp).2
  omega
theorem nil_lead (cb : Nat) (W : World) : (binOp .eql 116 (.func (.func 101) #[] #[.pointer (some ⟨cb, 0, none⟩)]) .nilFunc).run Try.prog W = .ok (.bool false) W := by kernel_rfl
theorem size_facts {E : List Bk} {L : List Cl} (h : Tied E L) (hsz : sizeL L ≤ 8796093022208) (i : Nat) : sizeE (E.take i) ≤ 8796093022208 := by
  have h1 : sizeE (E.take i) ≤ sizeE E := by
    have := sizeE_append (E.take i) (E.drop i)
    rw [List.take_append_drop] at this
    omega
  have h2 := swept_size_le L
  rw [h.size] at h1
  omega
set_option maxHeartbeats 8000000 in
set_option maxRecDepth 100000 in
theorem swept_calls {w W : World} {l : List Asr} {b n g c : Nat} {L : List Cl} {E : List Bk} (h : Sep w nX l W) (ia ib il : Nat) (hab : ia ≠ ib) (hal : ia ≠ il) (hbl : ib ≠ il) (hia : l[ia]? = some (arA b L n)) (hib : l[ib]? = some (bkA (.slice (some ⟨g, 0, none⟩) E.length c) E)) (hil : l[il]? = some (ltA E)) (ht : Tied E L) (hL : L.length ≤ 8796093022208) (hsz : sizeL L ≤ 8796093022208) (hE : E.length ≤ 8796093022208) :
    Calls Try.prog 45 #[.pointer (some ⟨b, 0, none⟩), .slice (some ⟨g, 0, none⟩) E.length c] W fun e W' => e = .returned (.bool true) ∧ Sep w nX (((l.set ia (arA b (sweptOf L) (countOf L))).set ib (bkA (.slice (some ⟨g, 0, none⟩) E.length c) (sweepE 0 E))).set il (ltA (sweepE 0 E))) W' := by
  obtain ⟨Aw, cw, B, Ao, co, h1⟩ := ar_open h ia hia
  have HSW := Aside0.mk (sweep_sep h1 hL hsz)
  have HIA := Aside0.mk hia
  have HIB := Aside0.mk hib
  have HIL := Aside0.mk hil
  have HNE := Aside0.mk (And.intro hab (And.intro hal hbl))
  have HT := Aside0.mk ht
  have HZ := Aside0.mk hsz
  have HE := Aside0.mk hE
  clear h h1 hia hib hil ht hsz hE hL hab hal hbl
  have NF := nil_lead
  go_enter Try.func45, Try.ntmps45
  go_wp2_with (go_at_call 77; (with_reducible refine HSW.out.mono ?_); rintro e W1 ⟨cb, Bm, nm, cm, vw, Bk, vo, rfl, hs⟩; have HS1 := Aside0.mk hs; clear hs)
  clear NF
  obtain ⟨R0, hR0⟩ : ∃ R0, R0 = l.set ia Asr.emp := ⟨_, rfl⟩
  rw [← hR0] at HS1
  have HR0 := Aside0.mk hR0
  have HB0 : Aside0 (R0[ib]? = some (bkA (.slice (some ⟨g, 0, none⟩) E.length c) E)) := ⟨by rw [hR0, List.getElem?_set_ne HNE.out.1]; exact HIB.out⟩
  have HS2 : Aside0 (Sep w nX ([aB b vw Bk vo, .row kI 3 vw (wordsOf (sweptOf L)), aM Bk (countOf L) (marksOf (sweptOf L)) (countOf (sweptOf L)), .row kI 34 vo (orderOf (sweptOf L)), tB cb Bm, tM Bm nm (leadIn (leadsOf L)) cm] ++ R0.set ib (mdA g c 0 E)) W1) := ⟨by
    have e : R0.set ib (mdA g c 0 E) = R0 := set_same HB0.out
    rw [e]
    exact HS1.out⟩
  clear hR0 HS1
  go_loopw [6, 7] (fun v6 v7 wr => ∃ i : Nat, v7 = .int .i64 (i : Int) ∧ v6 = .int .i64 ((sizeE (E.take i) : Nat) : Int) ∧ Aside0 (i ≤ E.length) ∧ Aside0 (Sep w nX ([aB b vw Bk vo, .row kI 3 vw (wordsOf (sweptOf L)), aM Bk (countOf L) (marksOf (sweptOf L)) (countOf (sweptOf L)), .row kI 34 vo (orderOf (sweptOf L)), tB cb Bm, tM Bm nm (leadIn (leadsOf L)) cm] ++ R0.set ib (mdA g c i E)) wr)) (fun _ x _ => E.length - (intOf x).toNat)
  case atStart => exact ⟨0, rfl, rfl, ⟨Nat.zero_le _⟩, HS2⟩
  case round =>
    obtain ⟨i, rfl, rfl, HI, HS⟩ := hrel
    clear HS2
    have HIBR : Aside0 (∀ X : Asr, (R0.set ib X)[ib]? = some X) := ⟨fun X => List.getElem?_set_self (List.getElem?_eq_some_iff.1 HB0.out).1⟩
    by_cases hlt : i < E.length
    · obtain ⟨hw, p1, p2⟩ := step_fact hlt HE.out
      obtain ⟨q, hq⟩ : ∃ q, E[i]? = some q := ⟨_, List.getElem?_eq_getElem hlt⟩
      have HM : Aside0 (([aB b vw Bk vo, .row kI 3 vw (wordsOf (sweptOf L)), aM Bk (countOf L) (marksOf (sweptOf L)) (countOf (sweptOf L)), .row kI 34 vo (orderOf (sweptOf L)), tB cb Bm, tM Bm nm (leadIn (leadsOf L)) cm] ++ R0.set ib (mdA g c i E))[6 + ib]? = some (mdA g c i E)) := ⟨by rw [get_frame6]; exact HIBR.out _⟩
      have f0 : wr.cell? ⟨g, i * 4, none⟩ = some (.int .i64 q.at_) := (md_cell HS.out (6 + ib) HM.out hq HI.out 0 (by decide) rfl).1
      have y0 : wr.frozen? ⟨g, i * 4, none⟩ = false := (md_cell HS.out (6 + ib) HM.out hq HI.out 0 (by decide) rfl).2
      have f1 := (md_cell HS.out (6 + ib) HM.out hq HI.out 1 (by decide) rfl).1
      have f3 := (md_cell HS.out (6 + ib) HM.out hq HI.out 3 (by decide) rfl).1
      have HQ := Aside0.mk hq
      have HLT := Aside0.mk hlt
      have p3 : decide ((i : Int) < (E.length : Int)) = true := decide_eq_true p2
      have hsize := sizeE_take hq
      have HN1 : Aside0 (i + 1 ≤ E.length) := ⟨hlt⟩
      have HMS : Aside0 (E.length - (intOf (.int .i64 ((i + 1 : Nat) : Int))).toNat < E.length - (intOf (.int .i64 (i : Int))).toNat) := ⟨by simp [intOf]; omega⟩
      clear hq hlt
      cases hlv : q.live with
      | false =>
        rw [hlv] at f3 hsize
        clear f0 f1 y0
        have HS3 := HS.out
        have em : mdA g c (i + 1) E = mdA g c i E := by show Asr.own _ _ _ _ (bookCells (midE (i + 1) E)) = _; rw [midE_dead HQ.out hlv]
        rw [← em] at HS3
        have HS4 := Aside0.mk HS3
        clear HS3 em HM HS
        go_wp2
        go_roundw
        case measure => rw [hw]; exact HMS.out
        case rel => exact ⟨i + 1, by rw [hw], by rw [hsize]; simp, HN1, HS4⟩
      | true =>
        rw [hlv] at f3 hsize
        obtain ⟨p, hp, hpl, e0, e1, e2⟩ := HT.out.get (List.mem_of_getElem? HQ.out) hlv
        have hs1 := size_facts HT.out HZ.out (i + 1)
        rw [if_pos rfl] at hsize
        obtain ⟨w1, w2⟩ := sweep_sum hsize hs1
        have HLD := Aside0.mk (lead_calls cb Bm nm cm (leadIn (leadsOf L)) q.at_ wr ((HS.out.cell 4 0 rfl).trans rfl) (HS.out.imGet 5 rfl) (at_range hp HZ.out e0) _ (HT.out.lead HQ.out hlv))
        have hput := md_put HS.out (6 + ib) HM.out HQ.out hlv
        rw [set_frame6, List.set_set] at hput
        have HPUT := Aside0.mk hput
        clear hp hpl e0 e1 e2 hs1 hsize hput HM
        obtain ⟨s0, hs0⟩ : ∃ s0, s0 = sizeE (E.take i) := ⟨_, rfl⟩
        obtain ⟨s1, hs1⟩ : ∃ s1, s1 = sizeE (E.take (i + 1)) := ⟨_, rfl⟩
        rw [← hs0] at HLD HPUT w2 ⊢
        rw [← hs1] at w2
        have HS1E := Aside0.mk hs1
        clear hs0 hs1
        go_upto_region 13 with (go_at_call 101; go_loud ((with_reducible refine HLD.out.mono ?_); rintro e w3 ⟨rfl, rfl⟩))
        have HS5 := HPUT
        clear HPUT HLD HS f0 y0 f1 f3
        generalize w3.setCell ⟨g, i * 4, none⟩ (.int .i64 (s0 : Int)) = w5 at *
        have f1 := md_after HS5.out (6 + ib) (by rw [get_frame6]; exact HIBR.out _) HQ.out hlv
        go_wp2
        go_roundw
        case measure => rw [hw]; exact HMS.out
        case rel => exact ⟨i + 1, by rw [hw], by rw [w2, HS1E.out], HN1, HS5⟩
    · have hi : i = E.length := by have := HI.out; omega
      subst hi
      have q3 : decide ((E.length : Int) < (E.length : Int)) = false := decide_eq_false (by omega)
      obtain ⟨Av, cv, ev⟩ := HS.out.rowSlice 1 rfl
      subst ev
      have HW := Aside0.mk (words_sep (R := tB cb Bm :: tM Bm nm (leadIn (leadsOf L)) cm :: R0.set ib (mdA g c E.length E)) HS.out)
      have hsz := HT.out.size
      rw [List.take_length, hsz]
      clear hsz HI
      go_wp2_with (go_at_call 42; go_loud ((with_reducible refine HW.out.mono ?_); rintro e w3 ⟨rfl, rfl⟩))
      go_ret
      refine ⟨by first | rfl | (simp; done), ?_⟩
      have h1 := HS.out.drop56
      have h2 := ar_shut (L := sweptOf L) (n := countOf L) h1 ia (by
        rw [List.getElem?_set_ne (fun e => HNE.out.1 e.symm), HR0.out, List.getElem?_set_self (List.getElem?_eq_some_iff.1 HIA.out).1])
      have h3 := lt_as (E' := sweepE 0 E) h2 il (by
        rw [List.getElem?_set_ne HNE.out.2.1, List.getElem?_set_ne HNE.out.2.2, HR0.out, List.getElem?_set_ne HNE.out.2.1]
        exact HIL.out) (sweepE_same E 0)
      have e : ((R0.set ib (mdA g c E.length E)).set ia (arA b (sweptOf L) (countOf L))) = ((l.set ia (arA b (sweptOf L) (countOf L))).set ib (bkA (.slice (some ⟨g, 0, none⟩) E.length c) (sweepE 0 E))) := by
        rw [List.set_comm _ _ (fun e => HNE.out.1 e.symm), HR0.out, List.set_set]
        congr 1
        show Asr.own _ _ _ _ _ = Asr.own _ _ _ _ _
        rw [midE_all, sweepE_length]
      rw [e] at h3
      exact h3
end Go.Proofs.YtkkkbcjmkmadhaaHand
