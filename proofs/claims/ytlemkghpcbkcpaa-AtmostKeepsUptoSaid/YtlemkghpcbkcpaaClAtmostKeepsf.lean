/- Plain words on numbers and lists that the laws' statements are told in; rounds. -/
import Derived.Test.YtlemkghpcbkcpaaWWords
import Derived.Lib.SlicesCompact
import Derived.Sort.Statements
/-! text YtlemkghpcbkcpaaMath -/
namespace Go.Proofs.YtlemkghpcbkcpaaMath
open Go.RowKit Go.Proofs.YtlemkghpcbkcpaaW.PrintWords
set_option linter.unusedVariables false
set_option linter.unusedSimpArgs false

theorem Ev.succ {α : Type} {g : Nat → Option α} {r : α} (h : Ev (fun k => g (k + 1)) r) : Ev g r := Ev.step (fun _ => rfl) h
theorem Ev.bound {α β : Type} {x : Option α} {f : Nat → α → Option β} {a : α} {r : β} (h : x = some a) (k : Ev (fun n => f n a) r) : Ev (fun n => x.bind (f n)) r := by
  subst h
  exact k
theorem Ev.fixed {α : Type} {x : Option α} {r : α} (h : x = some r) : Ev (fun _ => x) r := by
  subst h
  exact Ev.now _

theorem w64 {x : Int} (h1 : -9223372036854775808 ≤ x) (h2 : x ≤ 9223372036854775807) : wrap64 x = x := by
  unfold wrap64
  omega
theorem w64s {i : Nat} (h : (i : Int) < 9223372036854775807) : wrap64 ((i : Int) + 1) = ((i + 1 : Nat) : Int) := by
  rw [w64 (by omega) (by omega)]
  omega
theorem w64p {i : Nat} (h0 : 0 < i) (h : (i : Int) < 9223372036854775807) : wrap64 ((i : Int) - 1) = ((i - 1 : Nat) : Int) := by
  rw [w64 (by omega) (by omega)]
  omega
theorem wf_lo {x : Int} (h : (Lit.int .i64 x).wf = true) : -9223372036854775808 ≤ x ∧ x ≤ 9223372036854775807 := by
  have h2 : (decide (IntKind.i64.min ≤ x) && decide (x ≤ IntKind.i64.max)) = true := h
  rw [Bool.and_eq_true, decide_eq_true_eq, decide_eq_true_eq] at h2
  have e1 : IntKind.i64.min = -9223372036854775808 := by decide
  have e2 : IntKind.i64.max = 9223372036854775807 := by decide
  omega

/-! reading -/
theorem rd_nat {l : List Int} {i : Nat} (h : i < l.length) : rd l (i : Int) = l[i] := by
  simp [rd, List.getD_eq_getElem?_getD, List.getElem?_eq_getElem h]
theorem drop_rd {l : List Int} {i : Nat} (h : i < l.length) : l.drop i = rd l (i : Int) :: l.drop (i + 1) := by
  rw [rd_nat h]
  exact List.drop_eq_getElem_cons h
theorem rd_mem {l : List Int} {i : Nat} (h : i < l.length) : rd l (i : Int) ∈ l := by
  rw [rd_nat h]
  exact List.getElem_mem h
theorem rdOf_nat {α : Type} {z : α} {l : List α} {i : Nat} (h : i < l.length) : rdOf z l (i : Int) = l[i] := by
  simp [rdOf, List.getD_eq_getElem?_getD, List.getElem?_eq_getElem h]
theorem drop_rdOf {α : Type} {z : α} {l : List α} {i : Nat} (h : i < l.length) : l.drop i = rdOf z l (i : Int) :: l.drop (i + 1) := by
  rw [rdOf_nat h]
  exact List.drop_eq_getElem_cons h
theorem getD_nat {α : Type} {z : α} {l : List α} {i : Nat} (h : i < l.length) : l.getD ((i : Int).toNat) z = l[i] := by
  simp [List.getD_eq_getElem?_getD, List.getElem?_eq_getElem h]
theorem drop_getD {α : Type} {z : α} {l : List α} {i : Nat} (h : i < l.length) : l.drop i = l.getD ((i : Int).toNat) z :: l.drop (i + 1) := by
  rw [getD_nat h]
  exact List.drop_eq_getElem_cons h
theorem take_snoc {α : Type} {l : List α} {i : Nat} (h : i < l.length) : l.take (i + 1) = l.take i ++ [l[i]] := by
  rw [List.take_succ_eq_append_getElem h]
theorem take_rd {l : List Int} {i : Nat} (h : i < l.length) : l.take (i + 1) = l.take i ++ [rd l (i : Int)] := by
  rw [rd_nat h]; exact take_snoc h
theorem take_rdOf {α : Type} {z : α} {l : List α} {i : Nat} (h : i < l.length) : l.take (i + 1) = l.take i ++ [rdOf z l (i : Int)] := by
  rw [rdOf_nat h]; exact take_snoc h
theorem take_getD {α : Type} {z : α} {l : List α} {i : Nat} (h : i < l.length) : l.take (i + 1) = l.take i ++ [l.getD ((i : Int).toNat) z] := by
  rw [getD_nat h]; exact take_snoc h

/-! literals -/
def formed (l : Int) : Bool := decide (l ≠ 0 ∧ -1048576 ≤ l ∧ l ≤ 1048576)
theorem formed_iff {l : Int} : formed l = true ↔ l ≠ 0 ∧ -1048576 ≤ l ∧ l ≤ 1048576 := by simp [formed]
theorem formed_neg (l : Int) : formed (-l) = formed l := by
  rw [Bool.eq_iff_iff, formed_iff, formed_iff]
  omega
def sound (c : List Int) : Bool := c.all formed
def has (c : List Int) (l : Int) : Bool := formed l && c.contains l
def varOf (l : Int) : Int := if formed l = true then (if l < 0 then -l else l) else 0
def within (c : List Int) (v : Int) : Bool := sound c && c.all fun l => decide (l ≤ v ∧ -l ≤ v)
def isFormula (v : Int) (cs : List (List Int)) : Bool := decide (0 ≤ v ∧ v ≤ 1048576) && cs.all fun c => within c v
theorem formed_bd {l : Int} (h : formed l = true) : -1048576 ≤ l ∧ l ≤ 1048576 := by
  rw [formed_iff] at h
  omega
theorem sound_mem {c : List Int} (h : sound c = true) {l : Int} (hl : l ∈ c) : formed l = true := List.all_eq_true.1 h l hl

/-- The numbers of those of which p holds, from number i on. -/
def idxs {α : Type} (p : α → Bool) : Nat → List α → List Int
  | _, [] => []
  | i, c :: cs => if p c = true then (i : Int) :: idxs p (i + 1) cs else idxs p (i + 1) cs
theorem idxs_length {α : Type} (p : α → Bool) (cs : List α) : ∀ i, (idxs p i cs).length ≤ cs.length := by
  induction cs with
  | nil => intro i; simp [idxs]
  | cons c cs ih =>
    intro i
    simp only [idxs]
    have := ih (i + 1)
    split <;> simp <;> omega

/-! models -/
def truth (m : List Bool) (l : Int) : Bool := (m.getD (l.natAbs - 1) false) == decide (l > 0)
def holdsIn (c : List Int) (m : List Bool) : Bool := c.any (truth m)
def allIn (cs : List (List Int)) (m : List Bool) : Bool := cs.all fun c => holdsIn c m
def fitsIn (v : Int) (cs : List (List Int)) (m : List Bool) : Bool := isFormula v cs && decide ((m.length : Int) = v)
def satisfies (v : Int) (cs : List (List Int)) (m : List Bool) : Bool := fitsIn v cs m && allIn cs m
def falses (v : Int) (cs : List (List Int)) (m : List Bool) : List Int := if fitsIn v cs m = true then idxs (fun c => !holdsIn c m) 0 cs else []
def sizeFrom : Int → List (List Int) → Int
  | a, [] => a
  | a, c :: cs => sizeFrom (wrap64 (a + (c.length : Int))) cs
theorem within_lit {c : List Int} {v : Int} (h : within c v = true) {l : Int} (hl : l ∈ c) : formed l = true ∧ l ≤ v ∧ -l ≤ v := by
  unfold within at h
  rw [Bool.and_eq_true] at h
  refine ⟨sound_mem h.1 hl, ?_⟩
  simpa using List.all_eq_true.1 h.2 l hl
theorem rdOf_truth {m : List Bool} {l : Int} (h : formed l = true) : (rdOf false m ((l.natAbs : Int) - 1) == decide (l > 0)) = truth m l := by
  have hb := formed_iff.1 h
  unfold truth rdOf
  rw [show ((l.natAbs : Int) - 1).toNat = l.natAbs - 1 by omega]
theorem isFormula_clause {v : Int} {cs : List (List Int)} (h : isFormula v cs = true) {c : List Int} (hc : c ∈ cs) : within c v = true := by
  unfold isFormula at h
  rw [Bool.and_eq_true] at h
  exact List.all_eq_true.1 h.2 c hc
theorem isFormula_bd {v : Int} {cs : List (List Int)} (h : isFormula v cs = true) : 0 ≤ v ∧ v ≤ 1048576 := by
  unfold isFormula at h
  rw [Bool.and_eq_true] at h
  simpa using h.1

/-! counting -/
def cnt : List Bool → Nat
  | [] => 0
  | b :: bs => (if b = true then 1 else 0) + cnt bs
theorem cnt_le (l : List Bool) : cnt l ≤ l.length := by
  induction l with
  | nil => simp [cnt]
  | cons b bs ih =>
    simp only [cnt, List.length_cons]
    split <;> omega
def rowF (c : Nat) : Nat → Nat → List Bool
  | _, 0 => []
  | j, d + 1 => decide (c > j) :: rowF c (j + 1) d
theorem rowF_length (c : Nat) (d : Nat) : ∀ j, (rowF c j d).length = d := by
  induction d with
  | zero => intro j; rfl
  | succ d ih => intro j; simp [rowF, ih]
def fillF (k : Nat) : Nat → List Bool → List Bool
  | _, [] => []
  | c, b :: bs => rowF (if b = true then c + 1 else c) 0 k ++ fillF k (if b = true then c + 1 else c) bs
theorem fillF_length (k : Nat) (bs : List Bool) : ∀ c, (fillF k c bs).length = bs.length * k := by
  induction bs with
  | nil => intro c; simp [fillF]
  | cons b bs ih => intro c; simp only [fillF, List.length_append, rowF_length, ih, List.length_cons, Nat.add_mul]; omega
def fillOf (on : List Bool) (k : Int) : List Bool × Int :=
  if k < 0 ∨ (cnt on : Int) > k then ([], 2) else if k = 0 ∨ k ≥ (on.length : Int) then ([], 0) else (fillF k.toNat 0 (on.take (on.length - 1)), 0)

/-! places -/
def idxOf (l : Int) : Int := if formed l = true then (if l < 0 then -2 * l - 1 else 2 * l - 2) else -1
def atOf (i : Int) : Int := if 0 ≤ i ∧ i < 2097152 then (if i % 2 = 1 then -(i / 2 + 1) else i / 2 + 1) else 0

end Go.Proofs.YtlemkghpcbkcpaaMath
/-! text YtlemkghpcbkcpaaTidyMath -/
namespace Go.Proofs.YtlemkghpcbkcpaaMath
open Go.RowKit Go.Proofs.YtlemkghpcbkcpaaW.PrintWords
set_option linter.unusedVariables false
set_option linter.unusedSimpArgs false

theorem idx_formed {l : Int} (h : formed l = true) : 0 ≤ idxOf l ∧ idxOf l < 2097152 ∧ ((l < 0 ∧ idxOf l = -2 * l - 1) ∨ (0 < l ∧ idxOf l = 2 * l - 2)) := by
  have hb := formed_iff.1 h
  unfold idxOf
  rw [if_pos h]
  split <;> omega
theorem idx_none {l : Int} (h : formed l = false) : idxOf l = -1 := by
  unfold idxOf
  rw [h]
  rfl
theorem idx_bound (l : Int) : -1 ≤ idxOf l ∧ idxOf l < 2097152 := by
  cases h : formed l with
  | true => have := idx_formed h; omega
  | false => rw [idx_none h]; omega
theorem idx_inj {a b : Int} (ha : formed a = true) (hb : formed b = true) (h : idxOf a = idxOf b) : a = b := by
  have h1 := idx_formed ha
  have h2 := idx_formed hb
  omega
theorem idx_neg {a b : Int} (ha : formed a = true) (hb : formed b = true) : a = -b ↔ (idxOf a / 2 = idxOf b / 2 ∧ idxOf a ≠ idxOf b) := by
  have h1 := idx_formed ha
  have h2 := idx_formed hb
  omega

/-- rising by place -/
def Rising (t : List Int) : Prop := t.Pairwise fun a b => idxOf a < idxOf b
def ins (x : Int) : List Int → List Int
  | [] => [x]
  | y :: t => if idxOf x < idxOf y then x :: y :: t else if x = y then y :: t else y :: ins x t
def tidyOf : List Int → List Int
  | [] => []
  | x :: c => if formed x = true then ins x (tidyOf c) else tidyOf c

theorem mem_ins (x y : Int) (t : List Int) : y ∈ ins x t ↔ y = x ∨ y ∈ t := by
  induction t with
  | nil => simp [ins]
  | cons z t ih =>
    simp only [ins]
    split
    · simp
    · split
      · rename_i h
        subst h
        simp
      · simp only [List.mem_cons, ih]
        constructor
        · rintro (h | h | h) <;> simp [h]
        · rintro (h | h | h) <;> simp [h]
theorem mem_tidyOf (y : Int) (c : List Int) : y ∈ tidyOf c ↔ y ∈ c ∧ formed y = true := by
  induction c with
  | nil => simp [tidyOf]
  | cons x c ih =>
    simp only [tidyOf]
    by_cases hx : formed x = true
    · rw [if_pos hx, mem_ins, ih, List.mem_cons]
      constructor
      · rintro (rfl | ⟨h1, h2⟩)
        · exact ⟨.inl rfl, hx⟩
        · exact ⟨.inr h1, h2⟩
      · rintro ⟨rfl | h1, h2⟩
        · exact .inl rfl
        · exact .inr ⟨h1, h2⟩
    · rw [if_neg hx, ih, List.mem_cons]
      constructor
      · rintro ⟨h1, h2⟩
        exact ⟨.inr h1, h2⟩
      · rintro ⟨rfl | h1, h2⟩
        · exact absurd h2 hx
        · exact ⟨h1, h2⟩
theorem tidyOf_formed {c : List Int} {y : Int} (h : y ∈ tidyOf c) : formed y = true := ((mem_tidyOf y c).1 h).2
theorem rising_ins {x : Int} (hx : formed x = true) : ∀ {t : List Int}, (∀ y ∈ t, formed y = true) → Rising t → Rising (ins x t)
  | [], _, _ => by simp [ins, Rising]
  | y :: t, hf, hr => by
    have hr' := List.pairwise_cons.1 hr
    simp only [ins]
    split
    · rename_i h
      refine List.pairwise_cons.2 ⟨?_, hr⟩
      intro z hz
      rcases List.mem_cons.1 hz with rfl | hz
      · exact h
      · have := hr'.1 z hz
        omega
    · split
      · exact hr
      · rename_i h1 h2
        refine List.pairwise_cons.2 ⟨?_, rising_ins hx (fun z hz => hf z (List.mem_cons_of_mem _ hz)) hr'.2⟩
        intro z hz
        rcases (mem_ins x z t).1 hz with rfl | hz
        · have h3 : idxOf z ≠ idxOf y := fun e => h2 (idx_inj hx (hf y List.mem_cons_self) e)
          omega
        · exact hr'.1 z hz
theorem rising_tidyOf (c : List Int) : Rising (tidyOf c) := by
  induction c with
  | nil => simp [tidyOf, Rising]
  | cons x c ih =>
    simp only [tidyOf]
    by_cases hx : formed x = true
    · rw [if_pos hx]
      exact rising_ins hx (fun y hy => tidyOf_formed hy) ih
    · rw [if_neg hx]
      exact ih
/-- Rising lists that hold the same are one. -/
theorem rising_ext : ∀ {s t : List Int}, Rising s → Rising t → (∀ x, x ∈ s ↔ x ∈ t) → s = t
  | [], [], _, _, _ => rfl
  | [], y :: t, _, _, h => absurd ((h y).2 List.mem_cons_self) (by simp)
  | x :: s, [], _, _, h => absurd ((h x).1 List.mem_cons_self) (by simp)
  | x :: s, y :: t, hs, ht, h => by
    have hs' := List.pairwise_cons.1 hs
    have ht' := List.pairwise_cons.1 ht
    have e : x = y := by
      rcases List.mem_cons.1 ((h x).1 List.mem_cons_self) with e | hx
      · exact e
      · rcases List.mem_cons.1 ((h y).2 List.mem_cons_self) with e | hy
        · exact e.symm
        · have h1 := hs'.1 y hy
          have h2 := ht'.1 x hx
          omega
    subst e
    congr 1
    refine rising_ext hs'.2 ht'.2 fun z => ?_
    constructor
    · intro hz
      rcases List.mem_cons.1 ((h z).1 (List.mem_cons_of_mem _ hz)) with rfl | hz'
      · have := hs'.1 z hz
        omega
      · exact hz'
    · intro hz
      rcases List.mem_cons.1 ((h z).2 (List.mem_cons_of_mem _ hz)) with rfl | hz'
      · have := ht'.1 z hz
        omega
      · exact hz'
theorem tidyOf_eq {c t : List Int} (hr : Rising t) (hm : ∀ x, x ∈ t ↔ x ∈ c ∧ formed x = true) : tidyOf c = t :=
  rising_ext (rising_tidyOf c) hr fun x => by rw [mem_tidyOf, hm]
theorem rising_nodup {t : List Int} (h : Rising t) : t.Nodup := by
  refine List.Pairwise.imp ?_ h
  intro a b h e
  subst e
  omega
theorem ins_length (x : Int) (t : List Int) : (ins x t).length ≤ t.length + 1 := by
  induction t with
  | nil => simp [ins]
  | cons y t ih =>
    simp only [ins]
    split
    · simp
    · split
      · simp
      · simp only [List.length_cons]; omega
theorem tidyOf_length (c : List Int) : (tidyOf c).length ≤ c.length := by
  induction c with
  | nil => simp [tidyOf]
  | cons x c ih =>
    simp only [tidyOf]
    have := ins_length x (tidyOf c)
    split <;> simp only [List.length_cons] <;> omega

/-! what a sort by place and slices.Compact leave -/
def byIdx (a b : Int) : Int := idxOf a - idxOf b
theorem compact_tidy (c : List Int) (d : Array Int) (hp : d.toList.Perm (c.filter formed)) (hs : ∀ i j, i < j → j < d.size → idxOf d[i]! ≤ idxOf d[j]!) : Go.Lib.compact d.toList = tidyOf c := by
  have hf : ∀ i, i < d.size → formed d[i]! = true := fun i hi => by
    have h1 : d[i]! ∈ d.toList := by
      rw [getElem!_pos d i hi]
      exact Array.getElem_mem_toList hi
    have := hp.subset h1
    exact (List.mem_filter.1 this).2
  have key : ∀ m, m ≤ d.size → Rising (Go.Lib.compactUpTo d m) ∧ (∀ x, x ∈ Go.Lib.compactUpTo d m ↔ ∃ i, i < m ∧ d[i]! = x) := by
    intro m
    induction m with
    | zero =>
      intro _
      exact ⟨by simp [Go.Lib.compactUpTo, Rising], by simp [Go.Lib.compactUpTo]⟩
    | succ m ih =>
      intro hm
      obtain ⟨h1, h2⟩ := ih (by omega)
      rw [Go.Lib.compactUpTo_succ]
      cases hk : Go.Lib.keeps d m with
      | true =>
        simp only [if_true]
        refine ⟨List.pairwise_append.2 ⟨h1, by simp, ?_⟩, ?_⟩
        · intro a ha b hb
          rw [List.mem_singleton] at hb
          subst hb
          obtain ⟨i, hi, rfl⟩ := (h2 a).1 ha
          have h3 := hs i m hi (by omega)
          have h4 : idxOf d[i]! ≠ idxOf d[m]! := by
            intro e
            have hne : m ≠ 0 := by omega
            have h5 : d[m]! ≠ d[m - 1]! := by simpa [Go.Lib.keeps, hne] using hk
            apply h5
            have h6 : idxOf d[i]! ≤ idxOf d[m - 1]! := by
              rcases Nat.lt_or_ge i (m - 1) with h | h
              · exact hs i (m - 1) h (by omega)
              · rw [show i = m - 1 by omega]
                exact Int.le_refl _
            have h7 := hs (m - 1) m (by omega) (by omega)
            exact idx_inj (hf m (by omega)) (hf (m - 1) (by omega)) (by omega)
          omega
        · intro x
          rw [List.mem_append, h2, List.mem_singleton]
          constructor
          · rintro (⟨i, hi, rfl⟩ | rfl)
            · exact ⟨i, by omega, rfl⟩
            · exact ⟨m, by omega, rfl⟩
          · rintro ⟨i, hi, rfl⟩
            rcases Nat.lt_or_ge i m with h | h
            · exact .inl ⟨i, h, rfl⟩
            · rw [show i = m by omega]
              exact .inr rfl
      | false =>
        simp only [Bool.false_eq_true, if_false, List.append_nil]
        refine ⟨h1, ?_⟩
        intro x
        rw [h2]
        constructor
        · rintro ⟨i, hi, rfl⟩
          exact ⟨i, by omega, rfl⟩
        · rintro ⟨i, hi, rfl⟩
          rcases Nat.lt_or_ge i m with h | h
          · exact ⟨i, h, rfl⟩
          · obtain rfl : i = m := by omega
            have hne : i ≠ 0 := by
              rintro rfl
              simp [Go.Lib.keeps] at hk
            have h5 : d[i]! = d[i - 1]! := by simpa [Go.Lib.keeps, hne] using hk
            exact ⟨i - 1, by omega, h5.symm⟩
  obtain ⟨h1, h2⟩ := key d.size (Nat.le_refl _)
  have e : Go.Lib.compact d.toList = Go.Lib.compactUpTo d d.size := by simp [Go.Lib.compact]
  rw [e]
  symm
  refine tidyOf_eq h1 fun x => ?_
  rw [h2]
  have h3 : (x ∈ d.toList) ↔ (x ∈ c ∧ formed x = true) := by rw [hp.mem_iff, List.mem_filter]
  rw [← h3]
  constructor
  · rintro ⟨i, hi, rfl⟩
    rw [getElem!_pos d i hi]
    exact Array.getElem_mem_toList hi
  · intro hx
    obtain ⟨i, hi, rfl⟩ := List.getElem_of_mem hx
    have hi' : i < d.size := by simpa using hi
    refine ⟨i, hi', ?_⟩
    rw [getElem!_pos d i hi']
    simp

end Go.Proofs.YtlemkghpcbkcpaaMath
/-! text YtlemkghpcbkcpaaTidyPure -/
set_option linter.unusedVariables false
set_option linter.unusedSimpArgs false
namespace Go.Proofs.YtlemkghpcbkcpaaMath
open Go.RowKit Go.Proofs.YtlemkghpcbkcpaaW.PrintWords

def mg : List Int → List Int → List Int
  | [], bs => bs
  | a :: az, [] => a :: az
  | a :: az, b :: bs => if idxOf a < idxOf b then a :: mg az (b :: bs) else if idxOf b < idxOf a then b :: mg (a :: az) bs else a :: mg az bs
termination_by a b => a.length + b.length
theorem mg_nil (b : List Int) : mg [] b = b := by rw [mg]
theorem mg_nil' (a : List Int) : mg a [] = a := by cases a <;> rw [mg]
theorem mg_lt {a b : Int} {az bs : List Int} (h : idxOf a < idxOf b) : mg (a :: az) (b :: bs) = a :: mg az (b :: bs) := by rw [mg, if_pos h]
theorem mg_gt {a b : Int} {az bs : List Int} (h : idxOf b < idxOf a) : mg (a :: az) (b :: bs) = b :: mg (a :: az) bs := by rw [mg, if_neg (by omega), if_pos h]
theorem mg_eq {a b : Int} {az bs : List Int} (h : idxOf a = idxOf b) : mg (a :: az) (b :: bs) = a :: mg az bs := by rw [mg, if_neg (by omega), if_neg (by omega)]
theorem mg_length (n : Nat) : ∀ a b : List Int, a.length + b.length ≤ n → (mg a b).length ≤ a.length + b.length := by
  induction n with
  | zero =>
    intro a b h
    cases a with
    | nil => simp [mg_nil]
    | cons => simp at h
  | succ n ih =>
    intro a b h
    cases a with
    | nil => simp [mg_nil]
    | cons x az =>
      cases b with
      | nil => simp [mg_nil']
      | cons y bs =>
        simp only [List.length_cons] at h
        by_cases h1 : idxOf x < idxOf y
        · have := ih az (y :: bs) (by simp only [List.length_cons]; omega)
          rw [mg_lt h1]; simp only [List.length_cons] at this ⊢; omega
        · by_cases h2 : idxOf y < idxOf x
          · have := ih (x :: az) bs (by simp only [List.length_cons]; omega)
            rw [mg_gt h2]; simp only [List.length_cons] at this ⊢; omega
          · have := ih az bs (by omega)
            rw [mg_eq (by omega)]; simp only [List.length_cons]; omega
theorem mg_mem (n : Nat) : ∀ a b : List Int, a.length + b.length ≤ n → (∀ x ∈ a, formed x = true) → (∀ x ∈ b, formed x = true) → ∀ x, x ∈ mg a b ↔ x ∈ a ∨ x ∈ b := by
  induction n with
  | zero =>
    intro a b h _ _ x
    cases a with
    | nil => simp [mg_nil]
    | cons => simp at h
  | succ n ih =>
    intro a b h ha hb x
    cases a with
    | nil => simp [mg_nil]
    | cons p az =>
      cases b with
      | nil => simp [mg_nil']
      | cons q bs =>
        simp only [List.length_cons] at h
        have ha' : ∀ x ∈ az, formed x = true := fun x hx => ha x (List.mem_cons_of_mem _ hx)
        have hb' : ∀ x ∈ bs, formed x = true := fun x hx => hb x (List.mem_cons_of_mem _ hx)
        by_cases h1 : idxOf p < idxOf q
        · have := ih az (q :: bs) (by simp only [List.length_cons]; omega) ha' hb x
          rw [mg_lt h1]; simp only [List.mem_cons] at this ⊢; rw [this]; simp only [or_assoc]
        · by_cases h2 : idxOf q < idxOf p
          · have := ih (p :: az) bs (by simp only [List.length_cons]; omega) ha hb' x
            rw [mg_gt h2]; simp only [List.mem_cons] at this ⊢; rw [this]
            constructor
            · rintro (h | (h | h) | h) <;> simp [h]
            · rintro ((h | h) | h | h) <;> simp [h]
          · have e : p = q := idx_inj (ha p (List.mem_cons_self ..)) (hb q (List.mem_cons_self ..)) (by omega)
            have := ih az bs (by omega) ha' hb' x
            rw [mg_eq (by omega)]; simp only [List.mem_cons] at this ⊢; rw [this, e]
            constructor
            · rintro (h | h | h) <;> simp [h]
            · rintro ((h | h) | h | h) <;> simp [h]
theorem mg_rising (n : Nat) : ∀ a b : List Int, a.length + b.length ≤ n → (∀ x ∈ a, formed x = true) → (∀ x ∈ b, formed x = true) → Rising a → Rising b → Rising (mg a b) := by
  induction n with
  | zero =>
    intro a b h _ _ r1 r2
    cases a with
    | nil => rwa [mg_nil]
    | cons => simp at h
  | succ n ih =>
    intro a b h ha hb r1 r2
    cases a with
    | nil => rwa [mg_nil]
    | cons p az =>
      cases b with
      | nil => rwa [mg_nil']
      | cons q bs =>
        simp only [List.length_cons] at h
        have ha' : ∀ x ∈ az, formed x = true := fun x hx => ha x (List.mem_cons_of_mem _ hx)
        have hb' : ∀ x ∈ bs, formed x = true := fun x hx => hb x (List.mem_cons_of_mem _ hx)
        obtain ⟨p1, p2⟩ := List.pairwise_cons.1 r1
        obtain ⟨q1, q2⟩ := List.pairwise_cons.1 r2
        by_cases h1 : idxOf p < idxOf q
        · rw [mg_lt h1]
          refine List.pairwise_cons.2 ⟨fun x hx => ?_, ih az (q :: bs) (by simp only [List.length_cons]; omega) ha' hb p2 r2⟩
          rcases (mg_mem _ az (q :: bs) (Nat.le_refl _) ha' hb x).1 hx with h | h
          · exact p1 x h
          · rcases List.mem_cons.1 h with h | h
            · rw [h]; exact h1
            · have := q1 x h; omega
        · by_cases h2 : idxOf q < idxOf p
          · rw [mg_gt h2]
            refine List.pairwise_cons.2 ⟨fun x hx => ?_, ih (p :: az) bs (by simp only [List.length_cons]; omega) ha hb' r1 q2⟩
            rcases (mg_mem _ (p :: az) bs (Nat.le_refl _) ha hb' x).1 hx with h | h
            · rcases List.mem_cons.1 h with h | h
              · rw [h]; exact h2
              · have := p1 x h; omega
            · exact q1 x h
          · rw [mg_eq (by omega)]
            refine List.pairwise_cons.2 ⟨fun x hx => ?_, ih az bs (by omega) ha' hb' p2 q2⟩
            rcases (mg_mem _ az bs (Nat.le_refl _) ha' hb' x).1 hx with h | h
            · exact p1 x h
            · have := q1 x h; omega
theorem tidyOf_append (a b : List Int) : tidyOf (a ++ b) = mg (tidyOf a) (tidyOf b) :=
  tidyOf_eq (mg_rising _ _ _ (Nat.le_refl _) (fun _ h => tidyOf_formed h) (fun _ h => tidyOf_formed h) (rising_tidyOf a) (rising_tidyOf b)) fun x => by
    rw [mg_mem _ _ _ (Nat.le_refl _) (fun _ h => tidyOf_formed h) (fun _ h => tidyOf_formed h), mem_tidyOf, mem_tidyOf, List.mem_append]
    constructor
    · rintro (⟨h, g⟩ | ⟨h, g⟩) <;> simp [h, g]
    · rintro ⟨h | h, g⟩ <;> simp [h, g]
theorem tidyOf_nil : tidyOf [] = [] := rfl
theorem tidyOf_one (x : Int) : tidyOf [x] = if formed x = true then [x] else [] := by
  refine tidyOf_eq ?_ fun y => ?_
  · split
    · exact List.pairwise_singleton ..
    · exact List.Pairwise.nil
  · split
    · rename_i h
      simp only [List.mem_singleton]
      exact ⟨fun e => ⟨e, e ▸ h⟩, fun e => e.1⟩
    · rename_i h
      simp only [List.mem_singleton, List.not_mem_nil, false_iff]
      rintro ⟨rfl, g⟩; exact h g
theorem tidyOf_tidyOf (a : List Int) : tidyOf (tidyOf a) = tidyOf a :=
  tidyOf_eq (rising_tidyOf a) fun x => ⟨fun h => ⟨h, tidyOf_formed h⟩, fun h => h.1⟩
theorem rising_filter {a : List Int} (p : Int → Bool) (h : Rising a) : Rising (a.filter p) := List.Pairwise.filter _ h
theorem tidyOf_rising {t : List Int} (hr : Rising t) (hf : ∀ x ∈ t, formed x = true) : tidyOf t = t :=
  tidyOf_eq hr fun x => ⟨fun h => ⟨h, hf x h⟩, fun h => h.1⟩
theorem withoutOf_tidy (a : List Int) (p : Int → Bool) : tidyOf ((tidyOf a).filter p) = (tidyOf a).filter p :=
  tidyOf_rising (rising_filter p (rising_tidyOf a)) fun x h => tidyOf_formed (List.mem_filter.1 h).1
theorem mg_len (n : Nat) : ∀ a b : List Int, a.length + b.length ≤ n → (∀ x ∈ a, formed x = true) → (∀ x ∈ b, formed x = true) → b.length ≤ (mg a b).length ∧ ((mg a b).length = b.length → ∀ x ∈ a, x ∈ b) := by
  induction n with
  | zero =>
    intro a b h _ _
    cases a with
    | nil => simp [mg_nil]
    | cons => simp at h
  | succ n ih =>
    intro a b h ha hb
    cases a with
    | nil => simp [mg_nil]
    | cons p az =>
      cases b with
      | nil => simp [mg_nil']
      | cons q bs =>
        simp only [List.length_cons] at h
        have ha' : ∀ x ∈ az, formed x = true := fun x hx => ha x (List.mem_cons_of_mem _ hx)
        have hb' : ∀ x ∈ bs, formed x = true := fun x hx => hb x (List.mem_cons_of_mem _ hx)
        by_cases h1 : idxOf p < idxOf q
        · have := (ih az (q :: bs) (by simp only [List.length_cons]; omega) ha' hb).1
          rw [mg_lt h1]; simp only [List.length_cons] at this ⊢
          exact ⟨by omega, fun h => by omega⟩
        · by_cases h2 : idxOf q < idxOf p
          · have := ih (p :: az) bs (by simp only [List.length_cons]; omega) ha hb'
            rw [mg_gt h2]; simp only [List.length_cons] at this ⊢
            exact ⟨by omega, fun h x hx => List.mem_cons_of_mem _ (this.2 (by omega) x hx)⟩
          · have e : p = q := idx_inj (ha p (List.mem_cons_self ..)) (hb q (List.mem_cons_self ..)) (by omega)
            have := ih az bs (by omega) ha' hb'
            rw [mg_eq (by omega)]; simp only [List.length_cons]
            refine ⟨by omega, fun h x hx => ?_⟩
            rcases List.mem_cons.1 hx with rfl | hx
            · rw [e]; exact List.mem_cons_self ..
            · exact List.mem_cons_of_mem _ (this.2 (by omega) x hx)
/-- a rising list of literals has at most 2097152 places -/
theorem rising_count (t : List Int) : ∀ m : Int, Rising t → (∀ x ∈ t, formed x = true) → (∀ x ∈ t, m ≤ idxOf x) → m ≤ 2097152 → (t.length : Int) ≤ 2097152 - m := by
  induction t with
  | nil => intro m _ _ _ h; simp; omega
  | cons x t ih =>
    intro m hr hf hm h
    obtain ⟨h1, h2⟩ := List.pairwise_cons.1 hr
    have hx := idx_formed (hf x (List.mem_cons_self ..))
    have hmx := hm x (List.mem_cons_self ..)
    have := ih (idxOf x + 1) h2 (fun y hy => hf y (List.mem_cons_of_mem _ hy)) (fun y hy => by have := h1 y hy; omega) (by omega)
    simp only [List.length_cons]
    omega
theorem formed_count (t : List Int) (hr : Rising t) (hf : ∀ x ∈ t, formed x = true) : t.length ≤ 2097152 := by
  have := rising_count t 0 hr hf (fun x hx => (idx_formed (hf x hx)).1) (by omega)
  omega
/-- two neighbours are opposites -/
def tautIn : List Int → Bool
  | [] => false
  | [_] => false
  | a :: b :: t => (b == -a) || tautIn (b :: t)
/-- the one is a list of literals, and each stands in the other one, that is one too -/
def subOf (a b : List Int) : Bool := sound a && (sound b && a.all fun l => (tidyOf b).contains l)
theorem tautIn_iff (t : List Int) : Rising t → (∀ x ∈ t, formed x = true) → (tautIn t = true ↔ ∃ x ∈ t, -x ∈ t) := by
  induction t with
  | nil => intro _ _; simp [tautIn]
  | cons a t ih =>
    intro hr hf
    obtain ⟨h1, h2⟩ := List.pairwise_cons.1 hr
    have ih := ih h2 (fun y hy => hf y (List.mem_cons_of_mem _ hy))
    have ha := hf a (List.mem_cons_self ..)
    cases t with
    | nil =>
      simp only [tautIn, Bool.false_eq_true, List.mem_singleton, exists_eq_left, false_iff]
      have := (formed_iff.1 ha).1
      omega
    | cons b t =>
      have hb := hf b (by simp)
      have key : ∀ y ∈ b :: t, y = -a → b = -a := by
        intro y hy hya
        have hfy := hf y (List.mem_cons_of_mem _ hy)
        have e := (idx_neg hfy ha).1 hya
        have l1 := h1 b (List.mem_cons_self ..)
        have l2 := h1 y hy
        have l3 : idxOf b ≤ idxOf y := by
          rcases List.mem_cons.1 hy with rfl | hy
          · omega
          · exact Int.le_of_lt ((List.pairwise_cons.1 h2).1 y hy)
        have : b = y := idx_inj hb hfy (by omega)
        rw [this, hya]
      simp only [tautIn, Bool.or_eq_true, beq_iff_eq, ih]
      constructor
      · rintro (h | ⟨x, hx, hy⟩)
        · exact ⟨a, List.mem_cons_self .., by rw [← h]; simp⟩
        · exact ⟨x, List.mem_cons_of_mem _ hx, List.mem_cons_of_mem _ hy⟩
      · rintro ⟨x, hx, hy⟩
        rcases List.mem_cons.1 hx with rfl | hx
        · rcases List.mem_cons.1 hy with hy | hy
          · have := (formed_iff.1 ha).1; omega
          · exact .inl (key _ hy rfl)
        · rcases List.mem_cons.1 hy with hy | hy
          · exact .inl (key x hx (by omega))
          · exact .inr ⟨x, hx, hy⟩
theorem mem_tidy_sound {b : List Int} (hb : sound b = true) (x : Int) : x ∈ tidyOf b ↔ x ∈ b := by
  rw [mem_tidyOf]
  exact ⟨fun h => h.1, fun h => ⟨h, sound_mem hb h⟩⟩
theorem subOf_sound {a b : List Int} (ha : sound a = true) (hb : sound b = true) : subOf a b = a.all fun x => b.contains x := by
  unfold subOf
  rw [ha, hb, Bool.true_and, Bool.true_and, Bool.eq_iff_iff]
  simp only [List.all_eq_true, List.contains_iff_mem, mem_tidy_sound hb]
theorem taut_sound {b : List Int} (hb : sound b = true) : tautIn (tidyOf b) = b.any fun x => b.contains (-x) := by
  rw [Bool.eq_iff_iff, tautIn_iff _ (rising_tidyOf b) (fun _ h => tidyOf_formed h)]
  simp only [List.any_eq_true, List.contains_iff_mem, mem_tidy_sound hb]
theorem same_sound {a b : List Int} (ha : sound a = true) (hb : sound b = true) : (tidyOf a == tidyOf b) = (subOf a b && subOf b a) := by
  rw [subOf_sound ha hb, subOf_sound hb ha, Bool.eq_iff_iff]
  simp only [beq_iff_eq, Bool.and_eq_true, List.all_eq_true, List.contains_iff_mem]
  constructor
  · intro h
    exact ⟨fun x hx => (mem_tidy_sound hb x).1 (h ▸ (mem_tidy_sound ha x).2 hx), fun x hx => (mem_tidy_sound ha x).1 (h ▸ (mem_tidy_sound hb x).2 hx)⟩
  · rintro ⟨h1, h2⟩
    refine rising_ext (rising_tidyOf a) (rising_tidyOf b) fun x => ?_
    rw [mem_tidy_sound ha, mem_tidy_sound hb]
    exact ⟨h1 x, h2 x⟩
end Go.Proofs.YtlemkghpcbkcpaaMath
/-! text YtlemkghpcbkcpaaVarMath -/
namespace Go.Proofs.YtlemkghpcbkcpaaMath
set_option linter.unusedVariables false
theorem varOf_formed {l : Int} (h : formed l = true) : 1 ≤ varOf l ∧ varOf l ≤ 1048576 ∧ (varOf l = l ∨ varOf l = -l) := by
  have hb := formed_iff.1 h
  unfold varOf
  rw [if_pos h]
  split <;> omega
theorem varOf_none {l : Int} (h : formed l = false) : varOf l = 0 := by
  unfold varOf
  rw [h]; rfl
end Go.Proofs.YtlemkghpcbkcpaaMath
