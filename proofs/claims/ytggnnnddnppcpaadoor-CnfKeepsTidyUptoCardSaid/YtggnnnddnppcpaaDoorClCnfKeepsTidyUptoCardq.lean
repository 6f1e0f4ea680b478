/- Marks in rows, told by a relation: what the loops of ApartRows leave, row by row. -/
import Derived.Test.YtggnnnddnppcpaaDoorClCnfKeepsTidyUptoCardn
/-! text YtggnnnddnppcpaaDoorApartRel -/
namespace Go.Proofs.YtggnnnddnppcpaaDoorOwn
open Go Go.RowKit Go.Proofs.YtggnnnddnppcpaaDoorW.PrintWords
set_option linter.unusedVariables false
/-- n places, each as G says of row k -/
def AllG (G : Nat → Nat → Value → Prop) (k n : Nat) (xs : List Value) : Prop := xs.length = n ∧ ∀ j, j < n → ∃ u, xs[j]? = some u ∧ G k j u
section
variable (G : Nat → Nat → Value → Prop) (rows : List (Value × Nat))
def G1 (D : List (Value × List Value)) (k i : Nat) : Prop := ∀ (k' : Nat) p d, rows[k']? = some p → D[k']? = some d → d.1 = p.1 ∧ d.2.length = p.2 ∧ ∀ j, j < p.2 → (k' < k ∨ k' = k ∧ j < i) → ∃ u, d.2[j]? = some u ∧ G k' j u
def G2 (D : List (Value × List Value)) (k x : Nat) : Prop := ∀ (k' : Nat) p d, rows[k']? = some p → D[k']? = some d → (k' < k → AllG G k' (p.2 + 64) d.2) ∧ (k' = k → AllG G k' (p.2 + x) d.2) ∧ (k < k' → AllG G k' p.2 d.2)
def G4 (D : List (Value × List Value)) : Prop := ∀ (k' : Nat) p d, rows[k']? = some p → D[k']? = some d → d.2.length = p.2 + 64 ∧ ∀ j, j < p.2 → ∃ u, d.2[j]? = some u ∧ G k' j u
variable {G rows} {G' : Nat → Nat → Value → Prop} {D : List (Value × List Value)} {k i n : Nat} {p : Value × Nat} {xs : List Value} {u : Value}
theorem AllG.mono (h : AllG G k n xs) (hG : ∀ k j u, G k j u → G' k j u) : AllG G' k n xs := ⟨h.1, fun j hj => by
  obtain ⟨u, h1, h2⟩ := h.2 j hj
  exact ⟨u, h1, hG _ _ _ h2⟩⟩
theorem AllG.append (h : AllG G k n xs) (hu : G k n u) : AllG G k (n + 1) (xs ++ [u]) := ⟨by rw [List.length_append, h.1]; rfl, fun j hj => by
  rcases Nat.lt_or_ge j n with h1 | h1
  · obtain ⟨v, h2, h3⟩ := h.2 j h1
    exact ⟨v, by rw [List.getElem?_append_left (by rw [h.1]; exact h1)]; exact h2, h3⟩
  · obtain rfl : j = n := by omega
    exact ⟨u, by rw [List.getElem?_append_right (by rw [h.1]; exact Nat.le_refl _), h.1, Nat.sub_self]; rfl, hu⟩⟩
theorem AllG.take (h : AllG G k n xs) {m : Nat} (hm : m ≤ n) : AllG G k m (xs.take m) := ⟨by rw [List.length_take, h.1]; omega, fun j hj => by
  obtain ⟨u, h1, h2⟩ := h.2 j (by omega)
  exact ⟨u, by rw [List.getElem?_take, if_pos hj]; exact h1, h2⟩⟩
theorem G1.mono (h : G1 G rows D k i) (hG : ∀ k j u, G k j u → G' k j u) : G1 G' rows D k i := fun k' p d hp hd => by
  obtain ⟨h1, h2, h3⟩ := h k' p d hp hd
  refine ⟨h1, h2, fun j hj hjj => ?_⟩
  obtain ⟨u, h4, h5⟩ := h3 j hj hjj
  exact ⟨u, h4, hG _ _ _ h5⟩
theorem G2.mono (h : G2 G rows D k i) (hG : ∀ k j u, G k j u → G' k j u) : G2 G' rows D k i := fun k' p d hp hd => by
  obtain ⟨h1, h2, h3⟩ := h k' p d hp hd
  exact ⟨fun h => (h1 h).mono hG, fun h => (h2 h).mono hG, fun h => (h3 h).mono hG⟩
theorem G1.start (hD : ∀ (k' : Nat) p d, rows[k']? = some p → D[k']? = some d → d.1 = p.1 ∧ d.2.length = p.2) : G1 G rows D 0 0 := fun k' p d hp hd => ⟨(hD k' p d hp hd).1, (hD k' p d hp hd).2, fun j _ hj => by omega⟩
theorem G1.mark {v : Value} (h : G1 G rows D k i) (hp : rows[k]? = some p) (hd : D[k]? = some (v, xs)) (hi : i < p.2) (hu : G k i u) : G1 G rows (D.set k (v, xs.set i u)) k (i + 1) := by
  intro k' p' d' hp' hd'
  rw [List.getElem?_set] at hd'
  by_cases hk : k = k'
  · subst hk
    rw [hp] at hp'
    injection hp' with hp'
    subst hp'
    rw [if_pos rfl, if_pos (List.getElem?_eq_some_iff.1 hd).1] at hd'
    injection hd' with hd'
    subst hd'
    obtain ⟨h1, h2, h3⟩ := h k p _ hp hd
    refine ⟨h1, by simpa using h2, fun j hj hjj => ?_⟩
    show ∃ u', (xs.set i u)[j]? = some u' ∧ G k j u'
    rw [List.getElem?_set]
    split
    · rename_i hij
      subst hij
      have : i < xs.length := by have := h2; simp only at this; omega
      exact ⟨u, by simp [this], hu⟩
    · exact h3 j hj (by omega)
  · rw [if_neg hk] at hd'
    obtain ⟨h1, h2, h3⟩ := h k' p' d' hp' hd'
    exact ⟨h1, h2, fun j hj hjj => h3 j hj (by omega)⟩
theorem G1.next (h : G1 G rows D k p.2) (hp : rows[k]? = some p) : G1 G rows D (k + 1) 0 := fun k' p' d' hp' hd' => by
  obtain ⟨h1, h2, h3⟩ := h k' p' d' hp' hd'
  refine ⟨h1, h2, fun j hj hjj => h3 j hj ?_⟩
  by_cases hk : k' = k
  · subst hk
    rw [hp] at hp'
    injection hp' with hp'
    subst hp'
    omega
  · omega
theorem G1.done (h : G1 G rows D rows.length 0) : G2 G rows D 0 0 := fun k' p d hp hd => by
  obtain ⟨h1, h2, h3⟩ := h k' p d hp hd
  have hk := (List.getElem?_eq_some_iff.1 hp).1
  have h4 : AllG G k' p.2 d.2 := ⟨h2, fun j hj => h3 j hj (by omega)⟩
  exact ⟨fun hlt => by omega, fun _ => h4, fun _ => h4⟩
theorem G2.set {d d' : Value × List Value} {x : Nat} (h : G2 G rows D k i) (hp : rows[k]? = some p) (hd : D[k]? = some d) (hd' : AllG G k (p.2 + x) d'.2) : G2 G rows (D.set k d') k x := by
  intro k' p' d2 hp' hd2
  rw [List.getElem?_set] at hd2
  by_cases hk : k = k'
  · subst hk
    rw [hp] at hp'
    injection hp' with hp'
    subst hp'
    rw [if_pos rfl, if_pos (List.getElem?_eq_some_iff.1 hd).1] at hd2
    injection hd2 with hd2
    subst hd2
    exact ⟨fun h => by omega, fun _ => hd', fun h => by omega⟩
  · rw [if_neg hk] at hd2
    obtain ⟨h1, h2, h3⟩ := h k' p' d2 hp' hd2
    exact ⟨h1, fun e => absurd e.symm hk, h3⟩
theorem G2.next (h : G2 G rows D k 64) : G2 G rows D (k + 1) 0 := fun k' p' d' hp' hd' => by
  obtain ⟨h1, h2, h3⟩ := h k' p' d' hp' hd'
  refine ⟨fun hk => ?_, fun hk => h3 (by omega), fun hk => h3 (by omega)⟩
  by_cases hk2 : k' = k
  · exact h2 hk2
  · exact h1 (by omega)
theorem G2.row {d : Value × List Value} (h : G2 G rows D k i) (hp : rows[k]? = some p) (hd : D[k]? = some d) : AllG G k (p.2 + i) d.2 := (h k p d hp hd).2.1 rfl
theorem G2.full {d : Value × List Value} (h : G2 G rows D rows.length 0) (hp : rows[k]? = some p) (hd : D[k]? = some d) : AllG G k (p.2 + 64) d.2 := (h k p d hp hd).1 (List.getElem?_eq_some_iff.1 hp).1
theorem G2.four (h : G2 G rows D rows.length 0) : G4 G rows D := fun k p d hp hd => by
  have := h.full hp hd
  exact ⟨this.1, fun j hj => this.2 j (by omega)⟩
theorem G4.set {d d' : Value × List Value} {ms : List Value} (h : G4 G rows D) (hp : rows[k]? = some p) (hd : D[k]? = some d) (hm : ms.length = 64) (hd' : d'.2 = d.2.take p.2 ++ ms) : G4 G rows (D.set k d') := by
  intro k' p' d2 hp' hd2
  rw [List.getElem?_set] at hd2
  by_cases hk : k = k'
  · subst hk
    rw [hp] at hp'
    injection hp' with hp'
    subst hp'
    rw [if_pos rfl, if_pos (List.getElem?_eq_some_iff.1 hd).1] at hd2
    injection hd2 with hd2
    subst hd2
    obtain ⟨h1, h2⟩ := h k p d hp hd
    have hl : (d.2.take p.2).length = p.2 := by rw [List.length_take]; omega
    rw [hd']
    refine ⟨by rw [List.length_append, hl, hm], fun j hj => ?_⟩
    obtain ⟨u, h3, h4⟩ := h2 j hj
    exact ⟨u, by rw [List.getElem?_append_left (by rw [hl]; exact hj), List.getElem?_take, if_pos hj]; exact h3, h4⟩
  · rw [if_neg hk] at hd2
    exact h k' p' d2 hp' hd2
end
/-- the list of rows lies in no row -/
theorem AQ.out_ne {e e' : TypeId} {w W : World} {rows : List (Value × Nat)} {D : List (Value × List Value)} {gv : Value} {H : List Value} {mv : Value} {ms : List Value} {Z : List (Nat × Obj)} {k : Nat} {p : Value × Nat} {d : Value × List Value} {ad : Addr} {b : Nat}
    (h : AQ e e' w rows (some ad) D gv H mv ms Z W) (hp : rows[k]? = some p) (hd : D[k]? = some d) (hb : d.1.ownBlock = some b) : b ≠ ad.block := by
  obtain ⟨f, h⟩ := h
  obtain ⟨ad', h1, h2, _⟩ := h.out k p hp
  injection h1 with h1
  subst h1
  have h3 := (h.row k p d hp hd).now.2 b hb
  have hk := (List.getElem?_eq_some_iff.1 hp).1
  rintro rfl
  omega
end Go.Proofs.YtggnnnddnppcpaaDoorOwn
