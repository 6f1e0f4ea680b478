/- What LitsFollows asks of the resolvents, on numbers and lists. -/
import Derived.Test.YtamefocngapkpaaWeave
import Derived.Test.YtamefocngapkpaaFollowsLib
namespace Go.Proofs.YtamefocngapkpaaMath
open Go.RowKit Go.Proofs.YtamefocngapkpaaW.PrintWords Go.Proofs.Ytamefocngapkpaa.PLitsFollows
theorem trIn_neg {m : List Bool} {l : Int} (h : l ≠ 0) : trIn m (-l) = !trIn m l := by
  unfold trIn
  rw [Int.natAbs_neg]
  by_cases e : (m.length : Int) = 0
  · rw [if_pos e, if_pos e]
    by_cases hl : l < 0
    · rw [decide_eq_true hl, decide_eq_false (by omega)]; rfl
    · rw [decide_eq_false hl, decide_eq_true (by omega)]; rfl
  · rw [if_neg e, if_neg e]
    generalize rdOf false m (((l.natAbs : Int) - 1) % (m.length : Int)) = b
    by_cases hl : l > 0
    · rw [decide_eq_true hl, decide_eq_false (by omega)]
      cases b <;> rfl
    · rw [decide_eq_false hl, decide_eq_true (by omega)]
      cases b <;> rfl
theorem mem_onOf {a b : List Int} {v x : Int} : x ∈ onOf a b v ↔ formed x = true ∧ ((x ∈ a ∧ x ≠ v) ∨ (x ∈ b ∧ x ≠ -v)) := by
  unfold onOf lessOf
  rw [mem_tidyOf, List.mem_append, List.mem_filter, List.mem_filter, mem_tidyOf, mem_tidyOf]
  by_cases hf : formed x = true <;> simp [hf]
theorem piv_mem {a b : List Int} {v : Int} (ha : sound a = true) (hb : sound b = true) (hv : 1 ≤ v) (h1 : a.contains v = true) (h2 : b.contains (-v) = true) : v ∈ pivOf (tidyOf a) (tidyOf b) := by
  rw [List.contains_iff_mem] at h1 h2
  unfold pivOf isPiv
  rw [List.mem_filter, mem_tidyOf, Bool.and_eq_true, List.contains_iff_mem, mem_tidyOf]
  exact ⟨⟨h1, sound_mem ha h1⟩, decide_eq_true (by omega), h2, sound_mem hb h2⟩
theorem onOf_len (a b : List Int) (v : Int) : (onOf a b v).length ≤ 4194304 := by
  unfold onOf
  have h1 := tidyOf_length (lessOf a v ++ lessOf b (-v))
  have h2 := lessOf_length a v
  have h3 := lessOf_length b (-v)
  rw [List.length_append] at h1
  omega
theorem on_tr {a b : List Int} {v : Int} {m : List Bool} (hv : v ≠ 0) (ha : sound a = true) (hb : sound b = true) (h1 : a.any (trIn m) = true) (h2 : b.any (trIn m) = true) : (onOf a b v).any (trIn m) = true := by
  rw [List.any_eq_true] at h1 h2 ⊢
  obtain ⟨x, hx, tx⟩ := h1
  obtain ⟨y, hy, ty⟩ := h2
  by_cases e : x = v
  · by_cases e2 : y = -v
    · subst e2
      rw [trIn_neg hv, ← e, tx] at ty
      cases ty
    · exact ⟨y, mem_onOf.2 ⟨sound_mem hb hy, .inr ⟨hy, e2⟩⟩, ty⟩
  · exact ⟨x, mem_onOf.2 ⟨sound_mem ha hx, .inl ⟨hx, e⟩⟩, tx⟩
theorem onOf_tidy (a b : List Int) (v : Int) : onOf (tidyOf a) (tidyOf b) v = onOf a b v := by
  unfold onOf lessOf
  rw [tidyOf_tidyOf, tidyOf_tidyOf]
theorem wst_mem {x y : List Int} {p : Int × List Int} (pre : List Int) : ∀ (s : List (Int × List Int) × List Int), (∀ q ∈ s.1, (∃ v, v ∈ x ∧ q = (v, onOf x y v)) ∨ ∃ b, b ∈ y ∧ q = (b, onOf y x b)) → (∀ b ∈ s.2, b ∈ y) → (∀ v ∈ pre, v ∈ x) → p ∈ (pre.foldl (wst x y) s).1 → (∃ v, v ∈ x ∧ p = (v, onOf x y v)) ∨ ∃ b, b ∈ y ∧ p = (b, onOf y x b) := by
  induction pre with
  | nil => intro s h1 h2 h3 hp; exact h1 p hp
  | cons v pre ih =>
    intro s h1 h2 h3 hp
    refine ih (wst x y s v) (fun q hq => ?_) (fun b hb => h2 b ((List.dropWhile_sublist _).subset hb)) (fun u hu => h3 u (List.mem_cons_of_mem _ hu)) hp
    unfold wst at hq
    rw [List.mem_append, List.mem_append, List.mem_singleton] at hq
    rcases hq with (hq | hq) | rfl
    · exact h1 q hq
    · obtain ⟨b, hb, rfl⟩ := List.mem_map.1 hq
      exact .inr ⟨b, h2 b ((List.takeWhile_sublist _).subset hb), rfl⟩
    · exact .inl ⟨v, h3 v List.mem_cons_self, rfl⟩
theorem weave_mem {x y : List Int} {p : Int × List Int} (h : p ∈ weave x y) : (∃ v, v ∈ x ∧ p = (v, onOf x y v)) ∨ ∃ b, b ∈ y ∧ p = (b, onOf y x b) := by
  unfold weave at h
  rw [List.mem_append] at h
  have hx : ∀ v ∈ pivOf x y, v ∈ x := fun v hv => (List.mem_filter.1 hv).1
  have hy : ∀ v ∈ pivOf y x, v ∈ y := fun v hv => (List.mem_filter.1 hv).1
  rcases h with h | h
  · exact wst_mem _ ([], pivOf y x) (by simp) hy hx h
  · obtain ⟨b, hb, rfl⟩ := List.mem_map.1 h
    exact .inr ⟨b, wrun_mem hb, rfl⟩
theorem weave_has {x y : List Int} {v : Int} (h : v ∈ pivOf x y) : (v, onOf x y v) ∈ weave x y := by
  obtain ⟨s, t, e⟩ := List.append_of_mem h
  have hp : s ++ [v] <+: pivOf x y := ⟨t, by rw [e]; simp⟩
  have h1 : (v, onOf x y v) ∈ (wrun x y (pivOf y x) (s ++ [v])).1 := by
    rw [wrun_snoc]
    unfold wst
    simp
  exact (wrun_weave hp).subset h1
/-- each resolvent holds where both do -/
theorem weave_tr {a b : List Int} {m : List Bool} {p : Int × List Int} (ha : sound a = true) (hb : sound b = true) (h1 : a.any (trIn m) = true) (h2 : b.any (trIn m) = true) (h : p ∈ weave (tidyOf a) (tidyOf b)) : p.2.any (trIn m) = true := by
  rcases weave_mem h with ⟨v, hv, rfl⟩ | ⟨v, hv, rfl⟩
  · show (onOf (tidyOf a) (tidyOf b) v).any (trIn m) = true
    rw [onOf_tidy]
    exact on_tr (formed_iff.1 (tidyOf_formed hv)).1 ha hb h1 h2
  · show (onOf (tidyOf b) (tidyOf a) v).any (trIn m) = true
    rw [onOf_tidy]
    exact on_tr (formed_iff.1 (tidyOf_formed hv)).1 hb ha h2 h1
/-- how many handed pairs are this one -/
def cntOf (v : Int) (rr : List Int) (pre : List (Int × Value × List Int)) : Nat := (pre.filter fun p => p.1 == v && p.2.2 == rr).length
theorem cntOf_le (v : Int) (rr : List Int) (pre : List (Int × Value × List Int)) : cntOf v rr pre ≤ pre.length := List.length_filter_le _ _
theorem cntOf_yes {v x : Int} {rr s : List Int} {u : Value} {pre : List (Int × Value × List Int)} (h1 : x = v) (h2 : s = rr) : cntOf v rr (pre ++ [(x, u, s)]) = cntOf v rr pre + 1 := by
  subst h1; subst h2
  simp [cntOf, List.filter_append]
theorem cntOf_no {v x : Int} {rr s : List Int} {u : Value} {pre : List (Int × Value × List Int)} (h : (x == v && s == rr) = false) : cntOf v rr (pre ++ [(x, u, s)]) = cntOf v rr pre := by
  unfold cntOf
  rw [List.filter_append, List.filter_cons, h]
  simp
theorem cntOf_pos {v : Int} {rr : List Int} {pre : List (Int × Value × List Int)} (h : (v, rr) ∈ pre.map (fun p => (p.1, p.2.2))) : 0 < cntOf v rr pre := by
  obtain ⟨⟨x, u, s⟩, hp, e⟩ := List.mem_map.1 h
  cases e
  exact List.length_pos_of_mem (List.mem_filter.2 ⟨hp, by simp⟩)
end Go.Proofs.YtamefocngapkpaaMath
