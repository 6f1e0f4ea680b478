/- What lits.Sound answers; a binary search in a tidy list. -/
import Derived.Test.YtamefocngapkpaaTidy
import Derived.Test.YtamefocngapkpaaTidyPure
import Derived.Test.YtamefocngapkpaaLitsSound
namespace Go.Proofs.YtamefocngapkpaaMath
open Go.RowKit Go.Proofs.YtamefocngapkpaaW.PrintWords
theorem search_math (l : Int) (hl : formed l = true) : ∀ xs : List Int, Rising xs → (∀ x ∈ xs, formed x = true) →
    ((xs.countP (fun x => decide (byIdx x l < 0)) < xs.length ∧ byIdx (xs.toArray[xs.countP (fun x => decide (byIdx x l < 0))]!) l = 0) ↔ l ∈ xs) := by
  intro xs
  induction xs with
  | nil => intro _ _; simp
  | cons x xs ih =>
    intro hr hf
    obtain ⟨h1, h2⟩ := List.pairwise_cons.1 hr
    have ih := ih h2 (fun y hy => hf y (List.mem_cons_of_mem _ hy))
    have hx := hf x (List.mem_cons_self ..)
    unfold byIdx at ih ⊢
    by_cases c : idxOf x - idxOf l < 0
    · rw [List.countP_cons_of_pos (by simpa using c)]
      generalize xs.countP (fun x => decide (idxOf x - idxOf l < 0)) = n at ih ⊢
      have hne : ¬ l = x := by rintro rfl; omega
      rw [List.mem_cons]
      simp only [hne, false_or, ← ih, List.length_cons]
      constructor
      · rintro ⟨g1, g2⟩
        refine ⟨by omega, ?_⟩
        have : (x :: xs).toArray[n + 1]! = xs.toArray[n]! := by simp
        rwa [this] at g2
      · rintro ⟨g1, g2⟩
        refine ⟨by omega, ?_⟩
        have : (x :: xs).toArray[n + 1]! = xs.toArray[n]! := by simp
        rwa [this]
    · have h0 : (x :: xs).countP (fun x => decide (idxOf x - idxOf l < 0)) = 0 := by
        rw [List.countP_eq_zero]
        intro y hy
        rcases List.mem_cons.1 hy with rfl | hy
        · simpa using c
        · have := h1 y hy
          simp only [decide_eq_true_eq]; omega
      rw [h0]
      have e0 : (x :: xs).toArray[0]! = x := by simp
      rw [e0]
      simp only [List.length_cons, List.mem_cons]
      constructor
      · rintro ⟨_, g⟩
        exact .inl (idx_inj hl hx (by omega))
      · rintro (rfl | hy)
        · exact ⟨by omega, by omega⟩
        · have := h1 l hy
          omega

end Go.Proofs.YtamefocngapkpaaMath
namespace Go.Proofs.YtamefocngapkpaaHand
open Go.RowKit Go.Sort Go.Lib Go.Shelf Go.Proofs.YtamefocngapkpaaW.PrintWords Go.Proofs.YtamefocngapkpaaW.PrintLast Go.Proofs.YtamefocngapkpaaMath
set_option linter.unusedVariables false
set_option linter.unusedSimpArgs false

theorem search_calls (W : World) (base g cap : Nat) (xs : List Int) (l : Int) (h : OwnInts W base (.slice (some ⟨g, 0, none⟩) xs.length cap) xs) (hr : Rising xs) (hf : ∀ x ∈ xs, formed x = true) (hl : formed l = true) (hn : xs.length < 4611686018427387904) :
    Calls Try.prog 64 #[.slice (some ⟨g, 0, none⟩) xs.length cap, .int .i64 l, .func (.func 58) #[] #[]] W fun e W' => ∃ n : Int, e = .returned (.tuple #[.int .i64 n, .bool (xs.contains l)]) ∧
      OwnInts W' base (.slice (some ⟨g, 0, none⟩) xs.length cap) xs ∧ W.grownBy W' (some g) := by
  obtain ⟨hH, hg, _, _⟩ := own_holds h
  have hcmp : CmpLaysT Try.prog 58 #[] (Value.int .i64) (.int .i64 l) (fun x => byIdx x l) g 0 xs.toArray.size W := by
    intro m os dk _ x
    refine (byIndex_calls x l _).mono ?_
    rintro e w' ⟨rfl, ⟨q, rfl⟩⟩
    exact ⟨rfl, q, #[], rfl⟩
  have hmono : ∀ a b, a ≤ b → b < xs.toArray.size → (fun x => byIdx x l) xs.toArray[b]! < 0 → (fun x => byIdx x l) xs.toArray[a]! < 0 := by
    intro a b hab hb hlt
    rcases Nat.eq_or_lt_of_le hab with rfl | hab
    · exact hlt
    · simp only [List.size_toArray] at hb
      have e1 : xs.toArray[b]! = xs[b] := by simp [hb]
      have e2 : xs.toArray[a]! = xs[a]'(by omega) := by simp [show a < xs.length by omega]
      have := List.pairwise_iff_getElem.1 hr a b (by omega) hb hab
      simp only [e1, e2, byIdx] at hlt ⊢
      omega
  have hc := Any.slices_BinarySearchFunc Try.searchF (Value.int .i64) (fun _ => rfl) (.int .i64 l) (fun x => byIdx x l) 58 #[] g 0 cap xs.toArray W (enters_of Try.func58 (by kernel_rfl) rfl) hcmp hH hg (by simpa using hn) hmono
  refine Calls.mono hc ?_
  rintro e W' ⟨rfl, n, os, rfl⟩
  have hm := search_math l hl xs hr hf
  have e1 : xs.toArray.toList = xs := by simp
  have hb : (decide (xs.countP (fun x => decide (byIdx x l < 0)) < xs.length) && decide (byIdx (xs.toArray[xs.countP (fun x => decide (byIdx x l < 0))]!) l = 0)) = xs.contains l := by
    rw [Bool.eq_iff_iff]
    simp only [Bool.and_eq_true, decide_eq_true_eq, List.contains_iff_mem]
    exact hm
  rw [e1, List.size_toArray, hb]
  exact ⟨_, rfl, (own_put h rfl).1, (own_put h rfl).2⟩

end Go.Proofs.YtamefocngapkpaaHand
