/- What lits.Formed, lits.Index and lits.byIndex answer, for every int. -/
import Derived.Test.YtamefocngapkpaaLitsFormed
namespace Go.Proofs.YtamefocngapkpaaHand
open Go.RowKit Go.Proofs.YtamefocngapkpaaW.PrintWords Go.Proofs.YtamefocngapkpaaW.PrintLast Go.Proofs.YtamefocngapkpaaMath
set_option linter.unusedVariables false
set_option linter.unusedSimpArgs false

theorem index_calls (l r : Int) (w : World) (h : idxOf l = r) : Calls Try.prog 17 #[.int .i64 l] w fun e w' => e = .returned (.int .i64 r) ∧ Drawn0 w w' := by
  cases hf : formed l with
  | false =>
    have F := fun w => formed_calls l false w hf
    obtain rfl : r = -1 := by rw [← h, idx_none hf]
    clear h hf
    go_enter Try.func17, Try.ntmps17
    go_wp2_with (go_at_call 15; (with_reducible refine (F _).mono ?_); rintro e w' ⟨rfl, ⟨nd, rfl⟩⟩)
    go_ret
    exact ⟨rfl, by repeat (first | exact Drawn0.refl _ | apply Drawn0.step)⟩
  | true =>
    have F := fun w => formed_calls l true w hf
    obtain ⟨h1, h2, h3⟩ := idx_formed hf
    have hb := formed_bd hf
    by_cases hn : l < 0
    · have a1 : decide (l < 0) = true := decide_eq_true hn
      have e : wrap64 (wrap64 (2 * wrap64 (-l)) - 1) = r := by unfold wrap64; omega
      clear h hf h1 h2 h3 hb hn
      have E := Aside0.mk e
      clear e
      go_enter Try.func17, Try.ntmps17
      go_wp2_with (go_at_call 15; (with_reducible refine (F _).mono ?_); rintro e w' ⟨rfl, ⟨nd, rfl⟩⟩)
      go_ret
      exact ⟨by rw [← E.out]; rfl, by repeat (first | exact Drawn0.refl _ | apply Drawn0.step)⟩
    · have a1 : decide (l < 0) = false := decide_eq_false hn
      have e : wrap64 (wrap64 (2 * l) - 2) = r := by unfold wrap64; omega
      clear h hf h1 h2 h3 hb hn
      have E := Aside0.mk e
      clear e
      go_enter Try.func17, Try.ntmps17
      go_wp2_with (go_at_call 15; (with_reducible refine (F _).mono ?_); rintro e w' ⟨rfl, ⟨nd, rfl⟩⟩)
      go_ret
      exact ⟨by rw [← E.out]; rfl, by repeat (first | exact Drawn0.refl _ | apply Drawn0.step)⟩

theorem byIndex_calls (a b : Int) (w : World) : Calls Try.prog 58 #[.int .i64 a, .int .i64 b] w fun e w' => e = .returned (.int .i64 (byIdx a b)) ∧ Drawn0 w w' := by
  have X := fun w => index_calls a _ w rfl
  have Y := fun w => index_calls b _ w rfl
  have e : wrap64 (idxOf a - idxOf b) = byIdx a b := by
    have := idx_bound a
    have := idx_bound b
    unfold byIdx wrap64
    omega
  have E := Aside0.mk e
  clear e
  generalize byIdx a b = r at E ⊢
  generalize idxOf a = x at X E
  generalize idxOf b = y at Y E
  go_enter Try.func58, Try.ntmps58
  go_wp2_with fail
  (with_reducible refine (X _).mono ?_)
  rintro e w' ⟨rfl, ⟨nd, rfl⟩⟩
  go_wp2_with fail
  (with_reducible refine (Y _).mono ?_)
  rintro e w' ⟨rfl, ⟨nd2, rfl⟩⟩
  go_wp2
  go_ret
  exact ⟨by rw [← E.out]; rfl, by repeat (first | exact Drawn0.refl _ | apply Drawn0.step)⟩

end Go.Proofs.YtamefocngapkpaaHand
