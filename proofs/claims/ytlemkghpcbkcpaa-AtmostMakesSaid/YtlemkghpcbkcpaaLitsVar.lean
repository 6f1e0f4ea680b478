/- What lits.Var answers. -/
import Derived.Test.YtlemkghpcbkcpaaLitsFormed
import Derived.Test.YtlemkghpcbkcpaaVarMath
namespace Go.Proofs.YtlemkghpcbkcpaaHand
open Go.RowKit Go.Proofs.YtlemkghpcbkcpaaW.PrintWords Go.Proofs.YtlemkghpcbkcpaaW.PrintLast Go.Proofs.YtlemkghpcbkcpaaMath
set_option linter.unusedVariables false
set_option linter.unusedSimpArgs false

theorem var_calls (l r : Int) (w : World) (h : varOf l = r) : Calls Try.prog 35 #[.int .i64 l] w fun e w' => e = .returned (.int .i64 r) ∧ Drawn0 w w' := by
  cases hf : formed l with
  | false =>
    have F := fun w => formed_calls l false w hf
    rw [varOf_none hf] at h
    subst h
    clear hf
    go_enter Try.func35, Try.ntmps35
    go_wp2_with (go_at_call 46; (with_reducible refine (F _).mono ?_); rintro e w' ⟨rfl, ⟨nd, rfl⟩⟩)
    go_ret
    exact ⟨rfl, by repeat (first | exact Drawn0.refl _ | apply Drawn0.step)⟩
  | true =>
    have F := fun w => formed_calls l true w hf
    have hb := formed_bd hf
    unfold varOf at h
    rw [if_pos hf] at h
    by_cases hlt : l < 0
    · rw [if_pos hlt] at h
      have e1 : decide (l < 0) = true := decide_eq_true hlt
      have HE : Aside0 (wrap64 (-l) = r) := ⟨by rw [w64 (by omega) (by omega)]; exact h⟩
      clear hf h hb hlt
      go_enter Try.func35, Try.ntmps35
      go_wp2_with (go_at_call 46; (with_reducible refine (F _).mono ?_); rintro e w' ⟨rfl, ⟨nd, rfl⟩⟩)
      go_ret
      exact ⟨by rw [← HE.out]; rfl, by repeat (first | exact Drawn0.refl _ | apply Drawn0.step)⟩
    · rw [if_neg hlt] at h
      subst h
      have e1 : decide (l < 0) = false := decide_eq_false hlt
      clear hf hb hlt
      go_enter Try.func35, Try.ntmps35
      go_wp2_with (go_at_call 46; (with_reducible refine (F _).mono ?_); rintro e w' ⟨rfl, ⟨nd, rfl⟩⟩)
      go_ret
      exact ⟨rfl, by repeat (first | exact Drawn0.refl _ | apply Drawn0.step)⟩

end Go.Proofs.YtlemkghpcbkcpaaHand
