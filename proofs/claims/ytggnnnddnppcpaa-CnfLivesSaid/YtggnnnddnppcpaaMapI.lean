/- Maps from int to int of the call's own: laws at this seat. -/
import Derived.Test.YtggnnnddnppcpaaIntMap
import Derived.Test.YtggnnnddnppcpaaLitsFormed
import Derived.Test.YtggnnnddnppcpaaOpens
namespace Go.Proofs.YtggnnnddnppcpaaHand
open Go.RowKit Go.Proofs.YtggnnnddnppcpaaW.PrintWords Go.Proofs.YtggnnnddnppcpaaW.PrintLast Go.Proofs.YtggnnnddnppcpaaMaps Go.Maps
set_option linter.unusedVariables false
set_option linter.unusedSimpArgs false
theorem mapK : Keyed Try.prog 3 := int_keyed Try.underlying3
theorem zeroI (w : World) : (zeroValue 3).run Try.prog w = .ok (.int .i64 0) w := by kernel_rfl
abbrev IMI (W : World) (B n : Nat) (f : Int → Option Int) (c : Nat) : Prop := IM Try.prog 3 intKeys (intElem Try.prog 3 Try.underlying3) W B n f c
theorem hkeyI {x : Int} (h : -9223372036854775808 ≤ x ∧ x ≤ 9223372036854775807) : keyOf Try.prog 3 (.int .i64 x) = some (intKeys.kl x) := keyOf_int_mk Try.underlying3 (WalkArith.wf_i64 h)
theorem im_look_run {W : World} {B n c : Nat} {f : Int → Option Int} (h : IMI W B n f c) (v : Int) (hv : -9223372036854775808 ≤ v ∧ v ≤ 9223372036854775807) : (Instr.lookup 88 (.map (some B)) (.int .i64 v) false).run Try.prog W = .ok (.int .i64 ((f v).getD 0)) W :=
  h.look mapK Try.underlying88 (z := (0 : Int)) (zeroI _) (show (Lit.int .i64 0).wf = true by decide) (hkeyI hv)
end Go.Proofs.YtggnnnddnppcpaaHand
