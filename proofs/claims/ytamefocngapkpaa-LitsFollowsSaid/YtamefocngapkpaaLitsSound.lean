/- What lits.Sound answers. -/
import Derived.Test.YtamefocngapkpaaLitsFormed
namespace Go.Proofs.YtamefocngapkpaaHand
open Go.RowKit Go.Proofs.YtamefocngapkpaaW.PrintWords Go.Proofs.YtamefocngapkpaaW.PrintLast Go.Proofs.YtamefocngapkpaaMath
set_option linter.unusedVariables false
set_option linter.unusedSimpArgs false

theorem sound_calls (A0 : Option Addr) (c0 : Nat) (l0 : List Int) (w : World) (hr0 : Kd.C (Kd.int .i64) w A0 l0.length l0) (hn : l0.length ≤ 17592186044416) :
    Calls Try.prog 38 #[.slice A0 l0.length c0] w fun e w' => e = .returned (.bool (sound l0)) ∧ Drawn0 w w' := by
  have HR0 := Aside0.mk hr0
  have HN := Aside0.mk hn
  obtain ⟨r, hr⟩ : ∃ r, r = sound l0 := ⟨_, rfl⟩
  rw [← hr]
  have HR := Aside0.mk hr
  clear hr0 hn hr
  go_enter Try.func38, Try.ntmps38
  go_wp2
  go_loopw [7] (fun v7 wr => ∃ (k : Nat) (x : Int), v7 = .int .i64 x ∧ Aside0 (x = k ∧ k ≤ l0.length ∧ sound (l0.drop k) = r) ∧ Aside0 (Drawn0 w wr)) (fun i _ => l0.length - (intOf i).toNat)
  case atStart => exact ⟨0, 0, rfl, ⟨rfl, Nat.zero_le _, by rw [HR.out]; rfl⟩, ⟨by repeat (first | exact Drawn0.refl _ | apply Drawn0.step)⟩⟩
  case round =>
    obtain ⟨k, x, rfl, HX, HB⟩ := hrel
    obtain ⟨hxk, hk, hs⟩ := HX.out
    obtain ⟨m1, rfl⟩ := HB.out
    by_cases hlt : k < l0.length
    · have p1 : 0 ≤ x := by omega
      have q1 : x < (l0.length : Int) := by omega
      obtain ⟨ad, e1, hcell⟩ := Kd.at_int HR0.out x p1 q1
      subst e1
      have p2 := eq_true p1
      have q2 := eq_true q1
      have q3 : decide (x < (l0.length : Int)) = true := decide_eq_true q1
      rw [drop_rd hlt, ← hxk] at hs
      simp only [sound, List.all_cons] at hs
      have HX2 : Aside0 (wrap64 (x + 1) = ((k + 1 : Nat) : Int)) := by
        have := HN.out
        exact ⟨by rw [w64 (by omega) (by omega)]; omega⟩
      have hm : (intOf (.int .i64 (wrap64 (x + 1)))).toNat = k + 1 := by rw [HX2.out]; simp [intOf]
      have hm0 : (intOf (.int .i64 x)).toNat = k := by rw [hxk]; simp [intOf]
      have HM : Aside0 (l0.length - (intOf (.int .i64 (wrap64 (x + 1)))).toNat < l0.length - (intOf (.int .i64 x)).toNat) := ⟨by rw [hm, hm0]; omega⟩
      have HK : Aside0 (k + 1 ≤ l0.length) := ⟨hlt⟩
      cases hf : formed (rd l0 x) with
      | false =>
        have F := fun w => formed_calls (rd l0 x) false w hf
        rw [hf, Bool.false_and] at hs
        subst hs
        clear hf hm hm0 hxk hk hlt p1 q1 HX HR
        go_wp2_with (go_at_call 15; (with_reducible refine (F _).mono ?_); rintro e w' ⟨rfl, ⟨nd, rfl⟩⟩)
        go_ret
        exact ⟨rfl, by repeat (first | exact Drawn0.refl _ | exact ⟨_, rfl⟩ | apply Drawn0.step)⟩
      | true =>
        have F := fun w => formed_calls (rd l0 x) true w hf
        rw [hf, Bool.true_and] at hs
        have HS := Aside0.mk hs
        clear hf hm hm0 hxk hk hlt p1 q1 hs HX HR
        go_wp2_with (go_at_call 15; (with_reducible refine (F _).mono ?_); rintro e w' ⟨rfl, ⟨nd, rfl⟩⟩)
        go_roundw
        case measure => exact HM.out
        case rel => exact ⟨k + 1, _, rfl, ⟨HX2.out, HK.out, HS.out⟩, ⟨by repeat (first | exact Drawn0.refl _ | exact ⟨_, rfl⟩ | apply Drawn0.step)⟩⟩
    · obtain rfl : k = l0.length := by omega
      have q3 : decide (x < (l0.length : Int)) = false := decide_eq_false (by omega)
      rw [List.drop_of_length_le (Nat.le_refl _)] at hs
      obtain rfl : true = r := hs
      clear hxk hk hlt HX HR
      go_wp2
      go_ret
      exact ⟨rfl, by repeat (first | exact Drawn0.refl _ | exact ⟨_, rfl⟩ | apply Drawn0.step)⟩
end Go.Proofs.YtamefocngapkpaaHand
