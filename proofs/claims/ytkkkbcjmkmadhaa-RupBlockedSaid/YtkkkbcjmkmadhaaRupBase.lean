/- What rup.fit and lits.Has answer. -/
import Derived.Test.YtkkkbcjmkmadhaaCnfFormed
import Derived.Test.YtkkkbcjmkmadhaaLitsSound
import Derived.Test.YtkkkbcjmkmadhaaWithout
import Derived.Test.YtkkkbcjmkmadhaaJoin
import Derived.Test.YtkkkbcjmkmadhaaLitsTaut
import Derived.Test.YtkkkbcjmkmadhaaLaid0
namespace Go.Proofs.YtkkkbcjmkmadhaaHand
open Go.RowKit Go.Proofs.YtkkkbcjmkmadhaaW.PrintWords Go.Proofs.YtkkkbcjmkmadhaaW.PrintLast Go.Proofs.YtkkkbcjmkmadhaaMath Go.Proofs.Ytkkkbcjmkmadhaa.PRupPartners
set_option linter.unusedVariables false
set_option linter.unusedSimpArgs false

theorem has_calls (A0 : Option Addr) (c0 : Nat) (l0 : List Int) (x : Int) (w : World) (hr0 : Kd.C (Kd.int .i64) w A0 l0.length l0) (hc0 : l0.length ≤ c0) (hn : l0.length ≤ 17592186044416) :
    Calls Try.prog 63 #[.slice A0 l0.length c0, .int .i64 x] w fun e w' => e = .returned (.bool (has l0 x)) ∧ Drawn0 w w' := by
  obtain ⟨k, h⟩ := (lits_Has_ev l0 x hn).rounds
  exact lits_Has.calls k A0 c0 l0 x _ w hr0 hc0 h

set_option maxHeartbeats 4000000 in
set_option maxRecDepth 100000 in
theorem fit_calls (v1 : Int) (A1 A2 : Option Addr) (c1 c2 : Nat) (l1 : List (List Int)) (l2 : List Int) (w : World) (hr1 : Kd.C (Kd.slice 3 (Kd.int .i64)) w A1 l1.length l1) (hc1 : l1.length ≤ c1) (hr2 : Kd.C (Kd.int .i64) w A2 l2.length l2) (hc2 : l2.length ≤ c2)
    (hn : l1.length ≤ 17592186044416) (hs : ∀ c ∈ l1, c.length ≤ 17592186044416) (hn2 : l2.length ≤ 17592186044416) :
    Calls Try.prog 89 #[.agg #[.int .i64 v1, .slice A1 l1.length c1], .slice A2 l2.length c2] w fun e w' => e = .returned (.bool (isFormula v1 l1 && sound l2)) ∧ Below w.heap.size w w' := by
  have HR1 := Aside0.mk hr1
  have HR2 := Aside0.mk hr2
  have F1 := fun W h => isFormula_calls v1 A1 c1 l1 W h hc1 hn hs
  have F2 := fun W h => sound_calls A2 c2 l2 W h hn2
  have HF2 := Aside0.mk F2
  cases hf1 : isFormula v1 l1 with
  | false =>
    rw [hf1] at F1
    have HF1 := Aside0.mk F1
    clear F1 F2 hr1 hr2 hc1 hc2 hn hs hn2 hf1
    go_enter Try.func89, Try.ntmps89
    go_wp2_with fail
    have B0 : Below w.heap.size w (w.alloc (.cells #[.int .i64 v1, .slice A1 l1.length c1] 51 (0, 0))) := below_alloc (Below.refl _ _) _
    generalize hW0 : w.alloc (.cells #[.int .i64 v1, .slice A1 l1.length c1] 51 (0, 0)) = W0 at B0 ⊢
    clear hW0
    (with_reducible refine (HF1.out _ (Kd.C_below HR1.out B0)).mono ?_)
    rintro e W1 ⟨rfl, hb⟩
    have B1 := Aside0.mk (below_step B0 hb)
    clear B0 hb
    go_wp2_with fail
    go_ret
    exact ⟨rfl, B1.out⟩
  | true =>
    rw [hf1] at F1
    have HF1 := Aside0.mk F1
    clear F1 F2 hr1 hr2 hc1 hc2 hn hs hn2 hf1
    go_enter Try.func89, Try.ntmps89
    go_wp2_with fail
    have B0 : Below w.heap.size w (w.alloc (.cells #[.int .i64 v1, .slice A1 l1.length c1] 51 (0, 0))) := below_alloc (Below.refl _ _) _
    generalize hW0 : w.alloc (.cells #[.int .i64 v1, .slice A1 l1.length c1] 51 (0, 0)) = W0 at B0 ⊢
    clear hW0
    (with_reducible refine (HF1.out _ (Kd.C_below HR1.out B0)).mono ?_)
    rintro e W1 ⟨rfl, hb⟩
    have B1 := below_step B0 hb
    clear B0 hb
    go_wp2_with fail
    (with_reducible refine (HF2.out _ (Kd.C_below HR2.out B1)).mono ?_)
    rintro e W2 ⟨rfl, hd⟩
    have B2 := Aside0.mk (below_step B1 hd.below)
    clear B1 hd
    go_wp2_with fail
    go_ret
    exact ⟨rfl, B2.out⟩
end Go.Proofs.YtkkkbcjmkmadhaaHand
