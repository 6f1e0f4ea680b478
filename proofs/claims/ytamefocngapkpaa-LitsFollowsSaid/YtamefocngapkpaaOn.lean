/- What lits.on answers: what follows from two clauses on a pivot of theirs. -/
import Derived.Test.YtamefocngapkpaaWithout
import Derived.Test.YtamefocngapkpaaJoin
import Derived.Test.YtamefocngapkpaaTidyPure
namespace Go.Proofs.YtamefocngapkpaaMath
open Go.RowKit Go.Proofs.YtamefocngapkpaaW.PrintWords
/-- the literals of the list but one, tidy -/
def lessOf (c : List Int) (l : Int) : List Int := (tidyOf c).filter fun x => !(x == l)
theorem lessOf_length (c : List Int) (l : Int) : (lessOf c l).length ≤ 2097152 := Nat.le_trans (List.length_filter_le _ _) (formed_count (tidyOf c) (rising_tidyOf _) (fun _ h => tidyOf_formed h))
/-- what follows from both on v -/
def onOf (a b : List Int) (v : Int) : List Int := tidyOf (lessOf a v ++ lessOf b (-v))
end Go.Proofs.YtamefocngapkpaaMath
namespace Go.Proofs.YtamefocngapkpaaHand
open Go.RowKit Go.Sort Go.Lib Go.Shelf Go.Proofs.YtamefocngapkpaaW.PrintWords Go.Proofs.YtamefocngapkpaaW.PrintLast Go.Proofs.YtamefocngapkpaaMath
set_option linter.unusedVariables false
set_option linter.unusedSimpArgs false

set_option maxHeartbeats 4000000 in
set_option maxRecDepth 100000 in
theorem on_calls (A0 A1 : Option Addr) (c0 c1 : Nat) (l0 l1 : List Int) (v : Int) (w : World) (hr0 : Kd.C (Kd.int .i64) w A0 l0.length l0) (hc0 : l0.length ≤ c0) (hr1 : Kd.C (Kd.int .i64) w A1 l1.length l1) (hc1 : l1.length ≤ c1)
    (hn0 : l0.length ≤ 17592186044416) (hn1 : l1.length ≤ 17592186044416) (hv : -9223372036854775807 ≤ v ∧ v ≤ 9223372036854775807) :
    Calls Try.prog 69 #[.slice A0 l0.length c0, .slice A1 l1.length c1, .int .i64 v] w fun e w' => ∃ v0_ : Value, e = .returned (v0_) ∧ Kd.R (Kd.int .i64) 3 w' w.heap.size (fun _ => True) v0_ (onOf l0 l1 v) ∧ Below w.heap.size w w' := by
  have HR0 := Aside0.mk hr0
  have HR1 := Aside0.mk hr1
  have W0 := fun w (h : Kd.C (Kd.int .i64) w A0 l0.length l0) => without_calls A0 c0 l0 v w h hc0 hn0
  have W1 := fun w (h : Kd.C (Kd.int .i64) w A1 l1.length l1) => without_calls A1 c1 l1 (-v) w h hc1 hn1
  have hneg : wrap64 (-v) = -v := by unfold wrap64; omega
  have z0 := lessOf_length l0 v
  have z1 := lessOf_length l1 (-v)
  unfold lessOf at z0 z1
  obtain ⟨r, hr⟩ : ∃ r, r = onOf l0 l1 v := ⟨_, rfl⟩
  rw [← hr]
  unfold onOf lessOf at hr
  generalize (tidyOf l0).filter (fun x => !(x == v)) = y0 at W0 z0 hr
  generalize (tidyOf l1).filter (fun x => !(x == -v)) = y1 at W1 z1 hr
  rw [← hneg] at W1
  have HW0 := Aside0.mk W0
  have HW1 := Aside0.mk W1
  have HZ : Aside0 (y0.length + y1.length ≤ 17592186044416) := ⟨by omega⟩
  have HR := Aside0.mk hr
  clear W0 W1 hr0 hr1 hn0 hn1 z0 z1 hr hc0 hc1 hv hneg
  go_enter Try.func69, Try.ntmps69
  go_wp2_with fail
  (with_reducible refine (HW0.out _ HR0.out).mono ?_)
  rintro e w1 ⟨v1, rfl, ho, hb⟩
  obtain ⟨Ao1, co1, eo1⟩ := Kd.R_slice ho
  subst eo1
  have HO1 := Aside0.mk ho
  have HB := Aside0.mk hb
  clear ho hb
  go_wp2_with fail
  (with_reducible refine (HW1.out _ (Kd.C_below HR1.out HB.out)).mono ?_)
  rintro e w2 ⟨v2, rfl, ho, hb⟩
  obtain ⟨Ao2, co2, eo2⟩ := Kd.R_slice ho
  subst eo2
  have HO12 := Aside0.mk (Kd.R_below HO1.out hb)
  have HO2 := Aside0.mk ho
  have HB2 : Aside0 (Below w.heap.size w w2) := ⟨below_step HB.out hb⟩
  clear ho hb
  go_wp2_with fail
  (with_reducible refine (join_calls Ao1 Ao2 co1 co2 y0 y1 w2 (Kd.R_reads' HO12.out).2.2 (Kd.R_reads' HO12.out).2.1 (Kd.R_reads' HO2.out).2.2 (Kd.R_reads' HO2.out).2.1 HZ.out).mono ?_)
  rintro e w3 ⟨v3, rfl, ho, hb⟩
  rw [← HR.out] at ho
  have HO3 := Aside0.mk (Kd.R_lower ho HB2.out.size)
  have HB3 : Aside0 (Below w.heap.size w w3) := ⟨below_step HB2.out hb⟩
  clear ho hb
  go_wp2
  go_ret
  exact ⟨_, rfl, HO3.out, HB3.out⟩
end Go.Proofs.YtamefocngapkpaaHand
