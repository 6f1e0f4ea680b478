/- What cnf.within and cnf.Formed answer, in plain words. (Over the kit's print of a law that reaches them.) -/
import Derived.Test.YtggnnnddnppcpaaCnfLib
namespace Go.Proofs.YtggnnnddnppcpaaHand
open Go.RowKit Go.Proofs.YtggnnnddnppcpaaW.PrintWords Go.Proofs.YtggnnnddnppcpaaW.PrintLast Go.Proofs.YtggnnnddnppcpaaMath
open Go.Proofs.Ytggnnnddnppcpaa.PCnfTold
set_option linter.unusedVariables false
set_option linter.unusedSimpArgs false
theorem within_calls (A0 : Option Addr) (c0 : Nat) (l0 : List Int) (v : Int) (w : World) (hr0 : Kd.C (Kd.int .i64) w A0 l0.length l0) (hc0 : l0.length ≤ c0) (hn : l0.length ≤ 17592186044416) :
    Calls Try.prog 57 #[.slice A0 l0.length c0, .int .i64 v] w fun e w' => e = .returned (.bool (within l0 v)) ∧ Drawn0 w w' := by
  obtain ⟨k, h⟩ := (cnf_within_ev l0 v hn).rounds
  exact cnf_within.calls k A0 c0 l0 v _ w hr0 hc0 h
theorem isFormula_calls (v : Int) (A0 : Option Addr) (c0 : Nat) (cs : List (List Int)) (w : World) (hr0 : Kd.C (Kd.slice 3 (Kd.int .i64)) w A0 cs.length cs) (hc0 : cs.length ≤ c0) (hn : cs.length ≤ 17592186044416) (hs : ∀ c ∈ cs, c.length ≤ 17592186044416) :
    Calls Try.prog 16 #[.agg #[.int .i64 v, .slice A0 cs.length c0]] w fun e w' => e = .returned (.bool (isFormula v cs)) ∧ Below w.heap.size w w' := by
  obtain ⟨k, h⟩ := (cnf_Formed_ev v cs hn hs).rounds
  exact cnf_Formed.calls k v A0 c0 cs _ w hr0 hc0 h
end Go.Proofs.YtggnnnddnppcpaaHand
