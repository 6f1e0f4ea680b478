/- What cnf's questions of one formula answer, in plain words. (Over the kit's print of CnfTold.) -/
import Derived.Test.YtggnnnddnppcpaaCnfFormed
import Derived.Test.YtggnnnddnppcpaaTidy
namespace Go.Proofs.YtggnnnddnppcpaaHand
open Go.RowKit Go.Proofs.YtggnnnddnppcpaaW.PrintWords Go.Proofs.YtggnnnddnppcpaaW.PrintLast Go.Proofs.YtggnnnddnppcpaaMath Go.Proofs.Ytggnnnddnppcpaa.PCnfTold
set_option linter.unusedVariables false
set_option linter.unusedSimpArgs false
theorem holdsIn_calls (A0 A1 : Option Addr) (c0 c1 : Nat) (c : List Int) (m : List Bool) (v : Int) (w : World) (hr0 : Kd.C (Kd.int .i64) w A0 c.length c) (hc0 : c.length ≤ c0) (hr1 : Kd.C Kd.bool w A1 m.length m) (hc1 : m.length ≤ c1) (hv : (m.length : Int) = v) (hw : within c v = true) (hn : c.length ≤ 17592186044416) :
    Calls Try.prog 66 #[.slice A0 c.length c0, .slice A1 m.length c1] w fun e w' => e = .returned (.bool (holdsIn c m)) ∧ Drawn0 w w' := by
  obtain ⟨k, h⟩ := (cnf_holds_ev c m v hv hw hn).rounds
  exact cnf_holds.calls k A0 c0 c A1 c1 m _ w hr0 hc0 hr1 hc1 h
theorem allIn_calls (v : Int) (A0 A1 : Option Addr) (c0 c1 : Nat) (cs : List (List Int)) (m : List Bool) (w : World) (hr0 : Kd.C (Kd.slice 3 (Kd.int .i64)) w A0 cs.length cs) (hc0 : cs.length ≤ c0) (hr1 : Kd.C Kd.bool w A1 m.length m) (hc1 : m.length ≤ c1) (hv : (m.length : Int) = v) (hw : ∀ c ∈ cs, within c v = true) (hn : cs.length ≤ 17592186044416) (hs : ∀ c ∈ cs, c.length ≤ 17592186044416) :
    Calls Try.prog 65 #[.agg #[.int .i64 v, .slice A0 cs.length c0], .slice A1 m.length c1] w fun e w' => e = .returned (.bool (allIn cs m)) ∧ Below w.heap.size w w' := by
  obtain ⟨k, h⟩ := (cnf_all_ev v cs m hv hw hn hs v).rounds
  exact cnf_all.calls k v A0 c0 cs A1 c1 m _ w hr0 hc0 hr1 hc1 h
end Go.Proofs.YtggnnnddnppcpaaHand
