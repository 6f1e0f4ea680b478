/- The law LitsFollows in the form that row.py leans on. -/
import Derived.Test.YtamefocngapkpaaFollows
namespace Go.Proofs.Ytamefocngapkpaa.PLitsFollows
open Go.RowKit Go.Proofs.YtamefocngapkpaaW.PrintWords Go.Proofs.YtamefocngapkpaaW.PrintLast
set_option linter.unusedVariables false
def depotlaw01_LitsFollows.f (l0 l1 : List Int) (a2 : Int) (l3 : List Bool) : Option Bool := if l0.length < 17592186044416 ∧ l1.length < 17592186044416 ∧ -9223372036854775808 ≤ a2 ∧ a2 ≤ 9223372036854775807 then some true else none
theorem depotlaw01_LitsFollows.calls (A0 : Option Addr) (c0 : Nat) (l0 : List Int) (A1 : Option Addr) (c1 : Nat) (l1 : List Int) (a2 : Int) (A3 : Option Addr) (c3 : Nat) (l3 : List Bool) (r : Bool) (w : World) (hr0 : Kd.C (Kd.int .i64) w A0 l0.length l0) (hc0 : l0.length ≤ c0) (hr1 : Kd.C (Kd.int .i64) w A1 l1.length l1) (hc1 : l1.length ≤ c1) (hr3 : Kd.C Kd.bool w A3 l3.length l3) (hc3 : l3.length ≤ c3) (h : depotlaw01_LitsFollows.f l0 l1 a2 l3 = some r) :
    Calls Try.prog 13 #[.slice A0 l0.length c0, .slice A1 l1.length c1, .int .i64 a2, .slice A3 l3.length c3] w fun e w' => e = .returned (.bool r) ∧ Below w.heap.size w w' := by
  unfold depotlaw01_LitsFollows.f at h
  split at h
  · rename_i hh
    obtain rfl := Option.some.inj h
    exact Go.Proofs.YtamefocngapkpaaHand.follows_calls A0 A1 A3 c0 c1 c3 l0 l1 a2 l3 w hr0 hc0 hr1 hc1 hr3 hc3 hh.1 hh.2.1 hh.2.2
  · cases h
#print axioms depotlaw01_LitsFollows.calls
end Go.Proofs.Ytamefocngapkpaa.PLitsFollows
