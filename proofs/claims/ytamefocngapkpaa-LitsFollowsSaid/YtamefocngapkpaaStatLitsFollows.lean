/- The statement of LitsFollows over numbers and lists (Stmt), and the walk of the law out of its contract. Written by row.py. -/
import Derived.Test.YtamefocngapkpaaFollowsLaw
import Derived.Test.YtamefocngapkpaaOpens
namespace Go.Proofs.Ytamefocngapkpaa.PLitsFollows
open Go.RowKit Go.Proofs.YtamefocngapkpaaW.PrintWords Go.Proofs.YtamefocngapkpaaW.PrintLast Go.Proofs.YtamefocngapkpaaW.PrintMore Go.Proofs.YtamefocngapkpaaOpens
set_option linter.unusedVariables false
set_option linter.unusedSimpArgs false
def Stmt : Prop := ∀ (l0 : List (Int)) (l1 : List (Int)) (a2 : Int) (l3 : List (Bool)), (l0.length * 8 ≤ 140737488351232 ∧ ∀ y1 ∈ l0, (Lit.int .i64 y1).wf = true) → (l1.length * 8 ≤ 140737488351232 ∧ ∀ y3 ∈ l1, (Lit.int .i64 y3).wf = true) → ((Lit.int .i64 a2).wf = true) → (l3.length * 1 ≤ 140737488351232 ∧ ∀ y5 ∈ l3, True) → depotlaw01_LitsFollows.f l0 l1 a2 l3 = some true
theorem walk (P : Stmt) (A0 : Option Addr) (c0 : Nat) (l0 : List (Int)) (A1 : Option Addr) (c1 : Nat) (l1 : List (Int)) (a2 : Int) (A3 : Option Addr) (c3 : Nat) (l3 : List (Bool)) (w : World) (hr0 : Kd.C (Kd.int .i64) w A0 l0.length l0) (hc0 : l0.length ≤ c0) (hr1 : Kd.C (Kd.int .i64) w A1 l1.length l1) (hc1 : l1.length ≤ c1) (hr3 : Kd.C Kd.bool w A3 l3.length l3) (hc3 : l3.length ≤ c3) (ok0 : l0.length * 8 ≤ 140737488351232 ∧ ∀ y1 ∈ l0, (Lit.int .i64 y1).wf = true) (ok1 : l1.length * 8 ≤ 140737488351232 ∧ ∀ y3 ∈ l1, (Lit.int .i64 y3).wf = true) (ok2 : (Lit.int .i64 a2).wf = true) (ok3 : l3.length * 1 ≤ 140737488351232 ∧ ∀ y5 ∈ l3, True) :
    Calls Try.prog 13 #[.slice A0 l0.length c0, .slice A1 l1.length c1, .int .i64 a2, .slice A3 l3.length c3] w fun e w' => e = .returned (.bool true) ∧ Below w.heap.size w w' := by
  have h := P l0 l1 a2 l3 ok0 ok1 ok2 ok3
  refine (depotlaw01_LitsFollows.calls A0 c0 l0 A1 c1 l1 a2 A3 c3 l3 true w hr0 hc0 hr1 hc1 hr3 hc3 h).mono ?_
  rintro e w' ⟨rfl, hd⟩
  exact ⟨rfl, hd⟩
end Go.Proofs.Ytamefocngapkpaa.PLitsFollows
