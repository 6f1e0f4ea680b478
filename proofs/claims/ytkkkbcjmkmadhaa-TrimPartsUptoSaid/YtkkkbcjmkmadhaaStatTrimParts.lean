/- The statement of TrimParts over numbers and lists (Stmt), and the walk of the law out of its contract. Written by row.py. -/
import Derived.Test.YtkkkbcjmkmadhaaGTrimPartsx2
import Derived.Test.YtkkkbcjmkmadhaaOpens
namespace Go.Proofs.Ytkkkbcjmkmadhaa.PTrimParts
open Go.RowKit Go.Proofs.YtkkkbcjmkmadhaaW.PrintWords Go.Proofs.YtkkkbcjmkmadhaaW.PrintLast Go.Proofs.YtkkkbcjmkmadhaaW.PrintMore Go.Proofs.YtkkkbcjmkmadhaaOpens
set_option linter.unusedVariables false
set_option linter.unusedSimpArgs false
def Stmt : Prop := ∀ (l0 : List (S29)) (l1 : List (Bool)) (a2_0 : Bool) (l2_1 : List (Int)), (l0.length * 32 ≤ 140737488351232 ∧ ∀ y1 ∈ l0, (True) ∧ (y1.f1.length * 8 ≤ 140737488351232 ∧ ∀ y2 ∈ y1.f1, (Lit.int .i64 y2).wf = true)) → (l1.length * 1 ≤ 140737488351232 ∧ ∀ y5 ∈ l1, True) → ((True) ∧ (l2_1.length * 8 ≤ 140737488351232 ∧ ∀ y7 ∈ l2_1, (Lit.int .i64 y7).wf = true)) → (sumOf (fun y3 => ((1 + (sumOf (fun y4 => 1) y3.f1 + 1)) + 1)) l0 + 1) + (sumOf (fun y6 => 1) l1 + 1) + ((1 + (sumOf (fun y8 => 1) l2_1 + 1)) + 1) ≤ 1048576 → ∃ k, depotlaw12_TrimParts.f k l0 l1 a2_0 l2_1 = some true
theorem walk (P : Stmt) (A0 : Option Addr) (c0 : Nat) (l0 : List (S29)) (A1 : Option Addr) (c1 : Nat) (l1 : List (Bool)) (a2_0 : Bool) (A2_1 : Option Addr) (c2_1 : Nat) (l2_1 : List (Int)) (w : World) (hr0 : Kd.C k29 w A0 l0.length l0) (hc0 : l0.length ≤ c0) (hr1 : Kd.C Kd.bool w A1 l1.length l1) (hc1 : l1.length ≤ c1) (hr2_1 : Kd.C (Kd.int .i64) w A2_1 l2_1.length l2_1) (hc2_1 : l2_1.length ≤ c2_1) (ok0 : l0.length * 32 ≤ 140737488351232 ∧ ∀ y1 ∈ l0, (True) ∧ (y1.f1.length * 8 ≤ 140737488351232 ∧ ∀ y2 ∈ y1.f1, (Lit.int .i64 y2).wf = true)) (ok1 : l1.length * 1 ≤ 140737488351232 ∧ ∀ y5 ∈ l1, True) (ok2 : (True) ∧ (l2_1.length * 8 ≤ 140737488351232 ∧ ∀ y7 ∈ l2_1, (Lit.int .i64 y7).wf = true)) (hm : (sumOf (fun y3 => ((1 + (sumOf (fun y4 => 1) y3.f1 + 1)) + 1)) l0 + 1) + (sumOf (fun y6 => 1) l1 + 1) + ((1 + (sumOf (fun y8 => 1) l2_1 + 1)) + 1) ≤ 1048576) :
    Calls Try.prog 5 #[.slice A0 l0.length c0, .slice A1 l1.length c1, .agg #[.bool a2_0, .slice A2_1 l2_1.length c2_1]] w fun e w' => e = .returned (.bool true) ∧ Below w.heap.size w w' := by
  obtain ⟨k, h⟩ := P l0 l1 a2_0 l2_1 ok0 ok1 ok2 hm
  refine (depotlaw12_TrimParts.calls k A0 c0 l0 A1 c1 l1 a2_0 A2_1 c2_1 l2_1 true w hr0 hc0 hr1 hc1 hr2_1 hc2_1 h).mono ?_
  rintro e w' ⟨rfl, hd⟩
  exact ⟨rfl, hd⟩
end Go.Proofs.Ytkkkbcjmkmadhaa.PTrimParts
