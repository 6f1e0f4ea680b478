/- Texts of the claim of CnfKeepsModels. -/
import Derived.Test.YtggnnnddnppcpaaClCnfKeepsModelsp1
import Derived.Test.YtggnnnddnppcpaaClCnfKeepsModelsp0
/-! text YtggnnnddnppcpaaWTab -/
/-! ### 50. A region's order in a table, made once a region: each step asks the table (numbers alone), not the operations -/
namespace Go.Proofs.YtggnnnddnppcpaaW.PrintLast
open Go.Proofs.YtggnnnddnppcpaaW.PrintWords (Aside0)
section
variable {md : Region.Mode} {ops : Array Oper} {T : Bool × List (List Nat × List Nat)} {l l' li lj lk : Array Bool} {ds : List Nat} {i j k : Nat}
theorem gd (l : Array Bool) (j : Nat) (b : Bool) : l.getD j b = l.toList.getD j b := by simp [Array.getD_eq_getD_getElem?, List.getD_eq_getElem?_getD]
end
end Go.Proofs.YtggnnnddnppcpaaW.PrintLast
