/- Texts of the claim of CnfKeepsModels. -/
import Derived.Test.YtggnnnddnppcpaaClCnfKeepsModelsp0
import Derived.Laws.StructEq
/-! text YtggnnnddnppcpaaWEqStruct -/
/-! ### 53. '==' of structs as_ one Bool -/
namespace Go.Proofs.YtggnnnddnppcpaaW.PrintWords
open Go.RowKit
section
variable {P : Program} {d : Nat} {xs ys : Array Value} {f : Field} {fs : List Field} {a b : Value} {r s : Bool} {w : World}
end
end Go.Proofs.YtggnnnddnppcpaaW.PrintWords
