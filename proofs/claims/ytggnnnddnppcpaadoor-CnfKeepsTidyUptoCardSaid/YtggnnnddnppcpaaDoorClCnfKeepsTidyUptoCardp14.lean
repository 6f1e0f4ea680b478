/- Texts of the claim of CnfKeepsTidyUptoCard. -/
import Derived.Test.YtggnnnddnppcpaaDoorClCnfKeepsTidyUptoCardp0
import Derived.Laws.StructEq
/-! text YtggnnnddnppcpaaDoorWEqStruct -/
/-! ### 53. '==' of structs as_ one Bool -/
namespace Go.Proofs.YtggnnnddnppcpaaDoorW.PrintWords
open Go.RowKit
section
variable {P : Program} {d : Nat} {xs ys : Array Value} {f : Field} {fs : List Field} {a b : Value} {r s : Bool} {w : World}
end
end Go.Proofs.YtggnnnddnppcpaaDoorW.PrintWords
