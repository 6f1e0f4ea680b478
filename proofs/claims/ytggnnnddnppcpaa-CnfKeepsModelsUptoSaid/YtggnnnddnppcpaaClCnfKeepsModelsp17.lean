/- Texts of the claim of CnfKeepsModels. -/
import Derived.Test.YtggnnnddnppcpaaClCnfKeepsModelsp16
import Derived.Test.YtggnnnddnppcpaaClCnfKeepsModelsp12
/-! text YtggnnnddnppcpaaWInvWords -/
namespace Go.Proofs.YtggnnnddnppcpaaW.PrintWords
open Go.RowKit
end Go.Proofs.YtggnnnddnppcpaaW.PrintWords
namespace Go.Proofs.YtggnnnddnppcpaaW.PrintLast
section
variable {ops : Array Oper} {a : Act} {o og : Oper} {g : Nat} {t : Tmp} {u : Bool}
end
end Go.Proofs.YtggnnnddnppcpaaW.PrintLast
