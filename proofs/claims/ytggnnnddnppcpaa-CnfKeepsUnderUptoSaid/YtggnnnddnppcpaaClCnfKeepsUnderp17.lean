/- Texts of the claim of CnfKeepsUnder. -/
import Derived.Test.YtggnnnddnppcpaaClCnfKeepsUnderp16
import Derived.Test.YtggnnnddnppcpaaClCnfKeepsUnderp12
/-! text YtggnnnddnppcpaaWInvWords -/
namespace Go.Proofs.YtggnnnddnppcpaaW.PrintWords
open Go.RowKit
end Go.Proofs.YtggnnnddnppcpaaW.PrintWords
namespace Go.Proofs.YtggnnnddnppcpaaW.PrintLast
section
variable {ops : Array Oper} {a : Act} {o og : Oper} {g : Nat} {t : Tmp} {u : Bool}
end
end Go.Proofs.YtggnnnddnppcpaaW.PrintLast
