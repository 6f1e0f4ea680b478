/- Texts of the claim of CnfKeepsTidyUptoCard. -/
import Derived.Test.YtggnnnddnppcpaaDoorClCnfKeepsTidyUptoCardp16
import Derived.Test.YtggnnnddnppcpaaDoorClCnfKeepsTidyUptoCardp12
/-! text YtggnnnddnppcpaaDoorWInvWords -/
namespace Go.Proofs.YtggnnnddnppcpaaDoorW.PrintWords
open Go.RowKit
end Go.Proofs.YtggnnnddnppcpaaDoorW.PrintWords
namespace Go.Proofs.YtggnnnddnppcpaaDoorW.PrintLast
section
variable {ops : Array Oper} {a : Act} {o og : Oper} {g : Nat} {t : Tmp} {u : Bool}
end
end Go.Proofs.YtggnnnddnppcpaaDoorW.PrintLast
