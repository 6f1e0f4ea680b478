/- One text of the claim of LitsResolves: its functions as plain Lean functions, each with the proof that the code comes to these answers. Laid by standin.py out of the print of the seat; what the print does not take is proved by hand. -/
import Derived.Test.YtamefocngapkpaaProg
import Derived.Below
import Derived.Deep.Draws
import Derived.Deep.AppendLies
import Derived.Maps.AppendAt
import Derived.OwnWalk
import Derived.Laws.BytesArg
import Derived.Laws.MakeOwn
import Derived.Laws.OwnMore
import Derived.Deep.OwnRows
import Derived.Tactics
import Derived.Lib.ConvBytes
import Derived.Laws.Slices
import Derived.WalkKit
import Derived.KernelRfl
import Derived.RowKit3
import Derived.Deep.LoopGhost
import Derived.Deep.QuietTactic
import Derived.BigQuiet
import Derived.WideLaws
import Derived.Deep.DeepCutAuto
import Derived.Deep.CutBlock
import Derived.Deep.RegionHeld3
import Derived.Laws.Rows
import Derived.Lib.AppendStr
import Derived.ArgAppend
import Derived.Laws.IdiomCopy
import Derived.OrdersHeld
import Derived.Laws.BitsLemmas
import Derived.RowKit
import Derived.Test.YtamefocngapkpaaWWords
import Derived.Test.YtamefocngapkpaaWLast
import Derived.Test.YtamefocngapkpaaWTab
import Derived.Test.YtamefocngapkpaaWFour
import Derived.Test.YtamefocngapkpaaWQPut
import Derived.Test.YtamefocngapkpaaWApart
import Derived.Test.YtamefocngapkpaaWArr
import Derived.Test.YtamefocngapkpaaWZeros
import Derived.Test.YtamefocngapkpaaWFoot
import Derived.Test.YtamefocngapkpaaWKept
import Derived.Test.YtamefocngapkpaaWShare
import Derived.Test.YtamefocngapkpaaWN
import Derived.Test.YtamefocngapkpaaWFootNe
import Derived.Test.YtamefocngapkpaaWAt
import Derived.Test.YtamefocngapkpaaWEqStruct
import Derived.Test.YtamefocngapkpaaWRepsOne
import Derived.Test.YtamefocngapkpaaWInv
import Derived.Test.YtamefocngapkpaaWInvWords
import Derived.Test.YtamefocngapkpaaWGuard
import Derived.Test.YtamefocngapkpaaWNEv
import Derived.Test.YtamefocngapkpaaWMore
namespace Go.Proofs.Ytamefocngapkpaa.PLitsResolves
open Go.RowKit Go.Proofs.YtamefocngapkpaaW.PrintWords Go.Proofs.YtamefocngapkpaaW.PrintLast Go.Proofs.YtamefocngapkpaaW.PrintMore
attribute [local go_sem] max2_int min2_int max_two min_two max_three min_three max_four min_four   -- for this text's walks alone
set_option linter.unusedVariables false
set_option linter.unusedSimpArgs false



def errW : Option Int → Value
  | none => .nilIface
  | some c => .iface 0 (.int .i64 c)
theorem errW_none : errW none = .nilIface := rfl
theorem errW_some (c : Int) : errW (some c) = .iface 0 (.int .i64 c) := rfl

theorem info3 : (Try.prog.info? 3).map (fun i => (i.zero, i.size, i.bytes)) = some (some (.int .i64 0), 1, 8) := by kernel_rfl
-- the values' own types

end Go.Proofs.Ytamefocngapkpaa.PLitsResolves
