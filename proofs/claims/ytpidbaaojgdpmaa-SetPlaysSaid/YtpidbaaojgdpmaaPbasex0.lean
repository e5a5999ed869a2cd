/- Written by this claim's own program (hyb.py) out of the kit's print: Go functions as plain Lean functions, and that the machine's calls come to them. -/
import Derived.Test.YtpidbaaojgdpmaaProg
import Derived.Below
import Derived.Deep.Draws
import Derived.Deep.AppendLies
import Derived.Maps.AppendAt
import Derived.OwnWalk
import Derived.Laws.BytesArg
import Derived.Laws.MakeOwn
import Derived.Laws.OwnMore
import Derived.Deep.OwnRows
import Derived.Tactics
import Derived.Lib.ConvBytes
import Derived.Laws.Slices
import Derived.WalkKit
import Derived.KernelRfl
import Derived.RowKit3
import Derived.Deep.LoopGhost
import Derived.Deep.QuietTactic
import Derived.BigQuiet
import Derived.WideLaws
import Derived.Deep.DeepCutAuto
import Derived.Deep.CutBlock
import Derived.Deep.RegionHeld3
import Derived.Laws.Rows
import Derived.Lib.AppendStr
import Derived.ArgAppend
import Derived.Laws.IdiomCopy
import Derived.OrdersHeld
import Derived.Laws.BitsLemmas
import Derived.RowKit
import Derived.Test.YtpidbaaojgdpmaaWWords
import Derived.Test.YtpidbaaojgdpmaaWLast
import Derived.Test.YtpidbaaojgdpmaaWTab
import Derived.Test.YtpidbaaojgdpmaaWFour
import Derived.Test.YtpidbaaojgdpmaaWQPut
import Derived.Test.YtpidbaaojgdpmaaWApart
import Derived.Test.YtpidbaaojgdpmaaWArr
import Derived.Test.YtpidbaaojgdpmaaWZeros
import Derived.Test.YtpidbaaojgdpmaaWFoot
import Derived.Test.YtpidbaaojgdpmaaWKept
import Derived.Test.YtpidbaaojgdpmaaWShare
import Derived.Test.YtpidbaaojgdpmaaWN
import Derived.Test.YtpidbaaojgdpmaaWFootNe
import Derived.Test.YtpidbaaojgdpmaaWAt
import Derived.Test.YtpidbaaojgdpmaaWEqStruct
import Derived.Test.YtpidbaaojgdpmaaWRepsOne
import Derived.Test.YtpidbaaojgdpmaaWInv
import Derived.Test.YtpidbaaojgdpmaaWInvWords
import Derived.Test.YtpidbaaojgdpmaaWGuard
import Derived.Test.YtpidbaaojgdpmaaWNEv
import Derived.Test.YtpidbaaojgdpmaaWMore
namespace Go.Proofs.Ytpidbaaojgdpmaa.Pbase
open Go.RowKit Go.Proofs.YtpidbaaojgdpmaaW.PrintWords Go.Proofs.YtpidbaaojgdpmaaW.PrintLast Go.Proofs.YtpidbaaojgdpmaaW.PrintMore
attribute [local go_sem] max2_int min2_int max_two min_two max_three min_three max_four min_four   -- for this text's walks alone
set_option linter.unusedVariables false
set_option linter.unusedSimpArgs false



def errW : Option Int → Value
  | none => .nilIface
  | some c => .iface 0 (.int .i64 c)
theorem errW_none : errW none = .nilIface := rfl
theorem errW_some (c : Int) : errW (some c) = .iface 0 (.int .i64 c) := rfl

-- the values' own types

end Go.Proofs.Ytpidbaaojgdpmaa.Pbase
