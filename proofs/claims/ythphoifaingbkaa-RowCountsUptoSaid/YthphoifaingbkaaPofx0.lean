/- Written by this claim's own program (hyb.py) out of the kit's print: Go functions as plain Lean functions, and that the machine's calls come to them. -/
import Derived.Test.YthphoifaingbkaaProg
import Derived.Below
import Derived.Deep.Draws
import Derived.Deep.AppendLies
import Derived.Maps.AppendAt
import Derived.OwnWalk
import Derived.Laws.BytesArg
import Derived.Laws.MakeOwn
import Derived.Laws.OwnMore
import Derived.Deep.OwnRows
import Derived.Tactics
import Derived.Lib.ConvBytes
import Derived.Laws.Slices
import Derived.WalkKit
import Derived.KernelRfl
import Derived.RowKit3
import Derived.Deep.LoopGhost
import Derived.Deep.QuietTactic
import Derived.BigQuiet
import Derived.WideLaws
import Derived.Deep.DeepCutAuto
import Derived.Deep.CutBlock
import Derived.Deep.RegionHeld3
import Derived.Laws.Rows
import Derived.Lib.AppendStr
import Derived.ArgAppend
import Derived.Laws.IdiomCopy
import Derived.OrdersHeld
import Derived.Laws.BitsLemmas
import Derived.RowKit
import Derived.Test.YthphoifaingbkaaWWords
import Derived.Test.YthphoifaingbkaaWLast
import Derived.Test.YthphoifaingbkaaWTab
import Derived.Test.YthphoifaingbkaaWFour
import Derived.Test.YthphoifaingbkaaWQPut
import Derived.Test.YthphoifaingbkaaWApart
import Derived.Test.YthphoifaingbkaaWArr
import Derived.Test.YthphoifaingbkaaWZeros
import Derived.Test.YthphoifaingbkaaWFoot
import Derived.Test.YthphoifaingbkaaWKept
import Derived.Test.YthphoifaingbkaaWShare
import Derived.Test.YthphoifaingbkaaWN
import Derived.Test.YthphoifaingbkaaWFootNe
import Derived.Test.YthphoifaingbkaaWAt
import Derived.Test.YthphoifaingbkaaWEqStruct
import Derived.Test.YthphoifaingbkaaWRepsOne
import Derived.Test.YthphoifaingbkaaWInv
import Derived.Test.YthphoifaingbkaaWInvWords
import Derived.Test.YthphoifaingbkaaWGuard
import Derived.Test.YthphoifaingbkaaWNEv
import Derived.Test.YthphoifaingbkaaWMore
namespace Go.Proofs.Ythphoifaingbkaa.Pof
open Go.RowKit Go.Proofs.YthphoifaingbkaaW.PrintWords Go.Proofs.YthphoifaingbkaaW.PrintLast Go.Proofs.YthphoifaingbkaaW.PrintMore
attribute [local go_sem] max2_int min2_int max_two min_two max_three min_three max_four min_four   -- for this text's walks alone
set_option linter.unusedVariables false
set_option linter.unusedSimpArgs false



def errW : Option Int → Value
  | none => .nilIface
  | some c => .iface 0 (.int .i64 c)
theorem errW_none : errW none = .nilIface := rfl
theorem errW_some (c : Int) : errW (some c) = .iface 0 (.int .i64 c) := rfl

theorem info3 : (Try.prog.info? 3).map (fun i => (i.zero, i.size, i.bytes)) = some (some (.int .i64 0), 1, 8) := by kernel_rfl
theorem info5 : (Try.prog.info? 5).map (fun i => (i.zero, i.size, i.bytes)) = some (some (.int .u8 0), 1, 1) := by kernel_rfl
-- the values' own types

end Go.Proofs.Ythphoifaingbkaa.Pof
