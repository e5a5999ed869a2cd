/- Written by this claim's own program (hyb.py) out of the kit's print: Go functions as plain Lean functions, and that the machine's calls come to them. -/
import Derived.Test.YtdmgcbelnnggbaaGreatDoorPownx0
namespace Go.Proofs.YtdmgcbelnnggbaaGreatDoor.Pown
open Go.Proofs.YtdmgcbelnnggbaaGreatDoor.Plab
open Go.RowKit Go.Proofs.YtdmgcbelnnggbaaGreatDoorW.PrintWords Go.Proofs.YtdmgcbelnnggbaaGreatDoorW.PrintLast Go.Proofs.YtdmgcbelnnggbaaGreatDoorW.PrintMore
attribute [local go_sem] max2_int min2_int max_two min_two max_three min_three max_four min_four   -- for this text's walks alone
set_option linter.unusedVariables false
set_option linter.unusedSimpArgs false

/-! ### cloisterlaw02_awake: function 11 (taken by hand) -/
def cloisterlaw02_awake.f : Option (Bool) := some true
set_option maxHeartbeats 8000000 in
set_option maxRecDepth 100000 in
theorem cloisterlaw02_awake.calls {w0 w : World} (hE : Aside0 (LabW.Env w0)) (hb_ : Below w0.heap.size w0 w) (r : Bool) (h : cloisterlaw02_awake.f = some r) :
    Calls Tryz.prog 11 #[] w fun e w' => e = .returned (.bool r) ∧ Below w.heap.size w w' := by
  obtain rfl := Option.some.inj h; exact LabW.awake_calls w (hE.out.below hb_)

-- label_cats: in the group lab

-- label_Check: in the group lab

-- label_both: in the group lab

-- set_Join_int: in the group lab

-- set_Less_int: in the group lab

-- set_Within_int: in the group lab

-- label_Flows: in the group lab

-- cloisterref01_Rises: in the group lab

-- cloisterref02_Cats: in the group lab

-- cloisterref02_May: in the group lab

-- cloisterref01_Has: in the group lab

-- cloisterref01_Of: in the group lab

-- cloisterref01_Less: in the group lab

-- cloisterref01_Within: in the group lab

-- cloisterref01_Join: in the group lab

-- cloisterref02_Lacks: in the group lab

-- cloisterref02_Flows: in the group lab

-- cloisterref01_Same: in the group lab

end Go.Proofs.YtdmgcbelnnggbaaGreatDoor.Pown
