/- The pure statement of VmDepths. -/
import Derived.Test.YtbdamgopggeikaaStVmDepths
namespace Go.Proofs.Ytbdamgopggeikaa
theorem Pure.VmDepths : Pvm.VmDepths.Pure := by
  intro a0
  intros
  exact ⟨0, rfl⟩
end Go.Proofs.Ytbdamgopggeikaa
