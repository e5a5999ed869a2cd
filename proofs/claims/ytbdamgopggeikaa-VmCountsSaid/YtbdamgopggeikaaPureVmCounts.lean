/- The pure statement of VmCounts. -/
import Derived.Test.YtbdamgopggeikaaStVmCounts
namespace Go.Proofs.Ytbdamgopggeikaa
theorem Pure.VmCounts : Pvm.VmCounts.Pure := by
  intro a0
  intros
  exact ⟨0, rfl⟩
end Go.Proofs.Ytbdamgopggeikaa
