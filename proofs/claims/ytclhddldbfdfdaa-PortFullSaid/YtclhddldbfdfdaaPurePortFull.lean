/- The pure statement of PortFull. -/
import Derived.Test.YtclhddldbfdfdaaStPortFull
namespace Go.Proofs.Ytclhddldbfdfdaa
theorem Pure.PortFull : Ppt.PortFull.Pure := by
  intro a0 a1
  intros
  exact ⟨0, rfl⟩
end Go.Proofs.Ytclhddldbfdfdaa
