/- The pure statement of PortOrder. -/
import Derived.Test.YtclhddldbfdfdaaStPortOrder
namespace Go.Proofs.Ytclhddldbfdfdaa
theorem Pure.PortOrder : Ppt.PortOrder.Pure := by
  intro l0 l1
  intros
  exact ⟨0, rfl⟩
end Go.Proofs.Ytclhddldbfdfdaa
