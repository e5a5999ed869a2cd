/- The pure statement of PortNobody. -/
import Derived.Test.YtclhddldbfdfdaaStPortNobody
namespace Go.Proofs.Ytclhddldbfdfdaa
theorem Pure.PortNobody : Ppt.PortNobody.Pure := by
  intro a0_0 l0_1 l0_2 l0_3 a1
  intros
  exact ⟨0, rfl⟩
end Go.Proofs.Ytclhddldbfdfdaa
