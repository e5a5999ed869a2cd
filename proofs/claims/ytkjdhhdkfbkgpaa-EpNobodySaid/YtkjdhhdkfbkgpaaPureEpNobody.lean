/- The pure statement of EpNobody. -/
import Derived.Test.YtkjdhhdkfbkgpaaStEpNobody
namespace Go.Proofs.Ytkjdhhdkfbkgpaa
theorem Pure.EpNobody : Pvm.EpNobody.Pure := by
  intro a0 a1
  intros
  exact ⟨0, rfl⟩
end Go.Proofs.Ytkjdhhdkfbkgpaa
