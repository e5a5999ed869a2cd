/- The pure statement of EpPages. -/
import Derived.Test.YtkjdhhdkfbkgpaaStEpPages
namespace Go.Proofs.Ytkjdhhdkfbkgpaa
theorem Pure.EpPages : Pvm.EpPages.Pure := by
  intro a0 a1 a2
  intros
  exact ⟨0, if_pos (by omega)⟩
end Go.Proofs.Ytkjdhhdkfbkgpaa
