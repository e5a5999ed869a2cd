/- The pure statement of VmStacks. -/
import Derived.Test.YtbdamgopggeikaaStVmStacks
namespace Go.Proofs.Ytbdamgopggeikaa
theorem Pure.VmStacks : Pvm.VmStacks.Pure := by
  intro a0_0 l0_1 l0_2 a1 a2 _ h1 _ h2 _ _ w2
  exact ⟨0, if_pos (decide_eq_true ⟨h1, h2, w2⟩)⟩
end Go.Proofs.Ytbdamgopggeikaa
