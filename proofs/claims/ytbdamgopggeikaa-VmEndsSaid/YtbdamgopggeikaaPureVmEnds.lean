/- The pure statement of VmEnds. -/
import Derived.Test.YtbdamgopggeikaaStVmEnds
namespace Go.Proofs.Ytbdamgopggeikaa
theorem Pure.VmEnds : Pvm.VmEnds.Pure := by
  intro l0_0 a0_1 l0_2 l0_3 a0_4 a1 h0 _ _ h2 _ h3 _ h4 w0
  exact ⟨0, if_pos (decide_eq_true ⟨h4, h0, h2, h3, w0⟩)⟩
end Go.Proofs.Ytbdamgopggeikaa
