/- The pure statement of VmParts. -/
import Derived.Test.YtbdamgopggeikaaStVmParts
namespace Go.Proofs.Ytbdamgopggeikaa
theorem Pure.VmParts : Pvm.VmParts.Pure := by
  intro l0_0 a0_1 l0_2 l0_3 a0_4 a1 a2 h0 _ _ h2 _ h3 _ h4 w0 w1
  exact ⟨0, if_pos (decide_eq_true ⟨h4, h0, h2, h3, w0, w1⟩)⟩
end Go.Proofs.Ytbdamgopggeikaa
