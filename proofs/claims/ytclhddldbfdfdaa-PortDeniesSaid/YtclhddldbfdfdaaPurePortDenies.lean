/- The pure statement of PortDenies. -/
import Derived.Test.YtclhddldbfdfdaaStPortDenies
namespace Go.Proofs.Ytclhddldbfdfdaa
theorem Pure.PortDenies : Ppt.PortDenies.Pure := by
  intro a0_0 a0_1 a0_2 l0_3 l0_4 l0_5 a0_6 a0_7
  intros
  exact ⟨0, if_pos (decide_eq_true (by assumption))⟩
end Go.Proofs.Ytclhddldbfdfdaa
