/- The pure statement of LabelOrder. -/
import Derived.Test.YtdmgcbelnnggbaaGreatDoorStLabelOrder
namespace Go.Proofs.YtdmgcbelnnggbaaGreatDoor
theorem sum_ones : ∀ l : List Int, (l.map fun _ => (1 : Nat)).sum = l.length := fun l => by induction l <;> simp_all <;> omega
theorem Pure.LabelOrder : PA.LabelOrder.Pure := by
  unfold PA.LabelOrder.Pure
  intros
  simp only [sum_ones] at *
  exact ⟨0, if_pos ⟨by omega, by omega⟩⟩
end Go.Proofs.YtdmgcbelnnggbaaGreatDoor
