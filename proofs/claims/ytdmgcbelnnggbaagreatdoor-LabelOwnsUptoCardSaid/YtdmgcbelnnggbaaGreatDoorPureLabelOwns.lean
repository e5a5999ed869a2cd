/- The pure statement of LabelOwns. -/
import Derived.Test.YtdmgcbelnnggbaaGreatDoorStLabelOwns
namespace Go.Proofs.YtdmgcbelnnggbaaGreatDoor
theorem sum_ones : ∀ l : List Int, (l.map fun _ => (1 : Nat)).sum = l.length := fun l => by induction l <;> simp_all <;> omega
theorem Pure.LabelOwns : PA.LabelOwns.Pure := by
  unfold PA.LabelOwns.Pure
  intro l0 l1 l2 l3 l4
  intros
  simp only [sum_ones] at *
  obtain ⟨k, hk⟩ := Semown.owns_ev l0 l1 l2 l3 l4 (by omega)
  exact ⟨k, hk k (Nat.le_refl _)⟩
end Go.Proofs.YtdmgcbelnnggbaaGreatDoor
