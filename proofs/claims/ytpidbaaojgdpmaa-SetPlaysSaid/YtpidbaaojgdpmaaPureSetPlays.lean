/- The pure statement of SetPlays. -/
import Derived.Test.YtpidbaaojgdpmaaStSetPlays
namespace Go.Proofs.Ytpidbaaojgdpmaa
theorem Pure.SetPlays : PN.SetPlays.Pure := by
  intro a0 l1
  intros
  exact ⟨0, rfl⟩
end Go.Proofs.Ytpidbaaojgdpmaa
