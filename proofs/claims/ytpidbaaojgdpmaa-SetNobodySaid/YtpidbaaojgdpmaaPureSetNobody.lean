/- The pure statement of SetNobody. -/
import Derived.Test.YtpidbaaojgdpmaaStSetNobody
namespace Go.Proofs.Ytpidbaaojgdpmaa
theorem Pure.SetNobody : PN.SetNobody.Pure := fun _ _ => ⟨0, rfl⟩
end Go.Proofs.Ytpidbaaojgdpmaa
