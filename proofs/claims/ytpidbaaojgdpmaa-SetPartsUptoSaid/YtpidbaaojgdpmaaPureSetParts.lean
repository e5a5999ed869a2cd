/- The pure statement of SetParts. -/
import Derived.Test.YtpidbaaojgdpmaaStSetParts
namespace Go.Proofs.Ytpidbaaojgdpmaa
theorem Pure.SetParts : PA.SetParts.Pure := by
  intro l0 l1 _ _ _ _ hb
  have hs : ∀ l : List Int, (l.map fun _ => (1 : Nat)).sum = l.length := fun l => by induction l <;> simp_all <;> omega
  have h0 := hs l0
  have h1 := hs l1
  exact ⟨0, if_pos ⟨by omega, by omega⟩⟩
end Go.Proofs.Ytpidbaaojgdpmaa
