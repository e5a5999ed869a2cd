/- The pure statement of SetAlgebra. -/
import Derived.Test.YtpidbaaojgdpmaaStSetAlgebra
namespace Go.Proofs.Ytpidbaaojgdpmaa
theorem Pure.SetAlgebra : PA.SetAlgebra.Pure := by
  intro l0 l1 l2 _ _ _ _ _ _ hb
  have hs : ∀ l : List Int, (l.map fun _ => (1 : Nat)).sum = l.length := fun l => by induction l <;> simp_all <;> omega
  have h0 := hs l0
  have h1 := hs l1
  have h2 := hs l2
  exact ⟨0, if_pos ⟨by omega, by omega, by omega⟩⟩
end Go.Proofs.Ytpidbaaojgdpmaa
