/- The pure statement of SetWords. -/
import Derived.Test.YtpidbaaojgdpmaaStSetWords
namespace Go.Proofs.Ytpidbaaojgdpmaa
theorem Pure.SetWords : PW.SetWords.Pure := by
  intro l0 l1 _ _ _ _ hb
  have hs : ∀ l : List ByteArray, l.length ≤ (l.map fun e_ => (e_.size + 1)).sum := fun l => by induction l <;> simp_all <;> omega
  have h0 := hs l0
  have h1 := hs l1
  exact ⟨0, if_pos ⟨by omega, by omega⟩⟩
end Go.Proofs.Ytpidbaaojgdpmaa
