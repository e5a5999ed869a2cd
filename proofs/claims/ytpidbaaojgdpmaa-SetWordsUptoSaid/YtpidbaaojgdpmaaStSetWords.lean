/- The law's statement over numbers and lists. -/
import Derived.Test.YtpidbaaojgdpmaaSetWordsH
namespace Go.Proofs.Ytpidbaaojgdpmaa.PW
open Go.RowKit Go.Proofs.YtpidbaaojgdpmaaW.PrintWords
def SetWords.Pure : Prop := ∀ (l0 : List ByteArray) (l1 : List ByteArray), l0.length * 16 ≤ 140737488351232 → (∀ e_ ∈ l0, e_.size ≤ 140737488351232) → l1.length * 16 ≤ 140737488351232 → (∀ e_ ∈ l1, e_.size ≤ 140737488351232) → ((l0.map fun e_ => (e_.size + 1)).sum + 1) + ((l1.map fun e_ => (e_.size + 1)).sum + 1) ≤ 1048576 → ∃ k, SetWordsH.f k l0 l1 = some true
end Go.Proofs.Ytpidbaaojgdpmaa.PW
