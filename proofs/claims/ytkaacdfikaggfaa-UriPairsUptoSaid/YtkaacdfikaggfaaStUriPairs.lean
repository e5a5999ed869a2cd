/- The law's statement over numbers and lists. -/
import Derived.Test.YtkaacdfikaggfaaPAx5
namespace Go.Proofs.Ytkaacdfikaggfaa.PA
open Go.RowKit Go.Proofs.YtkaacdfikaggfaaW.PrintWords
def UriPairs.Pure : Prop := ∀ (l0 : List (S52)), l0.length * 32 ≤ 140737488351232 → (∀ e_ ∈ l0, e_.f0.size ≤ 140737488351232 ∧ e_.f1.size ≤ 140737488351232) → ((l0.map fun e_ => ((e_.f0.size + 1) + (e_.f1.size + 1))).sum + 1) ≤ 1048576 → ∃ k, cloisterlaw06_UriPairs.f k l0 = some true
end Go.Proofs.Ytkaacdfikaggfaa.PA
