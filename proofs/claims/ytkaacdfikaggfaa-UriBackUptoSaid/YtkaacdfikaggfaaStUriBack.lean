/- The law's statement over numbers and lists. -/
import Derived.Test.YtkaacdfikaggfaaPAx5
namespace Go.Proofs.Ytkaacdfikaggfaa.PA
open Go.RowKit Go.Proofs.YtkaacdfikaggfaaW.PrintWords
def UriBack.Pure : Prop := ∀ (a0 : ByteArray), a0.size ≤ 140737488351232 → (a0.size + 1) ≤ 1048576 → ∃ k, cloisterlaw06_UriBack.f k a0 = some true
end Go.Proofs.Ytkaacdfikaggfaa.PA
