/- The law's statement over numbers and lists. -/
import Derived.Test.YtkaacdfikaggfaaPAx3
namespace Go.Proofs.Ytkaacdfikaggfaa.PA
open Go.RowKit Go.Proofs.YtkaacdfikaggfaaW.PrintWords
def UriDecodes.Pure : Prop := ∀ (a0 : ByteArray) (a1 : Bool), a0.size ≤ 140737488351232 → (a0.size + 1) + 1 ≤ 1048576 → ∃ k, cloisterlaw06_UriDecodes.f k a0 a1 = some true
end Go.Proofs.Ytkaacdfikaggfaa.PA
