/- The law's statement over numbers and lists. -/
import Derived.Test.YtkaacdfikaggfaaPPx3
namespace Go.Proofs.Ytkaacdfikaggfaa.PP
open Go.RowKit Go.Proofs.YtkaacdfikaggfaaW.PrintWords
def UriPlus.Pure : Prop := ∀ (a0 : ByteArray), a0.size ≤ 140737488351232 → (a0.size + 1) ≤ 1048576 → ∃ k, cloisterlaw06_UriPlus.f k a0 = some true
end Go.Proofs.Ytkaacdfikaggfaa.PP
