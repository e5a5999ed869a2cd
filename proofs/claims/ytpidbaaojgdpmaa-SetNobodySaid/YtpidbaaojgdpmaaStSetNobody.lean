/- The law's statement over numbers and lists. -/
import Derived.Test.YtpidbaaojgdpmaaSetNobH
namespace Go.Proofs.Ytpidbaaojgdpmaa.PN
open Go.RowKit Go.Proofs.YtpidbaaojgdpmaaW.PrintWords
def SetNobody.Pure : Prop := ∀ (a0 : Int), (Lit.int .i64 a0).wf = true → ∃ k, SetNobH.f k a0 = some true
end Go.Proofs.Ytpidbaaojgdpmaa.PN
