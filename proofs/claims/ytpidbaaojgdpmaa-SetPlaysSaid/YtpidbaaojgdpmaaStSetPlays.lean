/- The law's statement over numbers and lists. -/
import Derived.Test.YtpidbaaojgdpmaaSetPlaysH
namespace Go.Proofs.Ytpidbaaojgdpmaa.PN
open Go.RowKit Go.Proofs.YtpidbaaojgdpmaaW.PrintWords
def SetPlays.Pure : Prop := ∀ (a0 : Int) (l1 : List (S41)), (Lit.int .i64 a0).wf = true → l1.length * 16 ≤ 140737488351232 → (∀ e_ ∈ l1, (Lit.int .i64 e_.f0).wf = true ∧ (Lit.int .i64 e_.f1).wf = true) → ∃ k, SetPlaysH.f k a0 l1 = some true
end Go.Proofs.Ytpidbaaojgdpmaa.PN
