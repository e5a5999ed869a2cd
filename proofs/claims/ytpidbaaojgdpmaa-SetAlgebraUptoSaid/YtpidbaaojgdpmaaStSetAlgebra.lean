/- The law's statement over numbers and lists. -/
import Derived.Test.YtpidbaaojgdpmaaSetAlgebraH
namespace Go.Proofs.Ytpidbaaojgdpmaa.PA
open Go.RowKit Go.Proofs.YtpidbaaojgdpmaaW.PrintWords
def SetAlgebra.Pure : Prop := ∀ (l0 : List Int) (l1 : List Int) (l2 : List Int), l0.length * 8 ≤ 140737488351232 → (∀ e_ ∈ l0, (Lit.int .i64 e_).wf = true) → l1.length * 8 ≤ 140737488351232 → (∀ e_ ∈ l1, (Lit.int .i64 e_).wf = true) → l2.length * 8 ≤ 140737488351232 → (∀ e_ ∈ l2, (Lit.int .i64 e_).wf = true) → ((l0.map fun e_ => 1).sum + 1) + ((l1.map fun e_ => 1).sum + 1) + ((l2.map fun e_ => 1).sum + 1) ≤ 1048576 → ∃ k, SetAlgebraH.f k l0 l1 l2 = some true
end Go.Proofs.Ytpidbaaojgdpmaa.PA
