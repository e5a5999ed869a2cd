/- The law's statement over numbers and lists. -/
import Derived.Test.YtpidbaaojgdpmaaPMx3
namespace Go.Proofs.Ytpidbaaojgdpmaa.PM
open Go.RowKit Go.Proofs.YtpidbaaojgdpmaaW.PrintWords
def SetMixes.Pure : Prop := ∀ (l0 : List Int) (l1 : List Int) (a2 : Int), l0.length * 8 ≤ 140737488351232 → (∀ e_ ∈ l0, (Lit.int .i64 e_).wf = true) → l1.length * 8 ≤ 140737488351232 → (∀ e_ ∈ l1, (Lit.int .i64 e_).wf = true) → (Lit.int .i64 a2).wf = true → ((l0.map fun e_ => 1).sum + 1) + ((l1.map fun e_ => 1).sum + 1) + 1 ≤ 1048576 → ∃ k, cloisterlaw01_SetMixes.f k l0 l1 a2 = some true
end Go.Proofs.Ytpidbaaojgdpmaa.PM
