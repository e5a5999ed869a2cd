/- The law's statement over numbers and lists. -/
import Derived.Test.YtkjdhhdkfbkgpaaEpNobodyH
namespace Go.Proofs.Ytkjdhhdkfbkgpaa.Pvm
open Go.RowKit Go.Proofs.YtkjdhhdkfbkgpaaW.PrintWords
def EpNobody.Pure : Prop := ∀ (a0 : Int) (a1 : ByteArray), (Lit.int .i64 a0).wf = true → a1.size ≤ 140737488351232 → ∃ k, EpNobodyH.f k a0 a1 = some true
end Go.Proofs.Ytkjdhhdkfbkgpaa.Pvm
