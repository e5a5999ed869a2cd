/- The law's statement over numbers and lists. -/
import Derived.Test.YtkjdhhdkfbkgpaaEpPagesH
namespace Go.Proofs.Ytkjdhhdkfbkgpaa.Pvm
open Go.RowKit Go.Proofs.YtkjdhhdkfbkgpaaW.PrintWords
def EpPages.Pure : Prop := ∀ (a0 : ByteArray) (a1 : Int) (a2 : ByteArray), a0.size ≤ 140737488351232 → (Lit.int .i64 a1).wf = true → a2.size ≤ 140737488351232 → ∃ k, EpPagesH.f k a0 a1 a2 = some true
end Go.Proofs.Ytkjdhhdkfbkgpaa.Pvm
