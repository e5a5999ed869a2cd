/- The law's statement over numbers and lists. -/
import Derived.Test.YtclhddldbfdfdaaPoOrdH
namespace Go.Proofs.Ytclhddldbfdfdaa.Ppt
open Go.RowKit Go.Proofs.YtclhddldbfdfdaaW.PrintWords
def PortOrder.Pure : Prop := ∀ (l0 : List ByteArray) (l1 : List Int), l0.length * 16 ≤ 140737488351232 → (∀ e_ ∈ l0, e_.size ≤ 140737488351232) → l1.length * 8 ≤ 140737488351232 → (∀ e_ ∈ l1, (Lit.int .i64 e_).wf = true) → ∃ k, PoOrdH.f k l0 l1 = some true
end Go.Proofs.Ytclhddldbfdfdaa.Ppt
