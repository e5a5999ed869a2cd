/- The law's statement over numbers and lists. -/
import Derived.Test.YtclhddldbfdfdaaPoNobH
namespace Go.Proofs.Ytclhddldbfdfdaa.Ppt
open Go.RowKit Go.Proofs.YtclhddldbfdfdaaW.PrintWords
def PortNobody.Pure : Prop := ∀ (a0_0 : Int) (l0_1 : List Int) (l0_2 : List Int) (l0_3 : List Int) (a1 : Int), (Lit.int .i64 a0_0).wf = true → l0_1.length * 8 ≤ 140737488351232 → (∀ e_ ∈ l0_1, (Lit.int .i64 e_).wf = true) → l0_2.length * 8 ≤ 140737488351232 → (∀ e_ ∈ l0_2, (Lit.int .i64 e_).wf = true) → l0_3.length * 8 ≤ 140737488351232 → (∀ e_ ∈ l0_3, (Lit.int .i64 e_).wf = true) → (Lit.int .i64 a1).wf = true → ∃ k, PoNobH.f k a0_0 l0_1 l0_2 l0_3 a1 = some true
end Go.Proofs.Ytclhddldbfdfdaa.Ppt
