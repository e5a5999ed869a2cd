/- The law's statement over numbers and lists. -/
import Derived.Test.YtclhddldbfdfdaaPoFullH
namespace Go.Proofs.Ytclhddldbfdfdaa.Ppt
open Go.RowKit Go.Proofs.YtclhddldbfdfdaaW.PrintWords
def PortFull.Pure : Prop := ∀ (a0 : Int) (a1 : Int), (Lit.int .i64 a0).wf = true → (Lit.int .i64 a1).wf = true → ∃ k, PoFullH.f k a0 a1 = some true
end Go.Proofs.Ytclhddldbfdfdaa.Ppt
