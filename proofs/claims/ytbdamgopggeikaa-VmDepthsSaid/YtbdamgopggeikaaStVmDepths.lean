/- The law's statement over numbers and lists. -/
import Derived.Test.YtbdamgopggeikaaVmDepthsH
namespace Go.Proofs.Ytbdamgopggeikaa.Pvm
open Go.RowKit Go.Proofs.YtbdamgopggeikaaW.PrintWords
def VmDepths.Pure : Prop := ∀ (a0 : Int), (Lit.int .i64 a0).wf = true → ∃ k, VmDepthsH.f k a0 = some true
end Go.Proofs.Ytbdamgopggeikaa.Pvm
