/- The law's statement over numbers and lists. -/
import Derived.Test.YtbdamgopggeikaaVmStacksH
namespace Go.Proofs.Ytbdamgopggeikaa.Pvm
open Go.RowKit Go.Proofs.YtbdamgopggeikaaW.PrintWords
def VmStacks.Pure : Prop := ∀ (a0_0 : Int) (l0_1 : List Int) (l0_2 : List Int) (a1 : Int) (a2 : Int), (Lit.int .i64 a0_0).wf = true → l0_1.length * 8 ≤ 140737488351232 → (∀ e_ ∈ l0_1, (Lit.int .i64 e_).wf = true) → l0_2.length * 8 ≤ 140737488351232 → (∀ e_ ∈ l0_2, (Lit.int .i64 e_).wf = true) → (Lit.int .i64 a1).wf = true → (Lit.int .i64 a2).wf = true → ∃ k, VmStacksH.f k a0_0 l0_1 l0_2 a1 a2 = some true
end Go.Proofs.Ytbdamgopggeikaa.Pvm
