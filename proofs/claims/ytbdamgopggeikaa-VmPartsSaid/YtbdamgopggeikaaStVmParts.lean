/- The law's statement over numbers and lists. -/
import Derived.Test.YtbdamgopggeikaaVmPartsH
namespace Go.Proofs.Ytbdamgopggeikaa.Pvm
open Go.RowKit Go.Proofs.YtbdamgopggeikaaW.PrintWords
def VmParts.Pure : Prop := ∀ (l0_0 : List (S51)) (a0_1 : Int) (l0_2 : List Int) (l0_3 : List Int) (a0_4 : ByteArray) (a1 : Int) (a2 : Int), l0_0.length * 16 ≤ 140737488351232 → (∀ e_ ∈ l0_0, (Lit.int .i64 e_.f0).wf = true ∧ (Lit.int .i64 e_.f1).wf = true) → (Lit.int .i64 a0_1).wf = true → l0_2.length * 8 ≤ 140737488351232 → (∀ e_ ∈ l0_2, (Lit.int .i64 e_).wf = true) → l0_3.length * 8 ≤ 140737488351232 → (∀ e_ ∈ l0_3, (Lit.int .i64 e_).wf = true) → a0_4.size ≤ 140737488351232 → (Lit.int .i64 a1).wf = true → (Lit.int .i64 a2).wf = true → ∃ k, VmPartsH.f k l0_0 a0_1 l0_2 l0_3 a0_4 a1 a2 = some true
end Go.Proofs.Ytbdamgopggeikaa.Pvm
