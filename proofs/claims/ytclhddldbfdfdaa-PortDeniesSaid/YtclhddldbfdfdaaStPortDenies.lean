/- The law's statement over numbers and lists. -/
import Derived.Test.YtclhddldbfdfdaaPoDenH
namespace Go.Proofs.Ytclhddldbfdfdaa.Ppt
open Go.RowKit Go.Proofs.YtclhddldbfdfdaaW.PrintWords
def PortDenies.Pure : Prop := ∀ (a0_0 : Int) (a0_1 : Int) (a0_2 : Int) (l0_3 : List Int) (l0_4 : List Int) (l0_5 : List Int) (a0_6 : ByteArray) (a0_7 : Bool), (Lit.int .i64 a0_0).wf = true → (Lit.int .i64 a0_1).wf = true → (Lit.int .i64 a0_2).wf = true → l0_3.length * 8 ≤ 140737488351232 → (∀ e_ ∈ l0_3, (Lit.int .i64 e_).wf = true) → l0_4.length * 8 ≤ 140737488351232 → (∀ e_ ∈ l0_4, (Lit.int .i64 e_).wf = true) → l0_5.length * 8 ≤ 140737488351232 → (∀ e_ ∈ l0_5, (Lit.int .i64 e_).wf = true) → a0_6.size ≤ 140737488351232 → ∃ k, PoDenH.f k a0_0 a0_1 a0_2 l0_3 l0_4 l0_5 a0_6 a0_7 = some true
end Go.Proofs.Ytclhddldbfdfdaa.Ppt
