/- The law's statement over numbers and lists. -/
import Derived.Test.YthphoifaingbkaaRowCountsW
namespace Go.Proofs.Ythphoifaingbkaa.PQ
open Go.RowKit Go.Proofs.YthphoifaingbkaaW.PrintWords
def RowCounts.Pure : Prop := ∀ (a0_0 : ByteArray) (l0_1 : List ByteArray) (l0_2 : List Int) (l0_3 : List Int) (a0_4 : Int) (a1 : ByteArray), a0_0.size ≤ 140737488351232 → l0_1.length * 16 ≤ 140737488351232 → (∀ e_ ∈ l0_1, e_.size ≤ 140737488351232) → l0_2.length * 8 ≤ 140737488351232 → (∀ e_ ∈ l0_2, (Lit.int .i64 e_).wf = true) → l0_3.length * 8 ≤ 140737488351232 → (∀ e_ ∈ l0_3, (Lit.int .i64 e_).wf = true) → (Lit.int .i64 a0_4).wf = true → a1.size ≤ 140737488351232 → (a0_0.size + 1) + ((l0_1.map fun e_ => (e_.size + 1)).sum + 1) + ((l0_2.map fun e_ => 1).sum + 1) + ((l0_3.map fun e_ => 1).sum + 1) + 1 + (a1.size + 1) ≤ 1048576 → ∃ k, RowCountsH.f k a0_0 l0_1 l0_2 l0_3 a0_4 a1 = some true
end Go.Proofs.Ythphoifaingbkaa.PQ
