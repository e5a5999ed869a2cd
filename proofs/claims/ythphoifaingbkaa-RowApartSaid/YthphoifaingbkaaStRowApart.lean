/- The law's statement over numbers and lists. -/
import Derived.Test.YthphoifaingbkaaPAx4
namespace Go.Proofs.Ythphoifaingbkaa.PA
open Go.RowKit Go.Proofs.YthphoifaingbkaaW.PrintWords
def RowApart.Pure : Prop := ∀ (a0_0 : ByteArray) (l0_1 : List ByteArray) (l0_2 : List Int) (l0_3 : List Int) (a0_4 : Int) (a1_0 : ByteArray) (l1_1 : List ByteArray) (l1_2 : List Int) (l1_3 : List Int) (a1_4 : Int), a0_0.size ≤ 140737488351232 → l0_1.length * 16 ≤ 140737488351232 → (∀ e_ ∈ l0_1, e_.size ≤ 140737488351232) → l0_2.length * 8 ≤ 140737488351232 → (∀ e_ ∈ l0_2, (Lit.int .i64 e_).wf = true) → l0_3.length * 8 ≤ 140737488351232 → (∀ e_ ∈ l0_3, (Lit.int .i64 e_).wf = true) → (Lit.int .i64 a0_4).wf = true → a1_0.size ≤ 140737488351232 → l1_1.length * 16 ≤ 140737488351232 → (∀ e_ ∈ l1_1, e_.size ≤ 140737488351232) → l1_2.length * 8 ≤ 140737488351232 → (∀ e_ ∈ l1_2, (Lit.int .i64 e_).wf = true) → l1_3.length * 8 ≤ 140737488351232 → (∀ e_ ∈ l1_3, (Lit.int .i64 e_).wf = true) → (Lit.int .i64 a1_4).wf = true → ∃ k, cloisterlaw11_RowApart.f k a0_0 l0_1 l0_2 l0_3 a0_4 a1_0 l1_1 l1_2 l1_3 a1_4 = some true
end Go.Proofs.Ythphoifaingbkaa.PA
