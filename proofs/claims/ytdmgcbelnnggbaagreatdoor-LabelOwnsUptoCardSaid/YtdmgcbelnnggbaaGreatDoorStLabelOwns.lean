/- The law's statement over numbers and lists. -/
import Derived.Test.YtdmgcbelnnggbaaGreatDoorLabOwnsH
namespace Go.Proofs.YtdmgcbelnnggbaaGreatDoor.PA
open Go.RowKit Go.Proofs.YtdmgcbelnnggbaaGreatDoorW.PrintWords
def LabelOwns.Pure : Prop := ∀ (l0_0 : List Int) (l0_1 : List Int) (l1_0 : List Int) (l1_1 : List Int) (l2 : List Int), l0_0.length * 8 ≤ 140737488351232 → (∀ e_ ∈ l0_0, (Lit.int .i64 e_).wf = true) → l0_1.length * 8 ≤ 140737488351232 → (∀ e_ ∈ l0_1, (Lit.int .i64 e_).wf = true) → l1_0.length * 8 ≤ 140737488351232 → (∀ e_ ∈ l1_0, (Lit.int .i64 e_).wf = true) → l1_1.length * 8 ≤ 140737488351232 → (∀ e_ ∈ l1_1, (Lit.int .i64 e_).wf = true) → l2.length * 8 ≤ 140737488351232 → (∀ e_ ∈ l2, (Lit.int .i64 e_).wf = true) → ((l0_0.map fun e_ => 1).sum + 1) + ((l0_1.map fun e_ => 1).sum + 1) + ((l1_0.map fun e_ => 1).sum + 1) + ((l1_1.map fun e_ => 1).sum + 1) + ((l2.map fun e_ => 1).sum + 1) ≤ 1048576 → ∃ k, LabelOwnsH.f k l0_0 l0_1 l1_0 l1_1 l2 = some true
end Go.Proofs.YtdmgcbelnnggbaaGreatDoor.PA
