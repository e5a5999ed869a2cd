/- The law's statement over numbers and lists. -/
import Derived.Test.YtclhddldbfdfdaaPoPlaysH
namespace Go.Proofs.Ytclhddldbfdfdaa.Ppl
open Go.RowKit Go.Proofs.YtclhddldbfdfdaaW.PrintWords
def PortPlays.Pure : Prop := ∀ (a0 : Int) (a1 : Int) (l2 : List (S43)), (Lit.int .i64 a0).wf = true → (Lit.int .i64 a1).wf = true → l2.length * 120 ≤ 140737488351232 → (∀ e_ ∈ l2, (Lit.int .i64 e_.f0).wf = true ∧ (Lit.int .i64 e_.f1).wf = true ∧ (Lit.int .i64 e_.f2.f0).wf = true ∧ e_.f2.f1.f0.length * 8 ≤ 140737488351232 ∧ (∀ g_ ∈ e_.f2.f1.f0, (Lit.int .i64 g_).wf = true) ∧ e_.f2.f1.f1.length * 8 ≤ 140737488351232 ∧ (∀ g_ ∈ e_.f2.f1.f1, (Lit.int .i64 g_).wf = true) ∧ e_.f2.f2.length * 8 ≤ 140737488351232 ∧ (∀ g_ ∈ e_.f2.f2, (Lit.int .i64 g_).wf = true) ∧ e_.f3.size ≤ 140737488351232) → ∃ k, PoPlaysH.f k a0 a1 l2 = some true
end Go.Proofs.Ytclhddldbfdfdaa.Ppl
