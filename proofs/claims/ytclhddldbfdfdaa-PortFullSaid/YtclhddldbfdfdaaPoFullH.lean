/- PortFull's contract, as the row asks for it. -/
import Derived.Test.YtclhddldbfdfdaaPoFull
namespace Go.Proofs.Ytclhddldbfdfdaa.Ppt
open Go.RowKit Go.Proofs.YtclhddldbfdfdaaW.PrintWords
set_option linter.unusedVariables false
def PoFullH.f (k : Nat) (a0 a1 : Int) : Option Bool := some true
theorem PoFullH.calls (k : Nat) (a0 a1 : Int) (r : Bool) (w : World) (h : PoFullH.f k a0 a1 = some r) :
    Calls Try.prog 5 #[.int .i64 a0, .int .i64 a1] w fun e w' => e = .returned (.bool r) ∧ Below w.heap.size w w' := by
  obtain rfl := Option.some.inj h
  by_cases h0 : 1 ≤ a0 ∧ a0 ≤ 64
  · obtain ⟨n, rfl⟩ := Int.eq_ofNat_of_zero_le (show 0 ≤ a0 by omega)
    exact PoW.full_calls n a1 (by omega) (by omega) w
  · exact PoW.full_not a0 a1 h0 w
end Go.Proofs.Ytclhddldbfdfdaa.Ppt
