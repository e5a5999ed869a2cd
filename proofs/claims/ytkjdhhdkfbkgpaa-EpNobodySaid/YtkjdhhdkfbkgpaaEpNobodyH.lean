/- EpNobody's contract, as the row asks for it. -/
import Derived.Test.YtkjdhhdkfbkgpaaEpNob
namespace Go.Proofs.Ytkjdhhdkfbkgpaa.Pvm
open Go.RowKit Go.Proofs.YtkjdhhdkfbkgpaaW.PrintWords
set_option linter.unusedVariables false
def EpNobodyH.f (k : Nat) (a0 : Int) (a1 : ByteArray) : Option Bool := some true
theorem EpNobodyH.calls (k : Nat) (a0 : Int) (a1 : ByteArray) (r : Bool) (w : World) (h : EpNobodyH.f k a0 a1 = some r) :
    Calls Try.prog 7 #[.int .i64 a0, .string a1] w fun e w' => e = .returned (.bool r) ∧ Below w.heap.size w w' := by
  obtain rfl := Option.some.inj h
  exact VmW.epNobody_calls a0 a1 w
end Go.Proofs.Ytkjdhhdkfbkgpaa.Pvm
