/- VmDepths' contract, as the row asks for it. -/
import Derived.Test.YtbdamgopggeikaaVmDepths
namespace Go.Proofs.Ytbdamgopggeikaa.Pvm
open Go.RowKit Go.Proofs.YtbdamgopggeikaaW.PrintWords
def VmDepthsH.f (k : Nat) (a0 : Int) : Option Bool := some true
theorem VmDepthsH.calls (k : Nat) (a0 : Int) (r : Bool) (w : World) (h : VmDepthsH.f k a0 = some r) :
    Calls Try.prog 8 #[.int .i64 a0] w fun e w' => e = .returned (.bool r) ∧ Below w.heap.size w w' := by
  obtain rfl := Option.some.inj h
  exact VmW.depths_calls a0 w
end Go.Proofs.Ytbdamgopggeikaa.Pvm
