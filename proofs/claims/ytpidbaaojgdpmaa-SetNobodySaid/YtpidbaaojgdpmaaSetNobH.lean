/- SetNobody's contract, as the row asks for it. -/
import Derived.Test.YtpidbaaojgdpmaaSetNob
namespace Go.Proofs.Ytpidbaaojgdpmaa.PN
open Go.RowKit Go.Proofs.YtpidbaaojgdpmaaW.PrintWords
def SetNobH.f (k : Nat) (a0 : Int) : Option Bool := some true
theorem SetNobH.calls (k : Nat) (a0 : Int) (r : Bool) (w : World) (h : SetNobH.f k a0 = some r) :
    Calls Try.prog 8 #[.int .i64 a0] w fun e w' => e = .returned (.bool r) ∧ Below w.heap.size w w' := by
  obtain rfl := Option.some.inj h
  exact SetW.setNobody_calls a0 w
end Go.Proofs.Ytpidbaaojgdpmaa.PN
