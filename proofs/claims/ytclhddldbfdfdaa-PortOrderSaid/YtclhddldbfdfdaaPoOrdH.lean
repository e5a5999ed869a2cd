/- PortOrder's contract, as the row asks for it. -/
import Derived.Test.YtclhddldbfdfdaaPoOrd
namespace Go.Proofs.Ytclhddldbfdfdaa.Ppt
open Go.RowKit Go.Proofs.YtclhddldbfdfdaaW.PrintWords
set_option linter.unusedVariables false
def PoOrdH.f (k : Nat) (l0 : List ByteArray) (l1 : List Int) : Option Bool := some true
theorem PoOrdH.calls (k : Nat) (A0 : Option Addr) (c0 : Nat) (l0 : List ByteArray) (A1 : Option Addr) (c1 : Nat) (l1 : List Int) (r : Bool) (w : World)
    (hr0 : Kd.C Kd.string w A0 l0.length l0) (hc0 : l0.length ≤ c0) (hr1 : Kd.C (Kd.int .i64) w A1 l1.length l1) (hc1 : l1.length ≤ c1) (h : PoOrdH.f k l0 l1 = some r) :
    Calls Try.prog 3 #[.slice A0 l0.length c0, .slice A1 l1.length c1] w fun e w' => e = .returned (.bool r) ∧ Below w.heap.size w w' := by
  obtain rfl := Option.some.inj h
  exact PoW.ord_calls A0 c0 l0 A1 c1 l1 w hr0 hr1
end Go.Proofs.Ytclhddldbfdfdaa.Ppt
