/- SetAlgebra's contract, as the row asks for it. -/
import Derived.Test.YtpidbaaojgdpmaaSetAlgebra
namespace Go.Proofs.Ytpidbaaojgdpmaa.PA
open Go.RowKit Go.Proofs.YtpidbaaojgdpmaaW.PrintWords
def SetAlgebraH.f (k : Nat) (l0 l1 l2 : List Int) : Option Bool := if l0.length ≤ 1048576 ∧ l1.length ≤ 1048576 ∧ l2.length ≤ 1048576 then some true else none
theorem SetAlgebraH.calls (k : Nat) (A0 : Option Addr) (c0 : Nat) (l0 : List Int) (A1 : Option Addr) (c1 : Nat) (l1 : List Int) (A2 : Option Addr) (c2 : Nat) (l2 : List Int) (r : Bool) (w : World) (hr0 : Kd.C (Kd.int .i64) w A0 l0.length l0) (hc0 : l0.length ≤ c0) (hr1 : Kd.C (Kd.int .i64) w A1 l1.length l1) (hc1 : l1.length ≤ c1) (hr2 : Kd.C (Kd.int .i64) w A2 l2.length l2) (hc2 : l2.length ≤ c2) (h : SetAlgebraH.f k l0 l1 l2 = some r) :
    Calls Try.prog 3 #[.slice A0 l0.length c0, .slice A1 l1.length c1, .slice A2 l2.length c2] w fun e w' => e = .returned (.bool r) ∧ Below w.heap.size w w' := by
  unfold SetAlgebraH.f at h
  split at h
  · obtain rfl := Option.some.inj h
    exact SetW.setAlgebra_calls A0 c0 l0 A1 c1 l1 A2 c2 l2 w hr0 hc0 hr1 hc1 hr2 hc2 (by omega) (by omega) (by omega)
  · cases h
end Go.Proofs.Ytpidbaaojgdpmaa.PA
