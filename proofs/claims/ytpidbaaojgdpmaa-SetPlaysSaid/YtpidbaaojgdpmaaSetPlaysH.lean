/- SetPlays' contract, as the row asks for it. -/
import Derived.Test.YtpidbaaojgdpmaaSetPlays
namespace Go.Proofs.Ytpidbaaojgdpmaa.PN
open Go.RowKit Go.Proofs.YtpidbaaojgdpmaaW.PrintWords
def SetPlaysH.f (k : Nat) (a0 : Int) (l1 : List S41) : Option Bool := some true
theorem SetPlaysH.calls (k : Nat) (a0 : Int) (A1 : Option Addr) (c1 : Nat) (l1 : List S41) (r : Bool) (w : World) (hr1 : Kd.C k41 w A1 l1.length l1) (hc1 : l1.length ≤ c1) (h : SetPlaysH.f k a0 l1 = some r) :
    Calls Try.prog 7 #[.int .i64 a0, .slice A1 l1.length c1] w fun e w' => e = .returned (.bool r) ∧ Below w.heap.size w w' := by
  obtain rfl := Option.some.inj h
  by_cases hr : 1 ≤ a0 ∧ a0 ≤ 64
  · obtain ⟨n, rfl⟩ : ∃ n : Nat, a0 = n := ⟨a0.toNat, by omega⟩
    exact SetW.plays_calls n (by omega) (by omega) A1 c1 l1 w hr1 hc1
  · exact SetW.plays_not a0 hr A1 c1 l1.length w
end Go.Proofs.Ytpidbaaojgdpmaa.PN
