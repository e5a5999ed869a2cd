/- SetWords' contract, as the row asks for it. -/
import Derived.Test.YtpidbaaojgdpmaaSetWords
namespace Go.Proofs.Ytpidbaaojgdpmaa.PW
open Go.RowKit Go.Proofs.YtpidbaaojgdpmaaW.PrintWords
def SetWordsH.f (k : Nat) (l0 l1 : List ByteArray) : Option Bool := if l0.length ≤ 1048576 ∧ l1.length ≤ 1048576 then some true else none
theorem SetWordsH.calls (k : Nat) (A0 : Option Addr) (c0 : Nat) (l0 : List ByteArray) (A1 : Option Addr) (c1 : Nat) (l1 : List ByteArray) (r : Bool) (w : World) (hr0 : Kd.C Kd.string w A0 l0.length l0) (hc0 : l0.length ≤ c0) (hr1 : Kd.C Kd.string w A1 l1.length l1) (hc1 : l1.length ≤ c1) (h : SetWordsH.f k l0 l1 = some r) :
    Calls Try.prog 6 #[.slice A0 l0.length c0, .slice A1 l1.length c1] w fun e w' => e = .returned (.bool r) ∧ Below w.heap.size w w' := by
  unfold SetWordsH.f at h
  split at h
  · obtain rfl := Option.some.inj h
    exact SetWS.setWords_calls A0 c0 l0 A1 c1 l1 w hr0 hc0 hr1 hc1 (by omega) (by omega)
  · cases h
end Go.Proofs.Ytpidbaaojgdpmaa.PW
