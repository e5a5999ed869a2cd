/- EpPages' contract, as the row asks for it. -/
import Derived.Test.YtkjdhhdkfbkgpaaEpPag
namespace Go.Proofs.Ytkjdhhdkfbkgpaa.Pvm
open Go.RowKit Go.Proofs.YtkjdhhdkfbkgpaaW.PrintWords
set_option linter.unusedVariables false
def EpPagesH.f (k : Nat) (a0 : ByteArray) (a1 : Int) (a2 : ByteArray) : Option Bool := if a2.size < 140737488355328 then some true else none
theorem EpPagesH.calls (k : Nat) (a0 : ByteArray) (a1 : Int) (a2 : ByteArray) (r : Bool) (w : World) (h : EpPagesH.f k a0 a1 a2 = some r) :
    Calls Try.prog 3 #[.string a0, .int .i64 a1, .string a2] w fun e w' => e = .returned (.bool r) ∧ Below w.heap.size w w' := by
  unfold EpPagesH.f at h
  by_cases hs : a2.size < 140737488355328
  · rw [if_pos hs] at h
    obtain rfl := Option.some.inj h
    exact VmW.epPages_calls a0 a1 a2 w hs
  · rw [if_neg hs] at h; cases h
end Go.Proofs.Ytkjdhhdkfbkgpaa.Pvm
