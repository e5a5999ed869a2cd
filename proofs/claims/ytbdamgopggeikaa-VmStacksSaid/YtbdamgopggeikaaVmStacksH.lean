/- VmStacks' contract, as the row asks for it. -/
import Derived.Test.YtbdamgopggeikaaVmStacks
namespace Go.Proofs.Ytbdamgopggeikaa.Pvm
open Go.RowKit Go.Proofs.YtbdamgopggeikaaW.PrintWords
set_option linter.unusedVariables false
def VmStacksH.B (l0_1 : List Int) (l0_2 : List Int) (a2 : Int) : Bool := decide (l0_1.length * 8 ≤ 140737488351232 ∧ l0_2.length * 8 ≤ 140737488351232 ∧ (Lit.int .i64 a2).wf = true)
def VmStacksH.f (k : Nat) (a0_0 : Int) (l0_1 : List Int) (l0_2 : List Int) (a1 : Int) (a2 : Int) : Option Bool := if VmStacksH.B l0_1 l0_2 a2 = true then some true else none
theorem VmStacksH.calls (k : Nat) (a0_0 : Int) (A0_1 : Option Addr) (c0_1 : Nat) (l0_1 : List Int) (A0_2 : Option Addr) (c0_2 : Nat) (l0_2 : List Int) (a1 : Int) (a2 : Int) (r : Bool) (w : World)
    (hr0_1 : Kd.C (Kd.int .i64) w A0_1 l0_1.length l0_1) (hc0_1 : l0_1.length ≤ c0_1) (hr0_2 : Kd.C (Kd.int .i64) w A0_2 l0_2.length l0_2) (hc0_2 : l0_2.length ≤ c0_2) (h : VmStacksH.f k a0_0 l0_1 l0_2 a1 a2 = some r) :
    Calls Try.prog 9 #[.agg #[.int .i64 a0_0, .slice A0_1 l0_1.length c0_1, .slice A0_2 l0_2.length c0_2], .int .i64 a1, .int .i64 a2] w fun e w' => e = .returned (.bool r) ∧ Below w.heap.size w w' := by
  unfold VmStacksH.f at h
  by_cases hB : VmStacksH.B l0_1 l0_2 a2 = true
  · rw [if_pos hB] at h
    obtain rfl := Option.some.inj h
    have hb := of_decide_eq_true hB
    exact VmW.stacks_calls ⟨a0_0, l0_1, l0_2⟩ A0_1 A0_2 c0_1 c0_2 a1 a2 w hr0_1 hc0_1 hr0_2 hc0_2 hb
  · rw [if_neg hB] at h
    cases h
end Go.Proofs.Ytbdamgopggeikaa.Pvm
