/- VmParts' contract, as the row asks for it. -/
import Derived.Test.YtbdamgopggeikaaVmParts
namespace Go.Proofs.Ytbdamgopggeikaa.Pvm
open Go.RowKit Go.Proofs.YtbdamgopggeikaaW.PrintWords
set_option linter.unusedVariables false
def VmPartsH.B (l0_0 : List (S51)) (a0_1 : Int) (l0_2 : List Int) (l0_3 : List Int) (a0_4 : ByteArray) (a1 : Int) (a2 : Int) : Bool := decide (a0_4.size ≤ 140737488351232 ∧ l0_0.length * 16 ≤ 140737488351232 ∧ l0_2.length * 8 ≤ 140737488351232 ∧ l0_3.length * 8 ≤ 140737488351232 ∧ (Lit.int .i64 a1).wf = true ∧ (Lit.int .i64 a2).wf = true)
def VmPartsH.f (k : Nat) (l0_0 : List (S51)) (a0_1 : Int) (l0_2 : List Int) (l0_3 : List Int) (a0_4 : ByteArray) (a1 : Int) (a2 : Int) : Option Bool := if VmPartsH.B l0_0 a0_1 l0_2 l0_3 a0_4 a1 a2 = true then some true else none
theorem VmPartsH.calls (k : Nat) (A0_0 : Option Addr) (c0_0 : Nat) (l0_0 : List (S51)) (a0_1 : Int) (A0_2 : Option Addr) (c0_2 : Nat) (l0_2 : List Int) (A0_3 : Option Addr) (c0_3 : Nat) (l0_3 : List Int) (a0_4 : ByteArray) (a1 : Int) (a2 : Int) (r : Bool) (w : World)
    (hr0_0 : Kd.C k51 w A0_0 l0_0.length l0_0) (hc0_0 : l0_0.length ≤ c0_0) (hr0_2 : Kd.C (Kd.int .i64) w A0_2 l0_2.length l0_2) (hc0_2 : l0_2.length ≤ c0_2) (hr0_3 : Kd.C (Kd.int .i64) w A0_3 l0_3.length l0_3) (hc0_3 : l0_3.length ≤ c0_3) (h : VmPartsH.f k l0_0 a0_1 l0_2 l0_3 a0_4 a1 a2 = some r) :
    Calls Try.prog 4 #[.agg #[.slice A0_0 l0_0.length c0_0, .int .i64 a0_1, .slice A0_2 l0_2.length c0_2, .slice A0_3 l0_3.length c0_3, .string a0_4], .int .i64 a1, .int .i64 a2] w fun e w' => e = .returned (.bool r) ∧ Below w.heap.size w w' := by
  unfold VmPartsH.f at h
  by_cases hB : VmPartsH.B l0_0 a0_1 l0_2 l0_3 a0_4 a1 a2 = true
  · rw [if_pos hB] at h
    obtain rfl := Option.some.inj h
    have hb := of_decide_eq_true hB
    exact VmW.parts_calls A0_0 c0_0 l0_0 a0_1 A0_2 c0_2 l0_2 A0_3 c0_3 l0_3 a0_4 a1 a2 w hr0_0 hc0_0 hr0_2 hc0_2 hr0_3 hc0_3 hb
  · rw [if_neg hB] at h
    cases h
end Go.Proofs.Ytbdamgopggeikaa.Pvm
