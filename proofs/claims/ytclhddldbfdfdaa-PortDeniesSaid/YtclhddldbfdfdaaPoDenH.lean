/- PortDenies' contract, as the row asks for it. -/
import Derived.Test.YtclhddldbfdfdaaPoDen
namespace Go.Proofs.Ytclhddldbfdfdaa.Ppt
open Go.RowKit Go.Proofs.YtclhddldbfdfdaaW.PrintWords
set_option linter.unusedVariables false
def PoDenH.B (l0_5 : List Int) : Bool := decide (l0_5.length * 8 ≤ 140737488351232)
def PoDenH.f (k : Nat) (a0_0 a0_1 a0_2 : Int) (l0_3 l0_4 l0_5 : List Int) (a0_6 : ByteArray) (a0_7 : Bool) : Option Bool := if PoDenH.B l0_5 = true then some true else none
theorem PoDenH.calls (k : Nat) (a0_0 a0_1 a0_2 : Int) (A0_3 : Option Addr) (c0_3 : Nat) (l0_3 : List Int) (A0_4 : Option Addr) (c0_4 : Nat) (l0_4 : List Int) (A0_5 : Option Addr) (c0_5 : Nat) (l0_5 : List Int) (a0_6 : ByteArray) (a0_7 : Bool) (r : Bool) (w : World)
    (hr0_3 : Kd.C (Kd.int .i64) w A0_3 l0_3.length l0_3) (hc0_3 : l0_3.length ≤ c0_3) (hr0_4 : Kd.C (Kd.int .i64) w A0_4 l0_4.length l0_4) (hc0_4 : l0_4.length ≤ c0_4) (hr0_5 : Kd.C (Kd.int .i64) w A0_5 l0_5.length l0_5) (hc0_5 : l0_5.length ≤ c0_5) (h : PoDenH.f k a0_0 a0_1 a0_2 l0_3 l0_4 l0_5 a0_6 a0_7 = some r) :
    Calls Try.prog 4 #[.agg #[.int .i64 a0_0, .int .i64 a0_1, .int .i64 a0_2, .slice A0_3 l0_3.length c0_3, .slice A0_4 l0_4.length c0_4, .slice A0_5 l0_5.length c0_5, .string a0_6, .bool a0_7]] w fun e w' => e = .returned (.bool r) ∧ Below w.heap.size w w' := by
  unfold PoDenH.f at h
  by_cases hB : PoDenH.B l0_5 = true
  · rw [if_pos hB] at h
    obtain rfl := Option.some.inj h
    have hb : l0_5.length * 8 ≤ 140737488351232 := of_decide_eq_true hB
    exact PoW.den_calls a0_0 a0_1 a0_2 A0_3 c0_3 l0_3 A0_4 c0_4 l0_4 A0_5 c0_5 l0_5 a0_6 a0_7 w ⟨hc0_3, hr0_3⟩ ⟨hc0_4, hr0_4⟩ ⟨hc0_5, hr0_5⟩ (by omega)
  · rw [if_neg hB] at h
    cases h
end Go.Proofs.Ytclhddldbfdfdaa.Ppt
