/- PortPlays' contract, as the row asks for it. -/
import Derived.Test.YtclhddldbfdfdaaPoPl
namespace Go.Proofs.Ytclhddldbfdfdaa.Ppl
open Go.RowKit Go.Proofs.YtclhddldbfdfdaaW.PrintWords
set_option linter.unusedVariables false
def PoPlaysH.B (l2 : List (S43)) : Bool := decide (∀ x ∈ l2, x.f2.f1.f0.length * 8 ≤ 140737488351232 ∧ x.f2.f2.length * 8 ≤ 140737488351232)
def PoPlaysH.f (k : Nat) (a0 a1 : Int) (l2 : List (S43)) : Option Bool := if PoPlaysH.B l2 = true then some true else none
theorem PoPlaysH.calls (k : Nat) (a0 a1 : Int) (A2 : Option Addr) (c2 : Nat) (l2 : List (S43)) (r : Bool) (w : World) (hr2 : Kd.C k43 w A2 l2.length l2) (hc2 : l2.length ≤ c2) (h : PoPlaysH.f k a0 a1 l2 = some r) :
    Calls Try.prog 6 #[.int .i64 a0, .int .i64 a1, .slice A2 l2.length c2] w fun e w' => e = .returned (.bool r) ∧ Below w.heap.size w w' := by
  unfold PoPlaysH.f at h
  by_cases hB : PoPlaysH.B l2 = true
  · rw [if_pos hB] at h
    obtain rfl := Option.some.inj h
    have hb := of_decide_eq_true hB
    by_cases hn : 1 ≤ a0 ∧ a0 ≤ 16 ∧ 1 ≤ a1 ∧ a1 ≤ 64
    · obtain ⟨u, rfl⟩ := Int.eq_ofNat_of_zero_le (show 0 ≤ a0 by omega)
      obtain ⟨m, rfl⟩ := Int.eq_ofNat_of_zero_le (show 0 ≤ a1 by omega)
      exact PoW.plays_calls u m (by omega) (by omega) (by omega) (by omega) A2 c2 l2 w hr2 (fun x hx => by have := hb x hx; omega)
    · exact PoW.plays_not a0 a1 hn _ w
  · rw [if_neg hB] at h
    cases h
end Go.Proofs.Ytclhddldbfdfdaa.Ppl
