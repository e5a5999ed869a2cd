/- LabelOrder's contract, as the card's row asks for it. -/
import Derived.Test.YtdmgcbelnnggbaaGreatDoorLabOrder
import Derived.Test.YtdmgcbelnnggbaaGreatDoorCards
namespace Go.Proofs.YtdmgcbelnnggbaaGreatDoor.PA
open Go.RowKit Go.Lib Go.Proofs.YtdmgcbelnnggbaaGreatDoorW.PrintWords
set_option linter.unusedVariables false
theorem le_start {w : World} {rs : List (Option Addr × Nat × List Int)} (hE : LabW.Env w) (hr : ∀ r ∈ rs, LabW.Rd w r.1 r.2.1 r.2.2) : LabW.LE w rs [] w := ⟨Below.refl _ _, hE, hr, fun b h => by cases h⟩
def LabelOrderH.f (k : Nat) (s0 i0 s1 i1 s2 i2 : List Int) : Option Bool := if s0.length ≤ 1048576 ∧ i0.length ≤ 1048576 then some true else none
theorem LabelOrderH.calls (k : Nat) (A0 : Option Addr) (c0 : Nat) (s0 : List Int) (B0 : Option Addr) (d0 : Nat) (i0 : List Int) (A1 : Option Addr) (c1 : Nat) (s1 : List Int) (B1 : Option Addr) (d1 : Nat) (i1 : List Int) (A2 : Option Addr) (c2 : Nat) (s2 : List Int) (B2 : Option Addr) (d2 : Nat) (i2 : List Int) (r : Bool) (w : World)
    (h0 : Kd.C (Kd.int .i64) w A0 s0.length s0) (g0 : s0.length ≤ c0) (h1 : Kd.C (Kd.int .i64) w B0 i0.length i0) (g1 : i0.length ≤ d0) (h2 : Kd.C (Kd.int .i64) w A1 s1.length s1) (g2 : s1.length ≤ c1) (h3 : Kd.C (Kd.int .i64) w B1 i1.length i1) (g3 : i1.length ≤ d1) (h4 : Kd.C (Kd.int .i64) w A2 s2.length s2) (g4 : s2.length ≤ c2) (h5 : Kd.C (Kd.int .i64) w B2 i2.length i2) (g5 : i2.length ≤ d2)
    (hsh : w.ShapedOpen Tryz.prog) (hL : laidMetH Tryz.prog Rows.labelOrderUptoRow.laid w) (h : LabelOrderH.f k s0 i0 s1 i1 s2 i2 = some r) :
    Calls Tryz.prog 3 #[.agg #[.slice A0 s0.length c0, .slice B0 i0.length d0], .agg #[.slice A1 s1.length c1, .slice B1 i1.length d1], .agg #[.slice A2 s2.length c2, .slice B2 i2.length d2]] w fun e w' => e = .returned (.bool r) ∧ Below w.heap.size w w' := by
  unfold LabelOrderH.f at h
  split at h
  · rename_i hb
    obtain rfl := Option.some.inj h
    refine LabW.labelOrder_calls A0 B0 c0 d0 s0 i0 A1 B1 c1 d1 s1 i1 A2 B2 c2 d2 s2 i2 w (le_start (LabW.env_of hsh hL) ?_) hb.1 hb.2
    simp only [List.mem_cons, List.not_mem_nil, or_false, forall_eq_or_imp, forall_eq]
    exact ⟨⟨g0, h0⟩, ⟨g1, h1⟩, ⟨g2, h2⟩, ⟨g3, h3⟩, ⟨g4, h4⟩, ⟨g5, h5⟩⟩
  · cases h
end Go.Proofs.YtdmgcbelnnggbaaGreatDoor.PA
