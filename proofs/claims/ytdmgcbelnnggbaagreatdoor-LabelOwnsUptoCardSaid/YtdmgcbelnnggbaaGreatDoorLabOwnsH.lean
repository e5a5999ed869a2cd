/- LabelOwns' contract, as the card's row asks for it. -/
import Derived.Test.YtdmgcbelnnggbaaGreatDoorLabOwnS
import Derived.Test.YtdmgcbelnnggbaaGreatDoorLabEnv
import Derived.Test.YtdmgcbelnnggbaaGreatDoorCards
namespace Go.Proofs.YtdmgcbelnnggbaaGreatDoor.PA
open Go.RowKit Go.Lib Go.Proofs.YtdmgcbelnnggbaaGreatDoorW.PrintWords
set_option linter.unusedVariables false
def LabelOwnsH.f (k : Nat) (l0 l1 l2 l3 l4 : List Int) : Option Bool := Pown.cloisterlaw02_LabelOwns.f k l0 l1 l2 l3 l4
theorem LabelOwnsH.calls (k : Nat) (A0 : Option Addr) (c0 : Nat) (l0 : List Int) (A1 : Option Addr) (c1 : Nat) (l1 : List Int) (A2 : Option Addr) (c2 : Nat) (l2 : List Int) (A3 : Option Addr) (c3 : Nat) (l3 : List Int) (A4 : Option Addr) (c4 : Nat) (l4 : List Int) (r : Bool) (w : World)
    (h0 : Kd.C (Kd.int .i64) w A0 l0.length l0) (g0 : l0.length ≤ c0) (h1 : Kd.C (Kd.int .i64) w A1 l1.length l1) (g1 : l1.length ≤ c1) (h2 : Kd.C (Kd.int .i64) w A2 l2.length l2) (g2 : l2.length ≤ c2) (h3 : Kd.C (Kd.int .i64) w A3 l3.length l3) (g3 : l3.length ≤ c3) (h4 : Kd.C (Kd.int .i64) w A4 l4.length l4) (g4 : l4.length ≤ c4)
    (hsh : w.ShapedOpen Tryz.prog) (hL : laidMetH Tryz.prog Rows.labelOwnsUptoRow.laid w) (h : LabelOwnsH.f k l0 l1 l2 l3 l4 = some r) :
    Calls Tryz.prog 4 #[.agg #[.slice A0 l0.length c0, .slice A1 l1.length c1], .agg #[.slice A2 l2.length c2, .slice A3 l3.length c3], .slice A4 l4.length c4] w fun e w' => e = .returned (.bool r) ∧ Below w.heap.size w w' :=
  Pown.cloisterlaw02_LabelOwns.calls k A0 c0 l0 A1 c1 l1 A2 c2 l2 A3 c3 l3 A4 c4 l4 r w ⟨LabW.env_of hsh hL⟩ h0 g0 h1 g1 h2 g2 h3 g3 h4 g4 h
end Go.Proofs.YtdmgcbelnnggbaaGreatDoor.PA
