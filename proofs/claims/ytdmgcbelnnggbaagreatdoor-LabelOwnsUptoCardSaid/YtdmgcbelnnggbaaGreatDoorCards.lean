/-
  DERIVED. GIVEN WITH THE SEED: THE CARDS: each row of YtdmgcbelnnggbaaGreatDoorRows.lean that lists a variable, with what it lists TIED to the program's text (the seventh form; the later family's looks); each row that meets fmt, with fmt's text TOLD by the authors' own Lean function (tested against real Go, not proved from fmt's source: count such statements apart). THE CARD IS WHAT COUNTS. Prove the row's statement (the work); the ties are given (YtdmgcbelnnggbaaGreatDoorTie.lean); close each card by the builder's one call (the guide's Derived/Test/ToyasCard.lean, 'card_holds'). Laid BY PROGRAM, IN A SANDBOX (cutbox-door.mjs). By AI agents, Wed Nov 11 2026. No macro, syntax, notation, axiom, sorry.
-/
import Derived.Test.YtdmgcbelnnggbaaGreatDoorRows
import GoSem.ClaimSeven
namespace Go.Proofs.YtdmgcbelnnggbaaGreatDoor
namespace Rows

/-- THE TIED CARD OF 'cloisterlaw02.LabelOrder'. -/
def labelOrderCard : Claim7 := { stood := { row := labelOrderRow, standIns := [], harness := (true, "cf39c4108ffe67b591243de5f6ee511a37014208cb1301f5055a4fb8b00ac75d"), looks := true }, kinds := [], alts := [], laidByText := true, laidKinds := [.data, .data, .data, .data, .sentinel, .sentinel, .pinned], laidTests := true, laidLooks := .later }
def LabelOrderCardSaid : Prop := Claim7.holds Tryz.pinned (.plain (OpenSpec.ofChange labelOrderSpec)) labelOrderCard

/-- THE TIED CARD OF 'cloisterlaw02.LabelOwns'. -/
def labelOwnsCard : Claim7 := { stood := { row := labelOwnsRow, standIns := [], harness := (true, "cf39c4108ffe67b591243de5f6ee511a37014208cb1301f5055a4fb8b00ac75d"), looks := true }, kinds := [], alts := [], laidByText := true, laidKinds := [.data, .data, .data, .data, .sentinel, .sentinel, .pinned], laidTests := true, laidLooks := .later }
def LabelOwnsCardSaid : Prop := Claim7.holds Tryz.pinned (.plain (OpenSpec.ofChange labelOwnsSpec)) labelOwnsCard

/-- THE TIED CARD OF 'cloisterlaw02.LabelFlows'. -/
def labelFlowsCard : Claim7 := { stood := { row := labelFlowsRow, standIns := [], harness := (true, "cf39c4108ffe67b591243de5f6ee511a37014208cb1301f5055a4fb8b00ac75d"), looks := true }, kinds := [], alts := [], laidByText := true, laidKinds := [.data, .data, .data, .data, .sentinel, .sentinel, .pinned], laidTests := true, laidLooks := .later }
def LabelFlowsCardSaid : Prop := Claim7.holds Tryz.pinned (.plain (OpenSpec.ofChange labelFlowsSpec)) labelFlowsCard

/-- THE TIED CARD OF 'cloisterlaw02.LabelMixes'. -/
def labelMixesCard : Claim7 := { stood := { row := labelMixesRow, standIns := [], harness := (true, "cf39c4108ffe67b591243de5f6ee511a37014208cb1301f5055a4fb8b00ac75d"), looks := true }, kinds := [], alts := [], laidByText := true, laidKinds := [.data, .data, .data, .data, .sentinel, .sentinel, .pinned], laidTests := true, laidLooks := .later }
def LabelMixesCardSaid : Prop := Claim7.holds Tryz.pinned (.plain (OpenSpec.ofChange labelMixesSpec)) labelMixesCard

/-- THE TIED CARD OF 'cloisterlaw02.LabelLattice'. -/
def labelLatticeCard : Claim7 := { stood := { row := labelLatticeRow, standIns := [], harness := (true, "cf39c4108ffe67b591243de5f6ee511a37014208cb1301f5055a4fb8b00ac75d"), looks := true }, kinds := [], alts := [], laidByText := true, laidKinds := [.data, .data, .data, .data, .sentinel, .sentinel, .pinned], laidTests := true, laidLooks := .later }
def LabelLatticeCardSaid : Prop := Claim7.holds Tryz.pinned (.plain (OpenSpec.ofChange labelLatticeSpec)) labelLatticeCard

/-- THE TIED CARD OF 'cloisterlaw02.LabelBytes'. -/
def labelBytesCard : Claim7 := { stood := { row := labelBytesRow, standIns := [], harness := (true, "cf39c4108ffe67b591243de5f6ee511a37014208cb1301f5055a4fb8b00ac75d"), looks := true }, kinds := [], alts := [], laidByText := true, laidKinds := [.data, .data, .data, .data, .sentinel, .sentinel, .pinned], laidTests := true, laidLooks := .later }
def LabelBytesCardSaid : Prop := Claim7.holds Tryz.pinned (.plain (OpenSpec.ofChange labelBytesSpec)) labelBytesCard

/-- THE TIED CARD OF 'cloisterlaw02.LabelBack'. -/
def labelBackCard : Claim7 := { stood := { row := labelBackRow, standIns := [], harness := (true, "cf39c4108ffe67b591243de5f6ee511a37014208cb1301f5055a4fb8b00ac75d"), looks := true }, kinds := [], alts := [], laidByText := true, laidKinds := [.data, .data, .data, .data, .sentinel, .sentinel, .pinned], laidTests := true, laidLooks := .later }
def LabelBackCardSaid : Prop := Claim7.holds Tryz.pinned (.plain (OpenSpec.ofChange labelBackSpec)) labelBackCard

/-- THE SECOND FORM's CARD OF 'cloisterlaw02.LabelOrder'. -/
def labelOrderUptoCard : Claim7 := { stood := { row := labelOrderUptoRow, standIns := [], harness := (true, "cf39c4108ffe67b591243de5f6ee511a37014208cb1301f5055a4fb8b00ac75d"), looks := true }, kinds := [], alts := [], laidByText := true, laidKinds := [.data, .data, .data, .data, .sentinel, .sentinel, .pinned], laidTests := true, laidLooks := .later }
def LabelOrderUptoCardSaid : Prop := Claim7.holds Tryz.pinned (.plain (OpenSpec.upto labelOrderSpec)) labelOrderUptoCard

/-- THE SECOND FORM's CARD OF 'cloisterlaw02.LabelOwns'. -/
def labelOwnsUptoCard : Claim7 := { stood := { row := labelOwnsUptoRow, standIns := [], harness := (true, "cf39c4108ffe67b591243de5f6ee511a37014208cb1301f5055a4fb8b00ac75d"), looks := true }, kinds := [], alts := [], laidByText := true, laidKinds := [.data, .data, .data, .data, .sentinel, .sentinel, .pinned], laidTests := true, laidLooks := .later }
def LabelOwnsUptoCardSaid : Prop := Claim7.holds Tryz.pinned (.plain (OpenSpec.upto labelOwnsSpec)) labelOwnsUptoCard

/-- THE SECOND FORM's CARD OF 'cloisterlaw02.LabelFlows'. -/
def labelFlowsUptoCard : Claim7 := { stood := { row := labelFlowsUptoRow, standIns := [], harness := (true, "cf39c4108ffe67b591243de5f6ee511a37014208cb1301f5055a4fb8b00ac75d"), looks := true }, kinds := [], alts := [], laidByText := true, laidKinds := [.data, .data, .data, .data, .sentinel, .sentinel, .pinned], laidTests := true, laidLooks := .later }
def LabelFlowsUptoCardSaid : Prop := Claim7.holds Tryz.pinned (.plain (OpenSpec.upto labelFlowsSpec)) labelFlowsUptoCard

/-- THE SECOND FORM's CARD OF 'cloisterlaw02.LabelMixes'. -/
def labelMixesUptoCard : Claim7 := { stood := { row := labelMixesUptoRow, standIns := [], harness := (true, "cf39c4108ffe67b591243de5f6ee511a37014208cb1301f5055a4fb8b00ac75d"), looks := true }, kinds := [], alts := [], laidByText := true, laidKinds := [.data, .data, .data, .data, .sentinel, .sentinel, .pinned], laidTests := true, laidLooks := .later }
def LabelMixesUptoCardSaid : Prop := Claim7.holds Tryz.pinned (.plain (OpenSpec.upto labelMixesSpec)) labelMixesUptoCard

/-- THE SECOND FORM's CARD OF 'cloisterlaw02.LabelLattice'. -/
def labelLatticeUptoCard : Claim7 := { stood := { row := labelLatticeUptoRow, standIns := [], harness := (true, "cf39c4108ffe67b591243de5f6ee511a37014208cb1301f5055a4fb8b00ac75d"), looks := true }, kinds := [], alts := [], laidByText := true, laidKinds := [.data, .data, .data, .data, .sentinel, .sentinel, .pinned], laidTests := true, laidLooks := .later }
def LabelLatticeUptoCardSaid : Prop := Claim7.holds Tryz.pinned (.plain (OpenSpec.upto labelLatticeSpec)) labelLatticeUptoCard

/-- THE SECOND FORM's CARD OF 'cloisterlaw02.LabelBytes'. -/
def labelBytesUptoCard : Claim7 := { stood := { row := labelBytesUptoRow, standIns := [], harness := (true, "cf39c4108ffe67b591243de5f6ee511a37014208cb1301f5055a4fb8b00ac75d"), looks := true }, kinds := [], alts := [], laidByText := true, laidKinds := [.data, .data, .data, .data, .sentinel, .sentinel, .pinned], laidTests := true, laidLooks := .later }
def LabelBytesUptoCardSaid : Prop := Claim7.holds Tryz.pinned (.plain (OpenSpec.upto labelBytesSpec)) labelBytesUptoCard

/-- THE SECOND FORM's CARD OF 'cloisterlaw02.LabelBack'. -/
def labelBackUptoCard : Claim7 := { stood := { row := labelBackUptoRow, standIns := [], harness := (true, "cf39c4108ffe67b591243de5f6ee511a37014208cb1301f5055a4fb8b00ac75d"), looks := true }, kinds := [], alts := [], laidByText := true, laidKinds := [.data, .data, .data, .data, .sentinel, .sentinel, .pinned], laidTests := true, laidLooks := .later }
def LabelBackUptoCardSaid : Prop := Claim7.holds Tryz.pinned (.plain (OpenSpec.upto labelBackSpec)) labelBackUptoCard
end Rows
end Go.Proofs.YtdmgcbelnnggbaaGreatDoor
