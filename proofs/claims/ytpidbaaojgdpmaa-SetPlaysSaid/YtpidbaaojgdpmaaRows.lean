/-
  No cell of these rows narrows 'for every input' (looked for: loops, veiled, ifaces, maps, wideKeys, modest, calm, conditions, laid).
  DERIVED. THE GIVEN ROWS OF THIS SEAT. 6 by the template 'for every input the law returns true; each argument reads behind the call as it read before'; 0 by the template 'total and deterministic' (their statements: YtpidbaaojgdpmaaTotals.lean).
  GIVEN WITH THE SEED: the statements are not yours to turn. If you find one false, say at which input.
  Laid BY PROGRAM, IN A SANDBOX (cutbox-rows.mjs): the forced cells as the released guide's own fill.sh prints them over the translation 4b7e880f1d3dec6a… (all of the seat's roots in one cut). By AI agents, Wed Nov 11 2026. No macro, syntax, notation, axiom, sorry.
-/
import Derived.Test.YtpidbaaojgdpmaaChecked
import GoSem.Claim
import GoSem.ClaimJoined
import GoSem.ClaimMapViews
import Derived.JoinedTies
import Derived.KernelRfl
namespace Go.Proofs.Ytpidbaaojgdpmaa
/- THE CELL 'sum', in the pinned program and in every row, IS THE sha256 OF THE DUMP (.gsa) THAT YtpidbaaojgdpmaaProg.lean LOADS. Nothing in Lean hashes anything: it is a label: what it is worth is what the hold of that sum in a sandbox is worth. -/
noncomputable def Try.pinned : Pinned := { name := "ytpidbaaojgdpmaa", sum := "4b7e880f1d3dec6a784f6dd8e4737bb43d401e05eba14a665d7473f386e1ac70", checked := Try.checked }
namespace Rows
def none {H : Type} : Left H := { results := [], args := [] }

/-- 'cloisterlaw01.SetAlgebra': WHATEVER THE INPUT: true; the input reads as it did. -/
def setAlgebraSpec : ChangeSpec := { name := "setAlgebra", fn := fun _ => fun
  | [d1, d2, d3] => { results := [.lit (.bool true)], args := [d1, d2, d3] }
  | _ => none }
def setAlgebraRow : OpenClaim := { program := "ytpidbaaojgdpmaa", sum := "4b7e880f1d3dec6a784f6dd8e4737bb43d401e05eba14a665d7473f386e1ac70", func := "cloister/cloisterlaw01.SetAlgebra", spec := "setAlgebra", inPlace := ["slices.overlaps[int]"], unfollowed := true, recurses := true, apart := false }
def SetAlgebraSaid : Prop := setAlgebraRow.holds Try.pinned (OpenSpec.ofChange setAlgebraSpec)

/-- ITS FALSE NEIGHBOUR: 'it returns false'. Refute it at one input. -/
def setAlgebraWrong : ChangeSpec := { name := "setAlgebra", fn := fun _ => fun
  | [d1, d2, d3] => { results := [.lit (.bool false)], args := [d1, d2, d3] }
  | _ => none }
def SetAlgebraWrongFalsely : Prop := setAlgebraRow.holds Try.pinned (OpenSpec.ofChange setAlgebraWrong)

/-- 'cloisterlaw01.SetParts': WHATEVER THE INPUT: true; the input reads as it did. -/
def setPartsSpec : ChangeSpec := { name := "setParts", fn := fun _ => fun
  | [d1, d2] => { results := [.lit (.bool true)], args := [d1, d2] }
  | _ => none }
def setPartsRow : OpenClaim := { program := "ytpidbaaojgdpmaa", sum := "4b7e880f1d3dec6a784f6dd8e4737bb43d401e05eba14a665d7473f386e1ac70", func := "cloister/cloisterlaw01.SetParts", spec := "setParts", inPlace := ["slices.overlaps[int]"], unfollowed := true, recurses := true, apart := false }
def SetPartsSaid : Prop := setPartsRow.holds Try.pinned (OpenSpec.ofChange setPartsSpec)

/-- ITS FALSE NEIGHBOUR: 'it returns false'. Refute it at one input. -/
def setPartsWrong : ChangeSpec := { name := "setParts", fn := fun _ => fun
  | [d1, d2] => { results := [.lit (.bool false)], args := [d1, d2] }
  | _ => none }
def SetPartsWrongFalsely : Prop := setPartsRow.holds Try.pinned (OpenSpec.ofChange setPartsWrong)

/-- 'cloisterlaw01.SetMixes': WHATEVER THE INPUT: true; the input reads as it did. -/
def setMixesSpec : ChangeSpec := { name := "setMixes", fn := fun _ => fun
  | [d1, d2, d3] => { results := [.lit (.bool true)], args := [d1, d2, d3] }
  | _ => none }
def setMixesRow : OpenClaim := { program := "ytpidbaaojgdpmaa", sum := "4b7e880f1d3dec6a784f6dd8e4737bb43d401e05eba14a665d7473f386e1ac70", func := "cloister/cloisterlaw01.SetMixes", spec := "setMixes", inPlace := ["slices.overlaps[int]"], unfollowed := true, recurses := true, apart := false }
def SetMixesSaid : Prop := setMixesRow.holds Try.pinned (OpenSpec.ofChange setMixesSpec)

/-- ITS FALSE NEIGHBOUR: 'it returns false'. Refute it at one input. -/
def setMixesWrong : ChangeSpec := { name := "setMixes", fn := fun _ => fun
  | [d1, d2, d3] => { results := [.lit (.bool false)], args := [d1, d2, d3] }
  | _ => none }
def SetMixesWrongFalsely : Prop := setMixesRow.holds Try.pinned (OpenSpec.ofChange setMixesWrong)

/-- 'cloisterlaw01.SetWords': WHATEVER THE INPUT: true; the input reads as it did. -/
def setWordsSpec : ChangeSpec := { name := "setWords", fn := fun _ => fun
  | [d1, d2] => { results := [.lit (.bool true)], args := [d1, d2] }
  | _ => none }
def setWordsRow : OpenClaim := { program := "ytpidbaaojgdpmaa", sum := "4b7e880f1d3dec6a784f6dd8e4737bb43d401e05eba14a665d7473f386e1ac70", func := "cloister/cloisterlaw01.SetWords", spec := "setWords", inPlace := ["slices.overlaps[int]"], unfollowed := true, recurses := true, apart := false }
def SetWordsSaid : Prop := setWordsRow.holds Try.pinned (OpenSpec.ofChange setWordsSpec)

/-- ITS FALSE NEIGHBOUR: 'it returns false'. Refute it at one input. -/
def setWordsWrong : ChangeSpec := { name := "setWords", fn := fun _ => fun
  | [d1, d2] => { results := [.lit (.bool false)], args := [d1, d2] }
  | _ => none }
def SetWordsWrongFalsely : Prop := setWordsRow.holds Try.pinned (OpenSpec.ofChange setWordsWrong)

/-- 'cloisterlaw01.SetPlays': WHATEVER THE INPUT: true; the input reads as it did. -/
def setPlaysSpec : ChangeSpec := { name := "setPlays", fn := fun _ => fun
  | [d1, d2] => { results := [.lit (.bool true)], args := [d1, d2] }
  | _ => none }
def setPlaysRow : OpenClaim := { program := "ytpidbaaojgdpmaa", sum := "4b7e880f1d3dec6a784f6dd8e4737bb43d401e05eba14a665d7473f386e1ac70", func := "cloister/cloisterlaw01.SetPlays", spec := "setPlays", inPlace := ["slices.overlaps[int]"], unfollowed := true, recurses := true, apart := false }
def SetPlaysSaid : Prop := setPlaysRow.holds Try.pinned (OpenSpec.ofChange setPlaysSpec)

/-- ITS FALSE NEIGHBOUR: 'it returns false'. Refute it at one input. -/
def setPlaysWrong : ChangeSpec := { name := "setPlays", fn := fun _ => fun
  | [d1, d2] => { results := [.lit (.bool false)], args := [d1, d2] }
  | _ => none }
def SetPlaysWrongFalsely : Prop := setPlaysRow.holds Try.pinned (OpenSpec.ofChange setPlaysWrong)

/-- 'cloisterlaw01.SetNobody': WHATEVER THE INPUT: true; the input reads as it did. -/
def setNobodySpec : ChangeSpec := { name := "setNobody", fn := fun _ => fun
  | [d] => { results := [.lit (.bool true)], args := [d] }
  | _ => none }
def setNobodyRow : OpenClaim := { program := "ytpidbaaojgdpmaa", sum := "4b7e880f1d3dec6a784f6dd8e4737bb43d401e05eba14a665d7473f386e1ac70", func := "cloister/cloisterlaw01.SetNobody", spec := "setNobody", inPlace := ["slices.overlaps[int]"], unfollowed := true, recurses := true, apart := false }
def SetNobodySaid : Prop := setNobodyRow.holds Try.pinned (OpenSpec.ofChange setNobodySpec)

/-- ITS FALSE NEIGHBOUR: 'it returns false'. Refute it at one input. -/
def setNobodyWrong : ChangeSpec := { name := "setNobody", fn := fun _ => fun
  | [d] => { results := [.lit (.bool false)], args := [d] }
  | _ => none }
def SetNobodyWrongFalsely : Prop := setNobodyRow.holds Try.pinned (OpenSpec.ofChange setNobodyWrong)

/- THE SECOND FORM. 'bulk': how many values and letters a reading holds, each counted each time it is reached (what is shared counts as often as it is met; a slice's spare places count too). A statement '..UptoSaid' is the law's where the arguments, and the package variables that the reading takes, are together of bulk at most 1048576: NARROWER than '..Said'. Prove '..Said' where nothing that the law and all that it calls make is longer than what came in: it says more and counts as full. Else prove '..UptoSaid'. A law counts once. -/
mutual
def uptoBulk {H : Type} : DataW H → Nat
  | .lit (.string bytes) => bytes.length + 1
  | .lit _ => 1
  | .nil => 1
  | .ptr d => uptoBulk d + 1
  | .slice elems spare => uptoBulkAll elems + uptoBulkAll spare + 1
  | .agg parts => uptoBulkAll parts + 1
  | .iface _ d => uptoBulk d + 1
  | .map entries => uptoBulkEntries entries + 1
  | .held _ => 1
def uptoBulkAll {H : Type} : List (DataW H) → Nat
  | [] => 0
  | d :: r => uptoBulk d + uptoBulkAll r
def uptoBulkEntries {H : Type} : List (Lit × DataW H) → Nat
  | [] => 0
  | x :: r => uptoBulkEntry x + uptoBulkEntries r
def uptoBulkEntry {H : Type} : Lit × DataW H → Nat
  | (.string bytes, d) => bytes.length + uptoBulk d + 1
  | (_, d) => uptoBulk d + 1
 end
def uptoSmall : (H : Type) → List (DataW H) → Bool := fun _ ds => decide (uptoBulkAll ds ≤ 1048576)
def OpenSpec.upto (s : _root_.Go.ChangeSpec) : _root_.Go.OpenSpec := { _root_.Go.OpenSpec.ofChange s with cond := some uptoSmall }

/-- 'cloisterlaw01.SetAlgebra', WHERE WHAT IT READS IS OF BULK AT MOST 1048576: true; the input reads as it did. -/
def setAlgebraUptoRow : OpenClaim := { program := "ytpidbaaojgdpmaa", sum := "4b7e880f1d3dec6a784f6dd8e4737bb43d401e05eba14a665d7473f386e1ac70", func := "cloister/cloisterlaw01.SetAlgebra", spec := "setAlgebra", inPlace := ["slices.overlaps[int]"], unfollowed := true, recurses := true, apart := false, narrowed := true }
def SetAlgebraUptoSaid : Prop := setAlgebraUptoRow.holds Try.pinned (OpenSpec.upto setAlgebraSpec)

/-- 'cloisterlaw01.SetParts', WHERE WHAT IT READS IS OF BULK AT MOST 1048576: true; the input reads as it did. -/
def setPartsUptoRow : OpenClaim := { program := "ytpidbaaojgdpmaa", sum := "4b7e880f1d3dec6a784f6dd8e4737bb43d401e05eba14a665d7473f386e1ac70", func := "cloister/cloisterlaw01.SetParts", spec := "setParts", inPlace := ["slices.overlaps[int]"], unfollowed := true, recurses := true, apart := false, narrowed := true }
def SetPartsUptoSaid : Prop := setPartsUptoRow.holds Try.pinned (OpenSpec.upto setPartsSpec)

/-- 'cloisterlaw01.SetMixes', WHERE WHAT IT READS IS OF BULK AT MOST 1048576: true; the input reads as it did. -/
def setMixesUptoRow : OpenClaim := { program := "ytpidbaaojgdpmaa", sum := "4b7e880f1d3dec6a784f6dd8e4737bb43d401e05eba14a665d7473f386e1ac70", func := "cloister/cloisterlaw01.SetMixes", spec := "setMixes", inPlace := ["slices.overlaps[int]"], unfollowed := true, recurses := true, apart := false, narrowed := true }
def SetMixesUptoSaid : Prop := setMixesUptoRow.holds Try.pinned (OpenSpec.upto setMixesSpec)

/-- 'cloisterlaw01.SetWords', WHERE WHAT IT READS IS OF BULK AT MOST 1048576: true; the input reads as it did. -/
def setWordsUptoRow : OpenClaim := { program := "ytpidbaaojgdpmaa", sum := "4b7e880f1d3dec6a784f6dd8e4737bb43d401e05eba14a665d7473f386e1ac70", func := "cloister/cloisterlaw01.SetWords", spec := "setWords", inPlace := ["slices.overlaps[int]"], unfollowed := true, recurses := true, apart := false, narrowed := true }
def SetWordsUptoSaid : Prop := setWordsUptoRow.holds Try.pinned (OpenSpec.upto setWordsSpec)

/-- 'cloisterlaw01.SetPlays', WHERE WHAT IT READS IS OF BULK AT MOST 1048576: true; the input reads as it did. -/
def setPlaysUptoRow : OpenClaim := { program := "ytpidbaaojgdpmaa", sum := "4b7e880f1d3dec6a784f6dd8e4737bb43d401e05eba14a665d7473f386e1ac70", func := "cloister/cloisterlaw01.SetPlays", spec := "setPlays", inPlace := ["slices.overlaps[int]"], unfollowed := true, recurses := true, apart := false, narrowed := true }
def SetPlaysUptoSaid : Prop := setPlaysUptoRow.holds Try.pinned (OpenSpec.upto setPlaysSpec)

/-- 'cloisterlaw01.SetNobody', WHERE WHAT IT READS IS OF BULK AT MOST 1048576: true; the input reads as it did. -/
def setNobodyUptoRow : OpenClaim := { program := "ytpidbaaojgdpmaa", sum := "4b7e880f1d3dec6a784f6dd8e4737bb43d401e05eba14a665d7473f386e1ac70", func := "cloister/cloisterlaw01.SetNobody", spec := "setNobody", inPlace := ["slices.overlaps[int]"], unfollowed := true, recurses := true, apart := false, narrowed := true }
def SetNobodyUptoSaid : Prop := setNobodyUptoRow.holds Try.pinned (OpenSpec.upto setNobodySpec)

end Rows
end Go.Proofs.Ytpidbaaojgdpmaa
