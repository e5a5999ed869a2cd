/-
  No cell of these rows narrows 'for every input' (looked for: loops, veiled, ifaces, maps, wideKeys, modest, calm, conditions, laid).
  DERIVED. THE GIVEN ROWS OF THIS SEAT. 5 by the template 'for every input the law returns true; each argument reads behind the call as it read before'; 0 by the template 'total and deterministic' (their statements: YtkaacdfikaggfaaTotals.lean).
  GIVEN WITH THE SEED: the statements are not yours to turn. If you find one false, say at which input.
  Laid BY PROGRAM, IN A SANDBOX (cutbox-rows.mjs): the forced cells as the released guide's own fill.sh prints them over the translation 8057fa164d2ff33b… (all of the seat's roots in one cut). By AI agents, Wed Nov 11 2026. No macro, syntax, notation, axiom, sorry.
-/
import Derived.Test.YtkaacdfikaggfaaChecked
import GoSem.Claim
import GoSem.ClaimJoined
import GoSem.ClaimMapViews
import Derived.JoinedTies
import Derived.KernelRfl
namespace Go.Proofs.Ytkaacdfikaggfaa
/- THE CELL 'sum', in the pinned program and in every row, IS THE sha256 OF THE DUMP (.gsa) THAT YtkaacdfikaggfaaProg.lean LOADS. Nothing in Lean hashes anything: it is a label: what it is worth is what the hold of that sum in a sandbox is worth. -/
noncomputable def Try.pinned : Pinned := { name := "ytkaacdfikaggfaa", sum := "8057fa164d2ff33b12b7bc6fcf761548832af28d5d54c2a59e166c15667dd503", checked := Try.checked }
namespace Rows
def none {H : Type} : Left H := { results := [], args := [] }

/-- 'cloisterlaw06.UriDecodes': WHATEVER THE INPUT: true; the input reads as it did. -/
def uriDecodesSpec : ChangeSpec := { name := "uriDecodes", fn := fun _ => fun
  | [d1, d2] => { results := [.lit (.bool true)], args := [d1, d2] }
  | _ => none }
def uriDecodesRow : OpenClaim := { program := "ytkaacdfikaggfaa", sum := "8057fa164d2ff33b12b7bc6fcf761548832af28d5d54c2a59e166c15667dd503", func := "cloister/cloisterlaw06.UriDecodes", spec := "uriDecodes", inPlace := ["internal/bytealg.IndexByteString", "internal/abi.NoEscape", "internal/bytealg.IndexString"], unfollowed := true, recurses := true, named := ["internal/bytealg.MaxLen"], apart := false }
def UriDecodesSaid : Prop := uriDecodesRow.holds Try.pinned (OpenSpec.ofChange uriDecodesSpec)

/-- ITS FALSE NEIGHBOUR: 'it returns false'. Refute it at one input. -/
def uriDecodesWrong : ChangeSpec := { name := "uriDecodes", fn := fun _ => fun
  | [d1, d2] => { results := [.lit (.bool false)], args := [d1, d2] }
  | _ => none }
def UriDecodesWrongFalsely : Prop := uriDecodesRow.holds Try.pinned (OpenSpec.ofChange uriDecodesWrong)

/-- 'cloisterlaw06.UriForms': WHATEVER THE INPUT: true; the input reads as it did. -/
def uriFormsSpec : ChangeSpec := { name := "uriForms", fn := fun _ => fun
  | [d] => { results := [.lit (.bool true)], args := [d] }
  | _ => none }
def uriFormsRow : OpenClaim := { program := "ytkaacdfikaggfaa", sum := "8057fa164d2ff33b12b7bc6fcf761548832af28d5d54c2a59e166c15667dd503", func := "cloister/cloisterlaw06.UriForms", spec := "uriForms", inPlace := ["internal/bytealg.IndexByteString", "internal/bytealg.IndexString", "internal/abi.NoEscape"], unfollowed := true, recurses := true, named := ["internal/bytealg.MaxLen"], apart := false }
def UriFormsSaid : Prop := uriFormsRow.holds Try.pinned (OpenSpec.ofChange uriFormsSpec)

/-- ITS FALSE NEIGHBOUR: 'it returns false'. Refute it at one input. -/
def uriFormsWrong : ChangeSpec := { name := "uriForms", fn := fun _ => fun
  | [d] => { results := [.lit (.bool false)], args := [d] }
  | _ => none }
def UriFormsWrongFalsely : Prop := uriFormsRow.holds Try.pinned (OpenSpec.ofChange uriFormsWrong)

/-- 'cloisterlaw06.UriPlus': WHATEVER THE INPUT: true; the input reads as it did. -/
def uriPlusSpec : ChangeSpec := { name := "uriPlus", fn := fun _ => fun
  | [d] => { results := [.lit (.bool true)], args := [d] }
  | _ => none }
def uriPlusRow : OpenClaim := { program := "ytkaacdfikaggfaa", sum := "8057fa164d2ff33b12b7bc6fcf761548832af28d5d54c2a59e166c15667dd503", func := "cloister/cloisterlaw06.UriPlus", spec := "uriPlus", inPlace := ["internal/bytealg.IndexByteString", "internal/abi.NoEscape", "internal/bytealg.IndexString"], unfollowed := true, recurses := true, named := ["internal/bytealg.MaxLen"], apart := false }
def UriPlusSaid : Prop := uriPlusRow.holds Try.pinned (OpenSpec.ofChange uriPlusSpec)

/-- ITS FALSE NEIGHBOUR: 'it returns false'. Refute it at one input. -/
def uriPlusWrong : ChangeSpec := { name := "uriPlus", fn := fun _ => fun
  | [d] => { results := [.lit (.bool false)], args := [d] }
  | _ => none }
def UriPlusWrongFalsely : Prop := uriPlusRow.holds Try.pinned (OpenSpec.ofChange uriPlusWrong)

/-- 'cloisterlaw06.UriBack': WHATEVER THE INPUT: true; the input reads as it did. -/
def uriBackSpec : ChangeSpec := { name := "uriBack", fn := fun _ => fun
  | [d] => { results := [.lit (.bool true)], args := [d] }
  | _ => none }
def uriBackRow : OpenClaim := { program := "ytkaacdfikaggfaa", sum := "8057fa164d2ff33b12b7bc6fcf761548832af28d5d54c2a59e166c15667dd503", func := "cloister/cloisterlaw06.UriBack", spec := "uriBack", inPlace := ["internal/bytealg.IndexByteString", "internal/abi.NoEscape", "internal/bytealg.IndexString"], unfollowed := true, recurses := true, named := ["internal/bytealg.MaxLen"], apart := false }
def UriBackSaid : Prop := uriBackRow.holds Try.pinned (OpenSpec.ofChange uriBackSpec)

/-- ITS FALSE NEIGHBOUR: 'it returns false'. Refute it at one input. -/
def uriBackWrong : ChangeSpec := { name := "uriBack", fn := fun _ => fun
  | [d] => { results := [.lit (.bool false)], args := [d] }
  | _ => none }
def UriBackWrongFalsely : Prop := uriBackRow.holds Try.pinned (OpenSpec.ofChange uriBackWrong)

/-- 'cloisterlaw06.UriPairs': WHATEVER THE INPUT: true; the input reads as it did. -/
def uriPairsSpec : ChangeSpec := { name := "uriPairs", fn := fun _ => fun
  | [d] => { results := [.lit (.bool true)], args := [d] }
  | _ => none }
def uriPairsRow : OpenClaim := { program := "ytkaacdfikaggfaa", sum := "8057fa164d2ff33b12b7bc6fcf761548832af28d5d54c2a59e166c15667dd503", func := "cloister/cloisterlaw06.UriPairs", spec := "uriPairs", inPlace := ["internal/bytealg.IndexByteString", "internal/abi.NoEscape", "internal/bytealg.MakeNoZero", "internal/bytealg.IndexString"], unfollowed := true, recurses := true, named := ["internal/bytealg.MaxLen"], apart := false }
def UriPairsSaid : Prop := uriPairsRow.holds Try.pinned (OpenSpec.ofChange uriPairsSpec)

/-- ITS FALSE NEIGHBOUR: 'it returns false'. Refute it at one input. -/
def uriPairsWrong : ChangeSpec := { name := "uriPairs", fn := fun _ => fun
  | [d] => { results := [.lit (.bool false)], args := [d] }
  | _ => none }
def UriPairsWrongFalsely : Prop := uriPairsRow.holds Try.pinned (OpenSpec.ofChange uriPairsWrong)

/- THE SECOND FORM. 'bulk': how many values and letters a reading holds, each counted each time it is reached (what is shared counts as often as it is met; a slice's spare places count too). A statement '..UptoSaid' is the law's where the arguments, and the package variables that the reading takes, are together of bulk at most 1048576: NARROWER than '..Said'. Prove '..Said' where nothing that the law and all that it calls make is longer than what came in: it says more and counts as full. Else prove '..UptoSaid'. A law counts once. -/
mutual
def uptoBulk {H : Type} : DataW H → Nat
  | .lit (.string bytes) => bytes.length + 1
  | .lit _ => 1
  | .nil => 1
  | .ptr d => uptoBulk d + 1
  | .slice elems spare => uptoBulkAll elems + uptoBulkAll spare + 1
  | .agg parts => uptoBulkAll parts + 1
  | .iface _ d => uptoBulk d + 1
  | .map entries => uptoBulkEntries entries + 1
  | .held _ => 1
def uptoBulkAll {H : Type} : List (DataW H) → Nat
  | [] => 0
  | d :: r => uptoBulk d + uptoBulkAll r
def uptoBulkEntries {H : Type} : List (Lit × DataW H) → Nat
  | [] => 0
  | x :: r => uptoBulkEntry x + uptoBulkEntries r
def uptoBulkEntry {H : Type} : Lit × DataW H → Nat
  | (.string bytes, d) => bytes.length + uptoBulk d + 1
  | (_, d) => uptoBulk d + 1
 end
def uptoSmall : (H : Type) → List (DataW H) → Bool := fun _ ds => decide (uptoBulkAll ds ≤ 1048576)
def OpenSpec.upto (s : _root_.Go.ChangeSpec) : _root_.Go.OpenSpec := { _root_.Go.OpenSpec.ofChange s with cond := some uptoSmall }

/-- 'cloisterlaw06.UriDecodes', WHERE WHAT IT READS IS OF BULK AT MOST 1048576: true; the input reads as it did. -/
def uriDecodesUptoRow : OpenClaim := { program := "ytkaacdfikaggfaa", sum := "8057fa164d2ff33b12b7bc6fcf761548832af28d5d54c2a59e166c15667dd503", func := "cloister/cloisterlaw06.UriDecodes", spec := "uriDecodes", inPlace := ["internal/bytealg.IndexByteString", "internal/abi.NoEscape", "internal/bytealg.IndexString"], unfollowed := true, recurses := true, named := ["internal/bytealg.MaxLen"], apart := false, narrowed := true }
def UriDecodesUptoSaid : Prop := uriDecodesUptoRow.holds Try.pinned (OpenSpec.upto uriDecodesSpec)

/-- 'cloisterlaw06.UriForms', WHERE WHAT IT READS IS OF BULK AT MOST 1048576: true; the input reads as it did. -/
def uriFormsUptoRow : OpenClaim := { program := "ytkaacdfikaggfaa", sum := "8057fa164d2ff33b12b7bc6fcf761548832af28d5d54c2a59e166c15667dd503", func := "cloister/cloisterlaw06.UriForms", spec := "uriForms", inPlace := ["internal/bytealg.IndexByteString", "internal/bytealg.IndexString", "internal/abi.NoEscape"], unfollowed := true, recurses := true, named := ["internal/bytealg.MaxLen"], apart := false, narrowed := true }
def UriFormsUptoSaid : Prop := uriFormsUptoRow.holds Try.pinned (OpenSpec.upto uriFormsSpec)

/-- 'cloisterlaw06.UriPlus', WHERE WHAT IT READS IS OF BULK AT MOST 1048576: true; the input reads as it did. -/
def uriPlusUptoRow : OpenClaim := { program := "ytkaacdfikaggfaa", sum := "8057fa164d2ff33b12b7bc6fcf761548832af28d5d54c2a59e166c15667dd503", func := "cloister/cloisterlaw06.UriPlus", spec := "uriPlus", inPlace := ["internal/bytealg.IndexByteString", "internal/abi.NoEscape", "internal/bytealg.IndexString"], unfollowed := true, recurses := true, named := ["internal/bytealg.MaxLen"], apart := false, narrowed := true }
def UriPlusUptoSaid : Prop := uriPlusUptoRow.holds Try.pinned (OpenSpec.upto uriPlusSpec)

/-- 'cloisterlaw06.UriBack', WHERE WHAT IT READS IS OF BULK AT MOST 1048576: true; the input reads as it did. -/
def uriBackUptoRow : OpenClaim := { program := "ytkaacdfikaggfaa", sum := "8057fa164d2ff33b12b7bc6fcf761548832af28d5d54c2a59e166c15667dd503", func := "cloister/cloisterlaw06.UriBack", spec := "uriBack", inPlace := ["internal/bytealg.IndexByteString", "internal/abi.NoEscape", "internal/bytealg.IndexString"], unfollowed := true, recurses := true, named := ["internal/bytealg.MaxLen"], apart := false, narrowed := true }
def UriBackUptoSaid : Prop := uriBackUptoRow.holds Try.pinned (OpenSpec.upto uriBackSpec)

/-- 'cloisterlaw06.UriPairs', WHERE WHAT IT READS IS OF BULK AT MOST 1048576: true; the input reads as it did. -/
def uriPairsUptoRow : OpenClaim := { program := "ytkaacdfikaggfaa", sum := "8057fa164d2ff33b12b7bc6fcf761548832af28d5d54c2a59e166c15667dd503", func := "cloister/cloisterlaw06.UriPairs", spec := "uriPairs", inPlace := ["internal/bytealg.IndexByteString", "internal/abi.NoEscape", "internal/bytealg.MakeNoZero", "internal/bytealg.IndexString"], unfollowed := true, recurses := true, named := ["internal/bytealg.MaxLen"], apart := false, narrowed := true }
def UriPairsUptoSaid : Prop := uriPairsUptoRow.holds Try.pinned (OpenSpec.upto uriPairsSpec)

end Rows
end Go.Proofs.Ytkaacdfikaggfaa
