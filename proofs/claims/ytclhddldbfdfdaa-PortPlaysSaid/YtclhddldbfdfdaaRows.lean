/-
  No cell of these rows narrows 'for every input' (looked for: loops, veiled, ifaces, maps, wideKeys, modest, calm, conditions, laid).
  DERIVED. THE GIVEN ROWS OF THIS SEAT. 5 by the template 'for every input the law returns true; each argument reads behind the call as it read before'; 0 by the template 'total and deterministic' (their statements: YtclhddldbfdfdaaTotals.lean).
  GIVEN WITH THE SEED: the statements are not yours to turn. If you find one false, say at which input.
  Laid BY PROGRAM, IN A SANDBOX (cutbox-rows.mjs): the forced cells as the released guide's own fill.sh prints them over the translation d18ea41ae216779d… (all of the seat's roots in one cut). By AI agents, Wed Nov 11 2026. No macro, syntax, notation, axiom, sorry.
-/
import Derived.Test.YtclhddldbfdfdaaChecked
import GoSem.Claim
import GoSem.ClaimJoined
import GoSem.ClaimMapViews
import Derived.JoinedTies
import Derived.KernelRfl
namespace Go.Proofs.Ytclhddldbfdfdaa
/- THE CELL 'sum', in the pinned program and in every row, IS THE sha256 OF THE DUMP (.gsa) THAT YtclhddldbfdfdaaProg.lean LOADS. Nothing in Lean hashes anything: it is a label: what it is worth is what the hold of that sum in a sandbox is worth. -/
noncomputable def Try.pinned : Pinned := { name := "ytclhddldbfdfdaa", sum := "d18ea41ae216779d825be0e232915e806792e713af5a2cab2f3bc0a27d2253a4", checked := Try.checked }
namespace Rows
def none {H : Type} : Left H := { results := [], args := [] }

/-- 'cloisterlaw16.PortOrder': WHATEVER THE INPUT: true; the input reads as it did. -/
def portOrderSpec : ChangeSpec := { name := "portOrder", fn := fun _ => fun
  | [d1, d2] => { results := [.lit (.bool true)], args := [d1, d2] }
  | _ => none }
def portOrderRow : OpenClaim := { program := "ytclhddldbfdfdaa", sum := "d18ea41ae216779d825be0e232915e806792e713af5a2cab2f3bc0a27d2253a4", func := "cloister/cloisterlaw16.PortOrder", spec := "portOrder", unfollowed := true, recurses := true, apart := false }
def PortOrderSaid : Prop := portOrderRow.holds Try.pinned (OpenSpec.ofChange portOrderSpec)

/-- ITS FALSE NEIGHBOUR: 'it returns false'. Refute it at one input. -/
def portOrderWrong : ChangeSpec := { name := "portOrder", fn := fun _ => fun
  | [d1, d2] => { results := [.lit (.bool false)], args := [d1, d2] }
  | _ => none }
def PortOrderWrongFalsely : Prop := portOrderRow.holds Try.pinned (OpenSpec.ofChange portOrderWrong)

/-- 'cloisterlaw16.PortDenies': WHATEVER THE INPUT: true; the input reads as it did. -/
def portDeniesSpec : ChangeSpec := { name := "portDenies", fn := fun _ => fun
  | [d] => { results := [.lit (.bool true)], args := [d] }
  | _ => none }
def portDeniesRow : OpenClaim := { program := "ytclhddldbfdfdaa", sum := "d18ea41ae216779d825be0e232915e806792e713af5a2cab2f3bc0a27d2253a4", func := "cloister/cloisterlaw16.PortDenies", spec := "portDenies", unfollowed := true, recurses := true, apart := false }
def PortDeniesSaid : Prop := portDeniesRow.holds Try.pinned (OpenSpec.ofChange portDeniesSpec)

/-- ITS FALSE NEIGHBOUR: 'it returns false'. Refute it at one input. -/
def portDeniesWrong : ChangeSpec := { name := "portDenies", fn := fun _ => fun
  | [d] => { results := [.lit (.bool false)], args := [d] }
  | _ => none }
def PortDeniesWrongFalsely : Prop := portDeniesRow.holds Try.pinned (OpenSpec.ofChange portDeniesWrong)

/-- 'cloisterlaw16.PortFull': WHATEVER THE INPUT: true; the input reads as it did. -/
def portFullSpec : ChangeSpec := { name := "portFull", fn := fun _ => fun
  | [d1, d2] => { results := [.lit (.bool true)], args := [d1, d2] }
  | _ => none }
def portFullRow : OpenClaim := { program := "ytclhddldbfdfdaa", sum := "d18ea41ae216779d825be0e232915e806792e713af5a2cab2f3bc0a27d2253a4", func := "cloister/cloisterlaw16.PortFull", spec := "portFull", unfollowed := true, recurses := true, apart := false }
def PortFullSaid : Prop := portFullRow.holds Try.pinned (OpenSpec.ofChange portFullSpec)

/-- ITS FALSE NEIGHBOUR: 'it returns false'. Refute it at one input. -/
def portFullWrong : ChangeSpec := { name := "portFull", fn := fun _ => fun
  | [d1, d2] => { results := [.lit (.bool false)], args := [d1, d2] }
  | _ => none }
def PortFullWrongFalsely : Prop := portFullRow.holds Try.pinned (OpenSpec.ofChange portFullWrong)

/-- 'cloisterlaw16.PortPlays': WHATEVER THE INPUT: true; the input reads as it did. -/
def portPlaysSpec : ChangeSpec := { name := "portPlays", fn := fun _ => fun
  | [d1, d2, d3] => { results := [.lit (.bool true)], args := [d1, d2, d3] }
  | _ => none }
def portPlaysRow : OpenClaim := { program := "ytclhddldbfdfdaa", sum := "d18ea41ae216779d825be0e232915e806792e713af5a2cab2f3bc0a27d2253a4", func := "cloister/cloisterlaw16.PortPlays", spec := "portPlays", unfollowed := true, recurses := true, apart := false }
def PortPlaysSaid : Prop := portPlaysRow.holds Try.pinned (OpenSpec.ofChange portPlaysSpec)

/-- ITS FALSE NEIGHBOUR: 'it returns false'. Refute it at one input. -/
def portPlaysWrong : ChangeSpec := { name := "portPlays", fn := fun _ => fun
  | [d1, d2, d3] => { results := [.lit (.bool false)], args := [d1, d2, d3] }
  | _ => none }
def PortPlaysWrongFalsely : Prop := portPlaysRow.holds Try.pinned (OpenSpec.ofChange portPlaysWrong)

/-- 'cloisterlaw16.PortNobody': WHATEVER THE INPUT: true; the input reads as it did. -/
def portNobodySpec : ChangeSpec := { name := "portNobody", fn := fun _ => fun
  | [d1, d2] => { results := [.lit (.bool true)], args := [d1, d2] }
  | _ => none }
def portNobodyRow : OpenClaim := { program := "ytclhddldbfdfdaa", sum := "d18ea41ae216779d825be0e232915e806792e713af5a2cab2f3bc0a27d2253a4", func := "cloister/cloisterlaw16.PortNobody", spec := "portNobody", unfollowed := true, recurses := true, apart := false }
def PortNobodySaid : Prop := portNobodyRow.holds Try.pinned (OpenSpec.ofChange portNobodySpec)

/-- ITS FALSE NEIGHBOUR: 'it returns false'. Refute it at one input. -/
def portNobodyWrong : ChangeSpec := { name := "portNobody", fn := fun _ => fun
  | [d1, d2] => { results := [.lit (.bool false)], args := [d1, d2] }
  | _ => none }
def PortNobodyWrongFalsely : Prop := portNobodyRow.holds Try.pinned (OpenSpec.ofChange portNobodyWrong)

/- THE SECOND FORM. 'bulk': how many values and letters a reading holds, each counted each time it is reached (what is shared counts as often as it is met; a slice's spare places count too). A statement '..UptoSaid' is the law's where the arguments, and the package variables that the reading takes, are together of bulk at most 1048576: NARROWER than '..Said'. Prove '..Said' where nothing that the law and all that it calls make is longer than what came in: it says more and counts as full. Else prove '..UptoSaid'. A law counts once. -/
mutual
def uptoBulk {H : Type} : DataW H → Nat
  | .lit (.string bytes) => bytes.length + 1
  | .lit _ => 1
  | .nil => 1
  | .ptr d => uptoBulk d + 1
  | .slice elems spare => uptoBulkAll elems + uptoBulkAll spare + 1
  | .agg parts => uptoBulkAll parts + 1
  | .iface _ d => uptoBulk d + 1
  | .map entries => uptoBulkEntries entries + 1
  | .held _ => 1
def uptoBulkAll {H : Type} : List (DataW H) → Nat
  | [] => 0
  | d :: r => uptoBulk d + uptoBulkAll r
def uptoBulkEntries {H : Type} : List (Lit × DataW H) → Nat
  | [] => 0
  | x :: r => uptoBulkEntry x + uptoBulkEntries r
def uptoBulkEntry {H : Type} : Lit × DataW H → Nat
  | (.string bytes, d) => bytes.length + uptoBulk d + 1
  | (_, d) => uptoBulk d + 1
 end
def uptoSmall : (H : Type) → List (DataW H) → Bool := fun _ ds => decide (uptoBulkAll ds ≤ 1048576)
def OpenSpec.upto (s : _root_.Go.ChangeSpec) : _root_.Go.OpenSpec := { _root_.Go.OpenSpec.ofChange s with cond := some uptoSmall }

/-- 'cloisterlaw16.PortOrder', WHERE WHAT IT READS IS OF BULK AT MOST 1048576: true; the input reads as it did. -/
def portOrderUptoRow : OpenClaim := { program := "ytclhddldbfdfdaa", sum := "d18ea41ae216779d825be0e232915e806792e713af5a2cab2f3bc0a27d2253a4", func := "cloister/cloisterlaw16.PortOrder", spec := "portOrder", unfollowed := true, recurses := true, apart := false, narrowed := true }
def PortOrderUptoSaid : Prop := portOrderUptoRow.holds Try.pinned (OpenSpec.upto portOrderSpec)

/-- 'cloisterlaw16.PortDenies', WHERE WHAT IT READS IS OF BULK AT MOST 1048576: true; the input reads as it did. -/
def portDeniesUptoRow : OpenClaim := { program := "ytclhddldbfdfdaa", sum := "d18ea41ae216779d825be0e232915e806792e713af5a2cab2f3bc0a27d2253a4", func := "cloister/cloisterlaw16.PortDenies", spec := "portDenies", unfollowed := true, recurses := true, apart := false, narrowed := true }
def PortDeniesUptoSaid : Prop := portDeniesUptoRow.holds Try.pinned (OpenSpec.upto portDeniesSpec)

/-- 'cloisterlaw16.PortFull', WHERE WHAT IT READS IS OF BULK AT MOST 1048576: true; the input reads as it did. -/
def portFullUptoRow : OpenClaim := { program := "ytclhddldbfdfdaa", sum := "d18ea41ae216779d825be0e232915e806792e713af5a2cab2f3bc0a27d2253a4", func := "cloister/cloisterlaw16.PortFull", spec := "portFull", unfollowed := true, recurses := true, apart := false, narrowed := true }
def PortFullUptoSaid : Prop := portFullUptoRow.holds Try.pinned (OpenSpec.upto portFullSpec)

/-- 'cloisterlaw16.PortPlays', WHERE WHAT IT READS IS OF BULK AT MOST 1048576: true; the input reads as it did. -/
def portPlaysUptoRow : OpenClaim := { program := "ytclhddldbfdfdaa", sum := "d18ea41ae216779d825be0e232915e806792e713af5a2cab2f3bc0a27d2253a4", func := "cloister/cloisterlaw16.PortPlays", spec := "portPlays", unfollowed := true, recurses := true, apart := false, narrowed := true }
def PortPlaysUptoSaid : Prop := portPlaysUptoRow.holds Try.pinned (OpenSpec.upto portPlaysSpec)

/-- 'cloisterlaw16.PortNobody', WHERE WHAT IT READS IS OF BULK AT MOST 1048576: true; the input reads as it did. -/
def portNobodyUptoRow : OpenClaim := { program := "ytclhddldbfdfdaa", sum := "d18ea41ae216779d825be0e232915e806792e713af5a2cab2f3bc0a27d2253a4", func := "cloister/cloisterlaw16.PortNobody", spec := "portNobody", unfollowed := true, recurses := true, apart := false, narrowed := true }
def PortNobodyUptoSaid : Prop := portNobodyUptoRow.holds Try.pinned (OpenSpec.upto portNobodySpec)

end Rows
end Go.Proofs.Ytclhddldbfdfdaa
