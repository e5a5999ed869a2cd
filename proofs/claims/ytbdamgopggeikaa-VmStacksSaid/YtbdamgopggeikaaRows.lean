/-
  No cell of these rows narrows 'for every input' (looked for: loops, veiled, ifaces, maps, wideKeys, modest, calm, conditions, laid).
  DERIVED. THE GIVEN ROWS OF THIS SEAT. 7 by the template 'for every input the law returns true; each argument reads behind the call as it read before'; 0 by the template 'total and deterministic' (their statements: YtbdamgopggeikaaTotals.lean).
  GIVEN WITH THE SEED: the statements are not yours to turn. If you find one false, say at which input.
  Laid BY PROGRAM, IN A SANDBOX (cutbox-rows.mjs): the forced cells as the released guide's own fill.sh prints them over the translation 6a36014af184478b… (all of the seat's roots in one cut). By AI agents, Wed Nov 11 2026. No macro, syntax, notation, axiom, sorry.
-/
import Derived.Test.YtbdamgopggeikaaChecked
import GoSem.Claim
import GoSem.ClaimJoined
import GoSem.ClaimMapViews
import Derived.JoinedTies
import Derived.KernelRfl
namespace Go.Proofs.Ytbdamgopggeikaa
/- THE CELL 'sum', in the pinned program and in every row, IS THE sha256 OF THE DUMP (.gsa) THAT YtbdamgopggeikaaProg.lean LOADS. Nothing in Lean hashes anything: it is a label: what it is worth is what the hold of that sum in a sandbox is worth. -/
noncomputable def Try.pinned : Pinned := { name := "ytbdamgopggeikaa", sum := "6a36014af184478b61913cd7984d615a0d800f53546b985fda5f5fff2d966d50", checked := Try.checked }
namespace Rows
def none {H : Type} : Left H := { results := [], args := [] }

/-- 'cloisterlaw14.VmRuns': WHATEVER THE INPUT: true; the input reads as it did. -/
def vmRunsSpec : ChangeSpec := { name := "vmRuns", fn := fun _ => fun
  | [d1, d2] => { results := [.lit (.bool true)], args := [d1, d2] }
  | _ => none }
def vmRunsRow : OpenClaim := { program := "ytbdamgopggeikaa", sum := "6a36014af184478b61913cd7984d615a0d800f53546b985fda5f5fff2d966d50", func := "cloister/cloisterlaw14.VmRuns", spec := "vmRuns", unfollowed := true, recurses := true, apart := false }
def VmRunsSaid : Prop := vmRunsRow.holds Try.pinned (OpenSpec.ofChange vmRunsSpec)

/-- ITS FALSE NEIGHBOUR: 'it returns false'. Refute it at one input. -/
def vmRunsWrong : ChangeSpec := { name := "vmRuns", fn := fun _ => fun
  | [d1, d2] => { results := [.lit (.bool false)], args := [d1, d2] }
  | _ => none }
def VmRunsWrongFalsely : Prop := vmRunsRow.holds Try.pinned (OpenSpec.ofChange vmRunsWrong)

/-- 'cloisterlaw14.VmParts': WHATEVER THE INPUT: true; the input reads as it did. -/
def vmPartsSpec : ChangeSpec := { name := "vmParts", fn := fun _ => fun
  | [d1, d2, d3] => { results := [.lit (.bool true)], args := [d1, d2, d3] }
  | _ => none }
def vmPartsRow : OpenClaim := { program := "ytbdamgopggeikaa", sum := "6a36014af184478b61913cd7984d615a0d800f53546b985fda5f5fff2d966d50", func := "cloister/cloisterlaw14.VmParts", spec := "vmParts", unfollowed := true, recurses := true, apart := false }
def VmPartsSaid : Prop := vmPartsRow.holds Try.pinned (OpenSpec.ofChange vmPartsSpec)

/-- ITS FALSE NEIGHBOUR: 'it returns false'. Refute it at one input. -/
def vmPartsWrong : ChangeSpec := { name := "vmParts", fn := fun _ => fun
  | [d1, d2, d3] => { results := [.lit (.bool false)], args := [d1, d2, d3] }
  | _ => none }
def VmPartsWrongFalsely : Prop := vmPartsRow.holds Try.pinned (OpenSpec.ofChange vmPartsWrong)

/-- 'cloisterlaw14.VmEnds': WHATEVER THE INPUT: true; the input reads as it did. -/
def vmEndsSpec : ChangeSpec := { name := "vmEnds", fn := fun _ => fun
  | [d1, d2] => { results := [.lit (.bool true)], args := [d1, d2] }
  | _ => none }
def vmEndsRow : OpenClaim := { program := "ytbdamgopggeikaa", sum := "6a36014af184478b61913cd7984d615a0d800f53546b985fda5f5fff2d966d50", func := "cloister/cloisterlaw14.VmEnds", spec := "vmEnds", unfollowed := true, recurses := true, apart := false }
def VmEndsSaid : Prop := vmEndsRow.holds Try.pinned (OpenSpec.ofChange vmEndsSpec)

/-- ITS FALSE NEIGHBOUR: 'it returns false'. Refute it at one input. -/
def vmEndsWrong : ChangeSpec := { name := "vmEnds", fn := fun _ => fun
  | [d1, d2] => { results := [.lit (.bool false)], args := [d1, d2] }
  | _ => none }
def VmEndsWrongFalsely : Prop := vmEndsRow.holds Try.pinned (OpenSpec.ofChange vmEndsWrong)

/-- 'cloisterlaw14.VmArgs': WHATEVER THE INPUT: true; the input reads as it did. -/
def vmArgsSpec : ChangeSpec := { name := "vmArgs", fn := fun _ => fun
  | [d1, d2] => { results := [.lit (.bool true)], args := [d1, d2] }
  | _ => none }
def vmArgsRow : OpenClaim := { program := "ytbdamgopggeikaa", sum := "6a36014af184478b61913cd7984d615a0d800f53546b985fda5f5fff2d966d50", func := "cloister/cloisterlaw14.VmArgs", spec := "vmArgs", unfollowed := true, recurses := true, apart := false }
def VmArgsSaid : Prop := vmArgsRow.holds Try.pinned (OpenSpec.ofChange vmArgsSpec)

/-- ITS FALSE NEIGHBOUR: 'it returns false'. Refute it at one input. -/
def vmArgsWrong : ChangeSpec := { name := "vmArgs", fn := fun _ => fun
  | [d1, d2] => { results := [.lit (.bool false)], args := [d1, d2] }
  | _ => none }
def VmArgsWrongFalsely : Prop := vmArgsRow.holds Try.pinned (OpenSpec.ofChange vmArgsWrong)

/-- 'cloisterlaw14.VmCounts': WHATEVER THE INPUT: true; the input reads as it did. -/
def vmCountsSpec : ChangeSpec := { name := "vmCounts", fn := fun _ => fun
  | [d] => { results := [.lit (.bool true)], args := [d] }
  | _ => none }
def vmCountsRow : OpenClaim := { program := "ytbdamgopggeikaa", sum := "6a36014af184478b61913cd7984d615a0d800f53546b985fda5f5fff2d966d50", func := "cloister/cloisterlaw14.VmCounts", spec := "vmCounts", unfollowed := true, recurses := true, apart := false }
def VmCountsSaid : Prop := vmCountsRow.holds Try.pinned (OpenSpec.ofChange vmCountsSpec)

/-- ITS FALSE NEIGHBOUR: 'it returns false'. Refute it at one input. -/
def vmCountsWrong : ChangeSpec := { name := "vmCounts", fn := fun _ => fun
  | [d] => { results := [.lit (.bool false)], args := [d] }
  | _ => none }
def VmCountsWrongFalsely : Prop := vmCountsRow.holds Try.pinned (OpenSpec.ofChange vmCountsWrong)

/-- 'cloisterlaw14.VmDepths': WHATEVER THE INPUT: true; the input reads as it did. -/
def vmDepthsSpec : ChangeSpec := { name := "vmDepths", fn := fun _ => fun
  | [d] => { results := [.lit (.bool true)], args := [d] }
  | _ => none }
def vmDepthsRow : OpenClaim := { program := "ytbdamgopggeikaa", sum := "6a36014af184478b61913cd7984d615a0d800f53546b985fda5f5fff2d966d50", func := "cloister/cloisterlaw14.VmDepths", spec := "vmDepths", unfollowed := true, recurses := true, apart := false }
def VmDepthsSaid : Prop := vmDepthsRow.holds Try.pinned (OpenSpec.ofChange vmDepthsSpec)

/-- ITS FALSE NEIGHBOUR: 'it returns false'. Refute it at one input. -/
def vmDepthsWrong : ChangeSpec := { name := "vmDepths", fn := fun _ => fun
  | [d] => { results := [.lit (.bool false)], args := [d] }
  | _ => none }
def VmDepthsWrongFalsely : Prop := vmDepthsRow.holds Try.pinned (OpenSpec.ofChange vmDepthsWrong)

/-- 'cloisterlaw14.VmStacks': WHATEVER THE INPUT: true; the input reads as it did. -/
def vmStacksSpec : ChangeSpec := { name := "vmStacks", fn := fun _ => fun
  | [d1, d2, d3] => { results := [.lit (.bool true)], args := [d1, d2, d3] }
  | _ => none }
def vmStacksRow : OpenClaim := { program := "ytbdamgopggeikaa", sum := "6a36014af184478b61913cd7984d615a0d800f53546b985fda5f5fff2d966d50", func := "cloister/cloisterlaw14.VmStacks", spec := "vmStacks", unfollowed := true, recurses := true, apart := false }
def VmStacksSaid : Prop := vmStacksRow.holds Try.pinned (OpenSpec.ofChange vmStacksSpec)

/-- ITS FALSE NEIGHBOUR: 'it returns false'. Refute it at one input. -/
def vmStacksWrong : ChangeSpec := { name := "vmStacks", fn := fun _ => fun
  | [d1, d2, d3] => { results := [.lit (.bool false)], args := [d1, d2, d3] }
  | _ => none }
def VmStacksWrongFalsely : Prop := vmStacksRow.holds Try.pinned (OpenSpec.ofChange vmStacksWrong)

/- THE SECOND FORM. 'bulk': how many values and letters a reading holds, each counted each time it is reached (what is shared counts as often as it is met; a slice's spare places count too). A statement '..UptoSaid' is the law's where the arguments, and the package variables that the reading takes, are together of bulk at most 1048576: NARROWER than '..Said'. Prove '..Said' where nothing that the law and all that it calls make is longer than what came in: it says more and counts as full. Else prove '..UptoSaid'. A law counts once. -/
mutual
def uptoBulk {H : Type} : DataW H → Nat
  | .lit (.string bytes) => bytes.length + 1
  | .lit _ => 1
  | .nil => 1
  | .ptr d => uptoBulk d + 1
  | .slice elems spare => uptoBulkAll elems + uptoBulkAll spare + 1
  | .agg parts => uptoBulkAll parts + 1
  | .iface _ d => uptoBulk d + 1
  | .map entries => uptoBulkEntries entries + 1
  | .held _ => 1
def uptoBulkAll {H : Type} : List (DataW H) → Nat
  | [] => 0
  | d :: r => uptoBulk d + uptoBulkAll r
def uptoBulkEntries {H : Type} : List (Lit × DataW H) → Nat
  | [] => 0
  | x :: r => uptoBulkEntry x + uptoBulkEntries r
def uptoBulkEntry {H : Type} : Lit × DataW H → Nat
  | (.string bytes, d) => bytes.length + uptoBulk d + 1
  | (_, d) => uptoBulk d + 1
 end
def uptoSmall : (H : Type) → List (DataW H) → Bool := fun _ ds => decide (uptoBulkAll ds ≤ 1048576)
def OpenSpec.upto (s : _root_.Go.ChangeSpec) : _root_.Go.OpenSpec := { _root_.Go.OpenSpec.ofChange s with cond := some uptoSmall }

/-- 'cloisterlaw14.VmRuns', WHERE WHAT IT READS IS OF BULK AT MOST 1048576: true; the input reads as it did. -/
def vmRunsUptoRow : OpenClaim := { program := "ytbdamgopggeikaa", sum := "6a36014af184478b61913cd7984d615a0d800f53546b985fda5f5fff2d966d50", func := "cloister/cloisterlaw14.VmRuns", spec := "vmRuns", unfollowed := true, recurses := true, apart := false, narrowed := true }
def VmRunsUptoSaid : Prop := vmRunsUptoRow.holds Try.pinned (OpenSpec.upto vmRunsSpec)

/-- 'cloisterlaw14.VmParts', WHERE WHAT IT READS IS OF BULK AT MOST 1048576: true; the input reads as it did. -/
def vmPartsUptoRow : OpenClaim := { program := "ytbdamgopggeikaa", sum := "6a36014af184478b61913cd7984d615a0d800f53546b985fda5f5fff2d966d50", func := "cloister/cloisterlaw14.VmParts", spec := "vmParts", unfollowed := true, recurses := true, apart := false, narrowed := true }
def VmPartsUptoSaid : Prop := vmPartsUptoRow.holds Try.pinned (OpenSpec.upto vmPartsSpec)

/-- 'cloisterlaw14.VmEnds', WHERE WHAT IT READS IS OF BULK AT MOST 1048576: true; the input reads as it did. -/
def vmEndsUptoRow : OpenClaim := { program := "ytbdamgopggeikaa", sum := "6a36014af184478b61913cd7984d615a0d800f53546b985fda5f5fff2d966d50", func := "cloister/cloisterlaw14.VmEnds", spec := "vmEnds", unfollowed := true, recurses := true, apart := false, narrowed := true }
def VmEndsUptoSaid : Prop := vmEndsUptoRow.holds Try.pinned (OpenSpec.upto vmEndsSpec)

/-- 'cloisterlaw14.VmArgs', WHERE WHAT IT READS IS OF BULK AT MOST 1048576: true; the input reads as it did. -/
def vmArgsUptoRow : OpenClaim := { program := "ytbdamgopggeikaa", sum := "6a36014af184478b61913cd7984d615a0d800f53546b985fda5f5fff2d966d50", func := "cloister/cloisterlaw14.VmArgs", spec := "vmArgs", unfollowed := true, recurses := true, apart := false, narrowed := true }
def VmArgsUptoSaid : Prop := vmArgsUptoRow.holds Try.pinned (OpenSpec.upto vmArgsSpec)

/-- 'cloisterlaw14.VmCounts', WHERE WHAT IT READS IS OF BULK AT MOST 1048576: true; the input reads as it did. -/
def vmCountsUptoRow : OpenClaim := { program := "ytbdamgopggeikaa", sum := "6a36014af184478b61913cd7984d615a0d800f53546b985fda5f5fff2d966d50", func := "cloister/cloisterlaw14.VmCounts", spec := "vmCounts", unfollowed := true, recurses := true, apart := false, narrowed := true }
def VmCountsUptoSaid : Prop := vmCountsUptoRow.holds Try.pinned (OpenSpec.upto vmCountsSpec)

/-- 'cloisterlaw14.VmDepths', WHERE WHAT IT READS IS OF BULK AT MOST 1048576: true; the input reads as it did. -/
def vmDepthsUptoRow : OpenClaim := { program := "ytbdamgopggeikaa", sum := "6a36014af184478b61913cd7984d615a0d800f53546b985fda5f5fff2d966d50", func := "cloister/cloisterlaw14.VmDepths", spec := "vmDepths", unfollowed := true, recurses := true, apart := false, narrowed := true }
def VmDepthsUptoSaid : Prop := vmDepthsUptoRow.holds Try.pinned (OpenSpec.upto vmDepthsSpec)

/-- 'cloisterlaw14.VmStacks', WHERE WHAT IT READS IS OF BULK AT MOST 1048576: true; the input reads as it did. -/
def vmStacksUptoRow : OpenClaim := { program := "ytbdamgopggeikaa", sum := "6a36014af184478b61913cd7984d615a0d800f53546b985fda5f5fff2d966d50", func := "cloister/cloisterlaw14.VmStacks", spec := "vmStacks", unfollowed := true, recurses := true, apart := false, narrowed := true }
def VmStacksUptoSaid : Prop := vmStacksUptoRow.holds Try.pinned (OpenSpec.upto vmStacksSpec)

end Rows
end Go.Proofs.Ytbdamgopggeikaa
