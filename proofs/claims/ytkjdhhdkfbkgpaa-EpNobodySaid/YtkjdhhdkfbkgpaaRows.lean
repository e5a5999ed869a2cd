/-
  No cell of these rows narrows 'for every input' (looked for: loops, veiled, ifaces, maps, wideKeys, modest, calm, conditions, laid).
  DERIVED. THE GIVEN ROWS OF THIS SEAT. 5 by the template 'for every input the law returns true; each argument reads behind the call as it read before'; 0 by the template 'total and deterministic' (their statements: YtkjdhhdkfbkgpaaTotals.lean).
  GIVEN WITH THE SEED: the statements are not yours to turn. If you find one false, say at which input.
  Laid BY PROGRAM, IN A SANDBOX (cutbox-rows.mjs): the forced cells as the released guide's own fill.sh prints them over the translation 2cc28b8aa2d0ccfe… (all of the seat's roots in one cut). By AI agents, Wed Nov 11 2026. No macro, syntax, notation, axiom, sorry.
-/
import Derived.Test.YtkjdhhdkfbkgpaaChecked
import GoSem.Claim
import GoSem.ClaimJoined
import GoSem.ClaimMapViews
import Derived.JoinedTies
import Derived.KernelRfl
namespace Go.Proofs.Ytkjdhhdkfbkgpaa
/- THE CELL 'sum', in the pinned program and in every row, IS THE sha256 OF THE DUMP (.gsa) THAT YtkjdhhdkfbkgpaaProg.lean LOADS. Nothing in Lean hashes anything: it is a label: what it is worth is what the hold of that sum in a sandbox is worth. -/
noncomputable def Try.pinned : Pinned := { name := "ytkjdhhdkfbkgpaa", sum := "2cc28b8aa2d0ccfe3b79c40701385642474bb7dfc22aeee312fe3c55d25797ac", checked := Try.checked }
namespace Rows
def none {H : Type} : Left H := { results := [], args := [] }

/-- 'cloisterlaw15.EpPages': WHATEVER THE INPUT: true; the input reads as it did. -/
def epPagesSpec : ChangeSpec := { name := "epPages", fn := fun _ => fun
  | [d1, d2, d3] => { results := [.lit (.bool true)], args := [d1, d2, d3] }
  | _ => none }
def epPagesRow : OpenClaim := { program := "ytkjdhhdkfbkgpaa", sum := "2cc28b8aa2d0ccfe3b79c40701385642474bb7dfc22aeee312fe3c55d25797ac", func := "cloister/cloisterlaw15.EpPages", spec := "epPages", unfollowed := true, recurses := true, apart := false }
def EpPagesSaid : Prop := epPagesRow.holds Try.pinned (OpenSpec.ofChange epPagesSpec)

/-- ITS FALSE NEIGHBOUR: 'it returns false'. Refute it at one input. -/
def epPagesWrong : ChangeSpec := { name := "epPages", fn := fun _ => fun
  | [d1, d2, d3] => { results := [.lit (.bool false)], args := [d1, d2, d3] }
  | _ => none }
def EpPagesWrongFalsely : Prop := epPagesRow.holds Try.pinned (OpenSpec.ofChange epPagesWrong)

/-- 'cloisterlaw15.EpFresh': WHATEVER THE INPUT: true; the input reads as it did. -/
def epFreshSpec : ChangeSpec := { name := "epFresh", fn := fun _ => fun
  | [d1, d2, d3] => { results := [.lit (.bool true)], args := [d1, d2, d3] }
  | _ => none }
def epFreshRow : OpenClaim := { program := "ytkjdhhdkfbkgpaa", sum := "2cc28b8aa2d0ccfe3b79c40701385642474bb7dfc22aeee312fe3c55d25797ac", func := "cloister/cloisterlaw15.EpFresh", spec := "epFresh", unfollowed := true, recurses := true, apart := false }
def EpFreshSaid : Prop := epFreshRow.holds Try.pinned (OpenSpec.ofChange epFreshSpec)

/-- ITS FALSE NEIGHBOUR: 'it returns false'. Refute it at one input. -/
def epFreshWrong : ChangeSpec := { name := "epFresh", fn := fun _ => fun
  | [d1, d2, d3] => { results := [.lit (.bool false)], args := [d1, d2, d3] }
  | _ => none }
def EpFreshWrongFalsely : Prop := epFreshRow.holds Try.pinned (OpenSpec.ofChange epFreshWrong)

/-- 'cloisterlaw15.EpApart': WHATEVER THE INPUT: true; the input reads as it did. -/
def epApartSpec : ChangeSpec := { name := "epApart", fn := fun _ => fun
  | [d1, d2, d3] => { results := [.lit (.bool true)], args := [d1, d2, d3] }
  | _ => none }
def epApartRow : OpenClaim := { program := "ytkjdhhdkfbkgpaa", sum := "2cc28b8aa2d0ccfe3b79c40701385642474bb7dfc22aeee312fe3c55d25797ac", func := "cloister/cloisterlaw15.EpApart", spec := "epApart", unfollowed := true, recurses := true, apart := false }
def EpApartSaid : Prop := epApartRow.holds Try.pinned (OpenSpec.ofChange epApartSpec)

/-- ITS FALSE NEIGHBOUR: 'it returns false'. Refute it at one input. -/
def epApartWrong : ChangeSpec := { name := "epApart", fn := fun _ => fun
  | [d1, d2, d3] => { results := [.lit (.bool false)], args := [d1, d2, d3] }
  | _ => none }
def EpApartWrongFalsely : Prop := epApartRow.holds Try.pinned (OpenSpec.ofChange epApartWrong)

/-- 'cloisterlaw15.EpPlays': WHATEVER THE INPUT: true; the input reads as it did. -/
def epPlaysSpec : ChangeSpec := { name := "epPlays", fn := fun _ => fun
  | [d1, d2, d3] => { results := [.lit (.bool true)], args := [d1, d2, d3] }
  | _ => none }
def epPlaysRow : OpenClaim := { program := "ytkjdhhdkfbkgpaa", sum := "2cc28b8aa2d0ccfe3b79c40701385642474bb7dfc22aeee312fe3c55d25797ac", func := "cloister/cloisterlaw15.EpPlays", spec := "epPlays", unfollowed := true, recurses := true, apart := false }
def EpPlaysSaid : Prop := epPlaysRow.holds Try.pinned (OpenSpec.ofChange epPlaysSpec)

/-- ITS FALSE NEIGHBOUR: 'it returns false'. Refute it at one input. -/
def epPlaysWrong : ChangeSpec := { name := "epPlays", fn := fun _ => fun
  | [d1, d2, d3] => { results := [.lit (.bool false)], args := [d1, d2, d3] }
  | _ => none }
def EpPlaysWrongFalsely : Prop := epPlaysRow.holds Try.pinned (OpenSpec.ofChange epPlaysWrong)

/-- 'cloisterlaw15.EpNobody': WHATEVER THE INPUT: true; the input reads as it did. -/
def epNobodySpec : ChangeSpec := { name := "epNobody", fn := fun _ => fun
  | [d1, d2] => { results := [.lit (.bool true)], args := [d1, d2] }
  | _ => none }
def epNobodyRow : OpenClaim := { program := "ytkjdhhdkfbkgpaa", sum := "2cc28b8aa2d0ccfe3b79c40701385642474bb7dfc22aeee312fe3c55d25797ac", func := "cloister/cloisterlaw15.EpNobody", spec := "epNobody", unfollowed := true, recurses := true, apart := false }
def EpNobodySaid : Prop := epNobodyRow.holds Try.pinned (OpenSpec.ofChange epNobodySpec)

/-- ITS FALSE NEIGHBOUR: 'it returns false'. Refute it at one input. -/
def epNobodyWrong : ChangeSpec := { name := "epNobody", fn := fun _ => fun
  | [d1, d2] => { results := [.lit (.bool false)], args := [d1, d2] }
  | _ => none }
def EpNobodyWrongFalsely : Prop := epNobodyRow.holds Try.pinned (OpenSpec.ofChange epNobodyWrong)

/- THE SECOND FORM. 'bulk': how many values and letters a reading holds, each counted each time it is reached (what is shared counts as often as it is met; a slice's spare places count too). A statement '..UptoSaid' is the law's where the arguments, and the package variables that the reading takes, are together of bulk at most 1048576: NARROWER than '..Said'. Prove '..Said' where nothing that the law and all that it calls make is longer than what came in: it says more and counts as full. Else prove '..UptoSaid'. A law counts once. -/
mutual
def uptoBulk {H : Type} : DataW H → Nat
  | .lit (.string bytes) => bytes.length + 1
  | .lit _ => 1
  | .nil => 1
  | .ptr d => uptoBulk d + 1
  | .slice elems spare => uptoBulkAll elems + uptoBulkAll spare + 1
  | .agg parts => uptoBulkAll parts + 1
  | .iface _ d => uptoBulk d + 1
  | .map entries => uptoBulkEntries entries + 1
  | .held _ => 1
def uptoBulkAll {H : Type} : List (DataW H) → Nat
  | [] => 0
  | d :: r => uptoBulk d + uptoBulkAll r
def uptoBulkEntries {H : Type} : List (Lit × DataW H) → Nat
  | [] => 0
  | x :: r => uptoBulkEntry x + uptoBulkEntries r
def uptoBulkEntry {H : Type} : Lit × DataW H → Nat
  | (.string bytes, d) => bytes.length + uptoBulk d + 1
  | (_, d) => uptoBulk d + 1
 end
def uptoSmall : (H : Type) → List (DataW H) → Bool := fun _ ds => decide (uptoBulkAll ds ≤ 1048576)
def OpenSpec.upto (s : _root_.Go.ChangeSpec) : _root_.Go.OpenSpec := { _root_.Go.OpenSpec.ofChange s with cond := some uptoSmall }

/-- 'cloisterlaw15.EpPages', WHERE WHAT IT READS IS OF BULK AT MOST 1048576: true; the input reads as it did. -/
def epPagesUptoRow : OpenClaim := { program := "ytkjdhhdkfbkgpaa", sum := "2cc28b8aa2d0ccfe3b79c40701385642474bb7dfc22aeee312fe3c55d25797ac", func := "cloister/cloisterlaw15.EpPages", spec := "epPages", unfollowed := true, recurses := true, apart := false, narrowed := true }
def EpPagesUptoSaid : Prop := epPagesUptoRow.holds Try.pinned (OpenSpec.upto epPagesSpec)

/-- 'cloisterlaw15.EpFresh', WHERE WHAT IT READS IS OF BULK AT MOST 1048576: true; the input reads as it did. -/
def epFreshUptoRow : OpenClaim := { program := "ytkjdhhdkfbkgpaa", sum := "2cc28b8aa2d0ccfe3b79c40701385642474bb7dfc22aeee312fe3c55d25797ac", func := "cloister/cloisterlaw15.EpFresh", spec := "epFresh", unfollowed := true, recurses := true, apart := false, narrowed := true }
def EpFreshUptoSaid : Prop := epFreshUptoRow.holds Try.pinned (OpenSpec.upto epFreshSpec)

/-- 'cloisterlaw15.EpApart', WHERE WHAT IT READS IS OF BULK AT MOST 1048576: true; the input reads as it did. -/
def epApartUptoRow : OpenClaim := { program := "ytkjdhhdkfbkgpaa", sum := "2cc28b8aa2d0ccfe3b79c40701385642474bb7dfc22aeee312fe3c55d25797ac", func := "cloister/cloisterlaw15.EpApart", spec := "epApart", unfollowed := true, recurses := true, apart := false, narrowed := true }
def EpApartUptoSaid : Prop := epApartUptoRow.holds Try.pinned (OpenSpec.upto epApartSpec)

/-- 'cloisterlaw15.EpPlays', WHERE WHAT IT READS IS OF BULK AT MOST 1048576: true; the input reads as it did. -/
def epPlaysUptoRow : OpenClaim := { program := "ytkjdhhdkfbkgpaa", sum := "2cc28b8aa2d0ccfe3b79c40701385642474bb7dfc22aeee312fe3c55d25797ac", func := "cloister/cloisterlaw15.EpPlays", spec := "epPlays", unfollowed := true, recurses := true, apart := false, narrowed := true }
def EpPlaysUptoSaid : Prop := epPlaysUptoRow.holds Try.pinned (OpenSpec.upto epPlaysSpec)

/-- 'cloisterlaw15.EpNobody', WHERE WHAT IT READS IS OF BULK AT MOST 1048576: true; the input reads as it did. -/
def epNobodyUptoRow : OpenClaim := { program := "ytkjdhhdkfbkgpaa", sum := "2cc28b8aa2d0ccfe3b79c40701385642474bb7dfc22aeee312fe3c55d25797ac", func := "cloister/cloisterlaw15.EpNobody", spec := "epNobody", unfollowed := true, recurses := true, apart := false, narrowed := true }
def EpNobodyUptoSaid : Prop := epNobodyUptoRow.holds Try.pinned (OpenSpec.upto epNobodySpec)

end Rows
end Go.Proofs.Ytkjdhhdkfbkgpaa
