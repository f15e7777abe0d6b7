/-
  No cell of these rows narrows 'for every input' (looked for: loops, veiled, ifaces, maps, wideKeys, modest, calm, conditions, laid).
  DERIVED. THE GIVEN ROWS OF THIS SEAT. 11 by the template 'for every input the law returns true; each argument reads behind the call as it read before'; 0 by the template 'total and deterministic' (their statements: YthifeccmbojcdaaTotals.lean).
  GIVEN WITH THE SEED: the statements are not yours to turn. If you find one false, say at which input.
  Laid BY PROGRAM, IN A SANDBOX (cutbox-rows.mjs): the forced cells as the released guide's own fill.sh prints them over the translation d7979562b7a54dae… (all of the seat's roots in one cut). By AI agents, Wed Nov 11 2026. No macro, syntax, notation, axiom, sorry.
-/
import Derived.Test.YthifeccmbojcdaaChecked
import GoSem.Claim
import GoSem.ClaimJoined
import GoSem.ClaimMapViews
import Derived.JoinedTies
import Derived.KernelRfl
namespace Go.Proofs.Ythifeccmbojcdaa
/- THE CELL 'sum', in the pinned program and in every row, IS THE sha256 OF THE DUMP (.gsa) THAT YthifeccmbojcdaaProg.lean LOADS. Nothing in Lean hashes anything: it is a label: what it is worth is what the hold of that sum in a sandbox is worth. -/
noncomputable def Try.pinned : Pinned := { name := "ythifeccmbojcdaa", sum := "d7979562b7a54dae5a9d230a9f05cd179ea38662ee07a898ffb8acc01af1360b", checked := Try.checked }
namespace Rows
def none {H : Type} : Left H := { results := [], args := [] }

/-- 'furrowlaw23.FoldsBegins': WHATEVER THE INPUT: true; the input reads as it did. -/
def foldsBeginsSpec : ChangeSpec := { name := "foldsBegins", fn := fun _ => fun
  | [d] => { results := [.lit (.bool true)], args := [d] }
  | _ => none }
def foldsBeginsRow : OpenClaim := { program := "ythifeccmbojcdaa", sum := "d7979562b7a54dae5a9d230a9f05cd179ea38662ee07a898ffb8acc01af1360b", func := "furrow/furrowlaw23.FoldsBegins", spec := "foldsBegins", unfollowed := true, recurses := true, apart := false }
def FoldsBeginsSaid : Prop := foldsBeginsRow.holds Try.pinned (OpenSpec.ofChange foldsBeginsSpec)

/-- ITS FALSE NEIGHBOUR: 'it returns false'. Refute it at one input. -/
def foldsBeginsWrong : ChangeSpec := { name := "foldsBegins", fn := fun _ => fun
  | [d] => { results := [.lit (.bool false)], args := [d] }
  | _ => none }
def FoldsBeginsWrongFalsely : Prop := foldsBeginsRow.holds Try.pinned (OpenSpec.ofChange foldsBeginsWrong)

/-- 'furrowlaw23.FoldsCuts': WHATEVER THE INPUT: true; the input reads as it did. -/
def foldsCutsSpec : ChangeSpec := { name := "foldsCuts", fn := fun _ => fun
  | [d1, d2, d3] => { results := [.lit (.bool true)], args := [d1, d2, d3] }
  | _ => none }
def foldsCutsRow : OpenClaim := { program := "ythifeccmbojcdaa", sum := "d7979562b7a54dae5a9d230a9f05cd179ea38662ee07a898ffb8acc01af1360b", func := "furrow/furrowlaw23.FoldsCuts", spec := "foldsCuts", unfollowed := true, recurses := true, apart := false }
def FoldsCutsSaid : Prop := foldsCutsRow.holds Try.pinned (OpenSpec.ofChange foldsCutsSpec)

/-- ITS FALSE NEIGHBOUR: 'it returns false'. Refute it at one input. -/
def foldsCutsWrong : ChangeSpec := { name := "foldsCuts", fn := fun _ => fun
  | [d1, d2, d3] => { results := [.lit (.bool false)], args := [d1, d2, d3] }
  | _ => none }
def FoldsCutsWrongFalsely : Prop := foldsCutsRow.holds Try.pinned (OpenSpec.ofChange foldsCutsWrong)

/-- 'furrowlaw23.FoldsMarks': WHATEVER THE INPUT: true; the input reads as it did. -/
def foldsMarksSpec : ChangeSpec := { name := "foldsMarks", fn := fun _ => fun
  | [d1, d2, d3] => { results := [.lit (.bool true)], args := [d1, d2, d3] }
  | _ => none }
def foldsMarksRow : OpenClaim := { program := "ythifeccmbojcdaa", sum := "d7979562b7a54dae5a9d230a9f05cd179ea38662ee07a898ffb8acc01af1360b", func := "furrow/furrowlaw23.FoldsMarks", spec := "foldsMarks", unfollowed := true, recurses := true, apart := false }
def FoldsMarksSaid : Prop := foldsMarksRow.holds Try.pinned (OpenSpec.ofChange foldsMarksSpec)

/-- ITS FALSE NEIGHBOUR: 'it returns false'. Refute it at one input. -/
def foldsMarksWrong : ChangeSpec := { name := "foldsMarks", fn := fun _ => fun
  | [d1, d2, d3] => { results := [.lit (.bool false)], args := [d1, d2, d3] }
  | _ => none }
def FoldsMarksWrongFalsely : Prop := foldsMarksRow.holds Try.pinned (OpenSpec.ofChange foldsMarksWrong)

/-- 'furrowlaw23.FoldsKnown': WHATEVER THE INPUT: true; the input reads as it did. -/
def foldsKnownSpec : ChangeSpec := { name := "foldsKnown", fn := fun _ => fun
  | [] => { results := [.lit (.bool true)], args := [] }
  | _ => none }
def foldsKnownRow : OpenClaim := { program := "ythifeccmbojcdaa", sum := "d7979562b7a54dae5a9d230a9f05cd179ea38662ee07a898ffb8acc01af1360b", func := "furrow/furrowlaw23.FoldsKnown", spec := "foldsKnown", unfollowed := true, recurses := true, apart := false }
def FoldsKnownSaid : Prop := foldsKnownRow.holds Try.pinned (OpenSpec.ofChange foldsKnownSpec)

/-- ITS FALSE NEIGHBOUR: 'it returns false'. Refute it at one input. -/
def foldsKnownWrong : ChangeSpec := { name := "foldsKnown", fn := fun _ => fun
  | [] => { results := [.lit (.bool false)], args := [] }
  | _ => none }
def FoldsKnownWrongFalsely : Prop := foldsKnownRow.holds Try.pinned (OpenSpec.ofChange foldsKnownWrong)

/-- 'furrowlaw17.SpansOne': WHATEVER THE INPUT: true; the input reads as it did. -/
def spansOneSpec : ChangeSpec := { name := "spansOne", fn := fun _ => fun
  | [d1, d2, d3] => { results := [.lit (.bool true)], args := [d1, d2, d3] }
  | _ => none }
def spansOneRow : OpenClaim := { program := "ythifeccmbojcdaa", sum := "d7979562b7a54dae5a9d230a9f05cd179ea38662ee07a898ffb8acc01af1360b", func := "furrow/furrowlaw17.SpansOne", spec := "spansOne", unfollowed := true, recurses := true, apart := false }
def SpansOneSaid : Prop := spansOneRow.holds Try.pinned (OpenSpec.ofChange spansOneSpec)

/-- ITS FALSE NEIGHBOUR: 'it returns false'. Refute it at one input. -/
def spansOneWrong : ChangeSpec := { name := "spansOne", fn := fun _ => fun
  | [d1, d2, d3] => { results := [.lit (.bool false)], args := [d1, d2, d3] }
  | _ => none }
def SpansOneWrongFalsely : Prop := spansOneRow.holds Try.pinned (OpenSpec.ofChange spansOneWrong)

/-- 'furrowlaw17.SpansRuns': WHATEVER THE INPUT: true; the input reads as it did. -/
def spansRunsSpec : ChangeSpec := { name := "spansRuns", fn := fun _ => fun
  | [d1, d2, d3] => { results := [.lit (.bool true)], args := [d1, d2, d3] }
  | _ => none }
def spansRunsRow : OpenClaim := { program := "ythifeccmbojcdaa", sum := "d7979562b7a54dae5a9d230a9f05cd179ea38662ee07a898ffb8acc01af1360b", func := "furrow/furrowlaw17.SpansRuns", spec := "spansRuns", unfollowed := true, recurses := true, apart := false }
def SpansRunsSaid : Prop := spansRunsRow.holds Try.pinned (OpenSpec.ofChange spansRunsSpec)

/-- ITS FALSE NEIGHBOUR: 'it returns false'. Refute it at one input. -/
def spansRunsWrong : ChangeSpec := { name := "spansRuns", fn := fun _ => fun
  | [d1, d2, d3] => { results := [.lit (.bool false)], args := [d1, d2, d3] }
  | _ => none }
def SpansRunsWrongFalsely : Prop := spansRunsRow.holds Try.pinned (OpenSpec.ofChange spansRunsWrong)

/-- 'furrowlaw17.SpansKnown': WHATEVER THE INPUT: true; the input reads as it did. -/
def spansKnownSpec : ChangeSpec := { name := "spansKnown", fn := fun _ => fun
  | [] => { results := [.lit (.bool true)], args := [] }
  | _ => none }
def spansKnownRow : OpenClaim := { program := "ythifeccmbojcdaa", sum := "d7979562b7a54dae5a9d230a9f05cd179ea38662ee07a898ffb8acc01af1360b", func := "furrow/furrowlaw17.SpansKnown", spec := "spansKnown", unfollowed := true, recurses := true, apart := false }
def SpansKnownSaid : Prop := spansKnownRow.holds Try.pinned (OpenSpec.ofChange spansKnownSpec)

/-- ITS FALSE NEIGHBOUR: 'it returns false'. Refute it at one input. -/
def spansKnownWrong : ChangeSpec := { name := "spansKnown", fn := fun _ => fun
  | [] => { results := [.lit (.bool false)], args := [] }
  | _ => none }
def SpansKnownWrongFalsely : Prop := spansKnownRow.holds Try.pinned (OpenSpec.ofChange spansKnownWrong)

/-- 'furrowlaw17.SpansRemoved': WHATEVER THE INPUT: true; the input reads as it did. -/
def spansRemovedSpec : ChangeSpec := { name := "spansRemoved", fn := fun _ => fun
  | [d1, d2, d3, d4] => { results := [.lit (.bool true)], args := [d1, d2, d3, d4] }
  | _ => none }
def spansRemovedRow : OpenClaim := { program := "ythifeccmbojcdaa", sum := "d7979562b7a54dae5a9d230a9f05cd179ea38662ee07a898ffb8acc01af1360b", func := "furrow/furrowlaw17.SpansRemoved", spec := "spansRemoved", unfollowed := true, recurses := true, apart := false }
def SpansRemovedSaid : Prop := spansRemovedRow.holds Try.pinned (OpenSpec.ofChange spansRemovedSpec)

/-- ITS FALSE NEIGHBOUR: 'it returns false'. Refute it at one input. -/
def spansRemovedWrong : ChangeSpec := { name := "spansRemoved", fn := fun _ => fun
  | [d1, d2, d3, d4] => { results := [.lit (.bool false)], args := [d1, d2, d3, d4] }
  | _ => none }
def SpansRemovedWrongFalsely : Prop := spansRemovedRow.holds Try.pinned (OpenSpec.ofChange spansRemovedWrong)

/-- 'furrowlaw17.SpansChecks': WHATEVER THE INPUT: true; the input reads as it did. -/
def spansChecksSpec : ChangeSpec := { name := "spansChecks", fn := fun _ => fun
  | [d1, d2] => { results := [.lit (.bool true)], args := [d1, d2] }
  | _ => none }
def spansChecksRow : OpenClaim := { program := "ythifeccmbojcdaa", sum := "d7979562b7a54dae5a9d230a9f05cd179ea38662ee07a898ffb8acc01af1360b", func := "furrow/furrowlaw17.SpansChecks", spec := "spansChecks", unfollowed := true, recurses := true, apart := false }
def SpansChecksSaid : Prop := spansChecksRow.holds Try.pinned (OpenSpec.ofChange spansChecksSpec)

/-- ITS FALSE NEIGHBOUR: 'it returns false'. Refute it at one input. -/
def spansChecksWrong : ChangeSpec := { name := "spansChecks", fn := fun _ => fun
  | [d1, d2] => { results := [.lit (.bool false)], args := [d1, d2] }
  | _ => none }
def SpansChecksWrongFalsely : Prop := spansChecksRow.holds Try.pinned (OpenSpec.ofChange spansChecksWrong)

/-- 'furrowlaw17.SpansEach': WHATEVER THE INPUT: true; the input reads as it did. -/
def spansEachSpec : ChangeSpec := { name := "spansEach", fn := fun _ => fun
  | [d1, d2] => { results := [.lit (.bool true)], args := [d1, d2] }
  | _ => none }
def spansEachRow : OpenClaim := { program := "ythifeccmbojcdaa", sum := "d7979562b7a54dae5a9d230a9f05cd179ea38662ee07a898ffb8acc01af1360b", func := "furrow/furrowlaw17.SpansEach", spec := "spansEach", unfollowed := true, recurses := true, apart := false }
def SpansEachSaid : Prop := spansEachRow.holds Try.pinned (OpenSpec.ofChange spansEachSpec)

/-- ITS FALSE NEIGHBOUR: 'it returns false'. Refute it at one input. -/
def spansEachWrong : ChangeSpec := { name := "spansEach", fn := fun _ => fun
  | [d1, d2] => { results := [.lit (.bool false)], args := [d1, d2] }
  | _ => none }
def SpansEachWrongFalsely : Prop := spansEachRow.holds Try.pinned (OpenSpec.ofChange spansEachWrong)

/-- 'furrowlaw17.SpansWithin': WHATEVER THE INPUT: true; the input reads as it did. -/
def spansWithinSpec : ChangeSpec := { name := "spansWithin", fn := fun _ => fun
  | [d1, d2, d3, d4] => { results := [.lit (.bool true)], args := [d1, d2, d3, d4] }
  | _ => none }
def spansWithinRow : OpenClaim := { program := "ythifeccmbojcdaa", sum := "d7979562b7a54dae5a9d230a9f05cd179ea38662ee07a898ffb8acc01af1360b", func := "furrow/furrowlaw17.SpansWithin", spec := "spansWithin", unfollowed := true, recurses := true, apart := false }
def SpansWithinSaid : Prop := spansWithinRow.holds Try.pinned (OpenSpec.ofChange spansWithinSpec)

/-- ITS FALSE NEIGHBOUR: 'it returns false'. Refute it at one input. -/
def spansWithinWrong : ChangeSpec := { name := "spansWithin", fn := fun _ => fun
  | [d1, d2, d3, d4] => { results := [.lit (.bool false)], args := [d1, d2, d3, d4] }
  | _ => none }
def SpansWithinWrongFalsely : Prop := spansWithinRow.holds Try.pinned (OpenSpec.ofChange spansWithinWrong)

/- THE SECOND FORM. 'bulk': how many values and letters a reading holds, each counted each time it is reached (what is shared counts as often as it is met; a slice's spare places count too). A statement '..UptoSaid' is the law's where the arguments, and the package variables that the reading takes, are together of bulk at most 1048576: NARROWER than '..Said'. Prove '..Said' where nothing that the law and all that it calls make is longer than what came in: it says more and counts as full. Else prove '..UptoSaid'. A law counts once. -/
mutual
def uptoBulk {H : Type} : DataW H → Nat
  | .lit (.string bytes) => bytes.length + 1
  | .lit _ => 1
  | .nil => 1
  | .ptr d => uptoBulk d + 1
  | .slice elems spare => uptoBulkAll elems + uptoBulkAll spare + 1
  | .agg parts => uptoBulkAll parts + 1
  | .iface _ d => uptoBulk d + 1
  | .map entries => uptoBulkEntries entries + 1
  | .held _ => 1
def uptoBulkAll {H : Type} : List (DataW H) → Nat
  | [] => 0
  | d :: r => uptoBulk d + uptoBulkAll r
def uptoBulkEntries {H : Type} : List (Lit × DataW H) → Nat
  | [] => 0
  | x :: r => uptoBulkEntry x + uptoBulkEntries r
def uptoBulkEntry {H : Type} : Lit × DataW H → Nat
  | (.string bytes, d) => bytes.length + uptoBulk d + 1
  | (_, d) => uptoBulk d + 1
 end
def uptoSmall : (H : Type) → List (DataW H) → Bool := fun _ ds => decide (uptoBulkAll ds ≤ 1048576)
def OpenSpec.upto (s : _root_.Go.ChangeSpec) : _root_.Go.OpenSpec := { _root_.Go.OpenSpec.ofChange s with cond := some uptoSmall }

/-- 'furrowlaw23.FoldsBegins', WHERE WHAT IT READS IS OF BULK AT MOST 1048576: true; the input reads as it did. -/
def foldsBeginsUptoRow : OpenClaim := { program := "ythifeccmbojcdaa", sum := "d7979562b7a54dae5a9d230a9f05cd179ea38662ee07a898ffb8acc01af1360b", func := "furrow/furrowlaw23.FoldsBegins", spec := "foldsBegins", unfollowed := true, recurses := true, apart := false, narrowed := true }
def FoldsBeginsUptoSaid : Prop := foldsBeginsUptoRow.holds Try.pinned (OpenSpec.upto foldsBeginsSpec)

/-- 'furrowlaw23.FoldsCuts', WHERE WHAT IT READS IS OF BULK AT MOST 1048576: true; the input reads as it did. -/
def foldsCutsUptoRow : OpenClaim := { program := "ythifeccmbojcdaa", sum := "d7979562b7a54dae5a9d230a9f05cd179ea38662ee07a898ffb8acc01af1360b", func := "furrow/furrowlaw23.FoldsCuts", spec := "foldsCuts", unfollowed := true, recurses := true, apart := false, narrowed := true }
def FoldsCutsUptoSaid : Prop := foldsCutsUptoRow.holds Try.pinned (OpenSpec.upto foldsCutsSpec)

/-- 'furrowlaw23.FoldsMarks', WHERE WHAT IT READS IS OF BULK AT MOST 1048576: true; the input reads as it did. -/
def foldsMarksUptoRow : OpenClaim := { program := "ythifeccmbojcdaa", sum := "d7979562b7a54dae5a9d230a9f05cd179ea38662ee07a898ffb8acc01af1360b", func := "furrow/furrowlaw23.FoldsMarks", spec := "foldsMarks", unfollowed := true, recurses := true, apart := false, narrowed := true }
def FoldsMarksUptoSaid : Prop := foldsMarksUptoRow.holds Try.pinned (OpenSpec.upto foldsMarksSpec)

/-- 'furrowlaw23.FoldsKnown', WHERE WHAT IT READS IS OF BULK AT MOST 1048576: true; the input reads as it did. -/
def foldsKnownUptoRow : OpenClaim := { program := "ythifeccmbojcdaa", sum := "d7979562b7a54dae5a9d230a9f05cd179ea38662ee07a898ffb8acc01af1360b", func := "furrow/furrowlaw23.FoldsKnown", spec := "foldsKnown", unfollowed := true, recurses := true, apart := false, narrowed := true }
def FoldsKnownUptoSaid : Prop := foldsKnownUptoRow.holds Try.pinned (OpenSpec.upto foldsKnownSpec)

/-- 'furrowlaw17.SpansOne', WHERE WHAT IT READS IS OF BULK AT MOST 1048576: true; the input reads as it did. -/
def spansOneUptoRow : OpenClaim := { program := "ythifeccmbojcdaa", sum := "d7979562b7a54dae5a9d230a9f05cd179ea38662ee07a898ffb8acc01af1360b", func := "furrow/furrowlaw17.SpansOne", spec := "spansOne", unfollowed := true, recurses := true, apart := false, narrowed := true }
def SpansOneUptoSaid : Prop := spansOneUptoRow.holds Try.pinned (OpenSpec.upto spansOneSpec)

/-- 'furrowlaw17.SpansRuns', WHERE WHAT IT READS IS OF BULK AT MOST 1048576: true; the input reads as it did. -/
def spansRunsUptoRow : OpenClaim := { program := "ythifeccmbojcdaa", sum := "d7979562b7a54dae5a9d230a9f05cd179ea38662ee07a898ffb8acc01af1360b", func := "furrow/furrowlaw17.SpansRuns", spec := "spansRuns", unfollowed := true, recurses := true, apart := false, narrowed := true }
def SpansRunsUptoSaid : Prop := spansRunsUptoRow.holds Try.pinned (OpenSpec.upto spansRunsSpec)

/-- 'furrowlaw17.SpansKnown', WHERE WHAT IT READS IS OF BULK AT MOST 1048576: true; the input reads as it did. -/
def spansKnownUptoRow : OpenClaim := { program := "ythifeccmbojcdaa", sum := "d7979562b7a54dae5a9d230a9f05cd179ea38662ee07a898ffb8acc01af1360b", func := "furrow/furrowlaw17.SpansKnown", spec := "spansKnown", unfollowed := true, recurses := true, apart := false, narrowed := true }
def SpansKnownUptoSaid : Prop := spansKnownUptoRow.holds Try.pinned (OpenSpec.upto spansKnownSpec)

/-- 'furrowlaw17.SpansRemoved', WHERE WHAT IT READS IS OF BULK AT MOST 1048576: true; the input reads as it did. -/
def spansRemovedUptoRow : OpenClaim := { program := "ythifeccmbojcdaa", sum := "d7979562b7a54dae5a9d230a9f05cd179ea38662ee07a898ffb8acc01af1360b", func := "furrow/furrowlaw17.SpansRemoved", spec := "spansRemoved", unfollowed := true, recurses := true, apart := false, narrowed := true }
def SpansRemovedUptoSaid : Prop := spansRemovedUptoRow.holds Try.pinned (OpenSpec.upto spansRemovedSpec)

/-- 'furrowlaw17.SpansChecks', WHERE WHAT IT READS IS OF BULK AT MOST 1048576: true; the input reads as it did. -/
def spansChecksUptoRow : OpenClaim := { program := "ythifeccmbojcdaa", sum := "d7979562b7a54dae5a9d230a9f05cd179ea38662ee07a898ffb8acc01af1360b", func := "furrow/furrowlaw17.SpansChecks", spec := "spansChecks", unfollowed := true, recurses := true, apart := false, narrowed := true }
def SpansChecksUptoSaid : Prop := spansChecksUptoRow.holds Try.pinned (OpenSpec.upto spansChecksSpec)

/-- 'furrowlaw17.SpansEach', WHERE WHAT IT READS IS OF BULK AT MOST 1048576: true; the input reads as it did. -/
def spansEachUptoRow : OpenClaim := { program := "ythifeccmbojcdaa", sum := "d7979562b7a54dae5a9d230a9f05cd179ea38662ee07a898ffb8acc01af1360b", func := "furrow/furrowlaw17.SpansEach", spec := "spansEach", unfollowed := true, recurses := true, apart := false, narrowed := true }
def SpansEachUptoSaid : Prop := spansEachUptoRow.holds Try.pinned (OpenSpec.upto spansEachSpec)

/-- 'furrowlaw17.SpansWithin', WHERE WHAT IT READS IS OF BULK AT MOST 1048576: true; the input reads as it did. -/
def spansWithinUptoRow : OpenClaim := { program := "ythifeccmbojcdaa", sum := "d7979562b7a54dae5a9d230a9f05cd179ea38662ee07a898ffb8acc01af1360b", func := "furrow/furrowlaw17.SpansWithin", spec := "spansWithin", unfollowed := true, recurses := true, apart := false, narrowed := true }
def SpansWithinUptoSaid : Prop := spansWithinUptoRow.holds Try.pinned (OpenSpec.upto spansWithinSpec)

end Rows
end Go.Proofs.Ythifeccmbojcdaa
