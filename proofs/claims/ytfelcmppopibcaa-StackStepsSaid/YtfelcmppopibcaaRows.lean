/-
  No cell of these rows narrows 'for every input' (looked for: loops, veiled, ifaces, maps, wideKeys, modest, calm, conditions, laid).
  DERIVED. THE GIVEN ROWS OF THIS SEAT. 8 by the template 'for every input the law returns true; each argument reads behind the call as it read before'; 0 by the template 'total and deterministic' (their statements: YtfelcmppopibcaaTotals.lean).
  GIVEN WITH THE SEED: the statements are not yours to turn. If you find one false, say at which input.
  Laid BY PROGRAM, IN A SANDBOX (cutbox-rows.mjs): the forced cells as the released guide's own fill.sh prints them over the translation 6a85777002f0f6d0… (all of the seat's roots in one cut). By AI agents, Wed Nov 11 2026. No macro, syntax, notation, axiom, sorry.
-/
import Derived.Test.YtfelcmppopibcaaChecked
import GoSem.Claim
import GoSem.ClaimJoined
import GoSem.ClaimMapViews
import Derived.JoinedTies
import Derived.KernelRfl
namespace Go.Proofs.Ytfelcmppopibcaa
/- THE CELL 'sum', in the pinned program and in every row, IS THE sha256 OF THE DUMP (.gsa) THAT YtfelcmppopibcaaProg.lean LOADS. Nothing in Lean hashes anything: it is a label: what it is worth is what the hold of that sum in a sandbox is worth. -/
noncomputable def Try.pinned : Pinned := { name := "ytfelcmppopibcaa", sum := "6a85777002f0f6d08da49ffd3f235623cc9eb6210cf397112772bd0af4e50d76", checked := Try.checked }
namespace Rows
def none {H : Type} : Left H := { results := [], args := [] }

/-- 'furrowlaw16.StackExplicit': WHATEVER THE INPUT: true; the input reads as it did. -/
def stackExplicitSpec : ChangeSpec := { name := "stackExplicit", fn := fun _ => fun
  | [d1, d2] => { results := [.lit (.bool true)], args := [d1, d2] }
  | _ => none }
def stackExplicitRow : OpenClaim := { program := "ytfelcmppopibcaa", sum := "6a85777002f0f6d08da49ffd3f235623cc9eb6210cf397112772bd0af4e50d76", func := "furrow/furrowlaw16.StackExplicit", spec := "stackExplicit", unfollowed := true, recurses := true, apart := false }
def StackExplicitSaid : Prop := stackExplicitRow.holds Try.pinned (OpenSpec.ofChange stackExplicitSpec)

/-- ITS FALSE NEIGHBOUR: 'it returns false'. Refute it at one input. -/
def stackExplicitWrong : ChangeSpec := { name := "stackExplicit", fn := fun _ => fun
  | [d1, d2] => { results := [.lit (.bool false)], args := [d1, d2] }
  | _ => none }
def StackExplicitWrongFalsely : Prop := stackExplicitRow.holds Try.pinned (OpenSpec.ofChange stackExplicitWrong)

/-- 'furrowlaw16.StackClosed': WHATEVER THE INPUT: true; the input reads as it did. -/
def stackClosedSpec : ChangeSpec := { name := "stackClosed", fn := fun _ => fun
  | [d1, d2, d3] => { results := [.lit (.bool true)], args := [d1, d2, d3] }
  | _ => none }
def stackClosedRow : OpenClaim := { program := "ytfelcmppopibcaa", sum := "6a85777002f0f6d08da49ffd3f235623cc9eb6210cf397112772bd0af4e50d76", func := "furrow/furrowlaw16.StackClosed", spec := "stackClosed", unfollowed := true, recurses := true, apart := false }
def StackClosedSaid : Prop := stackClosedRow.holds Try.pinned (OpenSpec.ofChange stackClosedSpec)

/-- ITS FALSE NEIGHBOUR: 'it returns false'. Refute it at one input. -/
def stackClosedWrong : ChangeSpec := { name := "stackClosed", fn := fun _ => fun
  | [d1, d2, d3] => { results := [.lit (.bool false)], args := [d1, d2, d3] }
  | _ => none }
def StackClosedWrongFalsely : Prop := stackClosedRow.holds Try.pinned (OpenSpec.ofChange stackClosedWrong)

/-- 'furrowlaw16.StackBegun': WHATEVER THE INPUT: true; the input reads as it did. -/
def stackBegunSpec : ChangeSpec := { name := "stackBegun", fn := fun _ => fun
  | [d1, d2] => { results := [.lit (.bool true)], args := [d1, d2] }
  | _ => none }
def stackBegunRow : OpenClaim := { program := "ytfelcmppopibcaa", sum := "6a85777002f0f6d08da49ffd3f235623cc9eb6210cf397112772bd0af4e50d76", func := "furrow/furrowlaw16.StackBegun", spec := "stackBegun", unfollowed := true, recurses := true, apart := false }
def StackBegunSaid : Prop := stackBegunRow.holds Try.pinned (OpenSpec.ofChange stackBegunSpec)

/-- ITS FALSE NEIGHBOUR: 'it returns false'. Refute it at one input. -/
def stackBegunWrong : ChangeSpec := { name := "stackBegun", fn := fun _ => fun
  | [d1, d2] => { results := [.lit (.bool false)], args := [d1, d2] }
  | _ => none }
def StackBegunWrongFalsely : Prop := stackBegunRow.holds Try.pinned (OpenSpec.ofChange stackBegunWrong)

/-- 'furrowlaw16.StackNames': WHATEVER THE INPUT: true; the input reads as it did. -/
def stackNamesSpec : ChangeSpec := { name := "stackNames", fn := fun _ => fun
  | [] => { results := [.lit (.bool true)], args := [] }
  | _ => none }
def stackNamesRow : OpenClaim := { program := "ytfelcmppopibcaa", sum := "6a85777002f0f6d08da49ffd3f235623cc9eb6210cf397112772bd0af4e50d76", func := "furrow/furrowlaw16.StackNames", spec := "stackNames", unfollowed := true, recurses := true, apart := false }
def StackNamesSaid : Prop := stackNamesRow.holds Try.pinned (OpenSpec.ofChange stackNamesSpec)

/-- ITS FALSE NEIGHBOUR: 'it returns false'. Refute it at one input. -/
def stackNamesWrong : ChangeSpec := { name := "stackNames", fn := fun _ => fun
  | [] => { results := [.lit (.bool false)], args := [] }
  | _ => none }
def StackNamesWrongFalsely : Prop := stackNamesRow.holds Try.pinned (OpenSpec.ofChange stackNamesWrong)

/-- 'furrowlaw16.StackBounds': WHATEVER THE INPUT: true; the input reads as it did. -/
def stackBoundsSpec : ChangeSpec := { name := "stackBounds", fn := fun _ => fun
  | [d1, d2] => { results := [.lit (.bool true)], args := [d1, d2] }
  | _ => none }
def stackBoundsRow : OpenClaim := { program := "ytfelcmppopibcaa", sum := "6a85777002f0f6d08da49ffd3f235623cc9eb6210cf397112772bd0af4e50d76", func := "furrow/furrowlaw16.StackBounds", spec := "stackBounds", unfollowed := true, recurses := true, apart := false }
def StackBoundsSaid : Prop := stackBoundsRow.holds Try.pinned (OpenSpec.ofChange stackBoundsSpec)

/-- ITS FALSE NEIGHBOUR: 'it returns false'. Refute it at one input. -/
def stackBoundsWrong : ChangeSpec := { name := "stackBounds", fn := fun _ => fun
  | [d1, d2] => { results := [.lit (.bool false)], args := [d1, d2] }
  | _ => none }
def StackBoundsWrongFalsely : Prop := stackBoundsRow.holds Try.pinned (OpenSpec.ofChange stackBoundsWrong)

/-- 'furrowlaw16.StackOver': WHATEVER THE INPUT: true; the input reads as it did. -/
def stackOverSpec : ChangeSpec := { name := "stackOver", fn := fun _ => fun
  | [d1, d2] => { results := [.lit (.bool true)], args := [d1, d2] }
  | _ => none }
def stackOverRow : OpenClaim := { program := "ytfelcmppopibcaa", sum := "6a85777002f0f6d08da49ffd3f235623cc9eb6210cf397112772bd0af4e50d76", func := "furrow/furrowlaw16.StackOver", spec := "stackOver", unfollowed := true, recurses := true, apart := false }
def StackOverSaid : Prop := stackOverRow.holds Try.pinned (OpenSpec.ofChange stackOverSpec)

/-- ITS FALSE NEIGHBOUR: 'it returns false'. Refute it at one input. -/
def stackOverWrong : ChangeSpec := { name := "stackOver", fn := fun _ => fun
  | [d1, d2] => { results := [.lit (.bool false)], args := [d1, d2] }
  | _ => none }
def StackOverWrongFalsely : Prop := stackOverRow.holds Try.pinned (OpenSpec.ofChange stackOverWrong)

/-- 'furrowlaw16.StackSteps': WHATEVER THE INPUT: true; the input reads as it did. -/
def stackStepsSpec : ChangeSpec := { name := "stackSteps", fn := fun _ => fun
  | [d1, d2] => { results := [.lit (.bool true)], args := [d1, d2] }
  | _ => none }
def stackStepsRow : OpenClaim := { program := "ytfelcmppopibcaa", sum := "6a85777002f0f6d08da49ffd3f235623cc9eb6210cf397112772bd0af4e50d76", func := "furrow/furrowlaw16.StackSteps", spec := "stackSteps", unfollowed := true, recurses := true, apart := false }
def StackStepsSaid : Prop := stackStepsRow.holds Try.pinned (OpenSpec.ofChange stackStepsSpec)

/-- ITS FALSE NEIGHBOUR: 'it returns false'. Refute it at one input. -/
def stackStepsWrong : ChangeSpec := { name := "stackSteps", fn := fun _ => fun
  | [d1, d2] => { results := [.lit (.bool false)], args := [d1, d2] }
  | _ => none }
def StackStepsWrongFalsely : Prop := stackStepsRow.holds Try.pinned (OpenSpec.ofChange stackStepsWrong)

/-- 'furrowlaw16.StackNone': WHATEVER THE INPUT: true; the input reads as it did. -/
def stackNoneSpec : ChangeSpec := { name := "stackNone", fn := fun _ => fun
  | [d1, d2] => { results := [.lit (.bool true)], args := [d1, d2] }
  | _ => none }
def stackNoneRow : OpenClaim := { program := "ytfelcmppopibcaa", sum := "6a85777002f0f6d08da49ffd3f235623cc9eb6210cf397112772bd0af4e50d76", func := "furrow/furrowlaw16.StackNone", spec := "stackNone", unfollowed := true, recurses := true, apart := false }
def StackNoneSaid : Prop := stackNoneRow.holds Try.pinned (OpenSpec.ofChange stackNoneSpec)

/-- ITS FALSE NEIGHBOUR: 'it returns false'. Refute it at one input. -/
def stackNoneWrong : ChangeSpec := { name := "stackNone", fn := fun _ => fun
  | [d1, d2] => { results := [.lit (.bool false)], args := [d1, d2] }
  | _ => none }
def StackNoneWrongFalsely : Prop := stackNoneRow.holds Try.pinned (OpenSpec.ofChange stackNoneWrong)

/- THE SECOND FORM. 'bulk': how many values and letters a reading holds, each counted each time it is reached (what is shared counts as often as it is met; a slice's spare places count too). A statement '..UptoSaid' is the law's where the arguments, and the package variables that the reading takes, are together of bulk at most 1048576: NARROWER than '..Said'. Prove '..Said' where nothing that the law and all that it calls make is longer than what came in: it says more and counts as full. Else prove '..UptoSaid'. A law counts once. -/
mutual
def uptoBulk {H : Type} : DataW H → Nat
  | .lit (.string bytes) => bytes.length + 1
  | .lit _ => 1
  | .nil => 1
  | .ptr d => uptoBulk d + 1
  | .slice elems spare => uptoBulkAll elems + uptoBulkAll spare + 1
  | .agg parts => uptoBulkAll parts + 1
  | .iface _ d => uptoBulk d + 1
  | .map entries => uptoBulkEntries entries + 1
  | .held _ => 1
def uptoBulkAll {H : Type} : List (DataW H) → Nat
  | [] => 0
  | d :: r => uptoBulk d + uptoBulkAll r
def uptoBulkEntries {H : Type} : List (Lit × DataW H) → Nat
  | [] => 0
  | x :: r => uptoBulkEntry x + uptoBulkEntries r
def uptoBulkEntry {H : Type} : Lit × DataW H → Nat
  | (.string bytes, d) => bytes.length + uptoBulk d + 1
  | (_, d) => uptoBulk d + 1
 end
def uptoSmall : (H : Type) → List (DataW H) → Bool := fun _ ds => decide (uptoBulkAll ds ≤ 1048576)
def OpenSpec.upto (s : _root_.Go.ChangeSpec) : _root_.Go.OpenSpec := { _root_.Go.OpenSpec.ofChange s with cond := some uptoSmall }

/-- 'furrowlaw16.StackExplicit', WHERE WHAT IT READS IS OF BULK AT MOST 1048576: true; the input reads as it did. -/
def stackExplicitUptoRow : OpenClaim := { program := "ytfelcmppopibcaa", sum := "6a85777002f0f6d08da49ffd3f235623cc9eb6210cf397112772bd0af4e50d76", func := "furrow/furrowlaw16.StackExplicit", spec := "stackExplicit", unfollowed := true, recurses := true, apart := false, narrowed := true }
def StackExplicitUptoSaid : Prop := stackExplicitUptoRow.holds Try.pinned (OpenSpec.upto stackExplicitSpec)

/-- 'furrowlaw16.StackClosed', WHERE WHAT IT READS IS OF BULK AT MOST 1048576: true; the input reads as it did. -/
def stackClosedUptoRow : OpenClaim := { program := "ytfelcmppopibcaa", sum := "6a85777002f0f6d08da49ffd3f235623cc9eb6210cf397112772bd0af4e50d76", func := "furrow/furrowlaw16.StackClosed", spec := "stackClosed", unfollowed := true, recurses := true, apart := false, narrowed := true }
def StackClosedUptoSaid : Prop := stackClosedUptoRow.holds Try.pinned (OpenSpec.upto stackClosedSpec)

/-- 'furrowlaw16.StackBegun', WHERE WHAT IT READS IS OF BULK AT MOST 1048576: true; the input reads as it did. -/
def stackBegunUptoRow : OpenClaim := { program := "ytfelcmppopibcaa", sum := "6a85777002f0f6d08da49ffd3f235623cc9eb6210cf397112772bd0af4e50d76", func := "furrow/furrowlaw16.StackBegun", spec := "stackBegun", unfollowed := true, recurses := true, apart := false, narrowed := true }
def StackBegunUptoSaid : Prop := stackBegunUptoRow.holds Try.pinned (OpenSpec.upto stackBegunSpec)

/-- 'furrowlaw16.StackNames', WHERE WHAT IT READS IS OF BULK AT MOST 1048576: true; the input reads as it did. -/
def stackNamesUptoRow : OpenClaim := { program := "ytfelcmppopibcaa", sum := "6a85777002f0f6d08da49ffd3f235623cc9eb6210cf397112772bd0af4e50d76", func := "furrow/furrowlaw16.StackNames", spec := "stackNames", unfollowed := true, recurses := true, apart := false, narrowed := true }
def StackNamesUptoSaid : Prop := stackNamesUptoRow.holds Try.pinned (OpenSpec.upto stackNamesSpec)

/-- 'furrowlaw16.StackBounds', WHERE WHAT IT READS IS OF BULK AT MOST 1048576: true; the input reads as it did. -/
def stackBoundsUptoRow : OpenClaim := { program := "ytfelcmppopibcaa", sum := "6a85777002f0f6d08da49ffd3f235623cc9eb6210cf397112772bd0af4e50d76", func := "furrow/furrowlaw16.StackBounds", spec := "stackBounds", unfollowed := true, recurses := true, apart := false, narrowed := true }
def StackBoundsUptoSaid : Prop := stackBoundsUptoRow.holds Try.pinned (OpenSpec.upto stackBoundsSpec)

/-- 'furrowlaw16.StackOver', WHERE WHAT IT READS IS OF BULK AT MOST 1048576: true; the input reads as it did. -/
def stackOverUptoRow : OpenClaim := { program := "ytfelcmppopibcaa", sum := "6a85777002f0f6d08da49ffd3f235623cc9eb6210cf397112772bd0af4e50d76", func := "furrow/furrowlaw16.StackOver", spec := "stackOver", unfollowed := true, recurses := true, apart := false, narrowed := true }
def StackOverUptoSaid : Prop := stackOverUptoRow.holds Try.pinned (OpenSpec.upto stackOverSpec)

/-- 'furrowlaw16.StackSteps', WHERE WHAT IT READS IS OF BULK AT MOST 1048576: true; the input reads as it did. -/
def stackStepsUptoRow : OpenClaim := { program := "ytfelcmppopibcaa", sum := "6a85777002f0f6d08da49ffd3f235623cc9eb6210cf397112772bd0af4e50d76", func := "furrow/furrowlaw16.StackSteps", spec := "stackSteps", unfollowed := true, recurses := true, apart := false, narrowed := true }
def StackStepsUptoSaid : Prop := stackStepsUptoRow.holds Try.pinned (OpenSpec.upto stackStepsSpec)

/-- 'furrowlaw16.StackNone', WHERE WHAT IT READS IS OF BULK AT MOST 1048576: true; the input reads as it did. -/
def stackNoneUptoRow : OpenClaim := { program := "ytfelcmppopibcaa", sum := "6a85777002f0f6d08da49ffd3f235623cc9eb6210cf397112772bd0af4e50d76", func := "furrow/furrowlaw16.StackNone", spec := "stackNone", unfollowed := true, recurses := true, apart := false, narrowed := true }
def StackNoneUptoSaid : Prop := stackNoneUptoRow.holds Try.pinned (OpenSpec.upto stackNoneSpec)

end Rows
end Go.Proofs.Ytfelcmppopibcaa
