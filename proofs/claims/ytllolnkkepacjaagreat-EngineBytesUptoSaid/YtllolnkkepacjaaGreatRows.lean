/-
  No cell of these rows narrows 'for every input' (looked for: loops, veiled, ifaces, maps, wideKeys, modest, calm, conditions, laid).
  DERIVED. THE GIVEN ROWS OF THIS SEAT. 12 by the template 'for every input the law returns true; each argument reads behind the call as it read before'; 0 by the template 'total and deterministic' (their statements: YtllolnkkepacjaaGreatTotals.lean).
  GIVEN WITH THE SEED: the statements are not yours to turn. If you find one false, say at which input.
  Laid BY PROGRAM, IN A SANDBOX (cutbox-rows.mjs): the forced cells as the released guide's own fill.sh prints them over the translation c4ce8c00a07bd1bd… (all of the seat's roots in one cut). By AI agents, Wed Nov 11 2026. No macro, syntax, notation, axiom, sorry.
-/
import Derived.Test.YtllolnkkepacjaaGreatChecked
import GoSem.Claim
import GoSem.ClaimJoined
import GoSem.ClaimMapViews
import Derived.JoinedTies
import Derived.KernelRfl
namespace Go.Proofs.YtllolnkkepacjaaGreat
/- THE CELL 'sum', in the pinned program and in every row, IS THE sha256 OF THE DUMP (.gsa) THAT YtllolnkkepacjaaGreatProg.lean LOADS. Nothing in Lean hashes anything: it is a label: what it is worth is what the hold of that sum in a sandbox is worth. -/
noncomputable def Tryz.pinned : Pinned := { name := "ytllolnkkepacjaagreat", sum := "c4ce8c00a07bd1bdedae421ee0fe4861de211ddbf7794d7de8ac6a1bb70cefd2", checked := Tryz.checked }
namespace Rows
def none {H : Type} : Left H := { results := [], args := [] }

/-- 'furrowlaw21.EngineRunes': WHATEVER THE INPUT: true; the input reads as it did. -/
def engineRunesSpec : ChangeSpec := { name := "engineRunes", fn := fun _ => fun
  | [d1, d2, d3] => { results := [.lit (.bool true)], args := [d1, d2, d3] }
  | _ => none }
def engineRunesRow : OpenClaim := { program := "ytllolnkkepacjaagreat", sum := "c4ce8c00a07bd1bdedae421ee0fe4861de211ddbf7794d7de8ac6a1bb70cefd2", func := "furrow/furrowlaw21.EngineRunes", spec := "engineRunes", unfollowed := true, recurses := true, apart := false }
def EngineRunesSaid : Prop := engineRunesRow.holds Tryz.pinned (OpenSpec.ofChange engineRunesSpec)

/-- ITS FALSE NEIGHBOUR: 'it returns false'. Refute it at one input. -/
def engineRunesWrong : ChangeSpec := { name := "engineRunes", fn := fun _ => fun
  | [d1, d2, d3] => { results := [.lit (.bool false)], args := [d1, d2, d3] }
  | _ => none }
def EngineRunesWrongFalsely : Prop := engineRunesRow.holds Tryz.pinned (OpenSpec.ofChange engineRunesWrong)

/-- 'furrowlaw21.EngineNames': WHATEVER THE INPUT: true; the input reads as it did. -/
def engineNamesSpec : ChangeSpec := { name := "engineNames", fn := fun _ => fun
  | [] => { results := [.lit (.bool true)], args := [] }
  | _ => none }
def engineNamesRow : OpenClaim := { program := "ytllolnkkepacjaagreat", sum := "c4ce8c00a07bd1bdedae421ee0fe4861de211ddbf7794d7de8ac6a1bb70cefd2", func := "furrow/furrowlaw21.EngineNames", spec := "engineNames", unfollowed := true, recurses := true, apart := false }
def EngineNamesSaid : Prop := engineNamesRow.holds Tryz.pinned (OpenSpec.ofChange engineNamesSpec)

/-- ITS FALSE NEIGHBOUR: 'it returns false'. Refute it at one input. -/
def engineNamesWrong : ChangeSpec := { name := "engineNames", fn := fun _ => fun
  | [] => { results := [.lit (.bool false)], args := [] }
  | _ => none }
def EngineNamesWrongFalsely : Prop := engineNamesRow.holds Tryz.pinned (OpenSpec.ofChange engineNamesWrong)

/-- 'furrowlaw21.EngineLines': WHATEVER THE INPUT: true; the input reads as it did. -/
def engineLinesSpec : ChangeSpec := { name := "engineLines", fn := fun _ => fun
  | [d1, d2] => { results := [.lit (.bool true)], args := [d1, d2] }
  | _ => none }
def engineLinesRow : OpenClaim := { program := "ytllolnkkepacjaagreat", sum := "c4ce8c00a07bd1bdedae421ee0fe4861de211ddbf7794d7de8ac6a1bb70cefd2", func := "furrow/furrowlaw21.EngineLines", spec := "engineLines", unfollowed := true, recurses := true, apart := false }
def EngineLinesSaid : Prop := engineLinesRow.holds Tryz.pinned (OpenSpec.ofChange engineLinesSpec)

/-- ITS FALSE NEIGHBOUR: 'it returns false'. Refute it at one input. -/
def engineLinesWrong : ChangeSpec := { name := "engineLines", fn := fun _ => fun
  | [d1, d2] => { results := [.lit (.bool false)], args := [d1, d2] }
  | _ => none }
def EngineLinesWrongFalsely : Prop := engineLinesRow.holds Tryz.pinned (OpenSpec.ofChange engineLinesWrong)

/-- 'furrowlaw21.EngineClasses': WHATEVER THE INPUT: true; the input reads as it did. -/
def engineClassesSpec : ChangeSpec := { name := "engineClasses", fn := fun _ => fun
  | [d1, d2] => { results := [.lit (.bool true)], args := [d1, d2] }
  | _ => none }
def engineClassesRow : OpenClaim := { program := "ytllolnkkepacjaagreat", sum := "c4ce8c00a07bd1bdedae421ee0fe4861de211ddbf7794d7de8ac6a1bb70cefd2", func := "furrow/furrowlaw21.EngineClasses", spec := "engineClasses", unfollowed := true, recurses := true, apart := false }
def EngineClassesSaid : Prop := engineClassesRow.holds Tryz.pinned (OpenSpec.ofChange engineClassesSpec)

/-- ITS FALSE NEIGHBOUR: 'it returns false'. Refute it at one input. -/
def engineClassesWrong : ChangeSpec := { name := "engineClasses", fn := fun _ => fun
  | [d1, d2] => { results := [.lit (.bool false)], args := [d1, d2] }
  | _ => none }
def EngineClassesWrongFalsely : Prop := engineClassesRow.holds Tryz.pinned (OpenSpec.ofChange engineClassesWrong)

/-- 'furrowlaw21.EngineBounds': WHATEVER THE INPUT: true; the input reads as it did. -/
def engineBoundsSpec : ChangeSpec := { name := "engineBounds", fn := fun _ => fun
  | [d1, d2, d3, d4] => { results := [.lit (.bool true)], args := [d1, d2, d3, d4] }
  | _ => none }
def engineBoundsRow : OpenClaim := { program := "ytllolnkkepacjaagreat", sum := "c4ce8c00a07bd1bdedae421ee0fe4861de211ddbf7794d7de8ac6a1bb70cefd2", func := "furrow/furrowlaw21.EngineBounds", spec := "engineBounds", unfollowed := true, recurses := true, apart := false }
def EngineBoundsSaid : Prop := engineBoundsRow.holds Tryz.pinned (OpenSpec.ofChange engineBoundsSpec)

/-- ITS FALSE NEIGHBOUR: 'it returns false'. Refute it at one input. -/
def engineBoundsWrong : ChangeSpec := { name := "engineBounds", fn := fun _ => fun
  | [d1, d2, d3, d4] => { results := [.lit (.bool false)], args := [d1, d2, d3, d4] }
  | _ => none }
def EngineBoundsWrongFalsely : Prop := engineBoundsRow.holds Tryz.pinned (OpenSpec.ofChange engineBoundsWrong)

/-- 'furrowlaw21.EngineStrong': WHATEVER THE INPUT: true; the input reads as it did. -/
def engineStrongSpec : ChangeSpec := { name := "engineStrong", fn := fun _ => fun
  | [d1, d2] => { results := [.lit (.bool true)], args := [d1, d2] }
  | _ => none }
def engineStrongRow : OpenClaim := { program := "ytllolnkkepacjaagreat", sum := "c4ce8c00a07bd1bdedae421ee0fe4861de211ddbf7794d7de8ac6a1bb70cefd2", func := "furrow/furrowlaw21.EngineStrong", spec := "engineStrong", unfollowed := true, recurses := true, apart := false }
def EngineStrongSaid : Prop := engineStrongRow.holds Tryz.pinned (OpenSpec.ofChange engineStrongSpec)

/-- ITS FALSE NEIGHBOUR: 'it returns false'. Refute it at one input. -/
def engineStrongWrong : ChangeSpec := { name := "engineStrong", fn := fun _ => fun
  | [d1, d2] => { results := [.lit (.bool false)], args := [d1, d2] }
  | _ => none }
def EngineStrongWrongFalsely : Prop := engineStrongRow.holds Tryz.pinned (OpenSpec.ofChange engineStrongWrong)

/-- 'furrowlaw21.EngineApart': WHATEVER THE INPUT: true; the input reads as it did. -/
def engineApartSpec : ChangeSpec := { name := "engineApart", fn := fun _ => fun
  | [d1, d2, d3, d4, d5, d6] => { results := [.lit (.bool true)], args := [d1, d2, d3, d4, d5, d6] }
  | _ => none }
def engineApartRow : OpenClaim := { program := "ytllolnkkepacjaagreat", sum := "c4ce8c00a07bd1bdedae421ee0fe4861de211ddbf7794d7de8ac6a1bb70cefd2", func := "furrow/furrowlaw21.EngineApart", spec := "engineApart", unfollowed := true, recurses := true, apart := false }
def EngineApartSaid : Prop := engineApartRow.holds Tryz.pinned (OpenSpec.ofChange engineApartSpec)

/-- ITS FALSE NEIGHBOUR: 'it returns false'. Refute it at one input. -/
def engineApartWrong : ChangeSpec := { name := "engineApart", fn := fun _ => fun
  | [d1, d2, d3, d4, d5, d6] => { results := [.lit (.bool false)], args := [d1, d2, d3, d4, d5, d6] }
  | _ => none }
def EngineApartWrongFalsely : Prop := engineApartRow.holds Tryz.pinned (OpenSpec.ofChange engineApartWrong)

/-- 'furrowlaw21.EngineMirrored': WHATEVER THE INPUT: true; the input reads as it did. -/
def engineMirroredSpec : ChangeSpec := { name := "engineMirrored", fn := fun _ => fun
  | [d] => { results := [.lit (.bool true)], args := [d] }
  | _ => none }
def engineMirroredRow : OpenClaim := { program := "ytllolnkkepacjaagreat", sum := "c4ce8c00a07bd1bdedae421ee0fe4861de211ddbf7794d7de8ac6a1bb70cefd2", func := "furrow/furrowlaw21.EngineMirrored", spec := "engineMirrored", unfollowed := true, recurses := true, apart := false }
def EngineMirroredSaid : Prop := engineMirroredRow.holds Tryz.pinned (OpenSpec.ofChange engineMirroredSpec)

/-- ITS FALSE NEIGHBOUR: 'it returns false'. Refute it at one input. -/
def engineMirroredWrong : ChangeSpec := { name := "engineMirrored", fn := fun _ => fun
  | [d] => { results := [.lit (.bool false)], args := [d] }
  | _ => none }
def EngineMirroredWrongFalsely : Prop := engineMirroredRow.holds Tryz.pinned (OpenSpec.ofChange engineMirroredWrong)

/-- 'furrowlaw21.EngineLong': WHATEVER THE INPUT: true; the input reads as it did. -/
def engineLongSpec : ChangeSpec := { name := "engineLong", fn := fun _ => fun
  | [] => { results := [.lit (.bool true)], args := [] }
  | _ => none }
def engineLongRow : OpenClaim := { program := "ytllolnkkepacjaagreat", sum := "c4ce8c00a07bd1bdedae421ee0fe4861de211ddbf7794d7de8ac6a1bb70cefd2", func := "furrow/furrowlaw21.EngineLong", spec := "engineLong", unfollowed := true, recurses := true, apart := false }
def EngineLongSaid : Prop := engineLongRow.holds Tryz.pinned (OpenSpec.ofChange engineLongSpec)

/-- ITS FALSE NEIGHBOUR: 'it returns false'. Refute it at one input. -/
def engineLongWrong : ChangeSpec := { name := "engineLong", fn := fun _ => fun
  | [] => { results := [.lit (.bool false)], args := [] }
  | _ => none }
def EngineLongWrongFalsely : Prop := engineLongRow.holds Tryz.pinned (OpenSpec.ofChange engineLongWrong)

/-- 'furrowlaw21.EngineCut': WHATEVER THE INPUT: true; the input reads as it did. -/
def engineCutSpec : ChangeSpec := { name := "engineCut", fn := fun _ => fun
  | [d1, d2, d3] => { results := [.lit (.bool true)], args := [d1, d2, d3] }
  | _ => none }
def engineCutRow : OpenClaim := { program := "ytllolnkkepacjaagreat", sum := "c4ce8c00a07bd1bdedae421ee0fe4861de211ddbf7794d7de8ac6a1bb70cefd2", func := "furrow/furrowlaw21.EngineCut", spec := "engineCut", unfollowed := true, recurses := true, apart := false }
def EngineCutSaid : Prop := engineCutRow.holds Tryz.pinned (OpenSpec.ofChange engineCutSpec)

/-- ITS FALSE NEIGHBOUR: 'it returns false'. Refute it at one input. -/
def engineCutWrong : ChangeSpec := { name := "engineCut", fn := fun _ => fun
  | [d1, d2, d3] => { results := [.lit (.bool false)], args := [d1, d2, d3] }
  | _ => none }
def EngineCutWrongFalsely : Prop := engineCutRow.holds Tryz.pinned (OpenSpec.ofChange engineCutWrong)

/-- 'furrowlaw21.EngineTexts': WHATEVER THE INPUT: true; the input reads as it did. -/
def engineTextsSpec : ChangeSpec := { name := "engineTexts", fn := fun _ => fun
  | [d1, d2, d3, d4] => { results := [.lit (.bool true)], args := [d1, d2, d3, d4] }
  | _ => none }
def engineTextsRow : OpenClaim := { program := "ytllolnkkepacjaagreat", sum := "c4ce8c00a07bd1bdedae421ee0fe4861de211ddbf7794d7de8ac6a1bb70cefd2", func := "furrow/furrowlaw21.EngineTexts", spec := "engineTexts", unfollowed := true, recurses := true, apart := false }
def EngineTextsSaid : Prop := engineTextsRow.holds Tryz.pinned (OpenSpec.ofChange engineTextsSpec)

/-- ITS FALSE NEIGHBOUR: 'it returns false'. Refute it at one input. -/
def engineTextsWrong : ChangeSpec := { name := "engineTexts", fn := fun _ => fun
  | [d1, d2, d3, d4] => { results := [.lit (.bool false)], args := [d1, d2, d3, d4] }
  | _ => none }
def EngineTextsWrongFalsely : Prop := engineTextsRow.holds Tryz.pinned (OpenSpec.ofChange engineTextsWrong)

/-- 'furrowlaw21.EngineBytes': WHATEVER THE INPUT: true; the input reads as it did. -/
def engineBytesSpec : ChangeSpec := { name := "engineBytes", fn := fun _ => fun
  | [d1, d2, d3] => { results := [.lit (.bool true)], args := [d1, d2, d3] }
  | _ => none }
def engineBytesRow : OpenClaim := { program := "ytllolnkkepacjaagreat", sum := "c4ce8c00a07bd1bdedae421ee0fe4861de211ddbf7794d7de8ac6a1bb70cefd2", func := "furrow/furrowlaw21.EngineBytes", spec := "engineBytes", unfollowed := true, recurses := true, apart := false }
def EngineBytesSaid : Prop := engineBytesRow.holds Tryz.pinned (OpenSpec.ofChange engineBytesSpec)

/-- ITS FALSE NEIGHBOUR: 'it returns false'. Refute it at one input. -/
def engineBytesWrong : ChangeSpec := { name := "engineBytes", fn := fun _ => fun
  | [d1, d2, d3] => { results := [.lit (.bool false)], args := [d1, d2, d3] }
  | _ => none }
def EngineBytesWrongFalsely : Prop := engineBytesRow.holds Tryz.pinned (OpenSpec.ofChange engineBytesWrong)

/- THE SECOND FORM. 'bulk': how many values and letters a reading holds, each counted each time it is reached (what is shared counts as often as it is met; a slice's spare places count too). A statement '..UptoSaid' is the law's where the arguments, and the package variables that the reading takes, are together of bulk at most 1048576: NARROWER than '..Said'. Prove '..Said' where nothing that the law and all that it calls make is longer than what came in: it says more and counts as full. Else prove '..UptoSaid'. A law counts once. -/
mutual
def uptoBulk {H : Type} : DataW H → Nat
  | .lit (.string bytes) => bytes.length + 1
  | .lit _ => 1
  | .nil => 1
  | .ptr d => uptoBulk d + 1
  | .slice elems spare => uptoBulkAll elems + uptoBulkAll spare + 1
  | .agg parts => uptoBulkAll parts + 1
  | .iface _ d => uptoBulk d + 1
  | .map entries => uptoBulkEntries entries + 1
  | .held _ => 1
def uptoBulkAll {H : Type} : List (DataW H) → Nat
  | [] => 0
  | d :: r => uptoBulk d + uptoBulkAll r
def uptoBulkEntries {H : Type} : List (Lit × DataW H) → Nat
  | [] => 0
  | x :: r => uptoBulkEntry x + uptoBulkEntries r
def uptoBulkEntry {H : Type} : Lit × DataW H → Nat
  | (.string bytes, d) => bytes.length + uptoBulk d + 1
  | (_, d) => uptoBulk d + 1
 end
def uptoSmall : (H : Type) → List (DataW H) → Bool := fun _ ds => decide (uptoBulkAll ds ≤ 1048576)
def OpenSpec.upto (s : _root_.Go.ChangeSpec) : _root_.Go.OpenSpec := { _root_.Go.OpenSpec.ofChange s with cond := some uptoSmall }

/-- 'furrowlaw21.EngineRunes', WHERE WHAT IT READS IS OF BULK AT MOST 1048576: true; the input reads as it did. -/
def engineRunesUptoRow : OpenClaim := { program := "ytllolnkkepacjaagreat", sum := "c4ce8c00a07bd1bdedae421ee0fe4861de211ddbf7794d7de8ac6a1bb70cefd2", func := "furrow/furrowlaw21.EngineRunes", spec := "engineRunes", unfollowed := true, recurses := true, apart := false, narrowed := true }
def EngineRunesUptoSaid : Prop := engineRunesUptoRow.holds Tryz.pinned (OpenSpec.upto engineRunesSpec)

/-- 'furrowlaw21.EngineNames', WHERE WHAT IT READS IS OF BULK AT MOST 1048576: true; the input reads as it did. -/
def engineNamesUptoRow : OpenClaim := { program := "ytllolnkkepacjaagreat", sum := "c4ce8c00a07bd1bdedae421ee0fe4861de211ddbf7794d7de8ac6a1bb70cefd2", func := "furrow/furrowlaw21.EngineNames", spec := "engineNames", unfollowed := true, recurses := true, apart := false, narrowed := true }
def EngineNamesUptoSaid : Prop := engineNamesUptoRow.holds Tryz.pinned (OpenSpec.upto engineNamesSpec)

/-- 'furrowlaw21.EngineLines', WHERE WHAT IT READS IS OF BULK AT MOST 1048576: true; the input reads as it did. -/
def engineLinesUptoRow : OpenClaim := { program := "ytllolnkkepacjaagreat", sum := "c4ce8c00a07bd1bdedae421ee0fe4861de211ddbf7794d7de8ac6a1bb70cefd2", func := "furrow/furrowlaw21.EngineLines", spec := "engineLines", unfollowed := true, recurses := true, apart := false, narrowed := true }
def EngineLinesUptoSaid : Prop := engineLinesUptoRow.holds Tryz.pinned (OpenSpec.upto engineLinesSpec)

/-- 'furrowlaw21.EngineClasses', WHERE WHAT IT READS IS OF BULK AT MOST 1048576: true; the input reads as it did. -/
def engineClassesUptoRow : OpenClaim := { program := "ytllolnkkepacjaagreat", sum := "c4ce8c00a07bd1bdedae421ee0fe4861de211ddbf7794d7de8ac6a1bb70cefd2", func := "furrow/furrowlaw21.EngineClasses", spec := "engineClasses", unfollowed := true, recurses := true, apart := false, narrowed := true }
def EngineClassesUptoSaid : Prop := engineClassesUptoRow.holds Tryz.pinned (OpenSpec.upto engineClassesSpec)

/-- 'furrowlaw21.EngineBounds', WHERE WHAT IT READS IS OF BULK AT MOST 1048576: true; the input reads as it did. -/
def engineBoundsUptoRow : OpenClaim := { program := "ytllolnkkepacjaagreat", sum := "c4ce8c00a07bd1bdedae421ee0fe4861de211ddbf7794d7de8ac6a1bb70cefd2", func := "furrow/furrowlaw21.EngineBounds", spec := "engineBounds", unfollowed := true, recurses := true, apart := false, narrowed := true }
def EngineBoundsUptoSaid : Prop := engineBoundsUptoRow.holds Tryz.pinned (OpenSpec.upto engineBoundsSpec)

/-- 'furrowlaw21.EngineStrong', WHERE WHAT IT READS IS OF BULK AT MOST 1048576: true; the input reads as it did. -/
def engineStrongUptoRow : OpenClaim := { program := "ytllolnkkepacjaagreat", sum := "c4ce8c00a07bd1bdedae421ee0fe4861de211ddbf7794d7de8ac6a1bb70cefd2", func := "furrow/furrowlaw21.EngineStrong", spec := "engineStrong", unfollowed := true, recurses := true, apart := false, narrowed := true }
def EngineStrongUptoSaid : Prop := engineStrongUptoRow.holds Tryz.pinned (OpenSpec.upto engineStrongSpec)

/-- 'furrowlaw21.EngineApart', WHERE WHAT IT READS IS OF BULK AT MOST 1048576: true; the input reads as it did. -/
def engineApartUptoRow : OpenClaim := { program := "ytllolnkkepacjaagreat", sum := "c4ce8c00a07bd1bdedae421ee0fe4861de211ddbf7794d7de8ac6a1bb70cefd2", func := "furrow/furrowlaw21.EngineApart", spec := "engineApart", unfollowed := true, recurses := true, apart := false, narrowed := true }
def EngineApartUptoSaid : Prop := engineApartUptoRow.holds Tryz.pinned (OpenSpec.upto engineApartSpec)

/-- 'furrowlaw21.EngineMirrored', WHERE WHAT IT READS IS OF BULK AT MOST 1048576: true; the input reads as it did. -/
def engineMirroredUptoRow : OpenClaim := { program := "ytllolnkkepacjaagreat", sum := "c4ce8c00a07bd1bdedae421ee0fe4861de211ddbf7794d7de8ac6a1bb70cefd2", func := "furrow/furrowlaw21.EngineMirrored", spec := "engineMirrored", unfollowed := true, recurses := true, apart := false, narrowed := true }
def EngineMirroredUptoSaid : Prop := engineMirroredUptoRow.holds Tryz.pinned (OpenSpec.upto engineMirroredSpec)

/-- 'furrowlaw21.EngineLong', WHERE WHAT IT READS IS OF BULK AT MOST 1048576: true; the input reads as it did. -/
def engineLongUptoRow : OpenClaim := { program := "ytllolnkkepacjaagreat", sum := "c4ce8c00a07bd1bdedae421ee0fe4861de211ddbf7794d7de8ac6a1bb70cefd2", func := "furrow/furrowlaw21.EngineLong", spec := "engineLong", unfollowed := true, recurses := true, apart := false, narrowed := true }
def EngineLongUptoSaid : Prop := engineLongUptoRow.holds Tryz.pinned (OpenSpec.upto engineLongSpec)

/-- 'furrowlaw21.EngineCut', WHERE WHAT IT READS IS OF BULK AT MOST 1048576: true; the input reads as it did. -/
def engineCutUptoRow : OpenClaim := { program := "ytllolnkkepacjaagreat", sum := "c4ce8c00a07bd1bdedae421ee0fe4861de211ddbf7794d7de8ac6a1bb70cefd2", func := "furrow/furrowlaw21.EngineCut", spec := "engineCut", unfollowed := true, recurses := true, apart := false, narrowed := true }
def EngineCutUptoSaid : Prop := engineCutUptoRow.holds Tryz.pinned (OpenSpec.upto engineCutSpec)

/-- 'furrowlaw21.EngineTexts', WHERE WHAT IT READS IS OF BULK AT MOST 1048576: true; the input reads as it did. -/
def engineTextsUptoRow : OpenClaim := { program := "ytllolnkkepacjaagreat", sum := "c4ce8c00a07bd1bdedae421ee0fe4861de211ddbf7794d7de8ac6a1bb70cefd2", func := "furrow/furrowlaw21.EngineTexts", spec := "engineTexts", unfollowed := true, recurses := true, apart := false, narrowed := true }
def EngineTextsUptoSaid : Prop := engineTextsUptoRow.holds Tryz.pinned (OpenSpec.upto engineTextsSpec)

/-- 'furrowlaw21.EngineBytes', WHERE WHAT IT READS IS OF BULK AT MOST 1048576: true; the input reads as it did. -/
def engineBytesUptoRow : OpenClaim := { program := "ytllolnkkepacjaagreat", sum := "c4ce8c00a07bd1bdedae421ee0fe4861de211ddbf7794d7de8ac6a1bb70cefd2", func := "furrow/furrowlaw21.EngineBytes", spec := "engineBytes", unfollowed := true, recurses := true, apart := false, narrowed := true }
def EngineBytesUptoSaid : Prop := engineBytesUptoRow.holds Tryz.pinned (OpenSpec.upto engineBytesSpec)

end Rows
end Go.Proofs.YtllolnkkepacjaaGreat
