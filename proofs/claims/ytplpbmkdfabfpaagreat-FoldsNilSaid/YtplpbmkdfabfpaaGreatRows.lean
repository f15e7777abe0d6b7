/-
  No cell of these rows narrows 'for every input' (looked for: loops, veiled, ifaces, maps, wideKeys, modest, calm, conditions, laid).
  DERIVED. THE GIVEN ROWS OF THIS SEAT. 3 by the template 'for every input the law returns true; each argument reads behind the call as it read before'; 0 by the template 'total and deterministic' (their statements: YtplpbmkdfabfpaaGreatTotals.lean).
  GIVEN WITH THE SEED: the statements are not yours to turn. If you find one false, say at which input.
  Laid BY PROGRAM, IN A SANDBOX (cutbox-rows.mjs): the forced cells as the released guide's own fill.sh prints them over the translation 84b9c1b401c0cbad… (all of the seat's roots in one cut). By AI agents, Wed Nov 11 2026. No macro, syntax, notation, axiom, sorry.
-/
import Derived.Test.YtplpbmkdfabfpaaGreatChecked
import GoSem.Claim
import GoSem.ClaimJoined
import GoSem.ClaimMapViews
import Derived.JoinedTies
import Derived.KernelRfl
namespace Go.Proofs.YtplpbmkdfabfpaaGreat
/- THE CELL 'sum', in the pinned program and in every row, IS THE sha256 OF THE DUMP (.gsa) THAT YtplpbmkdfabfpaaGreatProg.lean LOADS. Nothing in Lean hashes anything: it is a label: what it is worth is what the hold of that sum in a sandbox is worth. -/
noncomputable def Tryz.pinned : Pinned := { name := "ytplpbmkdfabfpaagreat", sum := "84b9c1b401c0cbad4f4ff459e08d38bc3d42c7225057f9a824a869509d3763da", checked := Tryz.checked }
namespace Rows
def none {H : Type} : Left H := { results := [], args := [] }

/-- 'furrowlaw23.FoldsCover': WHATEVER THE INPUT: true; the input reads as it did. -/
def foldsCoverSpec : ChangeSpec := { name := "foldsCover", fn := fun _ => fun
  | [d] => { results := [.lit (.bool true)], args := [d] }
  | _ => none }
def foldsCoverRow : OpenClaim := { program := "ytplpbmkdfabfpaagreat", sum := "84b9c1b401c0cbad4f4ff459e08d38bc3d42c7225057f9a824a869509d3763da", func := "furrow/furrowlaw23.FoldsCover", spec := "foldsCover", unfollowed := true, recurses := true, apart := false }
def FoldsCoverSaid : Prop := foldsCoverRow.holds Tryz.pinned (OpenSpec.ofChange foldsCoverSpec)

/-- ITS FALSE NEIGHBOUR: 'it returns false'. Refute it at one input. -/
def foldsCoverWrong : ChangeSpec := { name := "foldsCover", fn := fun _ => fun
  | [d] => { results := [.lit (.bool false)], args := [d] }
  | _ => none }
def FoldsCoverWrongFalsely : Prop := foldsCoverRow.holds Tryz.pinned (OpenSpec.ofChange foldsCoverWrong)

/-- 'furrowlaw23.FoldsSame': WHATEVER THE INPUT: true; the input reads as it did. -/
def foldsSameSpec : ChangeSpec := { name := "foldsSame", fn := fun _ => fun
  | [d1, d2] => { results := [.lit (.bool true)], args := [d1, d2] }
  | _ => none }
def foldsSameRow : OpenClaim := { program := "ytplpbmkdfabfpaagreat", sum := "84b9c1b401c0cbad4f4ff459e08d38bc3d42c7225057f9a824a869509d3763da", func := "furrow/furrowlaw23.FoldsSame", spec := "foldsSame", unfollowed := true, recurses := true, apart := false }
def FoldsSameSaid : Prop := foldsSameRow.holds Tryz.pinned (OpenSpec.ofChange foldsSameSpec)

/-- ITS FALSE NEIGHBOUR: 'it returns false'. Refute it at one input. -/
def foldsSameWrong : ChangeSpec := { name := "foldsSame", fn := fun _ => fun
  | [d1, d2] => { results := [.lit (.bool false)], args := [d1, d2] }
  | _ => none }
def FoldsSameWrongFalsely : Prop := foldsSameRow.holds Tryz.pinned (OpenSpec.ofChange foldsSameWrong)

/-- 'furrowlaw23.FoldsNil': WHATEVER THE INPUT: true; the input reads as it did. -/
def foldsNilSpec : ChangeSpec := { name := "foldsNil", fn := fun _ => fun
  | [d1, d2, d3] => { results := [.lit (.bool true)], args := [d1, d2, d3] }
  | _ => none }
def foldsNilRow : OpenClaim := { program := "ytplpbmkdfabfpaagreat", sum := "84b9c1b401c0cbad4f4ff459e08d38bc3d42c7225057f9a824a869509d3763da", func := "furrow/furrowlaw23.FoldsNil", spec := "foldsNil", unfollowed := true, recurses := true, apart := false }
def FoldsNilSaid : Prop := foldsNilRow.holds Tryz.pinned (OpenSpec.ofChange foldsNilSpec)

/-- ITS FALSE NEIGHBOUR: 'it returns false'. Refute it at one input. -/
def foldsNilWrong : ChangeSpec := { name := "foldsNil", fn := fun _ => fun
  | [d1, d2, d3] => { results := [.lit (.bool false)], args := [d1, d2, d3] }
  | _ => none }
def FoldsNilWrongFalsely : Prop := foldsNilRow.holds Tryz.pinned (OpenSpec.ofChange foldsNilWrong)

/- THE SECOND FORM. 'bulk': how many values and letters a reading holds, each counted each time it is reached (what is shared counts as often as it is met; a slice's spare places count too). A statement '..UptoSaid' is the law's where the arguments, and the package variables that the reading takes, are together of bulk at most 1048576: NARROWER than '..Said'. Prove '..Said' where nothing that the law and all that it calls make is longer than what came in: it says more and counts as full. Else prove '..UptoSaid'. A law counts once. -/
mutual
def uptoBulk {H : Type} : DataW H → Nat
  | .lit (.string bytes) => bytes.length + 1
  | .lit _ => 1
  | .nil => 1
  | .ptr d => uptoBulk d + 1
  | .slice elems spare => uptoBulkAll elems + uptoBulkAll spare + 1
  | .agg parts => uptoBulkAll parts + 1
  | .iface _ d => uptoBulk d + 1
  | .map entries => uptoBulkEntries entries + 1
  | .held _ => 1
def uptoBulkAll {H : Type} : List (DataW H) → Nat
  | [] => 0
  | d :: r => uptoBulk d + uptoBulkAll r
def uptoBulkEntries {H : Type} : List (Lit × DataW H) → Nat
  | [] => 0
  | x :: r => uptoBulkEntry x + uptoBulkEntries r
def uptoBulkEntry {H : Type} : Lit × DataW H → Nat
  | (.string bytes, d) => bytes.length + uptoBulk d + 1
  | (_, d) => uptoBulk d + 1
 end
def uptoSmall : (H : Type) → List (DataW H) → Bool := fun _ ds => decide (uptoBulkAll ds ≤ 1048576)
def OpenSpec.upto (s : _root_.Go.ChangeSpec) : _root_.Go.OpenSpec := { _root_.Go.OpenSpec.ofChange s with cond := some uptoSmall }

/-- 'furrowlaw23.FoldsCover', WHERE WHAT IT READS IS OF BULK AT MOST 1048576: true; the input reads as it did. -/
def foldsCoverUptoRow : OpenClaim := { program := "ytplpbmkdfabfpaagreat", sum := "84b9c1b401c0cbad4f4ff459e08d38bc3d42c7225057f9a824a869509d3763da", func := "furrow/furrowlaw23.FoldsCover", spec := "foldsCover", unfollowed := true, recurses := true, apart := false, narrowed := true }
def FoldsCoverUptoSaid : Prop := foldsCoverUptoRow.holds Tryz.pinned (OpenSpec.upto foldsCoverSpec)

/-- 'furrowlaw23.FoldsSame', WHERE WHAT IT READS IS OF BULK AT MOST 1048576: true; the input reads as it did. -/
def foldsSameUptoRow : OpenClaim := { program := "ytplpbmkdfabfpaagreat", sum := "84b9c1b401c0cbad4f4ff459e08d38bc3d42c7225057f9a824a869509d3763da", func := "furrow/furrowlaw23.FoldsSame", spec := "foldsSame", unfollowed := true, recurses := true, apart := false, narrowed := true }
def FoldsSameUptoSaid : Prop := foldsSameUptoRow.holds Tryz.pinned (OpenSpec.upto foldsSameSpec)

/-- 'furrowlaw23.FoldsNil', WHERE WHAT IT READS IS OF BULK AT MOST 1048576: true; the input reads as it did. -/
def foldsNilUptoRow : OpenClaim := { program := "ytplpbmkdfabfpaagreat", sum := "84b9c1b401c0cbad4f4ff459e08d38bc3d42c7225057f9a824a869509d3763da", func := "furrow/furrowlaw23.FoldsNil", spec := "foldsNil", unfollowed := true, recurses := true, apart := false, narrowed := true }
def FoldsNilUptoSaid : Prop := foldsNilUptoRow.holds Tryz.pinned (OpenSpec.upto foldsNilSpec)

end Rows
end Go.Proofs.YtplpbmkdfabfpaaGreat
