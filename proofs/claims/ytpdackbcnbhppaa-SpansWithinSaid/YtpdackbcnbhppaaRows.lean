/-
  No cell of these rows narrows 'for every input' (looked for: loops, veiled, ifaces, maps, wideKeys, modest, calm, conditions, laid).
  DERIVED. THE GIVEN ROWS OF THIS SEAT. 13 by the template 'for every input the law returns true; each argument reads behind the call as it read before'; 0 by the template 'total and deterministic' (their statements: YtpdackbcnbhppaaTotals.lean).
  GIVEN WITH THE SEED: the statements are not yours to turn. If you find one false, say at which input.
  Laid BY PROGRAM, IN A SANDBOX (cutbox-rows.mjs): the forced cells as the released guide's own fill.sh prints them over the translation 7c9ce452c2c8cc89… (all of the seat's roots in one cut). By AI agents, Wed Nov 11 2026. No macro, syntax, notation, axiom, sorry.
-/
import Derived.Test.YtpdackbcnbhppaaChecked
import GoSem.Claim
import GoSem.ClaimJoined
import GoSem.ClaimMapViews
import Derived.JoinedTies
import Derived.KernelRfl
namespace Go.Proofs.Ytpdackbcnbhppaa
/- THE CELL 'sum', in the pinned program and in every row, IS THE sha256 OF THE DUMP (.gsa) THAT YtpdackbcnbhppaaProg.lean LOADS. Nothing in Lean hashes anything: it is a label: what it is worth is what the hold of that sum in a sandbox is worth. -/
noncomputable def Try.pinned : Pinned := { name := "ytpdackbcnbhppaa", sum := "7c9ce452c2c8cc89d1f940aa0fb5479b137178575fd337ac0c9c0c9587f688e4", checked := Try.checked }
namespace Rows
def none {H : Type} : Left H := { results := [], args := [] }

/-- 'furrowlaw17.SpansRemoved': WHATEVER THE INPUT: true; the input reads as it did. -/
def spansRemovedSpec : ChangeSpec := { name := "spansRemoved", fn := fun _ => fun
  | [d1, d2, d3, d4] => { results := [.lit (.bool true)], args := [d1, d2, d3, d4] }
  | _ => none }
def spansRemovedRow : OpenClaim := { program := "ytpdackbcnbhppaa", sum := "7c9ce452c2c8cc89d1f940aa0fb5479b137178575fd337ac0c9c0c9587f688e4", func := "furrow/furrowlaw17.SpansRemoved", spec := "spansRemoved", unfollowed := true, recurses := true, apart := false }
def SpansRemovedSaid : Prop := spansRemovedRow.holds Try.pinned (OpenSpec.ofChange spansRemovedSpec)

/-- ITS FALSE NEIGHBOUR: 'it returns false'. Refute it at one input. -/
def spansRemovedWrong : ChangeSpec := { name := "spansRemoved", fn := fun _ => fun
  | [d1, d2, d3, d4] => { results := [.lit (.bool false)], args := [d1, d2, d3, d4] }
  | _ => none }
def SpansRemovedWrongFalsely : Prop := spansRemovedRow.holds Try.pinned (OpenSpec.ofChange spansRemovedWrong)

/-- 'furrowlaw17.SpansEach': WHATEVER THE INPUT: true; the input reads as it did. -/
def spansEachSpec : ChangeSpec := { name := "spansEach", fn := fun _ => fun
  | [d1, d2] => { results := [.lit (.bool true)], args := [d1, d2] }
  | _ => none }
def spansEachRow : OpenClaim := { program := "ytpdackbcnbhppaa", sum := "7c9ce452c2c8cc89d1f940aa0fb5479b137178575fd337ac0c9c0c9587f688e4", func := "furrow/furrowlaw17.SpansEach", spec := "spansEach", unfollowed := true, recurses := true, apart := false }
def SpansEachSaid : Prop := spansEachRow.holds Try.pinned (OpenSpec.ofChange spansEachSpec)

/-- ITS FALSE NEIGHBOUR: 'it returns false'. Refute it at one input. -/
def spansEachWrong : ChangeSpec := { name := "spansEach", fn := fun _ => fun
  | [d1, d2] => { results := [.lit (.bool false)], args := [d1, d2] }
  | _ => none }
def SpansEachWrongFalsely : Prop := spansEachRow.holds Try.pinned (OpenSpec.ofChange spansEachWrong)

/-- 'furrowlaw17.SpansWithin': WHATEVER THE INPUT: true; the input reads as it did. -/
def spansWithinSpec : ChangeSpec := { name := "spansWithin", fn := fun _ => fun
  | [d1, d2, d3, d4] => { results := [.lit (.bool true)], args := [d1, d2, d3, d4] }
  | _ => none }
def spansWithinRow : OpenClaim := { program := "ytpdackbcnbhppaa", sum := "7c9ce452c2c8cc89d1f940aa0fb5479b137178575fd337ac0c9c0c9587f688e4", func := "furrow/furrowlaw17.SpansWithin", spec := "spansWithin", unfollowed := true, recurses := true, apart := false }
def SpansWithinSaid : Prop := spansWithinRow.holds Try.pinned (OpenSpec.ofChange spansWithinSpec)

/-- ITS FALSE NEIGHBOUR: 'it returns false'. Refute it at one input. -/
def spansWithinWrong : ChangeSpec := { name := "spansWithin", fn := fun _ => fun
  | [d1, d2, d3, d4] => { results := [.lit (.bool false)], args := [d1, d2, d3, d4] }
  | _ => none }
def SpansWithinWrongFalsely : Prop := spansWithinRow.holds Try.pinned (OpenSpec.ofChange spansWithinWrong)

/-- 'furrowlaw19.PairsFinds': WHATEVER THE INPUT: true; the input reads as it did. -/
def pairsFindsSpec : ChangeSpec := { name := "pairsFinds", fn := fun _ => fun
  | [d] => { results := [.lit (.bool true)], args := [d] }
  | _ => none }
def pairsFindsRow : OpenClaim := { program := "ytpdackbcnbhppaa", sum := "7c9ce452c2c8cc89d1f940aa0fb5479b137178575fd337ac0c9c0c9587f688e4", func := "furrow/furrowlaw19.PairsFinds", spec := "pairsFinds", unfollowed := true, recurses := true, apart := false }
def PairsFindsSaid : Prop := pairsFindsRow.holds Try.pinned (OpenSpec.ofChange pairsFindsSpec)

/-- ITS FALSE NEIGHBOUR: 'it returns false'. Refute it at one input. -/
def pairsFindsWrong : ChangeSpec := { name := "pairsFinds", fn := fun _ => fun
  | [d] => { results := [.lit (.bool false)], args := [d] }
  | _ => none }
def PairsFindsWrongFalsely : Prop := pairsFindsRow.holds Try.pinned (OpenSpec.ofChange pairsFindsWrong)

/-- 'furrowlaw19.PairsResolves': WHATEVER THE INPUT: true; the input reads as it did. -/
def pairsResolvesSpec : ChangeSpec := { name := "pairsResolves", fn := fun _ => fun
  | [d] => { results := [.lit (.bool true)], args := [d] }
  | _ => none }
def pairsResolvesRow : OpenClaim := { program := "ytpdackbcnbhppaa", sum := "7c9ce452c2c8cc89d1f940aa0fb5479b137178575fd337ac0c9c0c9587f688e4", func := "furrow/furrowlaw19.PairsResolves", spec := "pairsResolves", unfollowed := true, recurses := true, apart := false }
def PairsResolvesSaid : Prop := pairsResolvesRow.holds Try.pinned (OpenSpec.ofChange pairsResolvesSpec)

/-- ITS FALSE NEIGHBOUR: 'it returns false'. Refute it at one input. -/
def pairsResolvesWrong : ChangeSpec := { name := "pairsResolves", fn := fun _ => fun
  | [d] => { results := [.lit (.bool false)], args := [d] }
  | _ => none }
def PairsResolvesWrongFalsely : Prop := pairsResolvesRow.holds Try.pinned (OpenSpec.ofChange pairsResolvesWrong)

/-- 'furrowlaw19.PairsWild': WHATEVER THE INPUT: true; the input reads as it did. -/
def pairsWildSpec : ChangeSpec := { name := "pairsWild", fn := fun _ => fun
  | [d] => { results := [.lit (.bool true)], args := [d] }
  | _ => none }
def pairsWildRow : OpenClaim := { program := "ytpdackbcnbhppaa", sum := "7c9ce452c2c8cc89d1f940aa0fb5479b137178575fd337ac0c9c0c9587f688e4", func := "furrow/furrowlaw19.PairsWild", spec := "pairsWild", unfollowed := true, recurses := true, apart := false }
def PairsWildSaid : Prop := pairsWildRow.holds Try.pinned (OpenSpec.ofChange pairsWildSpec)

/-- ITS FALSE NEIGHBOUR: 'it returns false'. Refute it at one input. -/
def pairsWildWrong : ChangeSpec := { name := "pairsWild", fn := fun _ => fun
  | [d] => { results := [.lit (.bool false)], args := [d] }
  | _ => none }
def PairsWildWrongFalsely : Prop := pairsWildRow.holds Try.pinned (OpenSpec.ofChange pairsWildWrong)

/-- 'furrowlaw19.PairsCross': WHATEVER THE INPUT: true; the input reads as it did. -/
def pairsCrossSpec : ChangeSpec := { name := "pairsCross", fn := fun _ => fun
  | [d] => { results := [.lit (.bool true)], args := [d] }
  | _ => none }
def pairsCrossRow : OpenClaim := { program := "ytpdackbcnbhppaa", sum := "7c9ce452c2c8cc89d1f940aa0fb5479b137178575fd337ac0c9c0c9587f688e4", func := "furrow/furrowlaw19.PairsCross", spec := "pairsCross", unfollowed := true, recurses := true, apart := false }
def PairsCrossSaid : Prop := pairsCrossRow.holds Try.pinned (OpenSpec.ofChange pairsCrossSpec)

/-- ITS FALSE NEIGHBOUR: 'it returns false'. Refute it at one input. -/
def pairsCrossWrong : ChangeSpec := { name := "pairsCross", fn := fun _ => fun
  | [d] => { results := [.lit (.bool false)], args := [d] }
  | _ => none }
def PairsCrossWrongFalsely : Prop := pairsCrossRow.holds Try.pinned (OpenSpec.ofChange pairsCrossWrong)

/-- 'furrowlaw19.PairsLittle': WHATEVER THE INPUT: true; the input reads as it did. -/
def pairsLittleSpec : ChangeSpec := { name := "pairsLittle", fn := fun _ => fun
  | [d] => { results := [.lit (.bool true)], args := [d] }
  | _ => none }
def pairsLittleRow : OpenClaim := { program := "ytpdackbcnbhppaa", sum := "7c9ce452c2c8cc89d1f940aa0fb5479b137178575fd337ac0c9c0c9587f688e4", func := "furrow/furrowlaw19.PairsLittle", spec := "pairsLittle", unfollowed := true, recurses := true, apart := false }
def PairsLittleSaid : Prop := pairsLittleRow.holds Try.pinned (OpenSpec.ofChange pairsLittleSpec)

/-- ITS FALSE NEIGHBOUR: 'it returns false'. Refute it at one input. -/
def pairsLittleWrong : ChangeSpec := { name := "pairsLittle", fn := fun _ => fun
  | [d] => { results := [.lit (.bool false)], args := [d] }
  | _ => none }
def PairsLittleWrongFalsely : Prop := pairsLittleRow.holds Try.pinned (OpenSpec.ofChange pairsLittleWrong)

/-- 'furrowlaw19.PairsRoom': WHATEVER THE INPUT: true; the input reads as it did. -/
def pairsRoomSpec : ChangeSpec := { name := "pairsRoom", fn := fun _ => fun
  | [d] => { results := [.lit (.bool true)], args := [d] }
  | _ => none }
def pairsRoomRow : OpenClaim := { program := "ytpdackbcnbhppaa", sum := "7c9ce452c2c8cc89d1f940aa0fb5479b137178575fd337ac0c9c0c9587f688e4", func := "furrow/furrowlaw19.PairsRoom", spec := "pairsRoom", unfollowed := true, recurses := true, apart := false }
def PairsRoomSaid : Prop := pairsRoomRow.holds Try.pinned (OpenSpec.ofChange pairsRoomSpec)

/-- ITS FALSE NEIGHBOUR: 'it returns false'. Refute it at one input. -/
def pairsRoomWrong : ChangeSpec := { name := "pairsRoom", fn := fun _ => fun
  | [d] => { results := [.lit (.bool false)], args := [d] }
  | _ => none }
def PairsRoomWrongFalsely : Prop := pairsRoomRow.holds Try.pinned (OpenSpec.ofChange pairsRoomWrong)

/-- 'furrowlaw19.PairsTwins': WHATEVER THE INPUT: true; the input reads as it did. -/
def pairsTwinsSpec : ChangeSpec := { name := "pairsTwins", fn := fun _ => fun
  | [d1, d2] => { results := [.lit (.bool true)], args := [d1, d2] }
  | _ => none }
def pairsTwinsRow : OpenClaim := { program := "ytpdackbcnbhppaa", sum := "7c9ce452c2c8cc89d1f940aa0fb5479b137178575fd337ac0c9c0c9587f688e4", func := "furrow/furrowlaw19.PairsTwins", spec := "pairsTwins", unfollowed := true, recurses := true, apart := false }
def PairsTwinsSaid : Prop := pairsTwinsRow.holds Try.pinned (OpenSpec.ofChange pairsTwinsSpec)

/-- ITS FALSE NEIGHBOUR: 'it returns false'. Refute it at one input. -/
def pairsTwinsWrong : ChangeSpec := { name := "pairsTwins", fn := fun _ => fun
  | [d1, d2] => { results := [.lit (.bool false)], args := [d1, d2] }
  | _ => none }
def PairsTwinsWrongFalsely : Prop := pairsTwinsRow.holds Try.pinned (OpenSpec.ofChange pairsTwinsWrong)

/-- 'furrowlaw19.PairsNames': WHATEVER THE INPUT: true; the input reads as it did. -/
def pairsNamesSpec : ChangeSpec := { name := "pairsNames", fn := fun _ => fun
  | [] => { results := [.lit (.bool true)], args := [] }
  | _ => none }
def pairsNamesRow : OpenClaim := { program := "ytpdackbcnbhppaa", sum := "7c9ce452c2c8cc89d1f940aa0fb5479b137178575fd337ac0c9c0c9587f688e4", func := "furrow/furrowlaw19.PairsNames", spec := "pairsNames", unfollowed := true, recurses := true, apart := false }
def PairsNamesSaid : Prop := pairsNamesRow.holds Try.pinned (OpenSpec.ofChange pairsNamesSpec)

/-- ITS FALSE NEIGHBOUR: 'it returns false'. Refute it at one input. -/
def pairsNamesWrong : ChangeSpec := { name := "pairsNames", fn := fun _ => fun
  | [] => { results := [.lit (.bool false)], args := [] }
  | _ => none }
def PairsNamesWrongFalsely : Prop := pairsNamesRow.holds Try.pinned (OpenSpec.ofChange pairsNamesWrong)

/-- 'furrowlaw19.PairsPiles': WHATEVER THE INPUT: true; the input reads as it did. -/
def pairsPilesSpec : ChangeSpec := { name := "pairsPiles", fn := fun _ => fun
  | [d] => { results := [.lit (.bool true)], args := [d] }
  | _ => none }
def pairsPilesRow : OpenClaim := { program := "ytpdackbcnbhppaa", sum := "7c9ce452c2c8cc89d1f940aa0fb5479b137178575fd337ac0c9c0c9587f688e4", func := "furrow/furrowlaw19.PairsPiles", spec := "pairsPiles", unfollowed := true, recurses := true, apart := false }
def PairsPilesSaid : Prop := pairsPilesRow.holds Try.pinned (OpenSpec.ofChange pairsPilesSpec)

/-- ITS FALSE NEIGHBOUR: 'it returns false'. Refute it at one input. -/
def pairsPilesWrong : ChangeSpec := { name := "pairsPiles", fn := fun _ => fun
  | [d] => { results := [.lit (.bool false)], args := [d] }
  | _ => none }
def PairsPilesWrongFalsely : Prop := pairsPilesRow.holds Try.pinned (OpenSpec.ofChange pairsPilesWrong)

/-- 'furrowlaw19.PairsNone': WHATEVER THE INPUT: true; the input reads as it did. -/
def pairsNoneSpec : ChangeSpec := { name := "pairsNone", fn := fun _ => fun
  | [d1, d2] => { results := [.lit (.bool true)], args := [d1, d2] }
  | _ => none }
def pairsNoneRow : OpenClaim := { program := "ytpdackbcnbhppaa", sum := "7c9ce452c2c8cc89d1f940aa0fb5479b137178575fd337ac0c9c0c9587f688e4", func := "furrow/furrowlaw19.PairsNone", spec := "pairsNone", unfollowed := true, recurses := true, apart := false }
def PairsNoneSaid : Prop := pairsNoneRow.holds Try.pinned (OpenSpec.ofChange pairsNoneSpec)

/-- ITS FALSE NEIGHBOUR: 'it returns false'. Refute it at one input. -/
def pairsNoneWrong : ChangeSpec := { name := "pairsNone", fn := fun _ => fun
  | [d1, d2] => { results := [.lit (.bool false)], args := [d1, d2] }
  | _ => none }
def PairsNoneWrongFalsely : Prop := pairsNoneRow.holds Try.pinned (OpenSpec.ofChange pairsNoneWrong)

/- THE SECOND FORM. 'bulk': how many values and letters a reading holds, each counted each time it is reached (what is shared counts as often as it is met; a slice's spare places count too). A statement '..UptoSaid' is the law's where the arguments, and the package variables that the reading takes, are together of bulk at most 1048576: NARROWER than '..Said'. Prove '..Said' where nothing that the law and all that it calls make is longer than what came in: it says more and counts as full. Else prove '..UptoSaid'. A law counts once. -/
mutual
def uptoBulk {H : Type} : DataW H → Nat
  | .lit (.string bytes) => bytes.length + 1
  | .lit _ => 1
  | .nil => 1
  | .ptr d => uptoBulk d + 1
  | .slice elems spare => uptoBulkAll elems + uptoBulkAll spare + 1
  | .agg parts => uptoBulkAll parts + 1
  | .iface _ d => uptoBulk d + 1
  | .map entries => uptoBulkEntries entries + 1
  | .held _ => 1
def uptoBulkAll {H : Type} : List (DataW H) → Nat
  | [] => 0
  | d :: r => uptoBulk d + uptoBulkAll r
def uptoBulkEntries {H : Type} : List (Lit × DataW H) → Nat
  | [] => 0
  | x :: r => uptoBulkEntry x + uptoBulkEntries r
def uptoBulkEntry {H : Type} : Lit × DataW H → Nat
  | (.string bytes, d) => bytes.length + uptoBulk d + 1
  | (_, d) => uptoBulk d + 1
 end
def uptoSmall : (H : Type) → List (DataW H) → Bool := fun _ ds => decide (uptoBulkAll ds ≤ 1048576)
def OpenSpec.upto (s : _root_.Go.ChangeSpec) : _root_.Go.OpenSpec := { _root_.Go.OpenSpec.ofChange s with cond := some uptoSmall }

/-- 'furrowlaw17.SpansRemoved', WHERE WHAT IT READS IS OF BULK AT MOST 1048576: true; the input reads as it did. -/
def spansRemovedUptoRow : OpenClaim := { program := "ytpdackbcnbhppaa", sum := "7c9ce452c2c8cc89d1f940aa0fb5479b137178575fd337ac0c9c0c9587f688e4", func := "furrow/furrowlaw17.SpansRemoved", spec := "spansRemoved", unfollowed := true, recurses := true, apart := false, narrowed := true }
def SpansRemovedUptoSaid : Prop := spansRemovedUptoRow.holds Try.pinned (OpenSpec.upto spansRemovedSpec)

/-- 'furrowlaw17.SpansEach', WHERE WHAT IT READS IS OF BULK AT MOST 1048576: true; the input reads as it did. -/
def spansEachUptoRow : OpenClaim := { program := "ytpdackbcnbhppaa", sum := "7c9ce452c2c8cc89d1f940aa0fb5479b137178575fd337ac0c9c0c9587f688e4", func := "furrow/furrowlaw17.SpansEach", spec := "spansEach", unfollowed := true, recurses := true, apart := false, narrowed := true }
def SpansEachUptoSaid : Prop := spansEachUptoRow.holds Try.pinned (OpenSpec.upto spansEachSpec)

/-- 'furrowlaw17.SpansWithin', WHERE WHAT IT READS IS OF BULK AT MOST 1048576: true; the input reads as it did. -/
def spansWithinUptoRow : OpenClaim := { program := "ytpdackbcnbhppaa", sum := "7c9ce452c2c8cc89d1f940aa0fb5479b137178575fd337ac0c9c0c9587f688e4", func := "furrow/furrowlaw17.SpansWithin", spec := "spansWithin", unfollowed := true, recurses := true, apart := false, narrowed := true }
def SpansWithinUptoSaid : Prop := spansWithinUptoRow.holds Try.pinned (OpenSpec.upto spansWithinSpec)

/-- 'furrowlaw19.PairsFinds', WHERE WHAT IT READS IS OF BULK AT MOST 1048576: true; the input reads as it did. -/
def pairsFindsUptoRow : OpenClaim := { program := "ytpdackbcnbhppaa", sum := "7c9ce452c2c8cc89d1f940aa0fb5479b137178575fd337ac0c9c0c9587f688e4", func := "furrow/furrowlaw19.PairsFinds", spec := "pairsFinds", unfollowed := true, recurses := true, apart := false, narrowed := true }
def PairsFindsUptoSaid : Prop := pairsFindsUptoRow.holds Try.pinned (OpenSpec.upto pairsFindsSpec)

/-- 'furrowlaw19.PairsResolves', WHERE WHAT IT READS IS OF BULK AT MOST 1048576: true; the input reads as it did. -/
def pairsResolvesUptoRow : OpenClaim := { program := "ytpdackbcnbhppaa", sum := "7c9ce452c2c8cc89d1f940aa0fb5479b137178575fd337ac0c9c0c9587f688e4", func := "furrow/furrowlaw19.PairsResolves", spec := "pairsResolves", unfollowed := true, recurses := true, apart := false, narrowed := true }
def PairsResolvesUptoSaid : Prop := pairsResolvesUptoRow.holds Try.pinned (OpenSpec.upto pairsResolvesSpec)

/-- 'furrowlaw19.PairsWild', WHERE WHAT IT READS IS OF BULK AT MOST 1048576: true; the input reads as it did. -/
def pairsWildUptoRow : OpenClaim := { program := "ytpdackbcnbhppaa", sum := "7c9ce452c2c8cc89d1f940aa0fb5479b137178575fd337ac0c9c0c9587f688e4", func := "furrow/furrowlaw19.PairsWild", spec := "pairsWild", unfollowed := true, recurses := true, apart := false, narrowed := true }
def PairsWildUptoSaid : Prop := pairsWildUptoRow.holds Try.pinned (OpenSpec.upto pairsWildSpec)

/-- 'furrowlaw19.PairsCross', WHERE WHAT IT READS IS OF BULK AT MOST 1048576: true; the input reads as it did. -/
def pairsCrossUptoRow : OpenClaim := { program := "ytpdackbcnbhppaa", sum := "7c9ce452c2c8cc89d1f940aa0fb5479b137178575fd337ac0c9c0c9587f688e4", func := "furrow/furrowlaw19.PairsCross", spec := "pairsCross", unfollowed := true, recurses := true, apart := false, narrowed := true }
def PairsCrossUptoSaid : Prop := pairsCrossUptoRow.holds Try.pinned (OpenSpec.upto pairsCrossSpec)

/-- 'furrowlaw19.PairsLittle', WHERE WHAT IT READS IS OF BULK AT MOST 1048576: true; the input reads as it did. -/
def pairsLittleUptoRow : OpenClaim := { program := "ytpdackbcnbhppaa", sum := "7c9ce452c2c8cc89d1f940aa0fb5479b137178575fd337ac0c9c0c9587f688e4", func := "furrow/furrowlaw19.PairsLittle", spec := "pairsLittle", unfollowed := true, recurses := true, apart := false, narrowed := true }
def PairsLittleUptoSaid : Prop := pairsLittleUptoRow.holds Try.pinned (OpenSpec.upto pairsLittleSpec)

/-- 'furrowlaw19.PairsRoom', WHERE WHAT IT READS IS OF BULK AT MOST 1048576: true; the input reads as it did. -/
def pairsRoomUptoRow : OpenClaim := { program := "ytpdackbcnbhppaa", sum := "7c9ce452c2c8cc89d1f940aa0fb5479b137178575fd337ac0c9c0c9587f688e4", func := "furrow/furrowlaw19.PairsRoom", spec := "pairsRoom", unfollowed := true, recurses := true, apart := false, narrowed := true }
def PairsRoomUptoSaid : Prop := pairsRoomUptoRow.holds Try.pinned (OpenSpec.upto pairsRoomSpec)

/-- 'furrowlaw19.PairsTwins', WHERE WHAT IT READS IS OF BULK AT MOST 1048576: true; the input reads as it did. -/
def pairsTwinsUptoRow : OpenClaim := { program := "ytpdackbcnbhppaa", sum := "7c9ce452c2c8cc89d1f940aa0fb5479b137178575fd337ac0c9c0c9587f688e4", func := "furrow/furrowlaw19.PairsTwins", spec := "pairsTwins", unfollowed := true, recurses := true, apart := false, narrowed := true }
def PairsTwinsUptoSaid : Prop := pairsTwinsUptoRow.holds Try.pinned (OpenSpec.upto pairsTwinsSpec)

/-- 'furrowlaw19.PairsNames', WHERE WHAT IT READS IS OF BULK AT MOST 1048576: true; the input reads as it did. -/
def pairsNamesUptoRow : OpenClaim := { program := "ytpdackbcnbhppaa", sum := "7c9ce452c2c8cc89d1f940aa0fb5479b137178575fd337ac0c9c0c9587f688e4", func := "furrow/furrowlaw19.PairsNames", spec := "pairsNames", unfollowed := true, recurses := true, apart := false, narrowed := true }
def PairsNamesUptoSaid : Prop := pairsNamesUptoRow.holds Try.pinned (OpenSpec.upto pairsNamesSpec)

/-- 'furrowlaw19.PairsPiles', WHERE WHAT IT READS IS OF BULK AT MOST 1048576: true; the input reads as it did. -/
def pairsPilesUptoRow : OpenClaim := { program := "ytpdackbcnbhppaa", sum := "7c9ce452c2c8cc89d1f940aa0fb5479b137178575fd337ac0c9c0c9587f688e4", func := "furrow/furrowlaw19.PairsPiles", spec := "pairsPiles", unfollowed := true, recurses := true, apart := false, narrowed := true }
def PairsPilesUptoSaid : Prop := pairsPilesUptoRow.holds Try.pinned (OpenSpec.upto pairsPilesSpec)

/-- 'furrowlaw19.PairsNone', WHERE WHAT IT READS IS OF BULK AT MOST 1048576: true; the input reads as it did. -/
def pairsNoneUptoRow : OpenClaim := { program := "ytpdackbcnbhppaa", sum := "7c9ce452c2c8cc89d1f940aa0fb5479b137178575fd337ac0c9c0c9587f688e4", func := "furrow/furrowlaw19.PairsNone", spec := "pairsNone", unfollowed := true, recurses := true, apart := false, narrowed := true }
def PairsNoneUptoSaid : Prop := pairsNoneUptoRow.holds Try.pinned (OpenSpec.upto pairsNoneSpec)

end Rows
end Go.Proofs.Ytpdackbcnbhppaa
