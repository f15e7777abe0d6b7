/-
  NARROWER THAN 'FOR EVERY INPUT', by the rows' own cells (each row's printed sentence says how): MarksKnows: laid · MarksLays: laid · MarksCloses: laid · MarksNames: laid · MarksStrips: laid · MarksStripped: laid · MarksIsolates: laid.
  DERIVED. THE GIVEN ROWS OF THIS SEAT. 7 by the template 'for every input the law returns true; each argument reads behind the call as it read before'; 0 by the template 'total and deterministic' (their statements: YtaekdnfpgkfjkaaDoorTotals.lean).
  GIVEN WITH THE SEED: the statements are not yours to turn. If you find one false, say at which input.
  Laid BY PROGRAM, IN A SANDBOX (cutbox-rows.mjs): the forced cells as the released guide's own fill.sh prints them over the translation e0f49f7acc914714… (all of the seat's roots in one cut). By AI agents, Wed Nov 11 2026. No macro, syntax, notation, axiom, sorry.
-/
import Derived.Test.YtaekdnfpgkfjkaaDoorChecked
import GoSem.PinnedTables
import GoSem.Claim
import GoSem.ClaimJoined
import GoSem.ClaimMapViews
import Derived.JoinedTies
import Derived.KernelRfl
namespace Go.Proofs.YtaekdnfpgkfjkaaDoor
/- THE CELL 'sum', in the pinned program and in every row, IS THE sha256 OF THE DUMP (.gsa) THAT YtaekdnfpgkfjkaaDoorProg.lean LOADS. Nothing in Lean hashes anything: it is a label: what it is worth is what the hold of that sum in a sandbox is worth. -/
noncomputable def Tryd.pinned : Pinned := { name := "ytaekdnfpgkfjkaadoor", sum := "e0f49f7acc9147147075ac3ac7b887aeda434a6f381423f23474328d48d8c144", checked := Tryd.checked }
namespace Rows
def none {H : Type} : Left H := { results := [], args := [] }

/- WHAT THE LISTED PACKAGE-LEVEL VARIABLES READ AS WHEN THE CALL BEGINS. Each datum BY PROGRAM (the guide's laid-datum.mjs) off the statement by which the dump's own 'gosem.cut.vars' lays the variable. In a bare row this is a premise. The card (YtaekdnfpgkfjkaaDoorCards.lean) ties it to the program's text. -/
def laid_unicode_utf8_acceptRanges {H : Type} : DataW H := .agg [.agg [.lit (.int .u8 128), .lit (.int .u8 191)], .agg [.lit (.int .u8 160), .lit (.int .u8 191)], .agg [.lit (.int .u8 128), .lit (.int .u8 159)], .agg [.lit (.int .u8 144), .lit (.int .u8 191)], .agg [.lit (.int .u8 128), .lit (.int .u8 143)], .agg [.lit (.int .u8 0), .lit (.int .u8 0)], .agg [.lit (.int .u8 0), .lit (.int .u8 0)], .agg [.lit (.int .u8 0), .lit (.int .u8 0)], .agg [.lit (.int .u8 0), .lit (.int .u8 0)], .agg [.lit (.int .u8 0), .lit (.int .u8 0)], .agg [.lit (.int .u8 0), .lit (.int .u8 0)], .agg [.lit (.int .u8 0), .lit (.int .u8 0)], .agg [.lit (.int .u8 0), .lit (.int .u8 0)], .agg [.lit (.int .u8 0), .lit (.int .u8 0)], .agg [.lit (.int .u8 0), .lit (.int .u8 0)], .agg [.lit (.int .u8 0), .lit (.int .u8 0)]]
/-- One of Go's own tables, pinned by name: the form's constant. -/
def laid_unicode_utf8_first : DataW Unit := Go.Pinned.utf8First

/-- 'furrowlaw24.MarksKnows': WHATEVER THE INPUT: true; the input reads as it did. -/
def marksKnowsSpec : ChangeSpec := { name := "marksKnows", fn := fun _ => fun
  | [d1, d2] => { results := [.lit (.bool true)], args := [d1, d2] }
  | _ => none }
def marksKnowsRow : OpenClaim := { program := "ytaekdnfpgkfjkaadoor", sum := "e0f49f7acc9147147075ac3ac7b887aeda434a6f381423f23474328d48d8c144", func := "furrow/furrowlaw24.MarksKnows", spec := "marksKnows", inPlace := ["internal/abi.NoEscape"], unfollowed := true, recurses := true, named := ["unicode/utf8.first", "unicode/utf8.acceptRanges"], apart := false, laid := [("unicode/utf8.acceptRanges", laid_unicode_utf8_acceptRanges), ("unicode/utf8.first", laid_unicode_utf8_first)] }
def MarksKnowsSaid : Prop := marksKnowsRow.holds Tryd.pinned (OpenSpec.ofChange marksKnowsSpec)

/-- ITS FALSE NEIGHBOUR: 'it returns false'. Refute it at one input. -/
def marksKnowsWrong : ChangeSpec := { name := "marksKnows", fn := fun _ => fun
  | [d1, d2] => { results := [.lit (.bool false)], args := [d1, d2] }
  | _ => none }
def MarksKnowsWrongFalsely : Prop := marksKnowsRow.holds Tryd.pinned (OpenSpec.ofChange marksKnowsWrong)

/-- 'furrowlaw24.MarksLays': WHATEVER THE INPUT: true; the input reads as it did. -/
def marksLaysSpec : ChangeSpec := { name := "marksLays", fn := fun _ => fun
  | [d1, d2, d3, d4] => { results := [.lit (.bool true)], args := [d1, d2, d3, d4] }
  | _ => none }
def marksLaysRow : OpenClaim := { program := "ytaekdnfpgkfjkaadoor", sum := "e0f49f7acc9147147075ac3ac7b887aeda434a6f381423f23474328d48d8c144", func := "furrow/furrowlaw24.MarksLays", spec := "marksLays", inPlace := ["internal/abi.NoEscape"], unfollowed := true, recurses := true, named := ["unicode/utf8.first", "unicode/utf8.acceptRanges"], apart := false, laid := [("unicode/utf8.acceptRanges", laid_unicode_utf8_acceptRanges), ("unicode/utf8.first", laid_unicode_utf8_first)] }
def MarksLaysSaid : Prop := marksLaysRow.holds Tryd.pinned (OpenSpec.ofChange marksLaysSpec)

/-- ITS FALSE NEIGHBOUR: 'it returns false'. Refute it at one input. -/
def marksLaysWrong : ChangeSpec := { name := "marksLays", fn := fun _ => fun
  | [d1, d2, d3, d4] => { results := [.lit (.bool false)], args := [d1, d2, d3, d4] }
  | _ => none }
def MarksLaysWrongFalsely : Prop := marksLaysRow.holds Tryd.pinned (OpenSpec.ofChange marksLaysWrong)

/-- 'furrowlaw24.MarksCloses': WHATEVER THE INPUT: true; the input reads as it did. -/
def marksClosesSpec : ChangeSpec := { name := "marksCloses", fn := fun _ => fun
  | [d] => { results := [.lit (.bool true)], args := [d] }
  | _ => none }
def marksClosesRow : OpenClaim := { program := "ytaekdnfpgkfjkaadoor", sum := "e0f49f7acc9147147075ac3ac7b887aeda434a6f381423f23474328d48d8c144", func := "furrow/furrowlaw24.MarksCloses", spec := "marksCloses", inPlace := ["internal/abi.NoEscape"], unfollowed := true, recurses := true, named := ["unicode/utf8.first", "unicode/utf8.acceptRanges"], apart := false, laid := [("unicode/utf8.acceptRanges", laid_unicode_utf8_acceptRanges), ("unicode/utf8.first", laid_unicode_utf8_first)] }
def MarksClosesSaid : Prop := marksClosesRow.holds Tryd.pinned (OpenSpec.ofChange marksClosesSpec)

/-- ITS FALSE NEIGHBOUR: 'it returns false'. Refute it at one input. -/
def marksClosesWrong : ChangeSpec := { name := "marksCloses", fn := fun _ => fun
  | [d] => { results := [.lit (.bool false)], args := [d] }
  | _ => none }
def MarksClosesWrongFalsely : Prop := marksClosesRow.holds Tryd.pinned (OpenSpec.ofChange marksClosesWrong)

/-- 'furrowlaw24.MarksNames': WHATEVER THE INPUT: true; the input reads as it did. -/
def marksNamesSpec : ChangeSpec := { name := "marksNames", fn := fun _ => fun
  | [] => { results := [.lit (.bool true)], args := [] }
  | _ => none }
def marksNamesRow : OpenClaim := { program := "ytaekdnfpgkfjkaadoor", sum := "e0f49f7acc9147147075ac3ac7b887aeda434a6f381423f23474328d48d8c144", func := "furrow/furrowlaw24.MarksNames", spec := "marksNames", inPlace := ["internal/abi.NoEscape"], unfollowed := true, recurses := true, named := ["unicode/utf8.first", "unicode/utf8.acceptRanges"], apart := false, laid := [("unicode/utf8.acceptRanges", laid_unicode_utf8_acceptRanges), ("unicode/utf8.first", laid_unicode_utf8_first)] }
def MarksNamesSaid : Prop := marksNamesRow.holds Tryd.pinned (OpenSpec.ofChange marksNamesSpec)

/-- ITS FALSE NEIGHBOUR: 'it returns false'. Refute it at one input. -/
def marksNamesWrong : ChangeSpec := { name := "marksNames", fn := fun _ => fun
  | [] => { results := [.lit (.bool false)], args := [] }
  | _ => none }
def MarksNamesWrongFalsely : Prop := marksNamesRow.holds Tryd.pinned (OpenSpec.ofChange marksNamesWrong)

/-- 'furrowlaw24.MarksStrips': WHATEVER THE INPUT: true; the input reads as it did. -/
def marksStripsSpec : ChangeSpec := { name := "marksStrips", fn := fun _ => fun
  | [d] => { results := [.lit (.bool true)], args := [d] }
  | _ => none }
def marksStripsRow : OpenClaim := { program := "ytaekdnfpgkfjkaadoor", sum := "e0f49f7acc9147147075ac3ac7b887aeda434a6f381423f23474328d48d8c144", func := "furrow/furrowlaw24.MarksStrips", spec := "marksStrips", inPlace := ["internal/abi.NoEscape"], unfollowed := true, recurses := true, named := ["unicode/utf8.first", "unicode/utf8.acceptRanges"], apart := false, laid := [("unicode/utf8.acceptRanges", laid_unicode_utf8_acceptRanges), ("unicode/utf8.first", laid_unicode_utf8_first)] }
def MarksStripsSaid : Prop := marksStripsRow.holds Tryd.pinned (OpenSpec.ofChange marksStripsSpec)

/-- ITS FALSE NEIGHBOUR: 'it returns false'. Refute it at one input. -/
def marksStripsWrong : ChangeSpec := { name := "marksStrips", fn := fun _ => fun
  | [d] => { results := [.lit (.bool false)], args := [d] }
  | _ => none }
def MarksStripsWrongFalsely : Prop := marksStripsRow.holds Tryd.pinned (OpenSpec.ofChange marksStripsWrong)

/-- 'furrowlaw24.MarksStripped': WHATEVER THE INPUT: true; the input reads as it did. -/
def marksStrippedSpec : ChangeSpec := { name := "marksStripped", fn := fun _ => fun
  | [d] => { results := [.lit (.bool true)], args := [d] }
  | _ => none }
def marksStrippedRow : OpenClaim := { program := "ytaekdnfpgkfjkaadoor", sum := "e0f49f7acc9147147075ac3ac7b887aeda434a6f381423f23474328d48d8c144", func := "furrow/furrowlaw24.MarksStripped", spec := "marksStripped", inPlace := ["internal/abi.NoEscape"], unfollowed := true, recurses := true, named := ["unicode/utf8.first", "unicode/utf8.acceptRanges"], apart := false, laid := [("unicode/utf8.acceptRanges", laid_unicode_utf8_acceptRanges), ("unicode/utf8.first", laid_unicode_utf8_first)] }
def MarksStrippedSaid : Prop := marksStrippedRow.holds Tryd.pinned (OpenSpec.ofChange marksStrippedSpec)

/-- ITS FALSE NEIGHBOUR: 'it returns false'. Refute it at one input. -/
def marksStrippedWrong : ChangeSpec := { name := "marksStripped", fn := fun _ => fun
  | [d] => { results := [.lit (.bool false)], args := [d] }
  | _ => none }
def MarksStrippedWrongFalsely : Prop := marksStrippedRow.holds Tryd.pinned (OpenSpec.ofChange marksStrippedWrong)

/-- 'furrowlaw24.MarksIsolates': WHATEVER THE INPUT: true; the input reads as it did. -/
def marksIsolatesSpec : ChangeSpec := { name := "marksIsolates", fn := fun _ => fun
  | [d1, d2] => { results := [.lit (.bool true)], args := [d1, d2] }
  | _ => none }
def marksIsolatesRow : OpenClaim := { program := "ytaekdnfpgkfjkaadoor", sum := "e0f49f7acc9147147075ac3ac7b887aeda434a6f381423f23474328d48d8c144", func := "furrow/furrowlaw24.MarksIsolates", spec := "marksIsolates", inPlace := ["internal/abi.NoEscape"], unfollowed := true, recurses := true, named := ["unicode/utf8.first", "unicode/utf8.acceptRanges"], apart := false, laid := [("unicode/utf8.acceptRanges", laid_unicode_utf8_acceptRanges), ("unicode/utf8.first", laid_unicode_utf8_first)] }
def MarksIsolatesSaid : Prop := marksIsolatesRow.holds Tryd.pinned (OpenSpec.ofChange marksIsolatesSpec)

/-- ITS FALSE NEIGHBOUR: 'it returns false'. Refute it at one input. -/
def marksIsolatesWrong : ChangeSpec := { name := "marksIsolates", fn := fun _ => fun
  | [d1, d2] => { results := [.lit (.bool false)], args := [d1, d2] }
  | _ => none }
def MarksIsolatesWrongFalsely : Prop := marksIsolatesRow.holds Tryd.pinned (OpenSpec.ofChange marksIsolatesWrong)

/- THE SECOND FORM. 'bulk': how many values and letters a reading holds, each counted each time it is reached (what is shared counts as often as it is met; a slice's spare places count too). A statement '..UptoSaid' is the law's where the arguments, and the package variables that the reading takes, are together of bulk at most 1048576: NARROWER than '..Said'. Prove '..Said' where nothing that the law and all that it calls make is longer than what came in: it says more and counts as full. Else prove '..UptoSaid'. A law counts once. -/
mutual
def uptoBulk {H : Type} : DataW H → Nat
  | .lit (.string bytes) => bytes.length + 1
  | .lit _ => 1
  | .nil => 1
  | .ptr d => uptoBulk d + 1
  | .slice elems spare => uptoBulkAll elems + uptoBulkAll spare + 1
  | .agg parts => uptoBulkAll parts + 1
  | .iface _ d => uptoBulk d + 1
  | .map entries => uptoBulkEntries entries + 1
  | .held _ => 1
def uptoBulkAll {H : Type} : List (DataW H) → Nat
  | [] => 0
  | d :: r => uptoBulk d + uptoBulkAll r
def uptoBulkEntries {H : Type} : List (Lit × DataW H) → Nat
  | [] => 0
  | x :: r => uptoBulkEntry x + uptoBulkEntries r
def uptoBulkEntry {H : Type} : Lit × DataW H → Nat
  | (.string bytes, d) => bytes.length + uptoBulk d + 1
  | (_, d) => uptoBulk d + 1
 end
def uptoSmall : (H : Type) → List (DataW H) → Bool := fun _ ds => decide (uptoBulkAll ds ≤ 1048576)
def OpenSpec.upto (s : _root_.Go.ChangeSpec) : _root_.Go.OpenSpec := { _root_.Go.OpenSpec.ofChange s with cond := some uptoSmall }

/-- 'furrowlaw24.MarksKnows', WHERE WHAT IT READS IS OF BULK AT MOST 1048576: true; the input reads as it did. -/
def marksKnowsUptoRow : OpenClaim := { program := "ytaekdnfpgkfjkaadoor", sum := "e0f49f7acc9147147075ac3ac7b887aeda434a6f381423f23474328d48d8c144", func := "furrow/furrowlaw24.MarksKnows", spec := "marksKnows", inPlace := ["internal/abi.NoEscape"], unfollowed := true, recurses := true, named := ["unicode/utf8.first", "unicode/utf8.acceptRanges"], apart := false, laid := [("unicode/utf8.acceptRanges", laid_unicode_utf8_acceptRanges), ("unicode/utf8.first", laid_unicode_utf8_first)], narrowed := true }
def MarksKnowsUptoSaid : Prop := marksKnowsUptoRow.holds Tryd.pinned (OpenSpec.upto marksKnowsSpec)

/-- 'furrowlaw24.MarksLays', WHERE WHAT IT READS IS OF BULK AT MOST 1048576: true; the input reads as it did. -/
def marksLaysUptoRow : OpenClaim := { program := "ytaekdnfpgkfjkaadoor", sum := "e0f49f7acc9147147075ac3ac7b887aeda434a6f381423f23474328d48d8c144", func := "furrow/furrowlaw24.MarksLays", spec := "marksLays", inPlace := ["internal/abi.NoEscape"], unfollowed := true, recurses := true, named := ["unicode/utf8.first", "unicode/utf8.acceptRanges"], apart := false, laid := [("unicode/utf8.acceptRanges", laid_unicode_utf8_acceptRanges), ("unicode/utf8.first", laid_unicode_utf8_first)], narrowed := true }
def MarksLaysUptoSaid : Prop := marksLaysUptoRow.holds Tryd.pinned (OpenSpec.upto marksLaysSpec)

/-- 'furrowlaw24.MarksCloses', WHERE WHAT IT READS IS OF BULK AT MOST 1048576: true; the input reads as it did. -/
def marksClosesUptoRow : OpenClaim := { program := "ytaekdnfpgkfjkaadoor", sum := "e0f49f7acc9147147075ac3ac7b887aeda434a6f381423f23474328d48d8c144", func := "furrow/furrowlaw24.MarksCloses", spec := "marksCloses", inPlace := ["internal/abi.NoEscape"], unfollowed := true, recurses := true, named := ["unicode/utf8.first", "unicode/utf8.acceptRanges"], apart := false, laid := [("unicode/utf8.acceptRanges", laid_unicode_utf8_acceptRanges), ("unicode/utf8.first", laid_unicode_utf8_first)], narrowed := true }
def MarksClosesUptoSaid : Prop := marksClosesUptoRow.holds Tryd.pinned (OpenSpec.upto marksClosesSpec)

/-- 'furrowlaw24.MarksNames', WHERE WHAT IT READS IS OF BULK AT MOST 1048576: true; the input reads as it did. -/
def marksNamesUptoRow : OpenClaim := { program := "ytaekdnfpgkfjkaadoor", sum := "e0f49f7acc9147147075ac3ac7b887aeda434a6f381423f23474328d48d8c144", func := "furrow/furrowlaw24.MarksNames", spec := "marksNames", inPlace := ["internal/abi.NoEscape"], unfollowed := true, recurses := true, named := ["unicode/utf8.first", "unicode/utf8.acceptRanges"], apart := false, laid := [("unicode/utf8.acceptRanges", laid_unicode_utf8_acceptRanges), ("unicode/utf8.first", laid_unicode_utf8_first)], narrowed := true }
def MarksNamesUptoSaid : Prop := marksNamesUptoRow.holds Tryd.pinned (OpenSpec.upto marksNamesSpec)

/-- 'furrowlaw24.MarksStrips', WHERE WHAT IT READS IS OF BULK AT MOST 1048576: true; the input reads as it did. -/
def marksStripsUptoRow : OpenClaim := { program := "ytaekdnfpgkfjkaadoor", sum := "e0f49f7acc9147147075ac3ac7b887aeda434a6f381423f23474328d48d8c144", func := "furrow/furrowlaw24.MarksStrips", spec := "marksStrips", inPlace := ["internal/abi.NoEscape"], unfollowed := true, recurses := true, named := ["unicode/utf8.first", "unicode/utf8.acceptRanges"], apart := false, laid := [("unicode/utf8.acceptRanges", laid_unicode_utf8_acceptRanges), ("unicode/utf8.first", laid_unicode_utf8_first)], narrowed := true }
def MarksStripsUptoSaid : Prop := marksStripsUptoRow.holds Tryd.pinned (OpenSpec.upto marksStripsSpec)

/-- 'furrowlaw24.MarksStripped', WHERE WHAT IT READS IS OF BULK AT MOST 1048576: true; the input reads as it did. -/
def marksStrippedUptoRow : OpenClaim := { program := "ytaekdnfpgkfjkaadoor", sum := "e0f49f7acc9147147075ac3ac7b887aeda434a6f381423f23474328d48d8c144", func := "furrow/furrowlaw24.MarksStripped", spec := "marksStripped", inPlace := ["internal/abi.NoEscape"], unfollowed := true, recurses := true, named := ["unicode/utf8.first", "unicode/utf8.acceptRanges"], apart := false, laid := [("unicode/utf8.acceptRanges", laid_unicode_utf8_acceptRanges), ("unicode/utf8.first", laid_unicode_utf8_first)], narrowed := true }
def MarksStrippedUptoSaid : Prop := marksStrippedUptoRow.holds Tryd.pinned (OpenSpec.upto marksStrippedSpec)

/-- 'furrowlaw24.MarksIsolates', WHERE WHAT IT READS IS OF BULK AT MOST 1048576: true; the input reads as it did. -/
def marksIsolatesUptoRow : OpenClaim := { program := "ytaekdnfpgkfjkaadoor", sum := "e0f49f7acc9147147075ac3ac7b887aeda434a6f381423f23474328d48d8c144", func := "furrow/furrowlaw24.MarksIsolates", spec := "marksIsolates", inPlace := ["internal/abi.NoEscape"], unfollowed := true, recurses := true, named := ["unicode/utf8.first", "unicode/utf8.acceptRanges"], apart := false, laid := [("unicode/utf8.acceptRanges", laid_unicode_utf8_acceptRanges), ("unicode/utf8.first", laid_unicode_utf8_first)], narrowed := true }
def MarksIsolatesUptoSaid : Prop := marksIsolatesUptoRow.holds Tryd.pinned (OpenSpec.upto marksIsolatesSpec)

end Rows
end Go.Proofs.YtaekdnfpgkfjkaaDoor
