/-
  DERIVED. GIVEN WITH THE SEED: THE CARDS: each row of YtaekdnfpgkfjkaaDoorRows.lean that lists a variable, with what it lists TIED to the program's text (the seventh form; the later family's looks); each row that meets fmt, with fmt's text TOLD by the authors' own Lean function (tested against real Go, not proved from fmt's source: count such statements apart). THE CARD IS WHAT COUNTS. Prove the row's statement (the work); the ties are given (YtaekdnfpgkfjkaaDoorTie.lean); close each card by the builder's one call (the guide's Derived/Test/ToyasCard.lean, 'card_holds'). Laid BY PROGRAM, IN A SANDBOX (cutbox-door.mjs). By AI agents, Wed Nov 11 2026. No macro, syntax, notation, axiom, sorry.
-/
import Derived.Test.YtaekdnfpgkfjkaaDoorRows
import GoSem.ClaimSeven
namespace Go.Proofs.YtaekdnfpgkfjkaaDoor
namespace Rows

/-- THE TIED CARD OF 'furrowlaw24.MarksKnows'. -/
def marksKnowsCard : Claim7 := { stood := { row := marksKnowsRow, standIns := [], harness := (true, "39b529a37aed109bc2556aa0eacf7bb7f80686dab162e26a0a4f9b59d803a86c"), looks := false }, kinds := [], alts := [], laidByText := true, laidKinds := [.data, .pinned], laidTests := true, laidLooks := .later }
def MarksKnowsCardSaid : Prop := Claim7.holds Tryd.pinned (.plain (OpenSpec.ofChange marksKnowsSpec)) marksKnowsCard

/-- THE TIED CARD OF 'furrowlaw24.MarksLays'. -/
def marksLaysCard : Claim7 := { stood := { row := marksLaysRow, standIns := [], harness := (true, "39b529a37aed109bc2556aa0eacf7bb7f80686dab162e26a0a4f9b59d803a86c"), looks := false }, kinds := [], alts := [], laidByText := true, laidKinds := [.data, .pinned], laidTests := true, laidLooks := .later }
def MarksLaysCardSaid : Prop := Claim7.holds Tryd.pinned (.plain (OpenSpec.ofChange marksLaysSpec)) marksLaysCard

/-- THE TIED CARD OF 'furrowlaw24.MarksCloses'. -/
def marksClosesCard : Claim7 := { stood := { row := marksClosesRow, standIns := [], harness := (true, "39b529a37aed109bc2556aa0eacf7bb7f80686dab162e26a0a4f9b59d803a86c"), looks := false }, kinds := [], alts := [], laidByText := true, laidKinds := [.data, .pinned], laidTests := true, laidLooks := .later }
def MarksClosesCardSaid : Prop := Claim7.holds Tryd.pinned (.plain (OpenSpec.ofChange marksClosesSpec)) marksClosesCard

/-- THE TIED CARD OF 'furrowlaw24.MarksNames'. -/
def marksNamesCard : Claim7 := { stood := { row := marksNamesRow, standIns := [], harness := (true, "39b529a37aed109bc2556aa0eacf7bb7f80686dab162e26a0a4f9b59d803a86c"), looks := false }, kinds := [], alts := [], laidByText := true, laidKinds := [.data, .pinned], laidTests := true, laidLooks := .later }
def MarksNamesCardSaid : Prop := Claim7.holds Tryd.pinned (.plain (OpenSpec.ofChange marksNamesSpec)) marksNamesCard

/-- THE TIED CARD OF 'furrowlaw24.MarksStrips'. -/
def marksStripsCard : Claim7 := { stood := { row := marksStripsRow, standIns := [], harness := (true, "39b529a37aed109bc2556aa0eacf7bb7f80686dab162e26a0a4f9b59d803a86c"), looks := false }, kinds := [], alts := [], laidByText := true, laidKinds := [.data, .pinned], laidTests := true, laidLooks := .later }
def MarksStripsCardSaid : Prop := Claim7.holds Tryd.pinned (.plain (OpenSpec.ofChange marksStripsSpec)) marksStripsCard

/-- THE TIED CARD OF 'furrowlaw24.MarksStripped'. -/
def marksStrippedCard : Claim7 := { stood := { row := marksStrippedRow, standIns := [], harness := (true, "39b529a37aed109bc2556aa0eacf7bb7f80686dab162e26a0a4f9b59d803a86c"), looks := false }, kinds := [], alts := [], laidByText := true, laidKinds := [.data, .pinned], laidTests := true, laidLooks := .later }
def MarksStrippedCardSaid : Prop := Claim7.holds Tryd.pinned (.plain (OpenSpec.ofChange marksStrippedSpec)) marksStrippedCard

/-- THE TIED CARD OF 'furrowlaw24.MarksIsolates'. -/
def marksIsolatesCard : Claim7 := { stood := { row := marksIsolatesRow, standIns := [], harness := (true, "39b529a37aed109bc2556aa0eacf7bb7f80686dab162e26a0a4f9b59d803a86c"), looks := false }, kinds := [], alts := [], laidByText := true, laidKinds := [.data, .pinned], laidTests := true, laidLooks := .later }
def MarksIsolatesCardSaid : Prop := Claim7.holds Tryd.pinned (.plain (OpenSpec.ofChange marksIsolatesSpec)) marksIsolatesCard

/-- THE SECOND FORM's CARD OF 'furrowlaw24.MarksKnows'. -/
def marksKnowsUptoCard : Claim7 := { stood := { row := marksKnowsUptoRow, standIns := [], harness := (true, "39b529a37aed109bc2556aa0eacf7bb7f80686dab162e26a0a4f9b59d803a86c"), looks := false }, kinds := [], alts := [], laidByText := true, laidKinds := [.data, .pinned], laidTests := true, laidLooks := .later }
def MarksKnowsUptoCardSaid : Prop := Claim7.holds Tryd.pinned (.plain (OpenSpec.upto marksKnowsSpec)) marksKnowsUptoCard

/-- THE SECOND FORM's CARD OF 'furrowlaw24.MarksLays'. -/
def marksLaysUptoCard : Claim7 := { stood := { row := marksLaysUptoRow, standIns := [], harness := (true, "39b529a37aed109bc2556aa0eacf7bb7f80686dab162e26a0a4f9b59d803a86c"), looks := false }, kinds := [], alts := [], laidByText := true, laidKinds := [.data, .pinned], laidTests := true, laidLooks := .later }
def MarksLaysUptoCardSaid : Prop := Claim7.holds Tryd.pinned (.plain (OpenSpec.upto marksLaysSpec)) marksLaysUptoCard

/-- THE SECOND FORM's CARD OF 'furrowlaw24.MarksCloses'. -/
def marksClosesUptoCard : Claim7 := { stood := { row := marksClosesUptoRow, standIns := [], harness := (true, "39b529a37aed109bc2556aa0eacf7bb7f80686dab162e26a0a4f9b59d803a86c"), looks := false }, kinds := [], alts := [], laidByText := true, laidKinds := [.data, .pinned], laidTests := true, laidLooks := .later }
def MarksClosesUptoCardSaid : Prop := Claim7.holds Tryd.pinned (.plain (OpenSpec.upto marksClosesSpec)) marksClosesUptoCard

/-- THE SECOND FORM's CARD OF 'furrowlaw24.MarksNames'. -/
def marksNamesUptoCard : Claim7 := { stood := { row := marksNamesUptoRow, standIns := [], harness := (true, "39b529a37aed109bc2556aa0eacf7bb7f80686dab162e26a0a4f9b59d803a86c"), looks := false }, kinds := [], alts := [], laidByText := true, laidKinds := [.data, .pinned], laidTests := true, laidLooks := .later }
def MarksNamesUptoCardSaid : Prop := Claim7.holds Tryd.pinned (.plain (OpenSpec.upto marksNamesSpec)) marksNamesUptoCard

/-- THE SECOND FORM's CARD OF 'furrowlaw24.MarksStrips'. -/
def marksStripsUptoCard : Claim7 := { stood := { row := marksStripsUptoRow, standIns := [], harness := (true, "39b529a37aed109bc2556aa0eacf7bb7f80686dab162e26a0a4f9b59d803a86c"), looks := false }, kinds := [], alts := [], laidByText := true, laidKinds := [.data, .pinned], laidTests := true, laidLooks := .later }
def MarksStripsUptoCardSaid : Prop := Claim7.holds Tryd.pinned (.plain (OpenSpec.upto marksStripsSpec)) marksStripsUptoCard

/-- THE SECOND FORM's CARD OF 'furrowlaw24.MarksStripped'. -/
def marksStrippedUptoCard : Claim7 := { stood := { row := marksStrippedUptoRow, standIns := [], harness := (true, "39b529a37aed109bc2556aa0eacf7bb7f80686dab162e26a0a4f9b59d803a86c"), looks := false }, kinds := [], alts := [], laidByText := true, laidKinds := [.data, .pinned], laidTests := true, laidLooks := .later }
def MarksStrippedUptoCardSaid : Prop := Claim7.holds Tryd.pinned (.plain (OpenSpec.upto marksStrippedSpec)) marksStrippedUptoCard

/-- THE SECOND FORM's CARD OF 'furrowlaw24.MarksIsolates'. -/
def marksIsolatesUptoCard : Claim7 := { stood := { row := marksIsolatesUptoRow, standIns := [], harness := (true, "39b529a37aed109bc2556aa0eacf7bb7f80686dab162e26a0a4f9b59d803a86c"), looks := false }, kinds := [], alts := [], laidByText := true, laidKinds := [.data, .pinned], laidTests := true, laidLooks := .later }
def MarksIsolatesUptoCardSaid : Prop := Claim7.holds Tryd.pinned (.plain (OpenSpec.upto marksIsolatesSpec)) marksIsolatesUptoCard
end Rows
end Go.Proofs.YtaekdnfpgkfjkaaDoor
