/-
  DERIVED. GIVEN WITH THE SEED: THE CARDS: each row of YtfbekjgbijlcaaaDoorRows.lean that lists a variable, with what it lists TIED to the program's text (the seventh form; the later family's looks); each row that meets fmt, with fmt's text TOLD by the authors' own Lean function (tested against real Go, not proved from fmt's source: count such statements apart). THE CARD IS WHAT COUNTS. Prove the row's statement (the work); the ties are given (YtfbekjgbijlcaaaDoorTie.lean); close each card by the builder's one call (the guide's Derived/Test/ToyasCard.lean, 'card_holds'). Laid BY PROGRAM, IN A SANDBOX (cutbox-door.mjs). By AI agents, Wed Nov 11 2026. No macro, syntax, notation, axiom, sorry.
-/
import Derived.Test.YtfbekjgbijlcaaaDoorRows
import GoSem.ClaimSeven
namespace Go.Proofs.YtfbekjgbijlcaaaDoor
namespace Rows

/-- THE TIED CARD OF 'platenlaw02.QuoteReads'. -/
def quoteReadsCard : Claim7 := { stood := { row := quoteReadsRow, standIns := [], harness := (true, "e102839f846069fa0dd2b91f4a914592832a553422c33286d3c3767424c8ce00"), looks := false }, kinds := [], alts := [], laidByText := true, laidKinds := [.data, .pinned], laidTests := true, laidLooks := .later }
def QuoteReadsCardSaid : Prop := Claim7.holds Tryd.pinned (.plain (OpenSpec.ofChange quoteReadsSpec)) quoteReadsCard

/-- THE TIED CARD OF 'platenlaw02.QuoteHexes'. -/
def quoteHexesCard : Claim7 := { stood := { row := quoteHexesRow, standIns := [], harness := (true, "e102839f846069fa0dd2b91f4a914592832a553422c33286d3c3767424c8ce00"), looks := false }, kinds := [], alts := [], laidByText := true, laidKinds := [.data, .pinned], laidTests := true, laidLooks := .later }
def QuoteHexesCardSaid : Prop := Claim7.holds Tryd.pinned (.plain (OpenSpec.ofChange quoteHexesSpec)) quoteHexesCard

/-- THE TIED CARD OF 'platenlaw02.QuoteWrites'. -/
def quoteWritesCard : Claim7 := { stood := { row := quoteWritesRow, standIns := [], harness := (true, "e102839f846069fa0dd2b91f4a914592832a553422c33286d3c3767424c8ce00"), looks := false }, kinds := [], alts := [], laidByText := true, laidKinds := [.data, .pinned], laidTests := true, laidLooks := .later }
def QuoteWritesCardSaid : Prop := Claim7.holds Tryd.pinned (.plain (OpenSpec.ofChange quoteWritesSpec)) quoteWritesCard

/-- THE TIED CARD OF 'platenlaw02.QuoteBack'. -/
def quoteBackCard : Claim7 := { stood := { row := quoteBackRow, standIns := [], harness := (true, "e102839f846069fa0dd2b91f4a914592832a553422c33286d3c3767424c8ce00"), looks := false }, kinds := [], alts := [], laidByText := true, laidKinds := [.data, .pinned], laidTests := true, laidLooks := .later }
def QuoteBackCardSaid : Prop := Claim7.holds Tryd.pinned (.plain (OpenSpec.ofChange quoteBackSpec)) quoteBackCard

/-- THE TIED CARD OF 'platenlaw02.QuoteHexBack'. -/
def quoteHexBackCard : Claim7 := { stood := { row := quoteHexBackRow, standIns := [], harness := (true, "e102839f846069fa0dd2b91f4a914592832a553422c33286d3c3767424c8ce00"), looks := false }, kinds := [], alts := [], laidByText := true, laidKinds := [.data, .pinned], laidTests := true, laidLooks := .later }
def QuoteHexBackCardSaid : Prop := Claim7.holds Tryd.pinned (.plain (OpenSpec.ofChange quoteHexBackSpec)) quoteHexBackCard

/-- THE TIED CARD OF 'platenlaw02.QuoteWide'. -/
def quoteWideCard : Claim7 := { stood := { row := quoteWideRow, standIns := [], harness := (true, "e102839f846069fa0dd2b91f4a914592832a553422c33286d3c3767424c8ce00"), looks := false }, kinds := [], alts := [], laidByText := true, laidKinds := [.data, .pinned], laidTests := true, laidLooks := .later }
def QuoteWideCardSaid : Prop := Claim7.holds Tryd.pinned (.plain (OpenSpec.ofChange quoteWideSpec)) quoteWideCard

/-- THE TIED CARD OF 'platenlaw02.QuoteChars'. -/
def quoteCharsCard : Claim7 := { stood := { row := quoteCharsRow, standIns := [], harness := (true, "e102839f846069fa0dd2b91f4a914592832a553422c33286d3c3767424c8ce00"), looks := false }, kinds := [], alts := [], laidByText := true, laidKinds := [.data, .pinned], laidTests := true, laidLooks := .later }
def QuoteCharsCardSaid : Prop := Claim7.holds Tryd.pinned (.plain (OpenSpec.ofChange quoteCharsSpec)) quoteCharsCard

/-- THE TIED CARD OF 'platenlaw02.QuoteAscii'. -/
def quoteAsciiCard : Claim7 := { stood := { row := quoteAsciiRow, standIns := [], harness := (true, "e102839f846069fa0dd2b91f4a914592832a553422c33286d3c3767424c8ce00"), looks := false }, kinds := [], alts := [], laidByText := true, laidKinds := [.data, .pinned], laidTests := true, laidLooks := .later }
def QuoteAsciiCardSaid : Prop := Claim7.holds Tryd.pinned (.plain (OpenSpec.ofChange quoteAsciiSpec)) quoteAsciiCard

/-- THE SECOND FORM's CARD OF 'platenlaw02.QuoteReads'. -/
def quoteReadsUptoCard : Claim7 := { stood := { row := quoteReadsUptoRow, standIns := [], harness := (true, "e102839f846069fa0dd2b91f4a914592832a553422c33286d3c3767424c8ce00"), looks := false }, kinds := [], alts := [], laidByText := true, laidKinds := [.data, .pinned], laidTests := true, laidLooks := .later }
def QuoteReadsUptoCardSaid : Prop := Claim7.holds Tryd.pinned (.plain (OpenSpec.upto quoteReadsSpec)) quoteReadsUptoCard

/-- THE SECOND FORM's CARD OF 'platenlaw02.QuoteHexes'. -/
def quoteHexesUptoCard : Claim7 := { stood := { row := quoteHexesUptoRow, standIns := [], harness := (true, "e102839f846069fa0dd2b91f4a914592832a553422c33286d3c3767424c8ce00"), looks := false }, kinds := [], alts := [], laidByText := true, laidKinds := [.data, .pinned], laidTests := true, laidLooks := .later }
def QuoteHexesUptoCardSaid : Prop := Claim7.holds Tryd.pinned (.plain (OpenSpec.upto quoteHexesSpec)) quoteHexesUptoCard

/-- THE SECOND FORM's CARD OF 'platenlaw02.QuoteWrites'. -/
def quoteWritesUptoCard : Claim7 := { stood := { row := quoteWritesUptoRow, standIns := [], harness := (true, "e102839f846069fa0dd2b91f4a914592832a553422c33286d3c3767424c8ce00"), looks := false }, kinds := [], alts := [], laidByText := true, laidKinds := [.data, .pinned], laidTests := true, laidLooks := .later }
def QuoteWritesUptoCardSaid : Prop := Claim7.holds Tryd.pinned (.plain (OpenSpec.upto quoteWritesSpec)) quoteWritesUptoCard

/-- THE SECOND FORM's CARD OF 'platenlaw02.QuoteBack'. -/
def quoteBackUptoCard : Claim7 := { stood := { row := quoteBackUptoRow, standIns := [], harness := (true, "e102839f846069fa0dd2b91f4a914592832a553422c33286d3c3767424c8ce00"), looks := false }, kinds := [], alts := [], laidByText := true, laidKinds := [.data, .pinned], laidTests := true, laidLooks := .later }
def QuoteBackUptoCardSaid : Prop := Claim7.holds Tryd.pinned (.plain (OpenSpec.upto quoteBackSpec)) quoteBackUptoCard

/-- THE SECOND FORM's CARD OF 'platenlaw02.QuoteHexBack'. -/
def quoteHexBackUptoCard : Claim7 := { stood := { row := quoteHexBackUptoRow, standIns := [], harness := (true, "e102839f846069fa0dd2b91f4a914592832a553422c33286d3c3767424c8ce00"), looks := false }, kinds := [], alts := [], laidByText := true, laidKinds := [.data, .pinned], laidTests := true, laidLooks := .later }
def QuoteHexBackUptoCardSaid : Prop := Claim7.holds Tryd.pinned (.plain (OpenSpec.upto quoteHexBackSpec)) quoteHexBackUptoCard

/-- THE SECOND FORM's CARD OF 'platenlaw02.QuoteWide'. -/
def quoteWideUptoCard : Claim7 := { stood := { row := quoteWideUptoRow, standIns := [], harness := (true, "e102839f846069fa0dd2b91f4a914592832a553422c33286d3c3767424c8ce00"), looks := false }, kinds := [], alts := [], laidByText := true, laidKinds := [.data, .pinned], laidTests := true, laidLooks := .later }
def QuoteWideUptoCardSaid : Prop := Claim7.holds Tryd.pinned (.plain (OpenSpec.upto quoteWideSpec)) quoteWideUptoCard

/-- THE SECOND FORM's CARD OF 'platenlaw02.QuoteChars'. -/
def quoteCharsUptoCard : Claim7 := { stood := { row := quoteCharsUptoRow, standIns := [], harness := (true, "e102839f846069fa0dd2b91f4a914592832a553422c33286d3c3767424c8ce00"), looks := false }, kinds := [], alts := [], laidByText := true, laidKinds := [.data, .pinned], laidTests := true, laidLooks := .later }
def QuoteCharsUptoCardSaid : Prop := Claim7.holds Tryd.pinned (.plain (OpenSpec.upto quoteCharsSpec)) quoteCharsUptoCard

/-- THE SECOND FORM's CARD OF 'platenlaw02.QuoteAscii'. -/
def quoteAsciiUptoCard : Claim7 := { stood := { row := quoteAsciiUptoRow, standIns := [], harness := (true, "e102839f846069fa0dd2b91f4a914592832a553422c33286d3c3767424c8ce00"), looks := false }, kinds := [], alts := [], laidByText := true, laidKinds := [.data, .pinned], laidTests := true, laidLooks := .later }
def QuoteAsciiUptoCardSaid : Prop := Claim7.holds Tryd.pinned (.plain (OpenSpec.upto quoteAsciiSpec)) quoteAsciiUptoCard
end Rows
end Go.Proofs.YtfbekjgbijlcaaaDoor
