/-
  DERIVED. GIVEN WITH THE SEED: THE CARDS: each row of YtmfhoindfhmncaaDoorRows.lean that lists a variable, with what it lists TIED to the program's text (the seventh form; the later family's looks); each row that meets fmt, with fmt's text TOLD by the authors' own Lean function (tested against real Go, not proved from fmt's source: count such statements apart). THE CARD IS WHAT COUNTS. Prove the row's statement (the work); the ties are given (YtmfhoindfhmncaaDoorTie.lean); close each card by the builder's one call (the guide's Derived/Test/ToyasCard.lean, 'card_holds'). Laid BY PROGRAM, IN A SANDBOX (cutbox-door.mjs). By AI agents, Wed Nov 11 2026. No macro, syntax, notation, axiom, sorry.
-/
import Derived.Test.YtmfhoindfhmncaaDoorRows
import GoSem.ClaimSeven
namespace Go.Proofs.YtmfhoindfhmncaaDoor
namespace Rows

/-- THE TIED CARD OF 'platenlaw09.ParsePieces'. -/
def parsePiecesCard : Claim7 := { stood := { row := parsePiecesRow, standIns := [], harness := (true, "d67d4e669d282f4b40ddf4165a2bccd259d48ce4b73f43021f774fba10c5b282"), looks := false }, kinds := [], alts := [], laidByText := true, laidKinds := [.data, .pinned], laidTests := true, laidLooks := .later }
def ParsePiecesCardSaid : Prop := Claim7.holds Tryd.pinned (.plain (OpenSpec.ofChange parsePiecesSpec)) parsePiecesCard

/-- THE TIED CARD OF 'platenlaw09.ParseLits'. -/
def parseLitsCard : Claim7 := { stood := { row := parseLitsRow, standIns := [], harness := (true, "d67d4e669d282f4b40ddf4165a2bccd259d48ce4b73f43021f774fba10c5b282"), looks := false }, kinds := [], alts := [], laidByText := true, laidKinds := [.data, .pinned], laidTests := true, laidLooks := .later }
def ParseLitsCardSaid : Prop := Claim7.holds Tryd.pinned (.plain (OpenSpec.ofChange parseLitsSpec)) parseLitsCard

/-- THE TIED CARD OF 'platenlaw09.ParseJoins'. -/
def parseJoinsCard : Claim7 := { stood := { row := parseJoinsRow, standIns := [], harness := (true, "d67d4e669d282f4b40ddf4165a2bccd259d48ce4b73f43021f774fba10c5b282"), looks := false }, kinds := [], alts := [], laidByText := true, laidKinds := [.data, .pinned], laidTests := true, laidLooks := .later }
def ParseJoinsCardSaid : Prop := Claim7.holds Tryd.pinned (.plain (OpenSpec.ofChange parseJoinsSpec)) parseJoinsCard

/-- THE TIED CARD OF 'platenlaw09.ParseFlags'. -/
def parseFlagsCard : Claim7 := { stood := { row := parseFlagsRow, standIns := [], harness := (true, "d67d4e669d282f4b40ddf4165a2bccd259d48ce4b73f43021f774fba10c5b282"), looks := false }, kinds := [], alts := [], laidByText := true, laidKinds := [.data, .pinned], laidTests := true, laidLooks := .later }
def ParseFlagsCardSaid : Prop := Claim7.holds Tryd.pinned (.plain (OpenSpec.ofChange parseFlagsSpec)) parseFlagsCard

/-- THE TIED CARD OF 'platenlaw09.ParseIndexes'. -/
def parseIndexesCard : Claim7 := { stood := { row := parseIndexesRow, standIns := [], harness := (true, "d67d4e669d282f4b40ddf4165a2bccd259d48ce4b73f43021f774fba10c5b282"), looks := false }, kinds := [], alts := [], laidByText := true, laidKinds := [.data, .pinned], laidTests := true, laidLooks := .later }
def ParseIndexesCardSaid : Prop := Claim7.holds Tryd.pinned (.plain (OpenSpec.ofChange parseIndexesSpec)) parseIndexesCard

/-- THE TIED CARD OF 'platenlaw09.ParseVerbs'. -/
def parseVerbsCard : Claim7 := { stood := { row := parseVerbsRow, standIns := [], harness := (true, "d67d4e669d282f4b40ddf4165a2bccd259d48ce4b73f43021f774fba10c5b282"), looks := false }, kinds := [], alts := [], laidByText := true, laidKinds := [.data, .pinned], laidTests := true, laidLooks := .later }
def ParseVerbsCardSaid : Prop := Claim7.holds Tryd.pinned (.plain (OpenSpec.ofChange parseVerbsSpec)) parseVerbsCard

/-- THE TIED CARD OF 'platenlaw09.ParseWhole'. -/
def parseWholeCard : Claim7 := { stood := { row := parseWholeRow, standIns := [], harness := (true, "d67d4e669d282f4b40ddf4165a2bccd259d48ce4b73f43021f774fba10c5b282"), looks := false }, kinds := [], alts := [], laidByText := true, laidKinds := [.data, .pinned], laidTests := true, laidLooks := .later }
def ParseWholeCardSaid : Prop := Claim7.holds Tryd.pinned (.plain (OpenSpec.ofChange parseWholeSpec)) parseWholeCard

/-- THE SECOND FORM's CARD OF 'platenlaw09.ParsePieces'. -/
def parsePiecesUptoCard : Claim7 := { stood := { row := parsePiecesUptoRow, standIns := [], harness := (true, "d67d4e669d282f4b40ddf4165a2bccd259d48ce4b73f43021f774fba10c5b282"), looks := false }, kinds := [], alts := [], laidByText := true, laidKinds := [.data, .pinned], laidTests := true, laidLooks := .later }
def ParsePiecesUptoCardSaid : Prop := Claim7.holds Tryd.pinned (.plain (OpenSpec.upto parsePiecesSpec)) parsePiecesUptoCard

/-- THE SECOND FORM's CARD OF 'platenlaw09.ParseLits'. -/
def parseLitsUptoCard : Claim7 := { stood := { row := parseLitsUptoRow, standIns := [], harness := (true, "d67d4e669d282f4b40ddf4165a2bccd259d48ce4b73f43021f774fba10c5b282"), looks := false }, kinds := [], alts := [], laidByText := true, laidKinds := [.data, .pinned], laidTests := true, laidLooks := .later }
def ParseLitsUptoCardSaid : Prop := Claim7.holds Tryd.pinned (.plain (OpenSpec.upto parseLitsSpec)) parseLitsUptoCard

/-- THE SECOND FORM's CARD OF 'platenlaw09.ParseJoins'. -/
def parseJoinsUptoCard : Claim7 := { stood := { row := parseJoinsUptoRow, standIns := [], harness := (true, "d67d4e669d282f4b40ddf4165a2bccd259d48ce4b73f43021f774fba10c5b282"), looks := false }, kinds := [], alts := [], laidByText := true, laidKinds := [.data, .pinned], laidTests := true, laidLooks := .later }
def ParseJoinsUptoCardSaid : Prop := Claim7.holds Tryd.pinned (.plain (OpenSpec.upto parseJoinsSpec)) parseJoinsUptoCard

/-- THE SECOND FORM's CARD OF 'platenlaw09.ParseFlags'. -/
def parseFlagsUptoCard : Claim7 := { stood := { row := parseFlagsUptoRow, standIns := [], harness := (true, "d67d4e669d282f4b40ddf4165a2bccd259d48ce4b73f43021f774fba10c5b282"), looks := false }, kinds := [], alts := [], laidByText := true, laidKinds := [.data, .pinned], laidTests := true, laidLooks := .later }
def ParseFlagsUptoCardSaid : Prop := Claim7.holds Tryd.pinned (.plain (OpenSpec.upto parseFlagsSpec)) parseFlagsUptoCard

/-- THE SECOND FORM's CARD OF 'platenlaw09.ParseIndexes'. -/
def parseIndexesUptoCard : Claim7 := { stood := { row := parseIndexesUptoRow, standIns := [], harness := (true, "d67d4e669d282f4b40ddf4165a2bccd259d48ce4b73f43021f774fba10c5b282"), looks := false }, kinds := [], alts := [], laidByText := true, laidKinds := [.data, .pinned], laidTests := true, laidLooks := .later }
def ParseIndexesUptoCardSaid : Prop := Claim7.holds Tryd.pinned (.plain (OpenSpec.upto parseIndexesSpec)) parseIndexesUptoCard

/-- THE SECOND FORM's CARD OF 'platenlaw09.ParseVerbs'. -/
def parseVerbsUptoCard : Claim7 := { stood := { row := parseVerbsUptoRow, standIns := [], harness := (true, "d67d4e669d282f4b40ddf4165a2bccd259d48ce4b73f43021f774fba10c5b282"), looks := false }, kinds := [], alts := [], laidByText := true, laidKinds := [.data, .pinned], laidTests := true, laidLooks := .later }
def ParseVerbsUptoCardSaid : Prop := Claim7.holds Tryd.pinned (.plain (OpenSpec.upto parseVerbsSpec)) parseVerbsUptoCard

/-- THE SECOND FORM's CARD OF 'platenlaw09.ParseWhole'. -/
def parseWholeUptoCard : Claim7 := { stood := { row := parseWholeUptoRow, standIns := [], harness := (true, "d67d4e669d282f4b40ddf4165a2bccd259d48ce4b73f43021f774fba10c5b282"), looks := false }, kinds := [], alts := [], laidByText := true, laidKinds := [.data, .pinned], laidTests := true, laidLooks := .later }
def ParseWholeUptoCardSaid : Prop := Claim7.holds Tryd.pinned (.plain (OpenSpec.upto parseWholeSpec)) parseWholeUptoCard
end Rows
end Go.Proofs.YtmfhoindfhmncaaDoor
