/-
  DERIVED. GIVEN WITH THE SEED: THE CARDS: each row of YteifnddblnaepaaDoorRows.lean that lists a variable, with what it lists TIED to the program's text (the seventh form; the later family's looks); each row that meets fmt, with fmt's text TOLD by the authors' own Lean function (tested against real Go, not proved from fmt's source: count such statements apart). THE CARD IS WHAT COUNTS. Prove the row's statement (the work); the ties are given (YteifnddblnaepaaDoorTie.lean); close each card by the builder's one call (the guide's Derived/Test/ToyasCard.lean, 'card_holds'). Laid BY PROGRAM, IN A SANDBOX (cutbox-door.mjs). By AI agents, Wed Nov 11 2026. No macro, syntax, notation, axiom, sorry.
-/
import Derived.Test.YteifnddblnaepaaDoorRows
import GoSem.ClaimSeven
namespace Go.Proofs.YteifnddblnaepaaDoor
namespace Rows

/-- THE TIED CARD OF 'platenlaw10.BadExtras'. -/
def badExtrasCard : Claim7 := { stood := { row := badExtrasRow, standIns := [], harness := (true, "08012a01e8ef8ebe6cdd6e3b3b474507263f9b5764ad3e474a59f63c13ba9715"), looks := false }, kinds := [], alts := [], laidByText := true, laidKinds := [.data, .pinned], laidTests := true, laidLooks := .later }
def BadExtrasCardSaid : Prop := Claim7.holds Tryd.pinned (.plain (OpenSpec.ofChange badExtrasSpec)) badExtrasCard

/-- THE TIED CARD OF 'platenlaw10.BadReads'. -/
def badReadsCard : Claim7 := { stood := { row := badReadsRow, standIns := [], harness := (true, "08012a01e8ef8ebe6cdd6e3b3b474507263f9b5764ad3e474a59f63c13ba9715"), looks := false }, kinds := [], alts := [], laidByText := true, laidKinds := [.data, .pinned], laidTests := true, laidLooks := .later }
def BadReadsCardSaid : Prop := Claim7.holds Tryd.pinned (.plain (OpenSpec.ofChange badReadsSpec)) badReadsCard

/-- THE TIED CARD OF 'platenlaw10.BadOthers'. -/
def badOthersCard : Claim7 := { stood := { row := badOthersRow, standIns := [], harness := (true, "08012a01e8ef8ebe6cdd6e3b3b474507263f9b5764ad3e474a59f63c13ba9715"), looks := false }, kinds := [], alts := [], laidByText := true, laidKinds := [.data, .pinned], laidTests := true, laidLooks := .later }
def BadOthersCardSaid : Prop := Claim7.holds Tryd.pinned (.plain (OpenSpec.ofChange badOthersSpec)) badOthersCard

/-- THE TIED CARD OF 'platenlaw10.BadFixed'. -/
def badFixedCard : Claim7 := { stood := { row := badFixedRow, standIns := [], harness := (true, "08012a01e8ef8ebe6cdd6e3b3b474507263f9b5764ad3e474a59f63c13ba9715"), looks := false }, kinds := [], alts := [], laidByText := true, laidKinds := [.data, .pinned], laidTests := true, laidLooks := .later }
def BadFixedCardSaid : Prop := Claim7.holds Tryd.pinned (.plain (OpenSpec.ofChange badFixedSpec)) badFixedCard

/-- THE TIED CARD OF 'platenlaw10.BadVerbs'. -/
def badVerbsCard : Claim7 := { stood := { row := badVerbsRow, standIns := [], harness := (true, "08012a01e8ef8ebe6cdd6e3b3b474507263f9b5764ad3e474a59f63c13ba9715"), looks := false }, kinds := [], alts := [], laidByText := true, laidKinds := [.data, .pinned], laidTests := true, laidLooks := .later }
def BadVerbsCardSaid : Prop := Claim7.holds Tryd.pinned (.plain (OpenSpec.ofChange badVerbsSpec)) badVerbsCard

/-- THE TIED CARD OF 'platenlaw10.BadBack'. -/
def badBackCard : Claim7 := { stood := { row := badBackRow, standIns := [], harness := (true, "08012a01e8ef8ebe6cdd6e3b3b474507263f9b5764ad3e474a59f63c13ba9715"), looks := false }, kinds := [], alts := [], laidByText := true, laidKinds := [.data, .pinned], laidTests := true, laidLooks := .later }
def BadBackCardSaid : Prop := Claim7.holds Tryd.pinned (.plain (OpenSpec.ofChange badBackSpec)) badBackCard

/-- THE SECOND FORM's CARD OF 'platenlaw10.BadExtras'. -/
def badExtrasUptoCard : Claim7 := { stood := { row := badExtrasUptoRow, standIns := [], harness := (true, "08012a01e8ef8ebe6cdd6e3b3b474507263f9b5764ad3e474a59f63c13ba9715"), looks := false }, kinds := [], alts := [], laidByText := true, laidKinds := [.data, .pinned], laidTests := true, laidLooks := .later }
def BadExtrasUptoCardSaid : Prop := Claim7.holds Tryd.pinned (.plain (OpenSpec.upto badExtrasSpec)) badExtrasUptoCard

/-- THE SECOND FORM's CARD OF 'platenlaw10.BadReads'. -/
def badReadsUptoCard : Claim7 := { stood := { row := badReadsUptoRow, standIns := [], harness := (true, "08012a01e8ef8ebe6cdd6e3b3b474507263f9b5764ad3e474a59f63c13ba9715"), looks := false }, kinds := [], alts := [], laidByText := true, laidKinds := [.data, .pinned], laidTests := true, laidLooks := .later }
def BadReadsUptoCardSaid : Prop := Claim7.holds Tryd.pinned (.plain (OpenSpec.upto badReadsSpec)) badReadsUptoCard

/-- THE SECOND FORM's CARD OF 'platenlaw10.BadOthers'. -/
def badOthersUptoCard : Claim7 := { stood := { row := badOthersUptoRow, standIns := [], harness := (true, "08012a01e8ef8ebe6cdd6e3b3b474507263f9b5764ad3e474a59f63c13ba9715"), looks := false }, kinds := [], alts := [], laidByText := true, laidKinds := [.data, .pinned], laidTests := true, laidLooks := .later }
def BadOthersUptoCardSaid : Prop := Claim7.holds Tryd.pinned (.plain (OpenSpec.upto badOthersSpec)) badOthersUptoCard

/-- THE SECOND FORM's CARD OF 'platenlaw10.BadFixed'. -/
def badFixedUptoCard : Claim7 := { stood := { row := badFixedUptoRow, standIns := [], harness := (true, "08012a01e8ef8ebe6cdd6e3b3b474507263f9b5764ad3e474a59f63c13ba9715"), looks := false }, kinds := [], alts := [], laidByText := true, laidKinds := [.data, .pinned], laidTests := true, laidLooks := .later }
def BadFixedUptoCardSaid : Prop := Claim7.holds Tryd.pinned (.plain (OpenSpec.upto badFixedSpec)) badFixedUptoCard

/-- THE SECOND FORM's CARD OF 'platenlaw10.BadVerbs'. -/
def badVerbsUptoCard : Claim7 := { stood := { row := badVerbsUptoRow, standIns := [], harness := (true, "08012a01e8ef8ebe6cdd6e3b3b474507263f9b5764ad3e474a59f63c13ba9715"), looks := false }, kinds := [], alts := [], laidByText := true, laidKinds := [.data, .pinned], laidTests := true, laidLooks := .later }
def BadVerbsUptoCardSaid : Prop := Claim7.holds Tryd.pinned (.plain (OpenSpec.upto badVerbsSpec)) badVerbsUptoCard

/-- THE SECOND FORM's CARD OF 'platenlaw10.BadBack'. -/
def badBackUptoCard : Claim7 := { stood := { row := badBackUptoRow, standIns := [], harness := (true, "08012a01e8ef8ebe6cdd6e3b3b474507263f9b5764ad3e474a59f63c13ba9715"), looks := false }, kinds := [], alts := [], laidByText := true, laidKinds := [.data, .pinned], laidTests := true, laidLooks := .later }
def BadBackUptoCardSaid : Prop := Claim7.holds Tryd.pinned (.plain (OpenSpec.upto badBackSpec)) badBackUptoCard
end Rows
end Go.Proofs.YteifnddblnaepaaDoor
