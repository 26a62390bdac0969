/-
  DERIVED. GIVEN WITH THE SEED: THE CARDS: each row of YtohlodhkmkhhbaaDoorRows.lean that lists a variable, with what it lists TIED to the program's text (the seventh form; the later family's looks); each row that meets fmt, with fmt's text TOLD by the authors' own Lean function (tested against real Go, not proved from fmt's source: count such statements apart). THE CARD IS WHAT COUNTS. Prove the row's statement (the work); the ties are given (YtohlodhkmkhhbaaDoorTie.lean); close each card by the builder's one call (the guide's Derived/Test/ToyasCard.lean, 'card_holds'). Laid BY PROGRAM, IN A SANDBOX (cutbox-door.mjs). By AI agents, Wed Nov 11 2026. No macro, syntax, notation, axiom, sorry.
-/
import Derived.Test.YtohlodhkmkhhbaaDoorRows
import GoSem.ClaimSeven
namespace Go.Proofs.YtohlodhkmkhhbaaDoor
namespace Rows

/-- THE TIED CARD OF 'platenlaw01.BufRunes'. -/
def bufRunesCard : Claim7 := { stood := { row := bufRunesRow, standIns := [], harness := (true, "665f3262caab151b922aa43baef9732c0fdd89ab9d36f47913dd4004a94b633f"), looks := false }, kinds := [], alts := [], laidByText := true, laidKinds := [.data, .pinned], laidTests := true, laidLooks := .later }
def BufRunesCardSaid : Prop := Claim7.holds Tryd.pinned (.plain (OpenSpec.ofChange bufRunesSpec)) bufRunesCard

/-- THE TIED CARD OF 'platenlaw01.BufDecodes'. -/
def bufDecodesCard : Claim7 := { stood := { row := bufDecodesRow, standIns := [], harness := (true, "665f3262caab151b922aa43baef9732c0fdd89ab9d36f47913dd4004a94b633f"), looks := false }, kinds := [], alts := [], laidByText := true, laidKinds := [.data, .pinned], laidTests := true, laidLooks := .later }
def BufDecodesCardSaid : Prop := Claim7.holds Tryd.pinned (.plain (OpenSpec.ofChange bufDecodesSpec)) bufDecodesCard

/-- THE TIED CARD OF 'platenlaw01.BufFills'. -/
def bufFillsCard : Claim7 := { stood := { row := bufFillsRow, standIns := [], harness := (true, "665f3262caab151b922aa43baef9732c0fdd89ab9d36f47913dd4004a94b633f"), looks := false }, kinds := [], alts := [], laidByText := true, laidKinds := [.data, .pinned], laidTests := true, laidLooks := .later }
def BufFillsCardSaid : Prop := Claim7.holds Tryd.pinned (.plain (OpenSpec.ofChange bufFillsSpec)) bufFillsCard

/-- THE TIED CARD OF 'platenlaw01.BufPads'. -/
def bufPadsCard : Claim7 := { stood := { row := bufPadsRow, standIns := [], harness := (true, "665f3262caab151b922aa43baef9732c0fdd89ab9d36f47913dd4004a94b633f"), looks := false }, kinds := [], alts := [], laidByText := true, laidKinds := [.data, .pinned], laidTests := true, laidLooks := .later }
def BufPadsCardSaid : Prop := Claim7.holds Tryd.pinned (.plain (OpenSpec.ofChange bufPadsSpec)) bufPadsCard

/-- THE TIED CARD OF 'platenlaw01.BufPadded'. -/
def bufPaddedCard : Claim7 := { stood := { row := bufPaddedRow, standIns := [], harness := (true, "665f3262caab151b922aa43baef9732c0fdd89ab9d36f47913dd4004a94b633f"), looks := false }, kinds := [], alts := [], laidByText := true, laidKinds := [.data, .pinned], laidTests := true, laidLooks := .later }
def BufPaddedCardSaid : Prop := Claim7.holds Tryd.pinned (.plain (OpenSpec.ofChange bufPaddedSpec)) bufPaddedCard

/-- THE TIED CARD OF 'platenlaw01.BufBack'. -/
def bufBackCard : Claim7 := { stood := { row := bufBackRow, standIns := [], harness := (true, "665f3262caab151b922aa43baef9732c0fdd89ab9d36f47913dd4004a94b633f"), looks := false }, kinds := [], alts := [], laidByText := true, laidKinds := [.data, .pinned], laidTests := true, laidLooks := .later }
def BufBackCardSaid : Prop := Claim7.holds Tryd.pinned (.plain (OpenSpec.ofChange bufBackSpec)) bufBackCard

/-- THE TIED CARD OF 'platenlaw01.BufCounts'. -/
def bufCountsCard : Claim7 := { stood := { row := bufCountsRow, standIns := [], harness := (true, "665f3262caab151b922aa43baef9732c0fdd89ab9d36f47913dd4004a94b633f"), looks := false }, kinds := [], alts := [], laidByText := true, laidKinds := [.data, .pinned], laidTests := true, laidLooks := .later }
def BufCountsCardSaid : Prop := Claim7.holds Tryd.pinned (.plain (OpenSpec.ofChange bufCountsSpec)) bufCountsCard

/-- THE TIED CARD OF 'platenlaw01.BufSums'. -/
def bufSumsCard : Claim7 := { stood := { row := bufSumsRow, standIns := [], harness := (true, "665f3262caab151b922aa43baef9732c0fdd89ab9d36f47913dd4004a94b633f"), looks := false }, kinds := [], alts := [], laidByText := true, laidKinds := [.data, .pinned], laidTests := true, laidLooks := .later }
def BufSumsCardSaid : Prop := Claim7.holds Tryd.pinned (.plain (OpenSpec.ofChange bufSumsSpec)) bufSumsCard

/-- THE TIED CARD OF 'platenlaw01.BufWhole'. -/
def bufWholeCard : Claim7 := { stood := { row := bufWholeRow, standIns := [], harness := (true, "665f3262caab151b922aa43baef9732c0fdd89ab9d36f47913dd4004a94b633f"), looks := false }, kinds := [], alts := [], laidByText := true, laidKinds := [.data, .pinned], laidTests := true, laidLooks := .later }
def BufWholeCardSaid : Prop := Claim7.holds Tryd.pinned (.plain (OpenSpec.ofChange bufWholeSpec)) bufWholeCard

/-- THE TIED CARD OF 'platenlaw01.BufHolds'. -/
def bufHoldsCard : Claim7 := { stood := { row := bufHoldsRow, standIns := [], harness := (true, "665f3262caab151b922aa43baef9732c0fdd89ab9d36f47913dd4004a94b633f"), looks := false }, kinds := [], alts := [], laidByText := true, laidKinds := [.data, .pinned], laidTests := true, laidLooks := .later }
def BufHoldsCardSaid : Prop := Claim7.holds Tryd.pinned (.plain (OpenSpec.ofChange bufHoldsSpec)) bufHoldsCard

/-- THE SECOND FORM's CARD OF 'platenlaw01.BufRunes'. -/
def bufRunesUptoCard : Claim7 := { stood := { row := bufRunesUptoRow, standIns := [], harness := (true, "665f3262caab151b922aa43baef9732c0fdd89ab9d36f47913dd4004a94b633f"), looks := false }, kinds := [], alts := [], laidByText := true, laidKinds := [.data, .pinned], laidTests := true, laidLooks := .later }
def BufRunesUptoCardSaid : Prop := Claim7.holds Tryd.pinned (.plain (OpenSpec.upto bufRunesSpec)) bufRunesUptoCard

/-- THE SECOND FORM's CARD OF 'platenlaw01.BufDecodes'. -/
def bufDecodesUptoCard : Claim7 := { stood := { row := bufDecodesUptoRow, standIns := [], harness := (true, "665f3262caab151b922aa43baef9732c0fdd89ab9d36f47913dd4004a94b633f"), looks := false }, kinds := [], alts := [], laidByText := true, laidKinds := [.data, .pinned], laidTests := true, laidLooks := .later }
def BufDecodesUptoCardSaid : Prop := Claim7.holds Tryd.pinned (.plain (OpenSpec.upto bufDecodesSpec)) bufDecodesUptoCard

/-- THE SECOND FORM's CARD OF 'platenlaw01.BufFills'. -/
def bufFillsUptoCard : Claim7 := { stood := { row := bufFillsUptoRow, standIns := [], harness := (true, "665f3262caab151b922aa43baef9732c0fdd89ab9d36f47913dd4004a94b633f"), looks := false }, kinds := [], alts := [], laidByText := true, laidKinds := [.data, .pinned], laidTests := true, laidLooks := .later }
def BufFillsUptoCardSaid : Prop := Claim7.holds Tryd.pinned (.plain (OpenSpec.upto bufFillsSpec)) bufFillsUptoCard

/-- THE SECOND FORM's CARD OF 'platenlaw01.BufPads'. -/
def bufPadsUptoCard : Claim7 := { stood := { row := bufPadsUptoRow, standIns := [], harness := (true, "665f3262caab151b922aa43baef9732c0fdd89ab9d36f47913dd4004a94b633f"), looks := false }, kinds := [], alts := [], laidByText := true, laidKinds := [.data, .pinned], laidTests := true, laidLooks := .later }
def BufPadsUptoCardSaid : Prop := Claim7.holds Tryd.pinned (.plain (OpenSpec.upto bufPadsSpec)) bufPadsUptoCard

/-- THE SECOND FORM's CARD OF 'platenlaw01.BufPadded'. -/
def bufPaddedUptoCard : Claim7 := { stood := { row := bufPaddedUptoRow, standIns := [], harness := (true, "665f3262caab151b922aa43baef9732c0fdd89ab9d36f47913dd4004a94b633f"), looks := false }, kinds := [], alts := [], laidByText := true, laidKinds := [.data, .pinned], laidTests := true, laidLooks := .later }
def BufPaddedUptoCardSaid : Prop := Claim7.holds Tryd.pinned (.plain (OpenSpec.upto bufPaddedSpec)) bufPaddedUptoCard

/-- THE SECOND FORM's CARD OF 'platenlaw01.BufBack'. -/
def bufBackUptoCard : Claim7 := { stood := { row := bufBackUptoRow, standIns := [], harness := (true, "665f3262caab151b922aa43baef9732c0fdd89ab9d36f47913dd4004a94b633f"), looks := false }, kinds := [], alts := [], laidByText := true, laidKinds := [.data, .pinned], laidTests := true, laidLooks := .later }
def BufBackUptoCardSaid : Prop := Claim7.holds Tryd.pinned (.plain (OpenSpec.upto bufBackSpec)) bufBackUptoCard

/-- THE SECOND FORM's CARD OF 'platenlaw01.BufCounts'. -/
def bufCountsUptoCard : Claim7 := { stood := { row := bufCountsUptoRow, standIns := [], harness := (true, "665f3262caab151b922aa43baef9732c0fdd89ab9d36f47913dd4004a94b633f"), looks := false }, kinds := [], alts := [], laidByText := true, laidKinds := [.data, .pinned], laidTests := true, laidLooks := .later }
def BufCountsUptoCardSaid : Prop := Claim7.holds Tryd.pinned (.plain (OpenSpec.upto bufCountsSpec)) bufCountsUptoCard

/-- THE SECOND FORM's CARD OF 'platenlaw01.BufSums'. -/
def bufSumsUptoCard : Claim7 := { stood := { row := bufSumsUptoRow, standIns := [], harness := (true, "665f3262caab151b922aa43baef9732c0fdd89ab9d36f47913dd4004a94b633f"), looks := false }, kinds := [], alts := [], laidByText := true, laidKinds := [.data, .pinned], laidTests := true, laidLooks := .later }
def BufSumsUptoCardSaid : Prop := Claim7.holds Tryd.pinned (.plain (OpenSpec.upto bufSumsSpec)) bufSumsUptoCard

/-- THE SECOND FORM's CARD OF 'platenlaw01.BufWhole'. -/
def bufWholeUptoCard : Claim7 := { stood := { row := bufWholeUptoRow, standIns := [], harness := (true, "665f3262caab151b922aa43baef9732c0fdd89ab9d36f47913dd4004a94b633f"), looks := false }, kinds := [], alts := [], laidByText := true, laidKinds := [.data, .pinned], laidTests := true, laidLooks := .later }
def BufWholeUptoCardSaid : Prop := Claim7.holds Tryd.pinned (.plain (OpenSpec.upto bufWholeSpec)) bufWholeUptoCard

/-- THE SECOND FORM's CARD OF 'platenlaw01.BufHolds'. -/
def bufHoldsUptoCard : Claim7 := { stood := { row := bufHoldsUptoRow, standIns := [], harness := (true, "665f3262caab151b922aa43baef9732c0fdd89ab9d36f47913dd4004a94b633f"), looks := false }, kinds := [], alts := [], laidByText := true, laidKinds := [.data, .pinned], laidTests := true, laidLooks := .later }
def BufHoldsUptoCardSaid : Prop := Claim7.holds Tryd.pinned (.plain (OpenSpec.upto bufHoldsSpec)) bufHoldsUptoCard
end Rows
end Go.Proofs.YtohlodhkmkhhbaaDoor
