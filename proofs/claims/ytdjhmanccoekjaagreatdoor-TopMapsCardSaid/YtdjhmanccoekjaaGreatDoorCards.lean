/-
  DERIVED. GIVEN WITH THE SEED: THE CARDS: each row of YtdjhmanccoekjaaGreatDoorRows.lean that lists a variable, with what it lists TIED to the program's text (the seventh form; the later family's looks); each row that meets fmt, with fmt's text TOLD by the authors' own Lean function (tested against real Go, not proved from fmt's source: count such statements apart). THE CARD IS WHAT COUNTS. Prove the row's statement (the work); the ties are given (YtdjhmanccoekjaaGreatDoorTie.lean); close each card by the builder's one call (the guide's Derived/Test/ToyasCard.lean, 'card_holds'). Laid BY PROGRAM, IN A SANDBOX (cutbox-door.mjs). By AI agents, Wed Nov 11 2026. No macro, syntax, notation, axiom, sorry.
-/
import Derived.Test.YtdjhmanccoekjaaGreatDoorRows
import GoSem.ClaimSeven
namespace Go.Proofs.YtdjhmanccoekjaaGreatDoor
namespace Rows

/-- THE TIED CARD OF 'platentop.TopDispatch'. -/
def topDispatchCard : Claim7 := { stood := { row := topDispatchRow, standIns := [], harness := (true, "92192986a5f2be496905a74fa3fb0110244e1149f6bbff16b6d9ae762d0b6e47"), looks := true }, kinds := [], alts := [], laidByText := true, laidKinds := [.data, .pinned, .pinned], laidTests := true, laidLooks := .later }
def TopDispatchCardSaid : Prop := Claim7.holds Tryz.pinned (.plain (OpenSpec.ofChange topDispatchSpec)) topDispatchCard

/-- THE TIED CARD OF 'platentop.TopMaps'. -/
def topMapsCard : Claim7 := { stood := { row := topMapsRow, standIns := [], harness := (true, "92192986a5f2be496905a74fa3fb0110244e1149f6bbff16b6d9ae762d0b6e47"), looks := true }, kinds := [], alts := [], laidByText := true, laidKinds := [.data, .pinned, .pinned], laidTests := true, laidLooks := .later }
def TopMapsCardSaid : Prop := Claim7.holds Tryz.pinned (.plain (OpenSpec.ofChange topMapsSpec)) topMapsCard

/-- THE TIED CARD OF 'platentop.TopNumbers'. -/
def topNumbersCard : Claim7 := { stood := { row := topNumbersRow, standIns := [], harness := (true, "92192986a5f2be496905a74fa3fb0110244e1149f6bbff16b6d9ae762d0b6e47"), looks := true }, kinds := [], alts := [], laidByText := true, laidKinds := [.data, .pinned, .pinned], laidTests := true, laidLooks := .later }
def TopNumbersCardSaid : Prop := Claim7.holds Tryz.pinned (.plain (OpenSpec.ofChange topNumbersSpec)) topNumbersCard

/-- THE TIED CARD OF 'platentop.TopKinds'. -/
def topKindsCard : Claim7 := { stood := { row := topKindsRow, standIns := [], harness := (true, "92192986a5f2be496905a74fa3fb0110244e1149f6bbff16b6d9ae762d0b6e47"), looks := true }, kinds := [], alts := [], laidByText := true, laidKinds := [.data, .pinned, .pinned], laidTests := true, laidLooks := .later }
def TopKindsCardSaid : Prop := Claim7.holds Tryz.pinned (.plain (OpenSpec.ofChange topKindsSpec)) topKindsCard

/-- THE SECOND FORM's CARD OF 'platentop.TopDispatch'. -/
def topDispatchUptoCard : Claim7 := { stood := { row := topDispatchUptoRow, standIns := [], harness := (true, "92192986a5f2be496905a74fa3fb0110244e1149f6bbff16b6d9ae762d0b6e47"), looks := true }, kinds := [], alts := [], laidByText := true, laidKinds := [.data, .pinned, .pinned], laidTests := true, laidLooks := .later }
def TopDispatchUptoCardSaid : Prop := Claim7.holds Tryz.pinned (.plain (OpenSpec.upto topDispatchSpec)) topDispatchUptoCard

/-- THE SECOND FORM's CARD OF 'platentop.TopMaps'. -/
def topMapsUptoCard : Claim7 := { stood := { row := topMapsUptoRow, standIns := [], harness := (true, "92192986a5f2be496905a74fa3fb0110244e1149f6bbff16b6d9ae762d0b6e47"), looks := true }, kinds := [], alts := [], laidByText := true, laidKinds := [.data, .pinned, .pinned], laidTests := true, laidLooks := .later }
def TopMapsUptoCardSaid : Prop := Claim7.holds Tryz.pinned (.plain (OpenSpec.upto topMapsSpec)) topMapsUptoCard

/-- THE SECOND FORM's CARD OF 'platentop.TopNumbers'. -/
def topNumbersUptoCard : Claim7 := { stood := { row := topNumbersUptoRow, standIns := [], harness := (true, "92192986a5f2be496905a74fa3fb0110244e1149f6bbff16b6d9ae762d0b6e47"), looks := true }, kinds := [], alts := [], laidByText := true, laidKinds := [.data, .pinned, .pinned], laidTests := true, laidLooks := .later }
def TopNumbersUptoCardSaid : Prop := Claim7.holds Tryz.pinned (.plain (OpenSpec.upto topNumbersSpec)) topNumbersUptoCard

/-- THE SECOND FORM's CARD OF 'platentop.TopKinds'. -/
def topKindsUptoCard : Claim7 := { stood := { row := topKindsUptoRow, standIns := [], harness := (true, "92192986a5f2be496905a74fa3fb0110244e1149f6bbff16b6d9ae762d0b6e47"), looks := true }, kinds := [], alts := [], laidByText := true, laidKinds := [.data, .pinned, .pinned], laidTests := true, laidLooks := .later }
def TopKindsUptoCardSaid : Prop := Claim7.holds Tryz.pinned (.plain (OpenSpec.upto topKindsSpec)) topKindsUptoCard
end Rows
end Go.Proofs.YtdjhmanccoekjaaGreatDoor
