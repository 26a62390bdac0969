/-
  DERIVED. GIVEN WITH THE SEED: THE CARDS: each row of YtaniahkagmjkoaaDoorRows.lean that lists a variable, with what it lists TIED to the program's text (the seventh form; the later family's looks); each row that meets fmt, with fmt's text TOLD by the authors' own Lean function (tested against real Go, not proved from fmt's source: count such statements apart). THE CARD IS WHAT COUNTS. Prove the row's statement (the work); the ties are given (YtaniahkagmjkoaaDoorTie.lean); close each card by the builder's one call (the guide's Derived/Test/ToyasCard.lean, 'card_holds'). Laid BY PROGRAM, IN A SANDBOX (cutbox-door.mjs). By AI agents, Wed Nov 11 2026. No macro, syntax, notation, axiom, sorry.
-/
import Derived.Test.YtaniahkagmjkoaaDoorRows
import GoSem.ClaimSeven
namespace Go.Proofs.YtaniahkagmjkoaaDoor
namespace Rows

/-- THE TIED CARD OF 'platenlaw11.HooksWhich'. -/
def hooksWhichCard : Claim7 := { stood := { row := hooksWhichRow, standIns := [], harness := (true, "9042aef5d9c21629acc1841d643ce37234223af5c3eb4d6a1f4d418d7991568a"), looks := true }, kinds := [], alts := [], laidByText := true, laidKinds := [.data, .pinned], laidTests := true, laidLooks := .later }
def HooksWhichCardSaid : Prop := Claim7.holds Tryd.pinned (.plain (OpenSpec.ofChange hooksWhichSpec)) hooksWhichCard

/-- THE TIED CARD OF 'platenlaw11.HooksDoes'. -/
def hooksDoesCard : Claim7 := { stood := { row := hooksDoesRow, standIns := [], harness := (true, "9042aef5d9c21629acc1841d643ce37234223af5c3eb4d6a1f4d418d7991568a"), looks := true }, kinds := [], alts := [], laidByText := true, laidKinds := [.data, .pinned], laidTests := true, laidLooks := .later }
def HooksDoesCardSaid : Prop := Claim7.holds Tryd.pinned (.plain (OpenSpec.ofChange hooksDoesSpec)) hooksDoesCard

/-- THE TIED CARD OF 'platenlaw11.HooksFirst'. -/
def hooksFirstCard : Claim7 := { stood := { row := hooksFirstRow, standIns := [], harness := (true, "9042aef5d9c21629acc1841d643ce37234223af5c3eb4d6a1f4d418d7991568a"), looks := true }, kinds := [], alts := [], laidByText := true, laidKinds := [.data, .pinned], laidTests := true, laidLooks := .later }
def HooksFirstCardSaid : Prop := Claim7.holds Tryd.pinned (.plain (OpenSpec.ofChange hooksFirstSpec)) hooksFirstCard

/-- THE TIED CARD OF 'platenlaw11.HooksOthers'. -/
def hooksOthersCard : Claim7 := { stood := { row := hooksOthersRow, standIns := [], harness := (true, "9042aef5d9c21629acc1841d643ce37234223af5c3eb4d6a1f4d418d7991568a"), looks := true }, kinds := [], alts := [], laidByText := true, laidKinds := [.data, .pinned], laidTests := true, laidLooks := .later }
def HooksOthersCardSaid : Prop := Claim7.holds Tryd.pinned (.plain (OpenSpec.ofChange hooksOthersSpec)) hooksOthersCard

/-- THE TIED CARD OF 'platenlaw11.HooksThrows'. -/
def hooksThrowsCard : Claim7 := { stood := { row := hooksThrowsRow, standIns := [], harness := (true, "9042aef5d9c21629acc1841d643ce37234223af5c3eb4d6a1f4d418d7991568a"), looks := true }, kinds := [], alts := [], laidByText := true, laidKinds := [.data, .pinned], laidTests := true, laidLooks := .later }
def HooksThrowsCardSaid : Prop := Claim7.holds Tryd.pinned (.plain (OpenSpec.ofChange hooksThrowsSpec)) hooksThrowsCard

/-- THE TIED CARD OF 'platenlaw11.HooksLacks'. -/
def hooksLacksCard : Claim7 := { stood := { row := hooksLacksRow, standIns := [], harness := (true, "9042aef5d9c21629acc1841d643ce37234223af5c3eb4d6a1f4d418d7991568a"), looks := true }, kinds := [], alts := [], laidByText := true, laidKinds := [.data, .pinned], laidTests := true, laidLooks := .later }
def HooksLacksCardSaid : Prop := Claim7.holds Tryd.pinned (.plain (OpenSpec.ofChange hooksLacksSpec)) hooksLacksCard

/-- THE TIED CARD OF 'platenlaw11.HooksNames'. -/
def hooksNamesCard : Claim7 := { stood := { row := hooksNamesRow, standIns := [], harness := (true, "9042aef5d9c21629acc1841d643ce37234223af5c3eb4d6a1f4d418d7991568a"), looks := true }, kinds := [], alts := [], laidByText := true, laidKinds := [.data, .pinned], laidTests := true, laidLooks := .later }
def HooksNamesCardSaid : Prop := Claim7.holds Tryd.pinned (.plain (OpenSpec.ofChange hooksNamesSpec)) hooksNamesCard

/-- THE SECOND FORM's CARD OF 'platenlaw11.HooksWhich'. -/
def hooksWhichUptoCard : Claim7 := { stood := { row := hooksWhichUptoRow, standIns := [], harness := (true, "9042aef5d9c21629acc1841d643ce37234223af5c3eb4d6a1f4d418d7991568a"), looks := true }, kinds := [], alts := [], laidByText := true, laidKinds := [.data, .pinned], laidTests := true, laidLooks := .later }
def HooksWhichUptoCardSaid : Prop := Claim7.holds Tryd.pinned (.plain (OpenSpec.upto hooksWhichSpec)) hooksWhichUptoCard

/-- THE SECOND FORM's CARD OF 'platenlaw11.HooksDoes'. -/
def hooksDoesUptoCard : Claim7 := { stood := { row := hooksDoesUptoRow, standIns := [], harness := (true, "9042aef5d9c21629acc1841d643ce37234223af5c3eb4d6a1f4d418d7991568a"), looks := true }, kinds := [], alts := [], laidByText := true, laidKinds := [.data, .pinned], laidTests := true, laidLooks := .later }
def HooksDoesUptoCardSaid : Prop := Claim7.holds Tryd.pinned (.plain (OpenSpec.upto hooksDoesSpec)) hooksDoesUptoCard

/-- THE SECOND FORM's CARD OF 'platenlaw11.HooksFirst'. -/
def hooksFirstUptoCard : Claim7 := { stood := { row := hooksFirstUptoRow, standIns := [], harness := (true, "9042aef5d9c21629acc1841d643ce37234223af5c3eb4d6a1f4d418d7991568a"), looks := true }, kinds := [], alts := [], laidByText := true, laidKinds := [.data, .pinned], laidTests := true, laidLooks := .later }
def HooksFirstUptoCardSaid : Prop := Claim7.holds Tryd.pinned (.plain (OpenSpec.upto hooksFirstSpec)) hooksFirstUptoCard

/-- THE SECOND FORM's CARD OF 'platenlaw11.HooksOthers'. -/
def hooksOthersUptoCard : Claim7 := { stood := { row := hooksOthersUptoRow, standIns := [], harness := (true, "9042aef5d9c21629acc1841d643ce37234223af5c3eb4d6a1f4d418d7991568a"), looks := true }, kinds := [], alts := [], laidByText := true, laidKinds := [.data, .pinned], laidTests := true, laidLooks := .later }
def HooksOthersUptoCardSaid : Prop := Claim7.holds Tryd.pinned (.plain (OpenSpec.upto hooksOthersSpec)) hooksOthersUptoCard

/-- THE SECOND FORM's CARD OF 'platenlaw11.HooksThrows'. -/
def hooksThrowsUptoCard : Claim7 := { stood := { row := hooksThrowsUptoRow, standIns := [], harness := (true, "9042aef5d9c21629acc1841d643ce37234223af5c3eb4d6a1f4d418d7991568a"), looks := true }, kinds := [], alts := [], laidByText := true, laidKinds := [.data, .pinned], laidTests := true, laidLooks := .later }
def HooksThrowsUptoCardSaid : Prop := Claim7.holds Tryd.pinned (.plain (OpenSpec.upto hooksThrowsSpec)) hooksThrowsUptoCard

/-- THE SECOND FORM's CARD OF 'platenlaw11.HooksLacks'. -/
def hooksLacksUptoCard : Claim7 := { stood := { row := hooksLacksUptoRow, standIns := [], harness := (true, "9042aef5d9c21629acc1841d643ce37234223af5c3eb4d6a1f4d418d7991568a"), looks := true }, kinds := [], alts := [], laidByText := true, laidKinds := [.data, .pinned], laidTests := true, laidLooks := .later }
def HooksLacksUptoCardSaid : Prop := Claim7.holds Tryd.pinned (.plain (OpenSpec.upto hooksLacksSpec)) hooksLacksUptoCard

/-- THE SECOND FORM's CARD OF 'platenlaw11.HooksNames'. -/
def hooksNamesUptoCard : Claim7 := { stood := { row := hooksNamesUptoRow, standIns := [], harness := (true, "9042aef5d9c21629acc1841d643ce37234223af5c3eb4d6a1f4d418d7991568a"), looks := true }, kinds := [], alts := [], laidByText := true, laidKinds := [.data, .pinned], laidTests := true, laidLooks := .later }
def HooksNamesUptoCardSaid : Prop := Claim7.holds Tryd.pinned (.plain (OpenSpec.upto hooksNamesSpec)) hooksNamesUptoCard
end Rows
end Go.Proofs.YtaniahkagmjkoaaDoor
