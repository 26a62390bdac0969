/-
  NARROWER THAN 'FOR EVERY INPUT', by the rows' own cells (each row's printed sentence says how): ParsePieces: laid · ParseLits: laid · ParseJoins: laid · ParseFlags: laid · ParseIndexes: laid · ParseVerbs: laid · ParseWhole: laid.
  DERIVED. THE GIVEN ROWS OF THIS SEAT. 7 by the template 'for every input the law returns true; each argument reads behind the call as it read before'; 0 by the template 'total and deterministic' (their statements: YtmfhoindfhmncaaDoorTotals.lean).
  GIVEN WITH THE SEED: the statements are not yours to turn. If you find one false, say at which input.
  Laid BY PROGRAM, IN A SANDBOX (cutbox-rows.mjs): the forced cells as the released guide's own fill.sh prints them over the translation 3a8bada8e11e3303… (all of the seat's roots in one cut). By AI agents, Wed Nov 11 2026. No macro, syntax, notation, axiom, sorry.
-/
import Derived.Test.YtmfhoindfhmncaaDoorChecked
import GoSem.PinnedTables
import GoSem.Claim
import GoSem.ClaimJoined
import GoSem.ClaimMapViews
import Derived.JoinedTies
import Derived.KernelRfl
namespace Go.Proofs.YtmfhoindfhmncaaDoor
/- THE CELL 'sum', in the pinned program and in every row, IS THE sha256 OF THE DUMP (.gsa) THAT YtmfhoindfhmncaaDoorProg.lean LOADS. Nothing in Lean hashes anything: it is a label: what it is worth is what the hold of that sum in a sandbox is worth. -/
noncomputable def Tryd.pinned : Pinned := { name := "ytmfhoindfhmncaadoor", sum := "3a8bada8e11e33031731fceacb1161ac9d5a5820d40280b8c62a4e4ccc65593a", checked := Tryd.checked }
namespace Rows
def none {H : Type} : Left H := { results := [], args := [] }

/- WHAT THE LISTED PACKAGE-LEVEL VARIABLES READ AS WHEN THE CALL BEGINS. Each datum BY PROGRAM (the guide's laid-datum.mjs) off the statement by which the dump's own 'gosem.cut.vars' lays the variable. In a bare row this is a premise. The card (YtmfhoindfhmncaaDoorCards.lean) ties it to the program's text. -/
def laid_unicode_utf8_acceptRanges {H : Type} : DataW H := .agg [.agg [.lit (.int .u8 128), .lit (.int .u8 191)], .agg [.lit (.int .u8 160), .lit (.int .u8 191)], .agg [.lit (.int .u8 128), .lit (.int .u8 159)], .agg [.lit (.int .u8 144), .lit (.int .u8 191)], .agg [.lit (.int .u8 128), .lit (.int .u8 143)], .agg [.lit (.int .u8 0), .lit (.int .u8 0)], .agg [.lit (.int .u8 0), .lit (.int .u8 0)], .agg [.lit (.int .u8 0), .lit (.int .u8 0)], .agg [.lit (.int .u8 0), .lit (.int .u8 0)], .agg [.lit (.int .u8 0), .lit (.int .u8 0)], .agg [.lit (.int .u8 0), .lit (.int .u8 0)], .agg [.lit (.int .u8 0), .lit (.int .u8 0)], .agg [.lit (.int .u8 0), .lit (.int .u8 0)], .agg [.lit (.int .u8 0), .lit (.int .u8 0)], .agg [.lit (.int .u8 0), .lit (.int .u8 0)], .agg [.lit (.int .u8 0), .lit (.int .u8 0)]]
/-- One of Go's own tables, pinned by name: the form's constant. -/
def laid_unicode_utf8_first : DataW Unit := Go.Pinned.utf8First

/-- 'platenlaw09.ParsePieces': WHATEVER THE INPUT: true; the input reads as it did. -/
def parsePiecesSpec : ChangeSpec := { name := "parsePieces", fn := fun _ => fun
  | [d] => { results := [.lit (.bool true)], args := [d] }
  | _ => none }
def parsePiecesRow : OpenClaim := { program := "ytmfhoindfhmncaadoor", sum := "3a8bada8e11e33031731fceacb1161ac9d5a5820d40280b8c62a4e4ccc65593a", func := "platen/platenlaw09.ParsePieces", spec := "parsePieces", inPlace := ["internal/bytealg.IndexByteString"], unfollowed := true, recurses := true, named := ["unicode/utf8.first", "unicode/utf8.acceptRanges"], apart := false, laid := [("unicode/utf8.acceptRanges", laid_unicode_utf8_acceptRanges), ("unicode/utf8.first", laid_unicode_utf8_first)] }
def ParsePiecesSaid : Prop := parsePiecesRow.holds Tryd.pinned (OpenSpec.ofChange parsePiecesSpec)

/-- ITS FALSE NEIGHBOUR: 'it returns false'. Refute it at one input. -/
def parsePiecesWrong : ChangeSpec := { name := "parsePieces", fn := fun _ => fun
  | [d] => { results := [.lit (.bool false)], args := [d] }
  | _ => none }
def ParsePiecesWrongFalsely : Prop := parsePiecesRow.holds Tryd.pinned (OpenSpec.ofChange parsePiecesWrong)

/-- 'platenlaw09.ParseLits': WHATEVER THE INPUT: true; the input reads as it did. -/
def parseLitsSpec : ChangeSpec := { name := "parseLits", fn := fun _ => fun
  | [d] => { results := [.lit (.bool true)], args := [d] }
  | _ => none }
def parseLitsRow : OpenClaim := { program := "ytmfhoindfhmncaadoor", sum := "3a8bada8e11e33031731fceacb1161ac9d5a5820d40280b8c62a4e4ccc65593a", func := "platen/platenlaw09.ParseLits", spec := "parseLits", inPlace := ["internal/bytealg.IndexByteString"], unfollowed := true, recurses := true, named := ["unicode/utf8.first", "unicode/utf8.acceptRanges"], apart := false, laid := [("unicode/utf8.acceptRanges", laid_unicode_utf8_acceptRanges), ("unicode/utf8.first", laid_unicode_utf8_first)] }
def ParseLitsSaid : Prop := parseLitsRow.holds Tryd.pinned (OpenSpec.ofChange parseLitsSpec)

/-- ITS FALSE NEIGHBOUR: 'it returns false'. Refute it at one input. -/
def parseLitsWrong : ChangeSpec := { name := "parseLits", fn := fun _ => fun
  | [d] => { results := [.lit (.bool false)], args := [d] }
  | _ => none }
def ParseLitsWrongFalsely : Prop := parseLitsRow.holds Tryd.pinned (OpenSpec.ofChange parseLitsWrong)

/-- 'platenlaw09.ParseJoins': WHATEVER THE INPUT: true; the input reads as it did. -/
def parseJoinsSpec : ChangeSpec := { name := "parseJoins", fn := fun _ => fun
  | [d1, d2] => { results := [.lit (.bool true)], args := [d1, d2] }
  | _ => none }
def parseJoinsRow : OpenClaim := { program := "ytmfhoindfhmncaadoor", sum := "3a8bada8e11e33031731fceacb1161ac9d5a5820d40280b8c62a4e4ccc65593a", func := "platen/platenlaw09.ParseJoins", spec := "parseJoins", inPlace := ["internal/bytealg.IndexByteString"], unfollowed := true, recurses := true, named := ["unicode/utf8.first", "unicode/utf8.acceptRanges"], apart := false, laid := [("unicode/utf8.acceptRanges", laid_unicode_utf8_acceptRanges), ("unicode/utf8.first", laid_unicode_utf8_first)] }
def ParseJoinsSaid : Prop := parseJoinsRow.holds Tryd.pinned (OpenSpec.ofChange parseJoinsSpec)

/-- ITS FALSE NEIGHBOUR: 'it returns false'. Refute it at one input. -/
def parseJoinsWrong : ChangeSpec := { name := "parseJoins", fn := fun _ => fun
  | [d1, d2] => { results := [.lit (.bool false)], args := [d1, d2] }
  | _ => none }
def ParseJoinsWrongFalsely : Prop := parseJoinsRow.holds Tryd.pinned (OpenSpec.ofChange parseJoinsWrong)

/-- 'platenlaw09.ParseFlags': WHATEVER THE INPUT: true; the input reads as it did. -/
def parseFlagsSpec : ChangeSpec := { name := "parseFlags", fn := fun _ => fun
  | [d1, d2, d3] => { results := [.lit (.bool true)], args := [d1, d2, d3] }
  | _ => none }
def parseFlagsRow : OpenClaim := { program := "ytmfhoindfhmncaadoor", sum := "3a8bada8e11e33031731fceacb1161ac9d5a5820d40280b8c62a4e4ccc65593a", func := "platen/platenlaw09.ParseFlags", spec := "parseFlags", inPlace := ["internal/bytealg.IndexByteString"], unfollowed := true, recurses := true, named := ["unicode/utf8.first", "unicode/utf8.acceptRanges"], apart := false, laid := [("unicode/utf8.acceptRanges", laid_unicode_utf8_acceptRanges), ("unicode/utf8.first", laid_unicode_utf8_first)] }
def ParseFlagsSaid : Prop := parseFlagsRow.holds Tryd.pinned (OpenSpec.ofChange parseFlagsSpec)

/-- ITS FALSE NEIGHBOUR: 'it returns false'. Refute it at one input. -/
def parseFlagsWrong : ChangeSpec := { name := "parseFlags", fn := fun _ => fun
  | [d1, d2, d3] => { results := [.lit (.bool false)], args := [d1, d2, d3] }
  | _ => none }
def ParseFlagsWrongFalsely : Prop := parseFlagsRow.holds Tryd.pinned (OpenSpec.ofChange parseFlagsWrong)

/-- 'platenlaw09.ParseIndexes': WHATEVER THE INPUT: true; the input reads as it did. -/
def parseIndexesSpec : ChangeSpec := { name := "parseIndexes", fn := fun _ => fun
  | [d1, d2, d3] => { results := [.lit (.bool true)], args := [d1, d2, d3] }
  | _ => none }
def parseIndexesRow : OpenClaim := { program := "ytmfhoindfhmncaadoor", sum := "3a8bada8e11e33031731fceacb1161ac9d5a5820d40280b8c62a4e4ccc65593a", func := "platen/platenlaw09.ParseIndexes", spec := "parseIndexes", inPlace := ["internal/bytealg.IndexByteString"], unfollowed := true, recurses := true, named := ["unicode/utf8.first", "unicode/utf8.acceptRanges"], apart := false, laid := [("unicode/utf8.acceptRanges", laid_unicode_utf8_acceptRanges), ("unicode/utf8.first", laid_unicode_utf8_first)] }
def ParseIndexesSaid : Prop := parseIndexesRow.holds Tryd.pinned (OpenSpec.ofChange parseIndexesSpec)

/-- ITS FALSE NEIGHBOUR: 'it returns false'. Refute it at one input. -/
def parseIndexesWrong : ChangeSpec := { name := "parseIndexes", fn := fun _ => fun
  | [d1, d2, d3] => { results := [.lit (.bool false)], args := [d1, d2, d3] }
  | _ => none }
def ParseIndexesWrongFalsely : Prop := parseIndexesRow.holds Tryd.pinned (OpenSpec.ofChange parseIndexesWrong)

/-- 'platenlaw09.ParseVerbs': WHATEVER THE INPUT: true; the input reads as it did. -/
def parseVerbsSpec : ChangeSpec := { name := "parseVerbs", fn := fun _ => fun
  | [d1, d2] => { results := [.lit (.bool true)], args := [d1, d2] }
  | _ => none }
def parseVerbsRow : OpenClaim := { program := "ytmfhoindfhmncaadoor", sum := "3a8bada8e11e33031731fceacb1161ac9d5a5820d40280b8c62a4e4ccc65593a", func := "platen/platenlaw09.ParseVerbs", spec := "parseVerbs", inPlace := ["internal/bytealg.IndexByteString"], unfollowed := true, recurses := true, named := ["unicode/utf8.first", "unicode/utf8.acceptRanges"], apart := false, laid := [("unicode/utf8.acceptRanges", laid_unicode_utf8_acceptRanges), ("unicode/utf8.first", laid_unicode_utf8_first)] }
def ParseVerbsSaid : Prop := parseVerbsRow.holds Tryd.pinned (OpenSpec.ofChange parseVerbsSpec)

/-- ITS FALSE NEIGHBOUR: 'it returns false'. Refute it at one input. -/
def parseVerbsWrong : ChangeSpec := { name := "parseVerbs", fn := fun _ => fun
  | [d1, d2] => { results := [.lit (.bool false)], args := [d1, d2] }
  | _ => none }
def ParseVerbsWrongFalsely : Prop := parseVerbsRow.holds Tryd.pinned (OpenSpec.ofChange parseVerbsWrong)

/-- 'platenlaw09.ParseWhole': WHATEVER THE INPUT: true; the input reads as it did. -/
def parseWholeSpec : ChangeSpec := { name := "parseWhole", fn := fun _ => fun
  | [d] => { results := [.lit (.bool true)], args := [d] }
  | _ => none }
def parseWholeRow : OpenClaim := { program := "ytmfhoindfhmncaadoor", sum := "3a8bada8e11e33031731fceacb1161ac9d5a5820d40280b8c62a4e4ccc65593a", func := "platen/platenlaw09.ParseWhole", spec := "parseWhole", inPlace := ["internal/bytealg.IndexByteString", "internal/abi.NoEscape"], unfollowed := true, recurses := true, named := ["unicode/utf8.first", "unicode/utf8.acceptRanges"], apart := false, laid := [("unicode/utf8.acceptRanges", laid_unicode_utf8_acceptRanges), ("unicode/utf8.first", laid_unicode_utf8_first)] }
def ParseWholeSaid : Prop := parseWholeRow.holds Tryd.pinned (OpenSpec.ofChange parseWholeSpec)

/-- ITS FALSE NEIGHBOUR: 'it returns false'. Refute it at one input. -/
def parseWholeWrong : ChangeSpec := { name := "parseWhole", fn := fun _ => fun
  | [d] => { results := [.lit (.bool false)], args := [d] }
  | _ => none }
def ParseWholeWrongFalsely : Prop := parseWholeRow.holds Tryd.pinned (OpenSpec.ofChange parseWholeWrong)

/- THE SECOND FORM. 'bulk': how many values and letters a reading holds, each counted each time it is reached (what is shared counts as often as it is met; a slice's spare places count too). A statement '..UptoSaid' is the law's where the arguments, and the package variables that the reading takes, are together of bulk at most 1048576: NARROWER than '..Said'. Prove '..Said' where nothing that the law and all that it calls make is longer than what came in: it says more and counts as full. Else prove '..UptoSaid'. A law counts once. -/
mutual
def uptoBulk {H : Type} : DataW H → Nat
  | .lit (.string bytes) => bytes.length + 1
  | .lit _ => 1
  | .nil => 1
  | .ptr d => uptoBulk d + 1
  | .slice elems spare => uptoBulkAll elems + uptoBulkAll spare + 1
  | .agg parts => uptoBulkAll parts + 1
  | .iface _ d => uptoBulk d + 1
  | .map entries => uptoBulkEntries entries + 1
  | .held _ => 1
def uptoBulkAll {H : Type} : List (DataW H) → Nat
  | [] => 0
  | d :: r => uptoBulk d + uptoBulkAll r
def uptoBulkEntries {H : Type} : List (Lit × DataW H) → Nat
  | [] => 0
  | x :: r => uptoBulkEntry x + uptoBulkEntries r
def uptoBulkEntry {H : Type} : Lit × DataW H → Nat
  | (.string bytes, d) => bytes.length + uptoBulk d + 1
  | (_, d) => uptoBulk d + 1
 end
def uptoSmall : (H : Type) → List (DataW H) → Bool := fun _ ds => decide (uptoBulkAll ds ≤ 1048576)
def OpenSpec.upto (s : _root_.Go.ChangeSpec) : _root_.Go.OpenSpec := { _root_.Go.OpenSpec.ofChange s with cond := some uptoSmall }

/-- 'platenlaw09.ParsePieces', WHERE WHAT IT READS IS OF BULK AT MOST 1048576: true; the input reads as it did. -/
def parsePiecesUptoRow : OpenClaim := { program := "ytmfhoindfhmncaadoor", sum := "3a8bada8e11e33031731fceacb1161ac9d5a5820d40280b8c62a4e4ccc65593a", func := "platen/platenlaw09.ParsePieces", spec := "parsePieces", inPlace := ["internal/bytealg.IndexByteString"], unfollowed := true, recurses := true, named := ["unicode/utf8.first", "unicode/utf8.acceptRanges"], apart := false, laid := [("unicode/utf8.acceptRanges", laid_unicode_utf8_acceptRanges), ("unicode/utf8.first", laid_unicode_utf8_first)], narrowed := true }
def ParsePiecesUptoSaid : Prop := parsePiecesUptoRow.holds Tryd.pinned (OpenSpec.upto parsePiecesSpec)

/-- 'platenlaw09.ParseLits', WHERE WHAT IT READS IS OF BULK AT MOST 1048576: true; the input reads as it did. -/
def parseLitsUptoRow : OpenClaim := { program := "ytmfhoindfhmncaadoor", sum := "3a8bada8e11e33031731fceacb1161ac9d5a5820d40280b8c62a4e4ccc65593a", func := "platen/platenlaw09.ParseLits", spec := "parseLits", inPlace := ["internal/bytealg.IndexByteString"], unfollowed := true, recurses := true, named := ["unicode/utf8.first", "unicode/utf8.acceptRanges"], apart := false, laid := [("unicode/utf8.acceptRanges", laid_unicode_utf8_acceptRanges), ("unicode/utf8.first", laid_unicode_utf8_first)], narrowed := true }
def ParseLitsUptoSaid : Prop := parseLitsUptoRow.holds Tryd.pinned (OpenSpec.upto parseLitsSpec)

/-- 'platenlaw09.ParseJoins', WHERE WHAT IT READS IS OF BULK AT MOST 1048576: true; the input reads as it did. -/
def parseJoinsUptoRow : OpenClaim := { program := "ytmfhoindfhmncaadoor", sum := "3a8bada8e11e33031731fceacb1161ac9d5a5820d40280b8c62a4e4ccc65593a", func := "platen/platenlaw09.ParseJoins", spec := "parseJoins", inPlace := ["internal/bytealg.IndexByteString"], unfollowed := true, recurses := true, named := ["unicode/utf8.first", "unicode/utf8.acceptRanges"], apart := false, laid := [("unicode/utf8.acceptRanges", laid_unicode_utf8_acceptRanges), ("unicode/utf8.first", laid_unicode_utf8_first)], narrowed := true }
def ParseJoinsUptoSaid : Prop := parseJoinsUptoRow.holds Tryd.pinned (OpenSpec.upto parseJoinsSpec)

/-- 'platenlaw09.ParseFlags', WHERE WHAT IT READS IS OF BULK AT MOST 1048576: true; the input reads as it did. -/
def parseFlagsUptoRow : OpenClaim := { program := "ytmfhoindfhmncaadoor", sum := "3a8bada8e11e33031731fceacb1161ac9d5a5820d40280b8c62a4e4ccc65593a", func := "platen/platenlaw09.ParseFlags", spec := "parseFlags", inPlace := ["internal/bytealg.IndexByteString"], unfollowed := true, recurses := true, named := ["unicode/utf8.first", "unicode/utf8.acceptRanges"], apart := false, laid := [("unicode/utf8.acceptRanges", laid_unicode_utf8_acceptRanges), ("unicode/utf8.first", laid_unicode_utf8_first)], narrowed := true }
def ParseFlagsUptoSaid : Prop := parseFlagsUptoRow.holds Tryd.pinned (OpenSpec.upto parseFlagsSpec)

/-- 'platenlaw09.ParseIndexes', WHERE WHAT IT READS IS OF BULK AT MOST 1048576: true; the input reads as it did. -/
def parseIndexesUptoRow : OpenClaim := { program := "ytmfhoindfhmncaadoor", sum := "3a8bada8e11e33031731fceacb1161ac9d5a5820d40280b8c62a4e4ccc65593a", func := "platen/platenlaw09.ParseIndexes", spec := "parseIndexes", inPlace := ["internal/bytealg.IndexByteString"], unfollowed := true, recurses := true, named := ["unicode/utf8.first", "unicode/utf8.acceptRanges"], apart := false, laid := [("unicode/utf8.acceptRanges", laid_unicode_utf8_acceptRanges), ("unicode/utf8.first", laid_unicode_utf8_first)], narrowed := true }
def ParseIndexesUptoSaid : Prop := parseIndexesUptoRow.holds Tryd.pinned (OpenSpec.upto parseIndexesSpec)

/-- 'platenlaw09.ParseVerbs', WHERE WHAT IT READS IS OF BULK AT MOST 1048576: true; the input reads as it did. -/
def parseVerbsUptoRow : OpenClaim := { program := "ytmfhoindfhmncaadoor", sum := "3a8bada8e11e33031731fceacb1161ac9d5a5820d40280b8c62a4e4ccc65593a", func := "platen/platenlaw09.ParseVerbs", spec := "parseVerbs", inPlace := ["internal/bytealg.IndexByteString"], unfollowed := true, recurses := true, named := ["unicode/utf8.first", "unicode/utf8.acceptRanges"], apart := false, laid := [("unicode/utf8.acceptRanges", laid_unicode_utf8_acceptRanges), ("unicode/utf8.first", laid_unicode_utf8_first)], narrowed := true }
def ParseVerbsUptoSaid : Prop := parseVerbsUptoRow.holds Tryd.pinned (OpenSpec.upto parseVerbsSpec)

/-- 'platenlaw09.ParseWhole', WHERE WHAT IT READS IS OF BULK AT MOST 1048576: true; the input reads as it did. -/
def parseWholeUptoRow : OpenClaim := { program := "ytmfhoindfhmncaadoor", sum := "3a8bada8e11e33031731fceacb1161ac9d5a5820d40280b8c62a4e4ccc65593a", func := "platen/platenlaw09.ParseWhole", spec := "parseWhole", inPlace := ["internal/bytealg.IndexByteString", "internal/abi.NoEscape"], unfollowed := true, recurses := true, named := ["unicode/utf8.first", "unicode/utf8.acceptRanges"], apart := false, laid := [("unicode/utf8.acceptRanges", laid_unicode_utf8_acceptRanges), ("unicode/utf8.first", laid_unicode_utf8_first)], narrowed := true }
def ParseWholeUptoSaid : Prop := parseWholeUptoRow.holds Tryd.pinned (OpenSpec.upto parseWholeSpec)

end Rows
end Go.Proofs.YtmfhoindfhmncaaDoor
