/-
  NARROWER THAN 'FOR EVERY INPUT', by the rows' own cells (each row's printed sentence says how): BufRunes: laid · BufDecodes: laid · BufFills: laid · BufPads: laid · BufPadded: laid · BufBack: laid · BufCounts: laid · BufSums: laid · BufWhole: laid · BufHolds: laid.
  DERIVED. THE GIVEN ROWS OF THIS SEAT. 10 by the template 'for every input the law returns true; each argument reads behind the call as it read before'; 0 by the template 'total and deterministic' (their statements: YtohlodhkmkhhbaaDoorTotals.lean).
  GIVEN WITH THE SEED: the statements are not yours to turn. If you find one false, say at which input.
  Laid BY PROGRAM, IN A SANDBOX (cutbox-rows.mjs): the forced cells as the released guide's own fill.sh prints them over the translation 0f0435165d095add… (all of the seat's roots in one cut). By AI agents, Wed Nov 11 2026. No macro, syntax, notation, axiom, sorry.
-/
import Derived.Test.YtohlodhkmkhhbaaDoorChecked
import GoSem.PinnedTables
import GoSem.Claim
import GoSem.ClaimJoined
import GoSem.ClaimMapViews
import Derived.JoinedTies
import Derived.KernelRfl
namespace Go.Proofs.YtohlodhkmkhhbaaDoor
/- THE CELL 'sum', in the pinned program and in every row, IS THE sha256 OF THE DUMP (.gsa) THAT YtohlodhkmkhhbaaDoorProg.lean LOADS. Nothing in Lean hashes anything: it is a label: what it is worth is what the hold of that sum in a sandbox is worth. -/
noncomputable def Tryd.pinned : Pinned := { name := "ytohlodhkmkhhbaadoor", sum := "0f0435165d095add32213ecc6f4ba6679c88c7cfbef028687c19f812d12f1030", checked := Tryd.checked }
namespace Rows
def none {H : Type} : Left H := { results := [], args := [] }

/- WHAT THE LISTED PACKAGE-LEVEL VARIABLES READ AS WHEN THE CALL BEGINS. Each datum BY PROGRAM (the guide's laid-datum.mjs) off the statement by which the dump's own 'gosem.cut.vars' lays the variable. In a bare row this is a premise. The card (YtohlodhkmkhhbaaDoorCards.lean) ties it to the program's text. -/
def laid_unicode_utf8_acceptRanges {H : Type} : DataW H := .agg [.agg [.lit (.int .u8 128), .lit (.int .u8 191)], .agg [.lit (.int .u8 160), .lit (.int .u8 191)], .agg [.lit (.int .u8 128), .lit (.int .u8 159)], .agg [.lit (.int .u8 144), .lit (.int .u8 191)], .agg [.lit (.int .u8 128), .lit (.int .u8 143)], .agg [.lit (.int .u8 0), .lit (.int .u8 0)], .agg [.lit (.int .u8 0), .lit (.int .u8 0)], .agg [.lit (.int .u8 0), .lit (.int .u8 0)], .agg [.lit (.int .u8 0), .lit (.int .u8 0)], .agg [.lit (.int .u8 0), .lit (.int .u8 0)], .agg [.lit (.int .u8 0), .lit (.int .u8 0)], .agg [.lit (.int .u8 0), .lit (.int .u8 0)], .agg [.lit (.int .u8 0), .lit (.int .u8 0)], .agg [.lit (.int .u8 0), .lit (.int .u8 0)], .agg [.lit (.int .u8 0), .lit (.int .u8 0)], .agg [.lit (.int .u8 0), .lit (.int .u8 0)]]
/-- One of Go's own tables, pinned by name: the form's constant. -/
def laid_unicode_utf8_first : DataW Unit := Go.Pinned.utf8First

/-- 'platenlaw01.BufRunes': WHATEVER THE INPUT: true; the input reads as it did. -/
def bufRunesSpec : ChangeSpec := { name := "bufRunes", fn := fun _ => fun
  | [d] => { results := [.lit (.bool true)], args := [d] }
  | _ => none }
def bufRunesRow : OpenClaim := { program := "ytohlodhkmkhhbaadoor", sum := "0f0435165d095add32213ecc6f4ba6679c88c7cfbef028687c19f812d12f1030", func := "platen/platenlaw01.BufRunes", spec := "bufRunes", inPlace := ["internal/abi.NoEscape", "internal/bytealg.MakeNoZero"], named := ["unicode/utf8.first", "unicode/utf8.acceptRanges"], apart := false, laid := [("unicode/utf8.acceptRanges", laid_unicode_utf8_acceptRanges), ("unicode/utf8.first", laid_unicode_utf8_first)] }
def BufRunesSaid : Prop := bufRunesRow.holds Tryd.pinned (OpenSpec.ofChange bufRunesSpec)

/-- ITS FALSE NEIGHBOUR: 'it returns false'. Refute it at one input. -/
def bufRunesWrong : ChangeSpec := { name := "bufRunes", fn := fun _ => fun
  | [d] => { results := [.lit (.bool false)], args := [d] }
  | _ => none }
def BufRunesWrongFalsely : Prop := bufRunesRow.holds Tryd.pinned (OpenSpec.ofChange bufRunesWrong)

/-- 'platenlaw01.BufDecodes': WHATEVER THE INPUT: true; the input reads as it did. -/
def bufDecodesSpec : ChangeSpec := { name := "bufDecodes", fn := fun _ => fun
  | [d] => { results := [.lit (.bool true)], args := [d] }
  | _ => none }
def bufDecodesRow : OpenClaim := { program := "ytohlodhkmkhhbaadoor", sum := "0f0435165d095add32213ecc6f4ba6679c88c7cfbef028687c19f812d12f1030", func := "platen/platenlaw01.BufDecodes", spec := "bufDecodes", inPlace := ["internal/abi.NoEscape", "internal/bytealg.MakeNoZero"], named := ["unicode/utf8.first", "unicode/utf8.acceptRanges"], apart := false, laid := [("unicode/utf8.acceptRanges", laid_unicode_utf8_acceptRanges), ("unicode/utf8.first", laid_unicode_utf8_first)] }
def BufDecodesSaid : Prop := bufDecodesRow.holds Tryd.pinned (OpenSpec.ofChange bufDecodesSpec)

/-- ITS FALSE NEIGHBOUR: 'it returns false'. Refute it at one input. -/
def bufDecodesWrong : ChangeSpec := { name := "bufDecodes", fn := fun _ => fun
  | [d] => { results := [.lit (.bool false)], args := [d] }
  | _ => none }
def BufDecodesWrongFalsely : Prop := bufDecodesRow.holds Tryd.pinned (OpenSpec.ofChange bufDecodesWrong)

/-- 'platenlaw01.BufFills': WHATEVER THE INPUT: true; the input reads as it did. -/
def bufFillsSpec : ChangeSpec := { name := "bufFills", fn := fun _ => fun
  | [d1, d2] => { results := [.lit (.bool true)], args := [d1, d2] }
  | _ => none }
def bufFillsRow : OpenClaim := { program := "ytohlodhkmkhhbaadoor", sum := "0f0435165d095add32213ecc6f4ba6679c88c7cfbef028687c19f812d12f1030", func := "platen/platenlaw01.BufFills", spec := "bufFills", inPlace := ["internal/abi.NoEscape", "internal/bytealg.MakeNoZero"], named := ["unicode/utf8.first", "unicode/utf8.acceptRanges"], apart := false, laid := [("unicode/utf8.acceptRanges", laid_unicode_utf8_acceptRanges), ("unicode/utf8.first", laid_unicode_utf8_first)] }
def BufFillsSaid : Prop := bufFillsRow.holds Tryd.pinned (OpenSpec.ofChange bufFillsSpec)

/-- ITS FALSE NEIGHBOUR: 'it returns false'. Refute it at one input. -/
def bufFillsWrong : ChangeSpec := { name := "bufFills", fn := fun _ => fun
  | [d1, d2] => { results := [.lit (.bool false)], args := [d1, d2] }
  | _ => none }
def BufFillsWrongFalsely : Prop := bufFillsRow.holds Tryd.pinned (OpenSpec.ofChange bufFillsWrong)

/-- 'platenlaw01.BufPads': WHATEVER THE INPUT: true; the input reads as it did. -/
def bufPadsSpec : ChangeSpec := { name := "bufPads", fn := fun _ => fun
  | [d1, d2] => { results := [.lit (.bool true)], args := [d1, d2] }
  | _ => none }
def bufPadsRow : OpenClaim := { program := "ytohlodhkmkhhbaadoor", sum := "0f0435165d095add32213ecc6f4ba6679c88c7cfbef028687c19f812d12f1030", func := "platen/platenlaw01.BufPads", spec := "bufPads", inPlace := ["internal/abi.NoEscape", "internal/bytealg.MakeNoZero"], named := ["unicode/utf8.first", "unicode/utf8.acceptRanges"], apart := false, laid := [("unicode/utf8.acceptRanges", laid_unicode_utf8_acceptRanges), ("unicode/utf8.first", laid_unicode_utf8_first)] }
def BufPadsSaid : Prop := bufPadsRow.holds Tryd.pinned (OpenSpec.ofChange bufPadsSpec)

/-- ITS FALSE NEIGHBOUR: 'it returns false'. Refute it at one input. -/
def bufPadsWrong : ChangeSpec := { name := "bufPads", fn := fun _ => fun
  | [d1, d2] => { results := [.lit (.bool false)], args := [d1, d2] }
  | _ => none }
def BufPadsWrongFalsely : Prop := bufPadsRow.holds Tryd.pinned (OpenSpec.ofChange bufPadsWrong)

/-- 'platenlaw01.BufPadded': WHATEVER THE INPUT: true; the input reads as it did. -/
def bufPaddedSpec : ChangeSpec := { name := "bufPadded", fn := fun _ => fun
  | [d1, d2] => { results := [.lit (.bool true)], args := [d1, d2] }
  | _ => none }
def bufPaddedRow : OpenClaim := { program := "ytohlodhkmkhhbaadoor", sum := "0f0435165d095add32213ecc6f4ba6679c88c7cfbef028687c19f812d12f1030", func := "platen/platenlaw01.BufPadded", spec := "bufPadded", inPlace := ["internal/abi.NoEscape", "internal/bytealg.MakeNoZero"], named := ["unicode/utf8.first", "unicode/utf8.acceptRanges"], apart := false, laid := [("unicode/utf8.acceptRanges", laid_unicode_utf8_acceptRanges), ("unicode/utf8.first", laid_unicode_utf8_first)] }
def BufPaddedSaid : Prop := bufPaddedRow.holds Tryd.pinned (OpenSpec.ofChange bufPaddedSpec)

/-- ITS FALSE NEIGHBOUR: 'it returns false'. Refute it at one input. -/
def bufPaddedWrong : ChangeSpec := { name := "bufPadded", fn := fun _ => fun
  | [d1, d2] => { results := [.lit (.bool false)], args := [d1, d2] }
  | _ => none }
def BufPaddedWrongFalsely : Prop := bufPaddedRow.holds Tryd.pinned (OpenSpec.ofChange bufPaddedWrong)

/-- 'platenlaw01.BufBack': WHATEVER THE INPUT: true; the input reads as it did. -/
def bufBackSpec : ChangeSpec := { name := "bufBack", fn := fun _ => fun
  | [d1, d2] => { results := [.lit (.bool true)], args := [d1, d2] }
  | _ => none }
def bufBackRow : OpenClaim := { program := "ytohlodhkmkhhbaadoor", sum := "0f0435165d095add32213ecc6f4ba6679c88c7cfbef028687c19f812d12f1030", func := "platen/platenlaw01.BufBack", spec := "bufBack", inPlace := ["internal/abi.NoEscape", "internal/bytealg.MakeNoZero"], named := ["unicode/utf8.first", "unicode/utf8.acceptRanges"], apart := false, laid := [("unicode/utf8.acceptRanges", laid_unicode_utf8_acceptRanges), ("unicode/utf8.first", laid_unicode_utf8_first)] }
def BufBackSaid : Prop := bufBackRow.holds Tryd.pinned (OpenSpec.ofChange bufBackSpec)

/-- ITS FALSE NEIGHBOUR: 'it returns false'. Refute it at one input. -/
def bufBackWrong : ChangeSpec := { name := "bufBack", fn := fun _ => fun
  | [d1, d2] => { results := [.lit (.bool false)], args := [d1, d2] }
  | _ => none }
def BufBackWrongFalsely : Prop := bufBackRow.holds Tryd.pinned (OpenSpec.ofChange bufBackWrong)

/-- 'platenlaw01.BufCounts': WHATEVER THE INPUT: true; the input reads as it did. -/
def bufCountsSpec : ChangeSpec := { name := "bufCounts", fn := fun _ => fun
  | [d1, d2] => { results := [.lit (.bool true)], args := [d1, d2] }
  | _ => none }
def bufCountsRow : OpenClaim := { program := "ytohlodhkmkhhbaadoor", sum := "0f0435165d095add32213ecc6f4ba6679c88c7cfbef028687c19f812d12f1030", func := "platen/platenlaw01.BufCounts", spec := "bufCounts", inPlace := ["internal/abi.NoEscape", "internal/bytealg.MakeNoZero"], named := ["unicode/utf8.first", "unicode/utf8.acceptRanges"], apart := false, laid := [("unicode/utf8.acceptRanges", laid_unicode_utf8_acceptRanges), ("unicode/utf8.first", laid_unicode_utf8_first)] }
def BufCountsSaid : Prop := bufCountsRow.holds Tryd.pinned (OpenSpec.ofChange bufCountsSpec)

/-- ITS FALSE NEIGHBOUR: 'it returns false'. Refute it at one input. -/
def bufCountsWrong : ChangeSpec := { name := "bufCounts", fn := fun _ => fun
  | [d1, d2] => { results := [.lit (.bool false)], args := [d1, d2] }
  | _ => none }
def BufCountsWrongFalsely : Prop := bufCountsRow.holds Tryd.pinned (OpenSpec.ofChange bufCountsWrong)

/-- 'platenlaw01.BufSums': WHATEVER THE INPUT: true; the input reads as it did. -/
def bufSumsSpec : ChangeSpec := { name := "bufSums", fn := fun _ => fun
  | [d1, d2] => { results := [.lit (.bool true)], args := [d1, d2] }
  | _ => none }
def bufSumsRow : OpenClaim := { program := "ytohlodhkmkhhbaadoor", sum := "0f0435165d095add32213ecc6f4ba6679c88c7cfbef028687c19f812d12f1030", func := "platen/platenlaw01.BufSums", spec := "bufSums", inPlace := ["internal/abi.NoEscape", "internal/bytealg.MakeNoZero"], named := ["unicode/utf8.first", "unicode/utf8.acceptRanges"], apart := false, laid := [("unicode/utf8.acceptRanges", laid_unicode_utf8_acceptRanges), ("unicode/utf8.first", laid_unicode_utf8_first)] }
def BufSumsSaid : Prop := bufSumsRow.holds Tryd.pinned (OpenSpec.ofChange bufSumsSpec)

/-- ITS FALSE NEIGHBOUR: 'it returns false'. Refute it at one input. -/
def bufSumsWrong : ChangeSpec := { name := "bufSums", fn := fun _ => fun
  | [d1, d2] => { results := [.lit (.bool false)], args := [d1, d2] }
  | _ => none }
def BufSumsWrongFalsely : Prop := bufSumsRow.holds Tryd.pinned (OpenSpec.ofChange bufSumsWrong)

/-- 'platenlaw01.BufWhole': WHATEVER THE INPUT: true; the input reads as it did. -/
def bufWholeSpec : ChangeSpec := { name := "bufWhole", fn := fun _ => fun
  | [d1, d2, d3] => { results := [.lit (.bool true)], args := [d1, d2, d3] }
  | _ => none }
def bufWholeRow : OpenClaim := { program := "ytohlodhkmkhhbaadoor", sum := "0f0435165d095add32213ecc6f4ba6679c88c7cfbef028687c19f812d12f1030", func := "platen/platenlaw01.BufWhole", spec := "bufWhole", inPlace := ["internal/abi.NoEscape", "internal/bytealg.MakeNoZero"], named := ["unicode/utf8.first", "unicode/utf8.acceptRanges"], apart := false, laid := [("unicode/utf8.acceptRanges", laid_unicode_utf8_acceptRanges), ("unicode/utf8.first", laid_unicode_utf8_first)] }
def BufWholeSaid : Prop := bufWholeRow.holds Tryd.pinned (OpenSpec.ofChange bufWholeSpec)

/-- ITS FALSE NEIGHBOUR: 'it returns false'. Refute it at one input. -/
def bufWholeWrong : ChangeSpec := { name := "bufWhole", fn := fun _ => fun
  | [d1, d2, d3] => { results := [.lit (.bool false)], args := [d1, d2, d3] }
  | _ => none }
def BufWholeWrongFalsely : Prop := bufWholeRow.holds Tryd.pinned (OpenSpec.ofChange bufWholeWrong)

/-- 'platenlaw01.BufHolds': WHATEVER THE INPUT: true; the input reads as it did. -/
def bufHoldsSpec : ChangeSpec := { name := "bufHolds", fn := fun _ => fun
  | [d] => { results := [.lit (.bool true)], args := [d] }
  | _ => none }
def bufHoldsRow : OpenClaim := { program := "ytohlodhkmkhhbaadoor", sum := "0f0435165d095add32213ecc6f4ba6679c88c7cfbef028687c19f812d12f1030", func := "platen/platenlaw01.BufHolds", spec := "bufHolds", inPlace := ["internal/abi.NoEscape", "internal/bytealg.MakeNoZero"], named := ["unicode/utf8.first", "unicode/utf8.acceptRanges"], apart := false, laid := [("unicode/utf8.acceptRanges", laid_unicode_utf8_acceptRanges), ("unicode/utf8.first", laid_unicode_utf8_first)] }
def BufHoldsSaid : Prop := bufHoldsRow.holds Tryd.pinned (OpenSpec.ofChange bufHoldsSpec)

/-- ITS FALSE NEIGHBOUR: 'it returns false'. Refute it at one input. -/
def bufHoldsWrong : ChangeSpec := { name := "bufHolds", fn := fun _ => fun
  | [d] => { results := [.lit (.bool false)], args := [d] }
  | _ => none }
def BufHoldsWrongFalsely : Prop := bufHoldsRow.holds Tryd.pinned (OpenSpec.ofChange bufHoldsWrong)

/- THE SECOND FORM. 'bulk': how many values and letters a reading holds, each counted each time it is reached (what is shared counts as often as it is met; a slice's spare places count too). A statement '..UptoSaid' is the law's where the arguments, and the package variables that the reading takes, are together of bulk at most 1048576: NARROWER than '..Said'. Prove '..Said' where nothing that the law and all that it calls make is longer than what came in: it says more and counts as full. Else prove '..UptoSaid'. A law counts once. -/
mutual
def uptoBulk {H : Type} : DataW H → Nat
  | .lit (.string bytes) => bytes.length + 1
  | .lit _ => 1
  | .nil => 1
  | .ptr d => uptoBulk d + 1
  | .slice elems spare => uptoBulkAll elems + uptoBulkAll spare + 1
  | .agg parts => uptoBulkAll parts + 1
  | .iface _ d => uptoBulk d + 1
  | .map entries => uptoBulkEntries entries + 1
  | .held _ => 1
def uptoBulkAll {H : Type} : List (DataW H) → Nat
  | [] => 0
  | d :: r => uptoBulk d + uptoBulkAll r
def uptoBulkEntries {H : Type} : List (Lit × DataW H) → Nat
  | [] => 0
  | x :: r => uptoBulkEntry x + uptoBulkEntries r
def uptoBulkEntry {H : Type} : Lit × DataW H → Nat
  | (.string bytes, d) => bytes.length + uptoBulk d + 1
  | (_, d) => uptoBulk d + 1
 end
def uptoSmall : (H : Type) → List (DataW H) → Bool := fun _ ds => decide (uptoBulkAll ds ≤ 1048576)
def OpenSpec.upto (s : _root_.Go.ChangeSpec) : _root_.Go.OpenSpec := { _root_.Go.OpenSpec.ofChange s with cond := some uptoSmall }

/-- 'platenlaw01.BufRunes', WHERE WHAT IT READS IS OF BULK AT MOST 1048576: true; the input reads as it did. -/
def bufRunesUptoRow : OpenClaim := { program := "ytohlodhkmkhhbaadoor", sum := "0f0435165d095add32213ecc6f4ba6679c88c7cfbef028687c19f812d12f1030", func := "platen/platenlaw01.BufRunes", spec := "bufRunes", inPlace := ["internal/abi.NoEscape", "internal/bytealg.MakeNoZero"], named := ["unicode/utf8.first", "unicode/utf8.acceptRanges"], apart := false, laid := [("unicode/utf8.acceptRanges", laid_unicode_utf8_acceptRanges), ("unicode/utf8.first", laid_unicode_utf8_first)], narrowed := true }
def BufRunesUptoSaid : Prop := bufRunesUptoRow.holds Tryd.pinned (OpenSpec.upto bufRunesSpec)

/-- 'platenlaw01.BufDecodes', WHERE WHAT IT READS IS OF BULK AT MOST 1048576: true; the input reads as it did. -/
def bufDecodesUptoRow : OpenClaim := { program := "ytohlodhkmkhhbaadoor", sum := "0f0435165d095add32213ecc6f4ba6679c88c7cfbef028687c19f812d12f1030", func := "platen/platenlaw01.BufDecodes", spec := "bufDecodes", inPlace := ["internal/abi.NoEscape", "internal/bytealg.MakeNoZero"], named := ["unicode/utf8.first", "unicode/utf8.acceptRanges"], apart := false, laid := [("unicode/utf8.acceptRanges", laid_unicode_utf8_acceptRanges), ("unicode/utf8.first", laid_unicode_utf8_first)], narrowed := true }
def BufDecodesUptoSaid : Prop := bufDecodesUptoRow.holds Tryd.pinned (OpenSpec.upto bufDecodesSpec)

/-- 'platenlaw01.BufFills', WHERE WHAT IT READS IS OF BULK AT MOST 1048576: true; the input reads as it did. -/
def bufFillsUptoRow : OpenClaim := { program := "ytohlodhkmkhhbaadoor", sum := "0f0435165d095add32213ecc6f4ba6679c88c7cfbef028687c19f812d12f1030", func := "platen/platenlaw01.BufFills", spec := "bufFills", inPlace := ["internal/abi.NoEscape", "internal/bytealg.MakeNoZero"], named := ["unicode/utf8.first", "unicode/utf8.acceptRanges"], apart := false, laid := [("unicode/utf8.acceptRanges", laid_unicode_utf8_acceptRanges), ("unicode/utf8.first", laid_unicode_utf8_first)], narrowed := true }
def BufFillsUptoSaid : Prop := bufFillsUptoRow.holds Tryd.pinned (OpenSpec.upto bufFillsSpec)

/-- 'platenlaw01.BufPads', WHERE WHAT IT READS IS OF BULK AT MOST 1048576: true; the input reads as it did. -/
def bufPadsUptoRow : OpenClaim := { program := "ytohlodhkmkhhbaadoor", sum := "0f0435165d095add32213ecc6f4ba6679c88c7cfbef028687c19f812d12f1030", func := "platen/platenlaw01.BufPads", spec := "bufPads", inPlace := ["internal/abi.NoEscape", "internal/bytealg.MakeNoZero"], named := ["unicode/utf8.first", "unicode/utf8.acceptRanges"], apart := false, laid := [("unicode/utf8.acceptRanges", laid_unicode_utf8_acceptRanges), ("unicode/utf8.first", laid_unicode_utf8_first)], narrowed := true }
def BufPadsUptoSaid : Prop := bufPadsUptoRow.holds Tryd.pinned (OpenSpec.upto bufPadsSpec)

/-- 'platenlaw01.BufPadded', WHERE WHAT IT READS IS OF BULK AT MOST 1048576: true; the input reads as it did. -/
def bufPaddedUptoRow : OpenClaim := { program := "ytohlodhkmkhhbaadoor", sum := "0f0435165d095add32213ecc6f4ba6679c88c7cfbef028687c19f812d12f1030", func := "platen/platenlaw01.BufPadded", spec := "bufPadded", inPlace := ["internal/abi.NoEscape", "internal/bytealg.MakeNoZero"], named := ["unicode/utf8.first", "unicode/utf8.acceptRanges"], apart := false, laid := [("unicode/utf8.acceptRanges", laid_unicode_utf8_acceptRanges), ("unicode/utf8.first", laid_unicode_utf8_first)], narrowed := true }
def BufPaddedUptoSaid : Prop := bufPaddedUptoRow.holds Tryd.pinned (OpenSpec.upto bufPaddedSpec)

/-- 'platenlaw01.BufBack', WHERE WHAT IT READS IS OF BULK AT MOST 1048576: true; the input reads as it did. -/
def bufBackUptoRow : OpenClaim := { program := "ytohlodhkmkhhbaadoor", sum := "0f0435165d095add32213ecc6f4ba6679c88c7cfbef028687c19f812d12f1030", func := "platen/platenlaw01.BufBack", spec := "bufBack", inPlace := ["internal/abi.NoEscape", "internal/bytealg.MakeNoZero"], named := ["unicode/utf8.first", "unicode/utf8.acceptRanges"], apart := false, laid := [("unicode/utf8.acceptRanges", laid_unicode_utf8_acceptRanges), ("unicode/utf8.first", laid_unicode_utf8_first)], narrowed := true }
def BufBackUptoSaid : Prop := bufBackUptoRow.holds Tryd.pinned (OpenSpec.upto bufBackSpec)

/-- 'platenlaw01.BufCounts', WHERE WHAT IT READS IS OF BULK AT MOST 1048576: true; the input reads as it did. -/
def bufCountsUptoRow : OpenClaim := { program := "ytohlodhkmkhhbaadoor", sum := "0f0435165d095add32213ecc6f4ba6679c88c7cfbef028687c19f812d12f1030", func := "platen/platenlaw01.BufCounts", spec := "bufCounts", inPlace := ["internal/abi.NoEscape", "internal/bytealg.MakeNoZero"], named := ["unicode/utf8.first", "unicode/utf8.acceptRanges"], apart := false, laid := [("unicode/utf8.acceptRanges", laid_unicode_utf8_acceptRanges), ("unicode/utf8.first", laid_unicode_utf8_first)], narrowed := true }
def BufCountsUptoSaid : Prop := bufCountsUptoRow.holds Tryd.pinned (OpenSpec.upto bufCountsSpec)

/-- 'platenlaw01.BufSums', WHERE WHAT IT READS IS OF BULK AT MOST 1048576: true; the input reads as it did. -/
def bufSumsUptoRow : OpenClaim := { program := "ytohlodhkmkhhbaadoor", sum := "0f0435165d095add32213ecc6f4ba6679c88c7cfbef028687c19f812d12f1030", func := "platen/platenlaw01.BufSums", spec := "bufSums", inPlace := ["internal/abi.NoEscape", "internal/bytealg.MakeNoZero"], named := ["unicode/utf8.first", "unicode/utf8.acceptRanges"], apart := false, laid := [("unicode/utf8.acceptRanges", laid_unicode_utf8_acceptRanges), ("unicode/utf8.first", laid_unicode_utf8_first)], narrowed := true }
def BufSumsUptoSaid : Prop := bufSumsUptoRow.holds Tryd.pinned (OpenSpec.upto bufSumsSpec)

/-- 'platenlaw01.BufWhole', WHERE WHAT IT READS IS OF BULK AT MOST 1048576: true; the input reads as it did. -/
def bufWholeUptoRow : OpenClaim := { program := "ytohlodhkmkhhbaadoor", sum := "0f0435165d095add32213ecc6f4ba6679c88c7cfbef028687c19f812d12f1030", func := "platen/platenlaw01.BufWhole", spec := "bufWhole", inPlace := ["internal/abi.NoEscape", "internal/bytealg.MakeNoZero"], named := ["unicode/utf8.first", "unicode/utf8.acceptRanges"], apart := false, laid := [("unicode/utf8.acceptRanges", laid_unicode_utf8_acceptRanges), ("unicode/utf8.first", laid_unicode_utf8_first)], narrowed := true }
def BufWholeUptoSaid : Prop := bufWholeUptoRow.holds Tryd.pinned (OpenSpec.upto bufWholeSpec)

/-- 'platenlaw01.BufHolds', WHERE WHAT IT READS IS OF BULK AT MOST 1048576: true; the input reads as it did. -/
def bufHoldsUptoRow : OpenClaim := { program := "ytohlodhkmkhhbaadoor", sum := "0f0435165d095add32213ecc6f4ba6679c88c7cfbef028687c19f812d12f1030", func := "platen/platenlaw01.BufHolds", spec := "bufHolds", inPlace := ["internal/abi.NoEscape", "internal/bytealg.MakeNoZero"], named := ["unicode/utf8.first", "unicode/utf8.acceptRanges"], apart := false, laid := [("unicode/utf8.acceptRanges", laid_unicode_utf8_acceptRanges), ("unicode/utf8.first", laid_unicode_utf8_first)], narrowed := true }
def BufHoldsUptoSaid : Prop := bufHoldsUptoRow.holds Tryd.pinned (OpenSpec.upto bufHoldsSpec)

end Rows
end Go.Proofs.YtohlodhkmkhhbaaDoor
