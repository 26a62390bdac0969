/-
  NARROWER THAN 'FOR EVERY INPUT', by the rows' own cells (each row's printed sentence says how): HooksWhich: loops, laid · HooksDoes: loops, laid · HooksFirst: loops, laid · HooksOthers: loops, laid · HooksThrows: laid · HooksLacks: laid · HooksNames: loops, laid.
  DERIVED. THE GIVEN ROWS OF THIS SEAT. 7 by the template 'for every input the law returns true; each argument reads behind the call as it read before'; 0 by the template 'total and deterministic' (their statements: YtaniahkagmjkoaaDoorTotals.lean).
  GIVEN WITH THE SEED: the statements are not yours to turn. If you find one false, say at which input.
  Laid BY PROGRAM, IN A SANDBOX (cutbox-rows.mjs): the forced cells as the released guide's own fill.sh prints them over the translation e59300e2cd487dae… (all of the seat's roots in one cut). By AI agents, Wed Nov 11 2026. No macro, syntax, notation, axiom, sorry.
-/
import Derived.Test.YtaniahkagmjkoaaDoorChecked
import GoSem.PinnedTables
import GoSem.Claim
import GoSem.ClaimJoined
import GoSem.ClaimMapViews
import Derived.JoinedTies
import Derived.KernelRfl
namespace Go.Proofs.YtaniahkagmjkoaaDoor
/- THE CELL 'sum', in the pinned program and in every row, IS THE sha256 OF THE DUMP (.gsa) THAT YtaniahkagmjkoaaDoorProg.lean LOADS. Nothing in Lean hashes anything: it is a label: what it is worth is what the hold of that sum in a sandbox is worth. -/
noncomputable def Tryd.pinned : Pinned := { name := "ytaniahkagmjkoaadoor", sum := "e59300e2cd487daeca98ef4a7ec448a542a595bb24ae4a767345b2ef3db22eb3", checked := Tryd.checked }
namespace Rows
def none {H : Type} : Left H := { results := [], args := [] }

/- WHAT THE LISTED PACKAGE-LEVEL VARIABLES READ AS WHEN THE CALL BEGINS. Each datum BY PROGRAM (the guide's laid-datum.mjs) off the statement by which the dump's own 'gosem.cut.vars' lays the variable. In a bare row this is a premise. The card (YtaniahkagmjkoaaDoorCards.lean) ties it to the program's text. -/
def laid_unicode_utf8_acceptRanges {H : Type} : DataW H := .agg [.agg [.lit (.int .u8 128), .lit (.int .u8 191)], .agg [.lit (.int .u8 160), .lit (.int .u8 191)], .agg [.lit (.int .u8 128), .lit (.int .u8 159)], .agg [.lit (.int .u8 144), .lit (.int .u8 191)], .agg [.lit (.int .u8 128), .lit (.int .u8 143)], .agg [.lit (.int .u8 0), .lit (.int .u8 0)], .agg [.lit (.int .u8 0), .lit (.int .u8 0)], .agg [.lit (.int .u8 0), .lit (.int .u8 0)], .agg [.lit (.int .u8 0), .lit (.int .u8 0)], .agg [.lit (.int .u8 0), .lit (.int .u8 0)], .agg [.lit (.int .u8 0), .lit (.int .u8 0)], .agg [.lit (.int .u8 0), .lit (.int .u8 0)], .agg [.lit (.int .u8 0), .lit (.int .u8 0)], .agg [.lit (.int .u8 0), .lit (.int .u8 0)], .agg [.lit (.int .u8 0), .lit (.int .u8 0)], .agg [.lit (.int .u8 0), .lit (.int .u8 0)]]
/-- One of Go's own tables, pinned by name: the form's constant. -/
def laid_unicode_utf8_first : DataW Unit := Go.Pinned.utf8First

/-- 'platenlaw11.HooksWhich': WHATEVER THE INPUT: true; the input reads as it did. -/
def hooksWhichSpec : ChangeSpec := { name := "hooksWhich", fn := fun _ => fun
  | [d1, d2, d3] => { results := [.lit (.bool true)], args := [d1, d2, d3] }
  | _ => none }
def hooksWhichRow : OpenClaim := { program := "ytaniahkagmjkoaadoor", sum := "e59300e2cd487daeca98ef4a7ec448a542a595bb24ae4a767345b2ef3db22eb3", func := "platen/platenlaw11.HooksWhich", spec := "hooksWhich", inPlace := ["internal/bytealg.IndexByteString", "internal/bytealg.IndexString", "internal/abi.NoEscape", "internal/bytealg.MakeNoZero"], unfollowed := true, recurses := true, named := ["unicode/utf8.first", "unicode/utf8.acceptRanges", "internal/bytealg.MaxLen"], loops := true, apart := false, laid := [("unicode/utf8.acceptRanges", laid_unicode_utf8_acceptRanges), ("unicode/utf8.first", laid_unicode_utf8_first)] }
def HooksWhichSaid : Prop := hooksWhichRow.holds Tryd.pinned (OpenSpec.ofChange hooksWhichSpec)

/-- ITS FALSE NEIGHBOUR: 'it returns false'. Refute it at one input. -/
def hooksWhichWrong : ChangeSpec := { name := "hooksWhich", fn := fun _ => fun
  | [d1, d2, d3] => { results := [.lit (.bool false)], args := [d1, d2, d3] }
  | _ => none }
def HooksWhichWrongFalsely : Prop := hooksWhichRow.holds Tryd.pinned (OpenSpec.ofChange hooksWhichWrong)

/-- 'platenlaw11.HooksDoes': WHATEVER THE INPUT: true; the input reads as it did. -/
def hooksDoesSpec : ChangeSpec := { name := "hooksDoes", fn := fun _ => fun
  | [d1, d2, d3] => { results := [.lit (.bool true)], args := [d1, d2, d3] }
  | _ => none }
def hooksDoesRow : OpenClaim := { program := "ytaniahkagmjkoaadoor", sum := "e59300e2cd487daeca98ef4a7ec448a542a595bb24ae4a767345b2ef3db22eb3", func := "platen/platenlaw11.HooksDoes", spec := "hooksDoes", inPlace := ["internal/bytealg.IndexByteString", "internal/bytealg.IndexString", "internal/abi.NoEscape", "internal/bytealg.MakeNoZero"], unfollowed := true, recurses := true, named := ["unicode/utf8.first", "unicode/utf8.acceptRanges", "internal/bytealg.MaxLen"], loops := true, apart := false, laid := [("unicode/utf8.acceptRanges", laid_unicode_utf8_acceptRanges), ("unicode/utf8.first", laid_unicode_utf8_first)] }
def HooksDoesSaid : Prop := hooksDoesRow.holds Tryd.pinned (OpenSpec.ofChange hooksDoesSpec)

/-- ITS FALSE NEIGHBOUR: 'it returns false'. Refute it at one input. -/
def hooksDoesWrong : ChangeSpec := { name := "hooksDoes", fn := fun _ => fun
  | [d1, d2, d3] => { results := [.lit (.bool false)], args := [d1, d2, d3] }
  | _ => none }
def HooksDoesWrongFalsely : Prop := hooksDoesRow.holds Tryd.pinned (OpenSpec.ofChange hooksDoesWrong)

/-- 'platenlaw11.HooksFirst': WHATEVER THE INPUT: true; the input reads as it did. -/
def hooksFirstSpec : ChangeSpec := { name := "hooksFirst", fn := fun _ => fun
  | [d1, d2, d3] => { results := [.lit (.bool true)], args := [d1, d2, d3] }
  | _ => none }
def hooksFirstRow : OpenClaim := { program := "ytaniahkagmjkoaadoor", sum := "e59300e2cd487daeca98ef4a7ec448a542a595bb24ae4a767345b2ef3db22eb3", func := "platen/platenlaw11.HooksFirst", spec := "hooksFirst", inPlace := ["internal/bytealg.IndexByteString", "internal/bytealg.IndexString", "internal/abi.NoEscape", "internal/bytealg.MakeNoZero"], unfollowed := true, recurses := true, named := ["unicode/utf8.first", "unicode/utf8.acceptRanges", "internal/bytealg.MaxLen"], loops := true, apart := false, laid := [("unicode/utf8.acceptRanges", laid_unicode_utf8_acceptRanges), ("unicode/utf8.first", laid_unicode_utf8_first)] }
def HooksFirstSaid : Prop := hooksFirstRow.holds Tryd.pinned (OpenSpec.ofChange hooksFirstSpec)

/-- ITS FALSE NEIGHBOUR: 'it returns false'. Refute it at one input. -/
def hooksFirstWrong : ChangeSpec := { name := "hooksFirst", fn := fun _ => fun
  | [d1, d2, d3] => { results := [.lit (.bool false)], args := [d1, d2, d3] }
  | _ => none }
def HooksFirstWrongFalsely : Prop := hooksFirstRow.holds Tryd.pinned (OpenSpec.ofChange hooksFirstWrong)

/-- 'platenlaw11.HooksOthers': WHATEVER THE INPUT: true; the input reads as it did. -/
def hooksOthersSpec : ChangeSpec := { name := "hooksOthers", fn := fun _ => fun
  | [d1, d2] => { results := [.lit (.bool true)], args := [d1, d2] }
  | _ => none }
def hooksOthersRow : OpenClaim := { program := "ytaniahkagmjkoaadoor", sum := "e59300e2cd487daeca98ef4a7ec448a542a595bb24ae4a767345b2ef3db22eb3", func := "platen/platenlaw11.HooksOthers", spec := "hooksOthers", inPlace := ["internal/bytealg.IndexByteString", "internal/bytealg.IndexString", "internal/abi.NoEscape", "internal/bytealg.MakeNoZero"], unfollowed := true, recurses := true, named := ["unicode/utf8.first", "unicode/utf8.acceptRanges", "internal/bytealg.MaxLen"], loops := true, apart := false, laid := [("unicode/utf8.acceptRanges", laid_unicode_utf8_acceptRanges), ("unicode/utf8.first", laid_unicode_utf8_first)] }
def HooksOthersSaid : Prop := hooksOthersRow.holds Tryd.pinned (OpenSpec.ofChange hooksOthersSpec)

/-- ITS FALSE NEIGHBOUR: 'it returns false'. Refute it at one input. -/
def hooksOthersWrong : ChangeSpec := { name := "hooksOthers", fn := fun _ => fun
  | [d1, d2] => { results := [.lit (.bool false)], args := [d1, d2] }
  | _ => none }
def HooksOthersWrongFalsely : Prop := hooksOthersRow.holds Tryd.pinned (OpenSpec.ofChange hooksOthersWrong)

/-- 'platenlaw11.HooksThrows': WHATEVER THE INPUT: true; the input reads as it did. -/
def hooksThrowsSpec : ChangeSpec := { name := "hooksThrows", fn := fun _ => fun
  | [d1, d2, d3] => { results := [.lit (.bool true)], args := [d1, d2, d3] }
  | _ => none }
def hooksThrowsRow : OpenClaim := { program := "ytaniahkagmjkoaadoor", sum := "e59300e2cd487daeca98ef4a7ec448a542a595bb24ae4a767345b2ef3db22eb3", func := "platen/platenlaw11.HooksThrows", spec := "hooksThrows", inPlace := ["internal/bytealg.IndexByteString", "internal/bytealg.IndexString", "internal/abi.NoEscape", "internal/bytealg.MakeNoZero"], unfollowed := true, recurses := true, named := ["unicode/utf8.first", "unicode/utf8.acceptRanges", "internal/bytealg.MaxLen"], apart := false, laid := [("unicode/utf8.acceptRanges", laid_unicode_utf8_acceptRanges), ("unicode/utf8.first", laid_unicode_utf8_first)] }
def HooksThrowsSaid : Prop := hooksThrowsRow.holds Tryd.pinned (OpenSpec.ofChange hooksThrowsSpec)

/-- ITS FALSE NEIGHBOUR: 'it returns false'. Refute it at one input. -/
def hooksThrowsWrong : ChangeSpec := { name := "hooksThrows", fn := fun _ => fun
  | [d1, d2, d3] => { results := [.lit (.bool false)], args := [d1, d2, d3] }
  | _ => none }
def HooksThrowsWrongFalsely : Prop := hooksThrowsRow.holds Tryd.pinned (OpenSpec.ofChange hooksThrowsWrong)

/-- 'platenlaw11.HooksLacks': WHATEVER THE INPUT: true; the input reads as it did. -/
def hooksLacksSpec : ChangeSpec := { name := "hooksLacks", fn := fun _ => fun
  | [d1, d2, d3] => { results := [.lit (.bool true)], args := [d1, d2, d3] }
  | _ => none }
def hooksLacksRow : OpenClaim := { program := "ytaniahkagmjkoaadoor", sum := "e59300e2cd487daeca98ef4a7ec448a542a595bb24ae4a767345b2ef3db22eb3", func := "platen/platenlaw11.HooksLacks", spec := "hooksLacks", inPlace := ["internal/bytealg.IndexByteString", "internal/bytealg.IndexString", "internal/abi.NoEscape", "internal/bytealg.MakeNoZero"], unfollowed := true, recurses := true, named := ["unicode/utf8.first", "unicode/utf8.acceptRanges", "internal/bytealg.MaxLen"], apart := false, laid := [("unicode/utf8.acceptRanges", laid_unicode_utf8_acceptRanges), ("unicode/utf8.first", laid_unicode_utf8_first)] }
def HooksLacksSaid : Prop := hooksLacksRow.holds Tryd.pinned (OpenSpec.ofChange hooksLacksSpec)

/-- ITS FALSE NEIGHBOUR: 'it returns false'. Refute it at one input. -/
def hooksLacksWrong : ChangeSpec := { name := "hooksLacks", fn := fun _ => fun
  | [d1, d2, d3] => { results := [.lit (.bool false)], args := [d1, d2, d3] }
  | _ => none }
def HooksLacksWrongFalsely : Prop := hooksLacksRow.holds Tryd.pinned (OpenSpec.ofChange hooksLacksWrong)

/-- 'platenlaw11.HooksNames': WHATEVER THE INPUT: true; the input reads as it did. -/
def hooksNamesSpec : ChangeSpec := { name := "hooksNames", fn := fun _ => fun
  | [d1, d2] => { results := [.lit (.bool true)], args := [d1, d2] }
  | _ => none }
def hooksNamesRow : OpenClaim := { program := "ytaniahkagmjkoaadoor", sum := "e59300e2cd487daeca98ef4a7ec448a542a595bb24ae4a767345b2ef3db22eb3", func := "platen/platenlaw11.HooksNames", spec := "hooksNames", inPlace := ["internal/bytealg.IndexByteString", "internal/bytealg.IndexString", "internal/abi.NoEscape", "internal/bytealg.MakeNoZero"], unfollowed := true, recurses := true, named := ["unicode/utf8.first", "unicode/utf8.acceptRanges", "internal/bytealg.MaxLen"], loops := true, apart := false, laid := [("unicode/utf8.acceptRanges", laid_unicode_utf8_acceptRanges), ("unicode/utf8.first", laid_unicode_utf8_first)] }
def HooksNamesSaid : Prop := hooksNamesRow.holds Tryd.pinned (OpenSpec.ofChange hooksNamesSpec)

/-- ITS FALSE NEIGHBOUR: 'it returns false'. Refute it at one input. -/
def hooksNamesWrong : ChangeSpec := { name := "hooksNames", fn := fun _ => fun
  | [d1, d2] => { results := [.lit (.bool false)], args := [d1, d2] }
  | _ => none }
def HooksNamesWrongFalsely : Prop := hooksNamesRow.holds Tryd.pinned (OpenSpec.ofChange hooksNamesWrong)

/- THE SECOND FORM. 'bulk': how many values and letters a reading holds, each counted each time it is reached (what is shared counts as often as it is met; a slice's spare places count too). A statement '..UptoSaid' is the law's where the arguments, and the package variables that the reading takes, are together of bulk at most 1048576: NARROWER than '..Said'. Prove '..Said' where nothing that the law and all that it calls make is longer than what came in: it says more and counts as full. Else prove '..UptoSaid'. A law counts once. -/
mutual
def uptoBulk {H : Type} : DataW H → Nat
  | .lit (.string bytes) => bytes.length + 1
  | .lit _ => 1
  | .nil => 1
  | .ptr d => uptoBulk d + 1
  | .slice elems spare => uptoBulkAll elems + uptoBulkAll spare + 1
  | .agg parts => uptoBulkAll parts + 1
  | .iface _ d => uptoBulk d + 1
  | .map entries => uptoBulkEntries entries + 1
  | .held _ => 1
def uptoBulkAll {H : Type} : List (DataW H) → Nat
  | [] => 0
  | d :: r => uptoBulk d + uptoBulkAll r
def uptoBulkEntries {H : Type} : List (Lit × DataW H) → Nat
  | [] => 0
  | x :: r => uptoBulkEntry x + uptoBulkEntries r
def uptoBulkEntry {H : Type} : Lit × DataW H → Nat
  | (.string bytes, d) => bytes.length + uptoBulk d + 1
  | (_, d) => uptoBulk d + 1
 end
def uptoSmall : (H : Type) → List (DataW H) → Bool := fun _ ds => decide (uptoBulkAll ds ≤ 1048576)
def OpenSpec.upto (s : _root_.Go.ChangeSpec) : _root_.Go.OpenSpec := { _root_.Go.OpenSpec.ofChange s with cond := some uptoSmall }

/-- 'platenlaw11.HooksWhich', WHERE WHAT IT READS IS OF BULK AT MOST 1048576: true; the input reads as it did. -/
def hooksWhichUptoRow : OpenClaim := { program := "ytaniahkagmjkoaadoor", sum := "e59300e2cd487daeca98ef4a7ec448a542a595bb24ae4a767345b2ef3db22eb3", func := "platen/platenlaw11.HooksWhich", spec := "hooksWhich", inPlace := ["internal/bytealg.IndexByteString", "internal/bytealg.IndexString", "internal/abi.NoEscape", "internal/bytealg.MakeNoZero"], unfollowed := true, recurses := true, named := ["unicode/utf8.first", "unicode/utf8.acceptRanges", "internal/bytealg.MaxLen"], loops := true, apart := false, laid := [("unicode/utf8.acceptRanges", laid_unicode_utf8_acceptRanges), ("unicode/utf8.first", laid_unicode_utf8_first)], narrowed := true }
def HooksWhichUptoSaid : Prop := hooksWhichUptoRow.holds Tryd.pinned (OpenSpec.upto hooksWhichSpec)

/-- 'platenlaw11.HooksDoes', WHERE WHAT IT READS IS OF BULK AT MOST 1048576: true; the input reads as it did. -/
def hooksDoesUptoRow : OpenClaim := { program := "ytaniahkagmjkoaadoor", sum := "e59300e2cd487daeca98ef4a7ec448a542a595bb24ae4a767345b2ef3db22eb3", func := "platen/platenlaw11.HooksDoes", spec := "hooksDoes", inPlace := ["internal/bytealg.IndexByteString", "internal/bytealg.IndexString", "internal/abi.NoEscape", "internal/bytealg.MakeNoZero"], unfollowed := true, recurses := true, named := ["unicode/utf8.first", "unicode/utf8.acceptRanges", "internal/bytealg.MaxLen"], loops := true, apart := false, laid := [("unicode/utf8.acceptRanges", laid_unicode_utf8_acceptRanges), ("unicode/utf8.first", laid_unicode_utf8_first)], narrowed := true }
def HooksDoesUptoSaid : Prop := hooksDoesUptoRow.holds Tryd.pinned (OpenSpec.upto hooksDoesSpec)

/-- 'platenlaw11.HooksFirst', WHERE WHAT IT READS IS OF BULK AT MOST 1048576: true; the input reads as it did. -/
def hooksFirstUptoRow : OpenClaim := { program := "ytaniahkagmjkoaadoor", sum := "e59300e2cd487daeca98ef4a7ec448a542a595bb24ae4a767345b2ef3db22eb3", func := "platen/platenlaw11.HooksFirst", spec := "hooksFirst", inPlace := ["internal/bytealg.IndexByteString", "internal/bytealg.IndexString", "internal/abi.NoEscape", "internal/bytealg.MakeNoZero"], unfollowed := true, recurses := true, named := ["unicode/utf8.first", "unicode/utf8.acceptRanges", "internal/bytealg.MaxLen"], loops := true, apart := false, laid := [("unicode/utf8.acceptRanges", laid_unicode_utf8_acceptRanges), ("unicode/utf8.first", laid_unicode_utf8_first)], narrowed := true }
def HooksFirstUptoSaid : Prop := hooksFirstUptoRow.holds Tryd.pinned (OpenSpec.upto hooksFirstSpec)

/-- 'platenlaw11.HooksOthers', WHERE WHAT IT READS IS OF BULK AT MOST 1048576: true; the input reads as it did. -/
def hooksOthersUptoRow : OpenClaim := { program := "ytaniahkagmjkoaadoor", sum := "e59300e2cd487daeca98ef4a7ec448a542a595bb24ae4a767345b2ef3db22eb3", func := "platen/platenlaw11.HooksOthers", spec := "hooksOthers", inPlace := ["internal/bytealg.IndexByteString", "internal/bytealg.IndexString", "internal/abi.NoEscape", "internal/bytealg.MakeNoZero"], unfollowed := true, recurses := true, named := ["unicode/utf8.first", "unicode/utf8.acceptRanges", "internal/bytealg.MaxLen"], loops := true, apart := false, laid := [("unicode/utf8.acceptRanges", laid_unicode_utf8_acceptRanges), ("unicode/utf8.first", laid_unicode_utf8_first)], narrowed := true }
def HooksOthersUptoSaid : Prop := hooksOthersUptoRow.holds Tryd.pinned (OpenSpec.upto hooksOthersSpec)

/-- 'platenlaw11.HooksThrows', WHERE WHAT IT READS IS OF BULK AT MOST 1048576: true; the input reads as it did. -/
def hooksThrowsUptoRow : OpenClaim := { program := "ytaniahkagmjkoaadoor", sum := "e59300e2cd487daeca98ef4a7ec448a542a595bb24ae4a767345b2ef3db22eb3", func := "platen/platenlaw11.HooksThrows", spec := "hooksThrows", inPlace := ["internal/bytealg.IndexByteString", "internal/bytealg.IndexString", "internal/abi.NoEscape", "internal/bytealg.MakeNoZero"], unfollowed := true, recurses := true, named := ["unicode/utf8.first", "unicode/utf8.acceptRanges", "internal/bytealg.MaxLen"], apart := false, laid := [("unicode/utf8.acceptRanges", laid_unicode_utf8_acceptRanges), ("unicode/utf8.first", laid_unicode_utf8_first)], narrowed := true }
def HooksThrowsUptoSaid : Prop := hooksThrowsUptoRow.holds Tryd.pinned (OpenSpec.upto hooksThrowsSpec)

/-- 'platenlaw11.HooksLacks', WHERE WHAT IT READS IS OF BULK AT MOST 1048576: true; the input reads as it did. -/
def hooksLacksUptoRow : OpenClaim := { program := "ytaniahkagmjkoaadoor", sum := "e59300e2cd487daeca98ef4a7ec448a542a595bb24ae4a767345b2ef3db22eb3", func := "platen/platenlaw11.HooksLacks", spec := "hooksLacks", inPlace := ["internal/bytealg.IndexByteString", "internal/bytealg.IndexString", "internal/abi.NoEscape", "internal/bytealg.MakeNoZero"], unfollowed := true, recurses := true, named := ["unicode/utf8.first", "unicode/utf8.acceptRanges", "internal/bytealg.MaxLen"], apart := false, laid := [("unicode/utf8.acceptRanges", laid_unicode_utf8_acceptRanges), ("unicode/utf8.first", laid_unicode_utf8_first)], narrowed := true }
def HooksLacksUptoSaid : Prop := hooksLacksUptoRow.holds Tryd.pinned (OpenSpec.upto hooksLacksSpec)

/-- 'platenlaw11.HooksNames', WHERE WHAT IT READS IS OF BULK AT MOST 1048576: true; the input reads as it did. -/
def hooksNamesUptoRow : OpenClaim := { program := "ytaniahkagmjkoaadoor", sum := "e59300e2cd487daeca98ef4a7ec448a542a595bb24ae4a767345b2ef3db22eb3", func := "platen/platenlaw11.HooksNames", spec := "hooksNames", inPlace := ["internal/bytealg.IndexByteString", "internal/bytealg.IndexString", "internal/abi.NoEscape", "internal/bytealg.MakeNoZero"], unfollowed := true, recurses := true, named := ["unicode/utf8.first", "unicode/utf8.acceptRanges", "internal/bytealg.MaxLen"], loops := true, apart := false, laid := [("unicode/utf8.acceptRanges", laid_unicode_utf8_acceptRanges), ("unicode/utf8.first", laid_unicode_utf8_first)], narrowed := true }
def HooksNamesUptoSaid : Prop := hooksNamesUptoRow.holds Tryd.pinned (OpenSpec.upto hooksNamesSpec)

end Rows
end Go.Proofs.YtaniahkagmjkoaaDoor
