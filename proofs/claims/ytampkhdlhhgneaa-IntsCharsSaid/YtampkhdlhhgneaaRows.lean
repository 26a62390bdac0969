/-
  No cell of these rows narrows 'for every input' (looked for: loops, veiled, ifaces, maps, wideKeys, modest, calm, conditions, laid).
  DERIVED. THE GIVEN ROWS OF THIS SEAT. 10 by the template 'for every input the law returns true; each argument reads behind the call as it read before'; 0 by the template 'total and deterministic' (their statements: YtampkhdlhhgneaaTotals.lean).
  GIVEN WITH THE SEED: the statements are not yours to turn. If you find one false, say at which input.
  Laid BY PROGRAM, IN A SANDBOX (cutbox-rows.mjs): the forced cells as the released guide's own fill.sh prints them over the translation 545df8ed1b8f15a6… (all of the seat's roots in one cut). By AI agents, Wed Nov 11 2026. No macro, syntax, notation, axiom, sorry.
-/
import Derived.Test.YtampkhdlhhgneaaChecked
import GoSem.Claim
import GoSem.ClaimJoined
import GoSem.ClaimMapViews
import Derived.JoinedTies
import Derived.KernelRfl
namespace Go.Proofs.Ytampkhdlhhgneaa
/- THE CELL 'sum', in the pinned program and in every row, IS THE sha256 OF THE DUMP (.gsa) THAT YtampkhdlhhgneaaProg.lean LOADS. Nothing in Lean hashes anything: it is a label: what it is worth is what the hold of that sum in a sandbox is worth. -/
noncomputable def Try.pinned : Pinned := { name := "ytampkhdlhhgneaa", sum := "545df8ed1b8f15a655b22eafb1b38e777c662f41f2b87f8c2a6d43b8ad59192c", checked := Try.checked }
namespace Rows
def none {H : Type} : Left H := { results := [], args := [] }

/-- 'platenlaw03.IntsDigits': WHATEVER THE INPUT: true; the input reads as it did. -/
def intsDigitsSpec : ChangeSpec := { name := "intsDigits", fn := fun _ => fun
  | [d1, d2] => { results := [.lit (.bool true)], args := [d1, d2] }
  | _ => none }
def intsDigitsRow : OpenClaim := { program := "ytampkhdlhhgneaa", sum := "545df8ed1b8f15a655b22eafb1b38e777c662f41f2b87f8c2a6d43b8ad59192c", func := "platen/platenlaw03.IntsDigits", spec := "intsDigits", inPlace := ["internal/abi.NoEscape", "internal/bytealg.MakeNoZero"], apart := false }
def IntsDigitsSaid : Prop := intsDigitsRow.holds Try.pinned (OpenSpec.ofChange intsDigitsSpec)

/-- ITS FALSE NEIGHBOUR: 'it returns false'. Refute it at one input. -/
def intsDigitsWrong : ChangeSpec := { name := "intsDigits", fn := fun _ => fun
  | [d1, d2] => { results := [.lit (.bool false)], args := [d1, d2] }
  | _ => none }
def IntsDigitsWrongFalsely : Prop := intsDigitsRow.holds Try.pinned (OpenSpec.ofChange intsDigitsWrong)

/-- 'platenlaw03.IntsSigned': WHATEVER THE INPUT: true; the input reads as it did. -/
def intsSignedSpec : ChangeSpec := { name := "intsSigned", fn := fun _ => fun
  | [d1, d2] => { results := [.lit (.bool true)], args := [d1, d2] }
  | _ => none }
def intsSignedRow : OpenClaim := { program := "ytampkhdlhhgneaa", sum := "545df8ed1b8f15a655b22eafb1b38e777c662f41f2b87f8c2a6d43b8ad59192c", func := "platen/platenlaw03.IntsSigned", spec := "intsSigned", inPlace := ["internal/abi.NoEscape", "internal/bytealg.MakeNoZero"], apart := false }
def IntsSignedSaid : Prop := intsSignedRow.holds Try.pinned (OpenSpec.ofChange intsSignedSpec)

/-- ITS FALSE NEIGHBOUR: 'it returns false'. Refute it at one input. -/
def intsSignedWrong : ChangeSpec := { name := "intsSigned", fn := fun _ => fun
  | [d1, d2] => { results := [.lit (.bool false)], args := [d1, d2] }
  | _ => none }
def IntsSignedWrongFalsely : Prop := intsSignedRow.holds Try.pinned (OpenSpec.ofChange intsSignedWrong)

/-- 'platenlaw03.IntsUnsigned': WHATEVER THE INPUT: true; the input reads as it did. -/
def intsUnsignedSpec : ChangeSpec := { name := "intsUnsigned", fn := fun _ => fun
  | [d1, d2] => { results := [.lit (.bool true)], args := [d1, d2] }
  | _ => none }
def intsUnsignedRow : OpenClaim := { program := "ytampkhdlhhgneaa", sum := "545df8ed1b8f15a655b22eafb1b38e777c662f41f2b87f8c2a6d43b8ad59192c", func := "platen/platenlaw03.IntsUnsigned", spec := "intsUnsigned", inPlace := ["internal/abi.NoEscape", "internal/bytealg.MakeNoZero"], apart := false }
def IntsUnsignedSaid : Prop := intsUnsignedRow.holds Try.pinned (OpenSpec.ofChange intsUnsignedSpec)

/-- ITS FALSE NEIGHBOUR: 'it returns false'. Refute it at one input. -/
def intsUnsignedWrong : ChangeSpec := { name := "intsUnsigned", fn := fun _ => fun
  | [d1, d2] => { results := [.lit (.bool false)], args := [d1, d2] }
  | _ => none }
def IntsUnsignedWrongFalsely : Prop := intsUnsignedRow.holds Try.pinned (OpenSpec.ofChange intsUnsignedWrong)

/-- 'platenlaw03.IntsChars': WHATEVER THE INPUT: true; the input reads as it did. -/
def intsCharsSpec : ChangeSpec := { name := "intsChars", fn := fun _ => fun
  | [d1, d2, d3] => { results := [.lit (.bool true)], args := [d1, d2, d3] }
  | _ => none }
def intsCharsRow : OpenClaim := { program := "ytampkhdlhhgneaa", sum := "545df8ed1b8f15a655b22eafb1b38e777c662f41f2b87f8c2a6d43b8ad59192c", func := "platen/platenlaw03.IntsChars", spec := "intsChars", inPlace := ["internal/abi.NoEscape", "internal/bytealg.MakeNoZero"], apart := false }
def IntsCharsSaid : Prop := intsCharsRow.holds Try.pinned (OpenSpec.ofChange intsCharsSpec)

/-- ITS FALSE NEIGHBOUR: 'it returns false'. Refute it at one input. -/
def intsCharsWrong : ChangeSpec := { name := "intsChars", fn := fun _ => fun
  | [d1, d2, d3] => { results := [.lit (.bool false)], args := [d1, d2, d3] }
  | _ => none }
def IntsCharsWrongFalsely : Prop := intsCharsRow.holds Try.pinned (OpenSpec.ofChange intsCharsWrong)

/-- 'platenlaw03.IntsWide': WHATEVER THE INPUT: true; the input reads as it did. -/
def intsWideSpec : ChangeSpec := { name := "intsWide", fn := fun _ => fun
  | [d1, d2] => { results := [.lit (.bool true)], args := [d1, d2] }
  | _ => none }
def intsWideRow : OpenClaim := { program := "ytampkhdlhhgneaa", sum := "545df8ed1b8f15a655b22eafb1b38e777c662f41f2b87f8c2a6d43b8ad59192c", func := "platen/platenlaw03.IntsWide", spec := "intsWide", inPlace := ["internal/abi.NoEscape", "internal/bytealg.MakeNoZero"], apart := false }
def IntsWideSaid : Prop := intsWideRow.holds Try.pinned (OpenSpec.ofChange intsWideSpec)

/-- ITS FALSE NEIGHBOUR: 'it returns false'. Refute it at one input. -/
def intsWideWrong : ChangeSpec := { name := "intsWide", fn := fun _ => fun
  | [d1, d2] => { results := [.lit (.bool false)], args := [d1, d2] }
  | _ => none }
def IntsWideWrongFalsely : Prop := intsWideRow.holds Try.pinned (OpenSpec.ofChange intsWideWrong)

/-- 'platenlaw03.IntsBack': WHATEVER THE INPUT: true; the input reads as it did. -/
def intsBackSpec : ChangeSpec := { name := "intsBack", fn := fun _ => fun
  | [d1, d2] => { results := [.lit (.bool true)], args := [d1, d2] }
  | _ => none }
def intsBackRow : OpenClaim := { program := "ytampkhdlhhgneaa", sum := "545df8ed1b8f15a655b22eafb1b38e777c662f41f2b87f8c2a6d43b8ad59192c", func := "platen/platenlaw03.IntsBack", spec := "intsBack", inPlace := ["internal/abi.NoEscape", "internal/bytealg.MakeNoZero"], apart := false }
def IntsBackSaid : Prop := intsBackRow.holds Try.pinned (OpenSpec.ofChange intsBackSpec)

/-- ITS FALSE NEIGHBOUR: 'it returns false'. Refute it at one input. -/
def intsBackWrong : ChangeSpec := { name := "intsBack", fn := fun _ => fun
  | [d1, d2] => { results := [.lit (.bool false)], args := [d1, d2] }
  | _ => none }
def IntsBackWrongFalsely : Prop := intsBackRow.holds Try.pinned (OpenSpec.ofChange intsBackWrong)

/-- 'platenlaw03.IntsSigns': WHATEVER THE INPUT: true; the input reads as it did. -/
def intsSignsSpec : ChangeSpec := { name := "intsSigns", fn := fun _ => fun
  | [d1, d2] => { results := [.lit (.bool true)], args := [d1, d2] }
  | _ => none }
def intsSignsRow : OpenClaim := { program := "ytampkhdlhhgneaa", sum := "545df8ed1b8f15a655b22eafb1b38e777c662f41f2b87f8c2a6d43b8ad59192c", func := "platen/platenlaw03.IntsSigns", spec := "intsSigns", inPlace := ["internal/abi.NoEscape", "internal/bytealg.MakeNoZero"], apart := false }
def IntsSignsSaid : Prop := intsSignsRow.holds Try.pinned (OpenSpec.ofChange intsSignsSpec)

/-- ITS FALSE NEIGHBOUR: 'it returns false'. Refute it at one input. -/
def intsSignsWrong : ChangeSpec := { name := "intsSigns", fn := fun _ => fun
  | [d1, d2] => { results := [.lit (.bool false)], args := [d1, d2] }
  | _ => none }
def IntsSignsWrongFalsely : Prop := intsSignsRow.holds Try.pinned (OpenSpec.ofChange intsSignsWrong)

/-- 'platenlaw03.IntsAlike': WHATEVER THE INPUT: true; the input reads as it did. -/
def intsAlikeSpec : ChangeSpec := { name := "intsAlike", fn := fun _ => fun
  | [d1, d2] => { results := [.lit (.bool true)], args := [d1, d2] }
  | _ => none }
def intsAlikeRow : OpenClaim := { program := "ytampkhdlhhgneaa", sum := "545df8ed1b8f15a655b22eafb1b38e777c662f41f2b87f8c2a6d43b8ad59192c", func := "platen/platenlaw03.IntsAlike", spec := "intsAlike", inPlace := ["internal/abi.NoEscape", "internal/bytealg.MakeNoZero"], apart := false }
def IntsAlikeSaid : Prop := intsAlikeRow.holds Try.pinned (OpenSpec.ofChange intsAlikeSpec)

/-- ITS FALSE NEIGHBOUR: 'it returns false'. Refute it at one input. -/
def intsAlikeWrong : ChangeSpec := { name := "intsAlike", fn := fun _ => fun
  | [d1, d2] => { results := [.lit (.bool false)], args := [d1, d2] }
  | _ => none }
def IntsAlikeWrongFalsely : Prop := intsAlikeRow.holds Try.pinned (OpenSpec.ofChange intsAlikeWrong)

/-- 'platenlaw03.IntsZeros': WHATEVER THE INPUT: true; the input reads as it did. -/
def intsZerosSpec : ChangeSpec := { name := "intsZeros", fn := fun _ => fun
  | [d1, d2, d3] => { results := [.lit (.bool true)], args := [d1, d2, d3] }
  | _ => none }
def intsZerosRow : OpenClaim := { program := "ytampkhdlhhgneaa", sum := "545df8ed1b8f15a655b22eafb1b38e777c662f41f2b87f8c2a6d43b8ad59192c", func := "platen/platenlaw03.IntsZeros", spec := "intsZeros", inPlace := ["internal/abi.NoEscape", "internal/bytealg.MakeNoZero"], apart := false }
def IntsZerosSaid : Prop := intsZerosRow.holds Try.pinned (OpenSpec.ofChange intsZerosSpec)

/-- ITS FALSE NEIGHBOUR: 'it returns false'. Refute it at one input. -/
def intsZerosWrong : ChangeSpec := { name := "intsZeros", fn := fun _ => fun
  | [d1, d2, d3] => { results := [.lit (.bool false)], args := [d1, d2, d3] }
  | _ => none }
def IntsZerosWrongFalsely : Prop := intsZerosRow.holds Try.pinned (OpenSpec.ofChange intsZerosWrong)

/-- 'platenlaw03.IntsSides': WHATEVER THE INPUT: true; the input reads as it did. -/
def intsSidesSpec : ChangeSpec := { name := "intsSides", fn := fun _ => fun
  | [d1, d2] => { results := [.lit (.bool true)], args := [d1, d2] }
  | _ => none }
def intsSidesRow : OpenClaim := { program := "ytampkhdlhhgneaa", sum := "545df8ed1b8f15a655b22eafb1b38e777c662f41f2b87f8c2a6d43b8ad59192c", func := "platen/platenlaw03.IntsSides", spec := "intsSides", inPlace := ["internal/abi.NoEscape", "internal/bytealg.MakeNoZero"], apart := false }
def IntsSidesSaid : Prop := intsSidesRow.holds Try.pinned (OpenSpec.ofChange intsSidesSpec)

/-- ITS FALSE NEIGHBOUR: 'it returns false'. Refute it at one input. -/
def intsSidesWrong : ChangeSpec := { name := "intsSides", fn := fun _ => fun
  | [d1, d2] => { results := [.lit (.bool false)], args := [d1, d2] }
  | _ => none }
def IntsSidesWrongFalsely : Prop := intsSidesRow.holds Try.pinned (OpenSpec.ofChange intsSidesWrong)

/- THE SECOND FORM. 'bulk': how many values and letters a reading holds, each counted each time it is reached (what is shared counts as often as it is met; a slice's spare places count too). A statement '..UptoSaid' is the law's where the arguments, and the package variables that the reading takes, are together of bulk at most 1048576: NARROWER than '..Said'. Prove '..Said' where nothing that the law and all that it calls make is longer than what came in: it says more and counts as full. Else prove '..UptoSaid'. A law counts once. -/
mutual
def uptoBulk {H : Type} : DataW H → Nat
  | .lit (.string bytes) => bytes.length + 1
  | .lit _ => 1
  | .nil => 1
  | .ptr d => uptoBulk d + 1
  | .slice elems spare => uptoBulkAll elems + uptoBulkAll spare + 1
  | .agg parts => uptoBulkAll parts + 1
  | .iface _ d => uptoBulk d + 1
  | .map entries => uptoBulkEntries entries + 1
  | .held _ => 1
def uptoBulkAll {H : Type} : List (DataW H) → Nat
  | [] => 0
  | d :: r => uptoBulk d + uptoBulkAll r
def uptoBulkEntries {H : Type} : List (Lit × DataW H) → Nat
  | [] => 0
  | x :: r => uptoBulkEntry x + uptoBulkEntries r
def uptoBulkEntry {H : Type} : Lit × DataW H → Nat
  | (.string bytes, d) => bytes.length + uptoBulk d + 1
  | (_, d) => uptoBulk d + 1
 end
def uptoSmall : (H : Type) → List (DataW H) → Bool := fun _ ds => decide (uptoBulkAll ds ≤ 1048576)
def OpenSpec.upto (s : _root_.Go.ChangeSpec) : _root_.Go.OpenSpec := { _root_.Go.OpenSpec.ofChange s with cond := some uptoSmall }

/-- 'platenlaw03.IntsDigits', WHERE WHAT IT READS IS OF BULK AT MOST 1048576: true; the input reads as it did. -/
def intsDigitsUptoRow : OpenClaim := { program := "ytampkhdlhhgneaa", sum := "545df8ed1b8f15a655b22eafb1b38e777c662f41f2b87f8c2a6d43b8ad59192c", func := "platen/platenlaw03.IntsDigits", spec := "intsDigits", inPlace := ["internal/abi.NoEscape", "internal/bytealg.MakeNoZero"], apart := false, narrowed := true }
def IntsDigitsUptoSaid : Prop := intsDigitsUptoRow.holds Try.pinned (OpenSpec.upto intsDigitsSpec)

/-- 'platenlaw03.IntsSigned', WHERE WHAT IT READS IS OF BULK AT MOST 1048576: true; the input reads as it did. -/
def intsSignedUptoRow : OpenClaim := { program := "ytampkhdlhhgneaa", sum := "545df8ed1b8f15a655b22eafb1b38e777c662f41f2b87f8c2a6d43b8ad59192c", func := "platen/platenlaw03.IntsSigned", spec := "intsSigned", inPlace := ["internal/abi.NoEscape", "internal/bytealg.MakeNoZero"], apart := false, narrowed := true }
def IntsSignedUptoSaid : Prop := intsSignedUptoRow.holds Try.pinned (OpenSpec.upto intsSignedSpec)

/-- 'platenlaw03.IntsUnsigned', WHERE WHAT IT READS IS OF BULK AT MOST 1048576: true; the input reads as it did. -/
def intsUnsignedUptoRow : OpenClaim := { program := "ytampkhdlhhgneaa", sum := "545df8ed1b8f15a655b22eafb1b38e777c662f41f2b87f8c2a6d43b8ad59192c", func := "platen/platenlaw03.IntsUnsigned", spec := "intsUnsigned", inPlace := ["internal/abi.NoEscape", "internal/bytealg.MakeNoZero"], apart := false, narrowed := true }
def IntsUnsignedUptoSaid : Prop := intsUnsignedUptoRow.holds Try.pinned (OpenSpec.upto intsUnsignedSpec)

/-- 'platenlaw03.IntsChars', WHERE WHAT IT READS IS OF BULK AT MOST 1048576: true; the input reads as it did. -/
def intsCharsUptoRow : OpenClaim := { program := "ytampkhdlhhgneaa", sum := "545df8ed1b8f15a655b22eafb1b38e777c662f41f2b87f8c2a6d43b8ad59192c", func := "platen/platenlaw03.IntsChars", spec := "intsChars", inPlace := ["internal/abi.NoEscape", "internal/bytealg.MakeNoZero"], apart := false, narrowed := true }
def IntsCharsUptoSaid : Prop := intsCharsUptoRow.holds Try.pinned (OpenSpec.upto intsCharsSpec)

/-- 'platenlaw03.IntsWide', WHERE WHAT IT READS IS OF BULK AT MOST 1048576: true; the input reads as it did. -/
def intsWideUptoRow : OpenClaim := { program := "ytampkhdlhhgneaa", sum := "545df8ed1b8f15a655b22eafb1b38e777c662f41f2b87f8c2a6d43b8ad59192c", func := "platen/platenlaw03.IntsWide", spec := "intsWide", inPlace := ["internal/abi.NoEscape", "internal/bytealg.MakeNoZero"], apart := false, narrowed := true }
def IntsWideUptoSaid : Prop := intsWideUptoRow.holds Try.pinned (OpenSpec.upto intsWideSpec)

/-- 'platenlaw03.IntsBack', WHERE WHAT IT READS IS OF BULK AT MOST 1048576: true; the input reads as it did. -/
def intsBackUptoRow : OpenClaim := { program := "ytampkhdlhhgneaa", sum := "545df8ed1b8f15a655b22eafb1b38e777c662f41f2b87f8c2a6d43b8ad59192c", func := "platen/platenlaw03.IntsBack", spec := "intsBack", inPlace := ["internal/abi.NoEscape", "internal/bytealg.MakeNoZero"], apart := false, narrowed := true }
def IntsBackUptoSaid : Prop := intsBackUptoRow.holds Try.pinned (OpenSpec.upto intsBackSpec)

/-- 'platenlaw03.IntsSigns', WHERE WHAT IT READS IS OF BULK AT MOST 1048576: true; the input reads as it did. -/
def intsSignsUptoRow : OpenClaim := { program := "ytampkhdlhhgneaa", sum := "545df8ed1b8f15a655b22eafb1b38e777c662f41f2b87f8c2a6d43b8ad59192c", func := "platen/platenlaw03.IntsSigns", spec := "intsSigns", inPlace := ["internal/abi.NoEscape", "internal/bytealg.MakeNoZero"], apart := false, narrowed := true }
def IntsSignsUptoSaid : Prop := intsSignsUptoRow.holds Try.pinned (OpenSpec.upto intsSignsSpec)

/-- 'platenlaw03.IntsAlike', WHERE WHAT IT READS IS OF BULK AT MOST 1048576: true; the input reads as it did. -/
def intsAlikeUptoRow : OpenClaim := { program := "ytampkhdlhhgneaa", sum := "545df8ed1b8f15a655b22eafb1b38e777c662f41f2b87f8c2a6d43b8ad59192c", func := "platen/platenlaw03.IntsAlike", spec := "intsAlike", inPlace := ["internal/abi.NoEscape", "internal/bytealg.MakeNoZero"], apart := false, narrowed := true }
def IntsAlikeUptoSaid : Prop := intsAlikeUptoRow.holds Try.pinned (OpenSpec.upto intsAlikeSpec)

/-- 'platenlaw03.IntsZeros', WHERE WHAT IT READS IS OF BULK AT MOST 1048576: true; the input reads as it did. -/
def intsZerosUptoRow : OpenClaim := { program := "ytampkhdlhhgneaa", sum := "545df8ed1b8f15a655b22eafb1b38e777c662f41f2b87f8c2a6d43b8ad59192c", func := "platen/platenlaw03.IntsZeros", spec := "intsZeros", inPlace := ["internal/abi.NoEscape", "internal/bytealg.MakeNoZero"], apart := false, narrowed := true }
def IntsZerosUptoSaid : Prop := intsZerosUptoRow.holds Try.pinned (OpenSpec.upto intsZerosSpec)

/-- 'platenlaw03.IntsSides', WHERE WHAT IT READS IS OF BULK AT MOST 1048576: true; the input reads as it did. -/
def intsSidesUptoRow : OpenClaim := { program := "ytampkhdlhhgneaa", sum := "545df8ed1b8f15a655b22eafb1b38e777c662f41f2b87f8c2a6d43b8ad59192c", func := "platen/platenlaw03.IntsSides", spec := "intsSides", inPlace := ["internal/abi.NoEscape", "internal/bytealg.MakeNoZero"], apart := false, narrowed := true }
def IntsSidesUptoSaid : Prop := intsSidesUptoRow.holds Try.pinned (OpenSpec.upto intsSidesSpec)

end Rows
end Go.Proofs.Ytampkhdlhhgneaa
