/-
  What every row of this seat asks of its program.
-/
import Derived.Test.YtampkhdlhhgneaaB1
import Derived.Test.YtampkhdlhhgneaaRows
import Derived.WalkKit
import Derived.ProofKit
import Derived.OpenShut
namespace Go.Proofs.Ytampkhdlhhgneaa
open Go.RowKit Go.Proofs

theorem laidOut : laidOutB Try.prog = true := by kernel_rfl
theorem own : ownKnob Try.prog.godebug = none := by kernel_rfl
end Go.Proofs.Ytampkhdlhhgneaa
