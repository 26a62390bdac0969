/-
  Walks of layer 1: Cut, Fill, Width.
-/
import Derived.Test.YtampkhdlhhgneaaB3
namespace Go.Proofs.Ytampkhdlhhgneaa
open Go.RowKit Go.Proofs

/-- The first n runes of a text (n below 0: all). -/
def cutS (s : ByteArray) (n : Int) : ByteArray := if n < 0 then s else s.extract 0 (Utf.cutAt n.toNat s.data.toList)
theorem extract_all (s : ByteArray) : s.extract 0 s.size = s := by simp
theorem cutAt_zero (l : List UInt8) : Utf.cutAt 0 l = 0 := rfl
theorem cutAt_pos (s : ByteArray) (pos m : Nat) (h : pos < s.size) : Utf.cutAt (m + 1) (s.data.toList.drop pos) = (Utf8.decode s pos).2 + Utf.cutAt m (s.data.toList.drop (pos + (Utf8.decode s pos).2)) := by
  rw [Utf.cutAt_step (drop_ne h), ← Utf.decode_eq, List.drop_drop]


end Go.Proofs.Ytampkhdlhhgneaa
