/-
  Walks of layer 1: the law's cut of a text; a buffer that is new.
-/
import Derived.Test.YtohlodhkmkhhbaaDoorB9
namespace Go.Proofs.YtohlodhkmkhhbaaDoor
open Go.RowKit Go.Proofs

/-- At most a thousand bytes. -/
def cutB (s : ByteArray) : ByteArray := if 1000 < s.size then s.extract 0 1000 else s
theorem cutB_size (s : ByteArray) : (cutB s).size ≤ 1000 := by
  unfold cutB
  split
  · rw [ByteArray.size_extract]; omega
  · omega
theorem cutB_any (s : ByteArray) (w : World) (hs : s.size ≤ 9223372036854775807) : Calls Tryd.prog 26 #[.string s] w fun e w' => e = .returned (.string (cutB s)) ∧ w = w' := by
  obtain ⟨r, hr⟩ : ∃ r, cutB s = r := ⟨_, rfl⟩
  rw [hr]
  by_cases h : 1000 < s.size
  · have e : s.extract 0 1000 = r := by rw [← hr]; unfold cutB; rw [if_pos h]
    clear hr
    go_enter Tryd.func26, Tryd.ntmps26
    go_wp2_with fail
    go_ret
    exact ⟨rfl, rfl⟩
  · have e : s = r := by rw [← hr]; unfold cutB; rw [if_neg h]
    subst e
    clear hr
    go_enter Tryd.func26, Tryd.ntmps26
    go_wp2_with fail
    go_ret
    exact ⟨rfl, rfl⟩

theorem bufAt_new {w : World} {b : Nat} (B : Nat) (h : Blk w b #[.slice none 0 0, .int .i64 0] 44) : BufAt w B b [] :=
  ⟨.slice none 0 0, h, World.ownsRow_nil w B 5 1⟩
theorem BufAt.only {w w' : World} {B b B' b' : Nat} {all : List UInt8} (h : BufAt w B b all) (ho : OnlyB B' b' w w') (h1 : w.heap.size ≤ B') (h2 : b' ≠ b) (h3 : b' < B) : BufAt w' B b all :=
  h.same fun k hk hb => ho.block k (by omega) (by omega)
end Go.Proofs.YtohlodhkmkhhbaaDoor
