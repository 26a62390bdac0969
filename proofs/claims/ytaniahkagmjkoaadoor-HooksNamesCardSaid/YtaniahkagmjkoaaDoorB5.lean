/-
  Walks of layer 1: Fill and Width.
-/
import Derived.Test.YtaniahkagmjkoaaDoorB4
namespace Go.Proofs.YtaniahkagmjkoaaDoor
open Go.RowKit Go.Proofs

/-- A byte that often, at most a thousand times. -/
def fillL (c : Int) (n : Int) : List UInt8 := List.replicate (min n 1000).toNat (UInt8.ofNat c.toNat)
def fillS (c : Int) (n : Int) : ByteArray := ⟨(fillL c n).toArray⟩
theorem fillL_length (c n : Int) : (fillL c n).length = (min n 1000).toNat := by unfold fillL; rw [List.length_replicate]

theorem repeat_one (x : UInt8) (k : Nat) : Lib.repeatL [x] k = List.replicate k x := by
  induction k with
  | zero => rfl
  | succ k ih =>
    show [x] ++ Lib.repeatL [x] k = _
    rw [ih]
    rfl
attribute [local go_sem] conv1

theorem mm (n : Int) : max 0 (min n 1000) = ((min n 1000).toNat : Int) := by omega
set_option maxRecDepth 100000 in
theorem fill_any (c n : Int) (w : World) (hn0 : -9223372036854775808 ≤ n) (hn1 : n ≤ 9223372036854775807) :
    Calls Tryd.prog 54 #[.int .u8 c, .int .i64 n] w fun e w' => e = .returned (.string (fillS c n)) ∧ Below w.heap.size w w' := by
  go_enter Tryd.func54, Tryd.ntmps54
  go_wp2_with fail
  rw [mm n]
  refine (Tryd.strings_Repeat (strOfNums [c]) _ _ (by omega) (by rw [strOfNums_size]; simp only [List.length_cons, List.length_nil]; omega)).mono ?_
  rintro e w' ⟨rfl, hb⟩
  have hr : (⟨(Lib.repeatL (strOfNums [c]).data.toList (min n 1000).toNat).toArray⟩ : ByteArray) = fillS c n := by
    rw [strOfNums_data]
    unfold fillS fillL
    rw [← repeat_one]
    rfl
  rw [hr]
  clear hr
  go_wp2_with fail
  go_ret
  exact ⟨rfl, ((Below.refl w.heap.size w).alloc (Nat.le_refl _) _).trans (hb.mono (by simp))⟩

theorem fill_snoc (c : Int) (k : Nat) : (⟨(List.replicate k (UInt8.ofNat c.toNat)).toArray⟩ : ByteArray) ++ strOfNums [c] = ⟨(List.replicate (k + 1) (UInt8.ofNat c.toNat)).toArray⟩ := by
  rw [List.replicate_succ']
  unfold strOfNums
  apply ByteArray.ext
  apply Array.ext'
  simp

end Go.Proofs.YtaniahkagmjkoaaDoor
