/-
  Walks of layer 1: Fill and Width.
-/
import Derived.Test.YtfbekjgbijlcaaaDoorB4
namespace Go.Proofs.YtfbekjgbijlcaaaDoor
open Go.RowKit Go.Proofs

/-- A byte that often, at most a thousand times. -/
def fillL (c : Int) (n : Int) : List UInt8 := List.replicate (min n 1000).toNat (UInt8.ofNat c.toNat)
def fillS (c : Int) (n : Int) : ByteArray := ⟨(fillL c n).toArray⟩
theorem fillL_length (c n : Int) : (fillL c n).length = (min n 1000).toNat := by unfold fillL; rw [List.length_replicate]

theorem repeat_one (x : UInt8) (k : Nat) : Lib.repeatL [x] k = List.replicate k x := by
  induction k with
  | zero => rfl
  | succ k ih =>
    show [x] ++ Lib.repeatL [x] k = _
    rw [ih]
    rfl
attribute [local go_sem] conv1

theorem mm (n : Int) : max 0 (min n 1000) = ((min n 1000).toNat : Int) := by omega
set_option maxRecDepth 100000 in
theorem fill_any (c n : Int) (w : World) (hn0 : -9223372036854775808 ≤ n) (hn1 : n ≤ 9223372036854775807) :
    Calls Tryd.prog 50 #[.int .u8 c, .int .i64 n] w fun e w' => e = .returned (.string (fillS c n)) ∧ Below w.heap.size w w' := by
  go_enter Tryd.func50, Tryd.ntmps50
  go_wp2_with fail
  rw [mm n]
  refine (Tryd.strings_Repeat (strOfNums [c]) _ _ (by omega) (by rw [strOfNums_size]; simp only [List.length_cons, List.length_nil]; omega)).mono ?_
  rintro e w' ⟨rfl, hb⟩
  have hr : (⟨(Lib.repeatL (strOfNums [c]).data.toList (min n 1000).toNat).toArray⟩ : ByteArray) = fillS c n := by
    rw [strOfNums_data]
    unfold fillS fillL
    rw [← repeat_one]
    rfl
  rw [hr]
  clear hr
  go_wp2_with fail
  go_ret
  exact ⟨rfl, ((Below.refl w.heap.size w).alloc (Nat.le_refl _) _).trans (hb.mono (by simp))⟩

theorem fill_snoc (c : Int) (k : Nat) : (⟨(List.replicate k (UInt8.ofNat c.toNat)).toArray⟩ : ByteArray) ++ strOfNums [c] = ⟨(List.replicate (k + 1) (UInt8.ofNat c.toNat)).toArray⟩ := by
  rw [List.replicate_succ']
  unfold strOfNums
  apply ByteArray.ext
  apply Array.ext'
  simp

set_option maxRecDepth 100000 in
theorem reffill_any (c n : Int) (w : World) (hn0 : -9223372036854775808 ≤ n) (hn1 : n ≤ 9223372036854775807) :
    Calls Tryd.prog 53 #[.int .u8 c, .int .i64 n] w fun e w' => e = .returned (.string (fillS c n)) ∧ Below w.heap.size w w' := by
  obtain ⟨m, hm⟩ : ∃ m, m = min n 1000 := ⟨_, rfl⟩
  have hr : fillS c n = ⟨(List.replicate m.toNat (UInt8.ofNat c.toNat)).toArray⟩ := by rw [hm]; rfl
  have hmb : m ≤ 1000 := by omega
  obtain ⟨r, hrr⟩ : ∃ r, fillS c n = r := ⟨_, rfl⟩
  rw [hrr] at hr ⊢
  have HR := hid hr
  clear hr hrr
  rcases (show (1000 < n ∧ m = 1000) ∨ (n ≤ 1000 ∧ m = n) by omega) with ⟨h1, rfl⟩ | ⟨h1, rfl⟩
  · clear hm
    go_enter Tryd.func53, Tryd.ntmps53
    go_wp2_with fail
    go_loopw [5, 6] (fun v i wr => ∃ (k : Nat) (t : ByteArray), v = .string t ∧ i = .int .i64 k ∧ k ≤ 1000 ∧ t.size ≤ 1000 ∧ Hid (t = ⟨(List.replicate k (UInt8.ofNat c.toNat)).toArray⟩ ∧ (0 < k → (k : Int) ≤ 1000)) ∧ Below w.heap.size w wr) (fun _ i _ => 1000 - (intOf i).toNat)
    case atStart => exact ⟨0, ⟨#[]⟩, rfl, rfl, by omega, by decide, ⟨rfl, fun h => absurd h (by omega)⟩, Below.refl _ _⟩
    case round =>
      obtain ⟨k, t, rfl, rfl, hk, ht, hT, hb⟩ := hrel
      by_cases hlt : (k : Int) < 1000
      · have ht1 : Hid (t ++ strOfNums [c] = ⟨(List.replicate (k + 1) (UInt8.ofNat c.toNat)).toArray⟩ ∧ (0 < k + 1 → ((k + 1 : Nat) : Int) ≤ 1000)) := ⟨by rw [hT.out.1]; exact fill_snoc c k, fun _ => by omega⟩
        have hsz : (t ++ strOfNums [c]).size ≤ 1000 := by rw [ht1.out.1, Utf.size_eq]; simp; omega
        have h1 : (strOfNums [c]).size = 1 := strOfNums_size [c]
        go_wp2_with fail
        go_roundw
        case rel => exact ⟨k + 1, _, rfl, by go_num, by omega, hsz, ht1, hb.alloc hb.size _⟩
        case measure => simp [intOf]; omega
      · go_wp2_with fail
        go_ret
        refine ⟨ret_str ?_, hb⟩
        rw [hT.out.1, HR.out]
        have := hT.out.2
        rw [show k = (1000 : Int).toNat by omega]
  · clear hm
    go_enter Tryd.func53, Tryd.ntmps53
    go_wp2_with fail
    go_loopw [5, 6] (fun v i wr => ∃ (k : Nat) (t : ByteArray), v = .string t ∧ i = .int .i64 k ∧ k ≤ 1000 ∧ t.size ≤ 1000 ∧ Hid (t = ⟨(List.replicate k (UInt8.ofNat c.toNat)).toArray⟩ ∧ (0 < k → (k : Int) ≤ m)) ∧ Below w.heap.size w wr) (fun _ i _ => 1000 - (intOf i).toNat)
    case atStart => exact ⟨0, ⟨#[]⟩, rfl, rfl, by omega, by decide, ⟨rfl, fun h => absurd h (by omega)⟩, Below.refl _ _⟩
    case round =>
      obtain ⟨k, t, rfl, rfl, hk, ht, hT, hb⟩ := hrel
      by_cases hlt : (k : Int) < m
      · have ht1 : Hid (t ++ strOfNums [c] = ⟨(List.replicate (k + 1) (UInt8.ofNat c.toNat)).toArray⟩ ∧ (0 < k + 1 → ((k + 1 : Nat) : Int) ≤ m)) := ⟨by rw [hT.out.1]; exact fill_snoc c k, fun _ => by omega⟩
        have hsz : (t ++ strOfNums [c]).size ≤ 1000 := by rw [ht1.out.1, Utf.size_eq]; simp; omega
        have h1 : (strOfNums [c]).size = 1 := strOfNums_size [c]
        go_wp2_with fail
        go_roundw
        case rel => exact ⟨k + 1, _, rfl, by go_num, by omega, hsz, ht1, hb.alloc hb.size _⟩
        case measure => simp [intOf]; omega
      · go_wp2_with fail
        go_ret
        refine ⟨ret_str ?_, hb⟩
        rw [hT.out.1, HR.out]
        have := hT.out.2
        rw [show k = (m : Int).toNat by omega]
end Go.Proofs.YtfbekjgbijlcaaaDoor
