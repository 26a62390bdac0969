/-
  Walks of layer 1: Cut, Fill, Width.
-/
import Derived.Test.YtaniahkagmjkoaaDoorB3
namespace Go.Proofs.YtaniahkagmjkoaaDoor
open Go.RowKit Go.Proofs

/-- The first n runes of a text (n below 0: all). -/
def cutS (s : ByteArray) (n : Int) : ByteArray := if n < 0 then s else s.extract 0 (Utf.cutAt n.toNat s.data.toList)
theorem extract_all (s : ByteArray) : s.extract 0 s.size = s := by simp
theorem cutAt_zero (l : List UInt8) : Utf.cutAt 0 l = 0 := rfl
theorem cutAt_pos (s : ByteArray) (pos m : Nat) (h : pos < s.size) : Utf.cutAt (m + 1) (s.data.toList.drop pos) = (Utf8.decode s pos).2 + Utf.cutAt m (s.data.toList.drop (pos + (Utf8.decode s pos).2)) := by
  rw [Utf.cutAt_step (drop_ne h), ← Utf.decode_eq, List.drop_drop]

set_option maxRecDepth 100000 in
theorem cut_any (s : ByteArray) (n : Int) (w : World) (_hs : s.size ≤ 140737488355328) (hn0 : -9223372036854775808 ≤ n) (hn1 : n ≤ 9223372036854775807) :
    Calls Tryd.prog 44 #[.string s, .int .i64 n] w fun e w' => e = .returned (.string (cutS s n)) ∧ Below w.heap.size w w' := by
  by_cases hneg : n < 0
  · have hr : cutS s n = s := by unfold cutS; rw [if_pos hneg]
    rw [hr]
    clear hr
    go_enter Tryd.func44, Tryd.ntmps44
    go_wp2_with fail
    go_ret
    exact ⟨rfl, Below.refl _ _⟩
  · have hnn : 0 ≤ n := by omega
    have hr : cutS s n = s.extract 0 (Utf.cutAt n.toNat s.data.toList) := by unfold cutS; rw [if_neg hneg]
    rw [hr]
    clear hr
    obtain ⟨A, hA⟩ : ∃ A, Utf.cutAt n.toNat s.data.toList = A := ⟨_, rfl⟩
    rw [hA]
    have HA := hid hA
    clear hA hneg
    have H0 : Hid (0 + Utf.cutAt n.toNat (s.data.toList.drop 0) = A) := by rw [List.drop_zero, HA.out]; exact Nat.zero_add _
    go_enter Tryd.func44, Tryd.ntmps44
    go_wp2_with fail
    go_loopw [1, 5] (fun v _ wr => ∃ (pos : Nat) (m : Int), pos ≤ s.size ∧ wr = w.iter s pos ∧ v = .int .i64 m ∧ 0 ≤ m ∧ m ≤ n ∧ Hid (pos + Utf.cutAt m.toNat (s.data.toList.drop pos) = A)) (fun _ _ wr => s.size - wr.iterPos w.heap.size)
    case atStart => exact ⟨0, n, Nat.zero_le _, rfl, rfl, hnn, Int.le_refl _, H0⟩
    case round =>
      obtain ⟨pos, m, hpos, rfl, rfl, hm0, hmn, hk⟩ := hrel
      by_cases hp : pos < s.size
      · have hnx : ∀ ty, (Instr.next (.pointer (some ⟨w.heap.size, 0, none⟩)) true ty).run Tryd.prog (w.iter s pos) = _ := fun ty => run_next_any w s pos ty hp
        by_cases hz : m = 0
        · subst hz
          have hpa : pos = A := hk.out
          subst hpa
          go_wp2_with fail
          go_ret
          exact ⟨rfl, (Below.refl _ _).alloc (Nat.le_refl _) _⟩
        · have hwd := width_le s pos hp
          have hmp : 0 < m := by omega
          have hk' : Hid (pos + (Utf8.decode s pos).2 + Utf.cutAt (m - 1).toNat (s.data.toList.drop (pos + (Utf8.decode s pos).2)) = A) := by
            have h1 := hk.out
            rw [show m.toNat = (m - 1).toNat + 1 by omega, cutAt_pos s pos _ hp] at h1
            unfold Hid
            omega
          clear hz
          go_wp2_with fail
          go_roundw
          case rel => exact ⟨pos + (Utf8.decode s pos).2, m - 1, hwd.2, rfl, rfl, by omega, by omega, hk'⟩
          case measure =>
            simp
            omega
      · have hnx : ∀ ty, (Instr.next (.pointer (some ⟨w.heap.size, 0, none⟩)) true ty).run Tryd.prog (w.iter s pos) = _ := fun ty => run_next_end w s pos ty hp
        have hAs : A = s.size := by
          have h1 := hk.out
          rw [drop_all hp, Utf.cutAt_nil] at h1
          omega
        have hr : s.extract 0 A = s := by rw [hAs]; exact extract_all s
        have HR := hid hr
        clear hr hAs
        go_wp2_with fail
        go_ret
        exact ⟨ret_str HR.out.symm, (Below.refl _ _).alloc (Nat.le_refl _) _⟩

end Go.Proofs.YtaniahkagmjkoaaDoor
