/-
  Walks of layer 1: Cut, Fill, Width.
-/
import Derived.Test.YtfbekjgbijlcaaaDoorB3
namespace Go.Proofs.YtfbekjgbijlcaaaDoor
open Go.RowKit Go.Proofs

/-- The first n runes of a text (n below 0: all). -/
def cutS (s : ByteArray) (n : Int) : ByteArray := if n < 0 then s else s.extract 0 (Utf.cutAt n.toNat s.data.toList)
theorem extract_all (s : ByteArray) : s.extract 0 s.size = s := by simp
theorem cutAt_zero (l : List UInt8) : Utf.cutAt 0 l = 0 := rfl
theorem cutAt_pos (s : ByteArray) (pos m : Nat) (h : pos < s.size) : Utf.cutAt (m + 1) (s.data.toList.drop pos) = (Utf8.decode s pos).2 + Utf.cutAt m (s.data.toList.drop (pos + (Utf8.decode s pos).2)) := by
  rw [Utf.cutAt_step (drop_ne h), ← Utf.decode_eq, List.drop_drop]

set_option maxRecDepth 100000 in
theorem cut_any (s : ByteArray) (n : Int) (w : World) (_hs : s.size ≤ 140737488355328) (hn0 : -9223372036854775808 ≤ n) (hn1 : n ≤ 9223372036854775807) :
    Calls Tryd.prog 35 #[.string s, .int .i64 n] w fun e w' => e = .returned (.string (cutS s n)) ∧ Below w.heap.size w w' := by
  by_cases hneg : n < 0
  · have hr : cutS s n = s := by unfold cutS; rw [if_pos hneg]
    rw [hr]
    clear hr
    go_enter Tryd.func35, Tryd.ntmps35
    go_wp2_with fail
    go_ret
    exact ⟨rfl, Below.refl _ _⟩
  · have hnn : 0 ≤ n := by omega
    have hr : cutS s n = s.extract 0 (Utf.cutAt n.toNat s.data.toList) := by unfold cutS; rw [if_neg hneg]
    rw [hr]
    clear hr
    obtain ⟨A, hA⟩ : ∃ A, Utf.cutAt n.toNat s.data.toList = A := ⟨_, rfl⟩
    rw [hA]
    have HA := hid hA
    clear hA hneg
    have H0 : Hid (0 + Utf.cutAt n.toNat (s.data.toList.drop 0) = A) := by rw [List.drop_zero, HA.out]; exact Nat.zero_add _
    go_enter Tryd.func35, Tryd.ntmps35
    go_wp2_with fail
    go_loopw [1, 5] (fun v _ wr => ∃ (pos : Nat) (m : Int), pos ≤ s.size ∧ wr = w.iter s pos ∧ v = .int .i64 m ∧ 0 ≤ m ∧ m ≤ n ∧ Hid (pos + Utf.cutAt m.toNat (s.data.toList.drop pos) = A)) (fun _ _ wr => s.size - wr.iterPos w.heap.size)
    case atStart => exact ⟨0, n, Nat.zero_le _, rfl, rfl, hnn, Int.le_refl _, H0⟩
    case round =>
      obtain ⟨pos, m, hpos, rfl, rfl, hm0, hmn, hk⟩ := hrel
      by_cases hp : pos < s.size
      · have hnx : ∀ ty, (Instr.next (.pointer (some ⟨w.heap.size, 0, none⟩)) true ty).run Tryd.prog (w.iter s pos) = _ := fun ty => run_next_any w s pos ty hp
        by_cases hz : m = 0
        · subst hz
          have hpa : pos = A := hk.out
          subst hpa
          go_wp2_with fail
          go_ret
          exact ⟨rfl, (Below.refl _ _).alloc (Nat.le_refl _) _⟩
        · have hwd := width_le s pos hp
          have hmp : 0 < m := by omega
          have hk' : Hid (pos + (Utf8.decode s pos).2 + Utf.cutAt (m - 1).toNat (s.data.toList.drop (pos + (Utf8.decode s pos).2)) = A) := by
            have h1 := hk.out
            rw [show m.toNat = (m - 1).toNat + 1 by omega, cutAt_pos s pos _ hp] at h1
            unfold Hid
            omega
          clear hz
          go_wp2_with fail
          go_roundw
          case rel => exact ⟨pos + (Utf8.decode s pos).2, m - 1, hwd.2, rfl, rfl, by omega, by omega, hk'⟩
          case measure =>
            simp
            omega
      · have hnx : ∀ ty, (Instr.next (.pointer (some ⟨w.heap.size, 0, none⟩)) true ty).run Tryd.prog (w.iter s pos) = _ := fun ty => run_next_end w s pos ty hp
        have hAs : A = s.size := by
          have h1 := hk.out
          rw [drop_all hp, Utf.cutAt_nil] at h1
          omega
        have hr : s.extract 0 A = s := by rw [hAs]; exact extract_all s
        have HR := hid hr
        clear hr hAs
        go_wp2_with fail
        go_ret
        exact ⟨ret_str HR.out.symm, (Below.refl _ _).alloc (Nat.le_refl _) _⟩

set_option maxRecDepth 100000 in
set_option maxHeartbeats 400000 in
theorem refcut_any (s : ByteArray) (n : Int) (w : World) (hs : s.size ≤ 140737488355328) (hn0 : -9223372036854775808 ≤ n) (hn1 : n ≤ 9223372036854775807) :
    Calls Tryd.prog 37 #[.string s, .int .i64 n] w fun e w' => e = .returned (.string (cutS s n)) ∧ Below w.heap.size w w' := by
  by_cases hneg : n < 0
  · have hr : cutS s n = s := by unfold cutS; rw [if_pos hneg]
    rw [hr]
    clear hr
    go_enter Tryd.func37, Tryd.ntmps37
    go_wp2_with fail
    go_ret
    exact ⟨rfl, Below.refl _ _⟩
  · have hnn : 0 ≤ n := by omega
    have hr : cutS s n = s.extract 0 (Utf.cutAt n.toNat s.data.toList) := by unfold cutS; rw [if_neg hneg]
    rw [hr]
    clear hr
    obtain ⟨A, hA⟩ : ∃ A, Utf.cutAt n.toNat s.data.toList = A := ⟨_, rfl⟩
    rw [hA]
    have HA := hid hA
    clear hA hneg
    have H0 : Hid (0 + Utf.cutAt (n - 0).toNat (s.data.toList.drop 0) = A) := by rw [List.drop_zero, show n - 0 = n by omega, HA.out]; exact Nat.zero_add _
    go_enter Tryd.func37, Tryd.ntmps37
    go_wp2_with fail
    go_loopw [5, 6, 7, 8, 9] (fun a k _ _ _ wr => ∃ (pos : Nat) (m : Int), pos ≤ s.size ∧ a = .int .i64 pos ∧ k = .int .i64 m ∧ 0 ≤ m ∧ m ≤ n ∧ Below w.heap.size w wr ∧ Hid (pos + Utf.cutAt (n - m).toNat (s.data.toList.drop pos) = A)) (fun a _ _ _ _ _ => s.size - (intOf a).toNat)
    case atStart => exact ⟨0, 0, Nat.zero_le _, rfl, rfl, by omega, hnn, Below.refl _ _, H0⟩
    case round =>
      obtain ⟨pos, m, hpos, rfl, rfl, hm0, hmn, hb, hk⟩ := hrel
      by_cases hlt : m < n
      · by_cases hp : pos < s.size
        · have ht : (s.extract pos s.size).data.toList = s.data.toList.drop pos := extract_drop s pos
          have htz : (s.extract pos s.size).size = s.size - pos := t_size ht
          have hD := refdecode_any (s.extract pos s.size) wr (by omega)
          have hd := dec0_le (t := s.extract pos s.size) (by omega)
          rw [htz] at hd
          have hne := drop_ne hp
          have hk' : Hid (pos + (dec0 (s.extract pos s.size).data.toList).2 + Utf.cutAt (n - (m + 1)).toNat (s.data.toList.drop (pos + (dec0 (s.extract pos s.size).data.toList).2)) = A) := by
            have h1 := hk.out
            rw [show (n - m).toNat = (n - (m + 1)).toNat + 1 by omega, Utf.cutAt_step hne, List.drop_drop] at h1
            rw [ht, dec0_ne hne]
            unfold Hid
            omega
          unfold Dec3 at hD
          obtain ⟨R, hR⟩ : ∃ R : Nat, (dec0 (s.extract pos s.size).data.toList).1 = R := ⟨_, rfl⟩
          obtain ⟨K, hK⟩ : ∃ K : Nat, (dec0 (s.extract pos s.size).data.toList).2 = K := ⟨_, rfl⟩
          rw [hR, hK] at hD
          rw [hK] at hd hk'
          have HD := hid hD
          obtain ⟨hK1, hK2⟩ := hd
          clear hD hR hK ht htz hne
          go_wp2_with (go_at_call 48; refine HD.out.mono ?_; rintro e w' ⟨rfl, hb2⟩)
          go_roundw
          case rel => exact ⟨pos + K, m + 1, by omega, by go_num, rfl, by omega, by omega, hb.trans (hb2.mono hb.size), hk'⟩
          case measure => simp [intOf]; omega
        · have hps : pos = s.size := by omega
          subst hps
          have hA1 : s.size = A := by
            have h1 := hk.out
            rw [drop_all hp, Utf.cutAt_nil] at h1
            omega
          subst hA1
          clear hp
          go_wp2_with fail
          go_ret
          exact ⟨ret_str (extract_all s).symm, hb⟩
      · have e : m = n := by omega
        subst e
        have hA1 : pos = A := by
          have h1 := hk.out
          rw [show (m - m).toNat = 0 by omega, cutAt_zero] at h1
          exact h1
        subst hA1
        clear hlt
        go_wp2_with fail
        go_ret
        exact ⟨rfl, hb⟩
end Go.Proofs.YtfbekjgbijlcaaaDoor
