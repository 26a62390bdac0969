/-
  Walks of layer 1: runes counted and cut.
-/
import Derived.Test.YtaniahkagmjkoaaDoorB2
import Derived.Laws.RangeAny
namespace Go.Proofs.YtaniahkagmjkoaaDoor
open Go.RowKit Go.Proofs

theorem width_le (s : ByteArray) (pos : Nat) (h : pos < s.size) : 1 ≤ (Utf8.decode s pos).2 ∧ pos + (Utf8.decode s pos).2 ≤ s.size := by
  rw [Utf.decode_eq]
  have hne : s.data.toList.drop pos ≠ [] := by
    intro e
    have := congrArg List.length e
    rw [List.length_drop, List.length_nil, ← Utf.size_eq] at this
    omega
  have h1 := Utf.dec_width (s.data.toList.drop pos)
  have h2 := Utf.dec_le _ hne
  rw [List.length_drop, ← Utf.size_eq] at h2
  omega
theorem drop_ne {s : ByteArray} {pos : Nat} (h : pos < s.size) : s.data.toList.drop pos ≠ [] := by
  intro e
  have := congrArg List.length e
  rw [List.length_drop, List.length_nil, ← Utf.size_eq] at this
  omega
theorem drop_all {s : ByteArray} {pos : Nat} (h : ¬ pos < s.size) : s.data.toList.drop pos = [] :=
  List.drop_eq_nil_of_le (by rw [← Utf.size_eq]; omega)
theorem count_pos (s : ByteArray) (pos : Nat) (h : pos < s.size) : Utf.count (s.data.toList.drop pos) = 1 + Utf.count (s.data.toList.drop (pos + (Utf8.decode s pos).2)) := by
  rw [Utf.count_step (drop_ne h), ← Utf.decode_eq, List.drop_drop]

set_option maxRecDepth 100000 in
theorem count_any (s : ByteArray) (w : World) (hs : s.size ≤ 140737488355328) :
    Calls Tryd.prog 53 #[.string s] w fun e w' => e = .returned (.int .i64 (Utf.count s.data.toList)) ∧ Below w.heap.size w w' := by
  have hcb := Utf.count_le s.data.toList.length s.data.toList (Nat.le_refl _)
  rw [← Utf.size_eq] at hcb
  have HS : Hid (s.data.toList.length = s.size) := (Utf.size_eq s).symm
  obtain ⟨N, hN⟩ : ∃ N, Utf.count s.data.toList = N := ⟨_, rfl⟩
  rw [hN] at hcb ⊢
  have HN := hid hN
  clear hN
  go_enter Tryd.func53, Tryd.ntmps53
  go_wp2_with fail
  go_loopw [3] (fun n wr => ∃ (pos k : Nat), pos ≤ s.size ∧ wr = w.iter s pos ∧ n = .int .i64 k ∧ k ≤ N ∧ Hid (k + Utf.count (s.data.toList.drop pos) = N)) (fun _ wr => s.size - wr.iterPos w.heap.size)
  case atStart => exact ⟨0, 0, Nat.zero_le _, rfl, rfl, Nat.zero_le _, by rw [List.drop_zero, HN.out]; exact Nat.zero_add _⟩
  case round =>
    obtain ⟨pos, k, hpos, rfl, rfl, hkN, hk⟩ := hrel
    by_cases hp : pos < s.size
    · have hnx : ∀ ty, (Instr.next (.pointer (some ⟨w.heap.size, 0, none⟩)) true ty).run Tryd.prog (w.iter s pos) = _ := fun ty => run_next_any w s pos ty hp
      have hwd := width_le s pos hp
      have hkl : k + 1 ≤ N := by
        have := hk.out
        rw [count_pos s pos hp] at this
        omega
      go_wp2_with fail
      go_roundw
      case rel => exact ⟨pos + (Utf8.decode s pos).2, k + 1, hwd.2, rfl, by go_num, hkl, by have := hk.out; rw [count_pos s pos hp] at this; unfold Hid; omega⟩
      case measure =>
        simp
        omega
    · have hnx : ∀ ty, (Instr.next (.pointer (some ⟨w.heap.size, 0, none⟩)) true ty).run Tryd.prog (w.iter s pos) = _ := fun ty => run_next_end w s pos ty hp
      go_wp2_with fail
      go_ret
      have e : k = N := by
        have := hk.out
        rw [drop_all hp, Utf.count_nil] at this
        omega
      subst e
      exact ⟨rfl, (Below.refl _ _).alloc (Nat.le_refl _) _⟩

/-- The length of the text in a slot: for a loop's measure. -/
def strLen : Value → Nat | .string t => t.size | _ => 0

theorem t_size {s t : ByteArray} {pos : Nat} (h : t.data.toList = s.data.toList.drop pos) : t.size = s.size - pos := by
  rw [Utf.size_eq, h, List.length_drop, ← Utf.size_eq]
theorem isEmpty_of_pos {t : ByteArray} (h : 0 < t.size) : t.toList.isEmpty = false := by
  rw [isEmpty_iff]
  apply decide_eq_false
  intro e
  rw [Utf.size_eq, e] at h
  exact absurd h (Nat.lt_irrefl 0)
theorem isEmpty_of_zero {t : ByteArray} (h : ¬ 0 < t.size) : t.toList.isEmpty = true := by
  rw [isEmpty_iff]
  apply decide_eq_true
  apply List.eq_nil_of_length_eq_zero
  rw [← Utf.size_eq]
  omega
theorem dec0_le {t : ByteArray} (h : 0 < t.size) : 1 ≤ (dec0 t.data.toList).2 ∧ (dec0 t.data.toList).2 ≤ t.size := by
  have hne : t.data.toList ≠ [] := by
    intro e
    rw [Utf.size_eq, e] at h
    exact absurd h (Nat.lt_irrefl 0)
  rw [dec0_ne hne]
  exact ⟨(Utf.dec_width _).1, by rw [Utf.size_eq]; exact Utf.dec_le _ hne⟩
theorem count_dec0 {t : ByteArray} (h : 0 < t.size) : Utf.count t.data.toList = 1 + Utf.count (t.data.toList.drop (dec0 t.data.toList).2) := by
  have hne : t.data.toList ≠ [] := by
    intro e
    rw [Utf.size_eq, e] at h
    exact absurd h (Nat.lt_irrefl 0)
  rw [Utf.count_step hne, dec0_ne hne]
theorem extract_drop (t : ByteArray) (k : Nat) : (t.extract k t.size).data.toList = t.data.toList.drop k := by
  rw [Lib.extract_data]
  exact List.take_of_length_le (by rw [List.length_drop, ← Utf.size_eq]; omega)

end Go.Proofs.YtaniahkagmjkoaaDoor
