/-
  Plain laws of layer 10: what is read ends in ')'; what is none.
-/
import Derived.Test.YteifnddblnaepaaDoorD6
namespace Go.Proofs.YteifnddblnaepaaDoor
open Go.RowKit Go.Proofs

theorem trimP_suffix (l p : List UInt8) : Lib.trimPrefix l p <:+ l := by
  unfold Lib.trimPrefix
  split
  · exact List.drop_suffix _ _
  · exact List.suffix_refl _
theorem suffix_last {x l : List UInt8} (h : x <:+ l) (hs : Lib.hasSuffix x [41] = true) : ∃ t, l = t ++ [41] := by
  unfold Lib.hasSuffix at hs
  obtain ⟨t, ht⟩ := (List.isSuffixOf_iff_suffix.1 hs).trans h
  exact ⟨t, ht.symm⟩
/-- What is read ends in ')'. -/
theorem readA_end (l : List UInt8) (h : (readA l).1 ≠ 0) : ∃ t, l = t ++ [41] := by
  unfold readA at h
  split at h
  · split at h
    · split at h
      · rename_i h1
        exact suffix_last ((trimP_suffix _ _).trans (List.drop_suffix _ _)) h1.1
      · exact absurd rfl h
    · split at h
      · exact absurd rfl h
      · split at h
        · rename_i h1
          exact suffix_last ((trimP_suffix _ _).trans ((List.drop_suffix _ _).trans (List.drop_suffix _ _))) h1.2.1
        · exact absurd rfl h
  · exact absurd rfl h
theorem readA_none (l : List UInt8) (h : (readA l).1 = 0) : readA l = (0, 0, []) := by
  unfold readA at h ⊢
  split
  · rename_i h1
    rw [if_pos h1] at h
    split
    · rename_i h2
      rw [if_pos h2] at h
      split
      · rename_i h3
        rw [if_pos h3] at h
        exact absurd h h3.2
      · rfl
    · rename_i h2
      rw [if_neg h2] at h
      split
      · rfl
      · rename_i h3
        rw [if_neg h3] at h
        split
        · rename_i h4
          rw [if_pos h4] at h
          exact absurd h h4.2.2
        · rfl
  · rfl
/-- The value of a reading. -/
theorem readV_none (l : List UInt8) (h : (readA l).1 = 0) : readV l = .tuple #[.int .i64 0, .int .i32 0, .string ⟨#[]⟩] := by
  unfold readV
  rw [readA_none l h]
  rfl
theorem readV_x (l : List UInt8) : readV (120 :: l) = .tuple #[.int .i64 0, .int .i32 0, .string ⟨#[]⟩] := by
  refine readV_none _ ?_
  unfold readA
  rw [if_neg (by simp [Lib.hasPrefix])]
theorem bt_last {s : ByteArray} {t : List UInt8} (m : Nat) (h : (s.extract 0 m).data.toList = t ++ [41]) (hm : m ≤ s.size) : 0 < m ∧ bt s (m - 1) = 41 := by
  rw [Lib.extract_data, List.drop_zero] at h
  have hl := congrArg List.length h
  rw [List.length_take, List.length_append, ← Utf.size_eq] at hl
  simp only [List.length_cons, List.length_nil] at hl
  have hm1 : m = t.length + 1 := by omega
  refine ⟨by omega, ?_⟩
  unfold bt
  have := congrArg (fun l => l[m - 1]?.getD 0) h
  rw [List.getElem?_take_of_lt (by omega)] at this
  rw [this, hm1]
  simp

end Go.Proofs.YteifnddblnaepaaDoor
