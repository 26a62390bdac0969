/-
  Plain laws of layer 10: what was written is read back.
-/
import Derived.Test.YteifnddblnaepaaDoorD13
namespace Go.Proofs.YteifnddblnaepaaDoor
open Go.RowKit Go.Proofs

theorem encL_first {v : Int} {x : UInt8} {t : List UInt8} (hv : Utf8.valid v = true) (h : Utf.encL v = x :: t) (hx : x = 40) : v = 40 := by
  subst hx
  have hd := Utf.dec_enc v []
  rw [List.append_nil, h] at hd
  have h1 : Utf.decL (40 :: t) = (40, 1) := by
    unfold Utf.decL
    simp
  rw [h1] at hd
  have h2 := (Prod.mk.inj hd).1
  rw [← Utf.cp_of_valid hv, ← h2]
  rfl
/-- A text with a verb is read with its verb and its inside. -/
theorem readV_verb (v : Int) (J : ByteArray) (k : Int) (hv : Utf8.valid v = true) (hk : verbedP J.data.toList = k) (hk0 : ¬ k = 0) :
    readV (insS (Utf8.encode v) J).data.toList = .tuple #[.int .i64 k, .int .i32 v, .string J] := by
  have hl : (insS (Utf8.encode v) J).data.toList = 37 :: 33 :: (Utf.encL v ++ (40 :: (J.data.toList ++ [41]))) := by
    simp [insS, Utf.encL]
  rw [hl]
  have hne : Utf.encL v ++ (40 :: (J.data.toList ++ [41])) ≠ [] := by simp
  have hd : dec0 (Utf.encL v ++ (40 :: (J.data.toList ++ [41]))) = (Utf.cp v, (Utf.encL v).length) := by
    rw [dec0_ne hne, Utf.dec_enc]
  have hcp : ((Utf.cp v : Nat) : Int) = v := Utf.cp_of_valid hv
  have hA : readA (37 :: 33 :: (Utf.encL v ++ (40 :: (J.data.toList ++ [41])))) = (k, v, J.data.toList) := by
    unfold readA
    have e0 : (37 :: 33 :: (Utf.encL v ++ (40 :: (J.data.toList ++ [41])))).drop 2 = Utf.encL v ++ (40 :: (J.data.toList ++ [41])) := rfl
    rw [if_pos ((hp_two _).2 ⟨_, rfl⟩), e0, hd]
    have hnA : ¬ (Lib.hasPrefix (Utf.encL v ++ (40 :: (J.data.toList ++ [41]))) [40] = true ∧ Lib.hasPrefix (Lib.trimPrefix (Utf.encL v ++ (40 :: (J.data.toList ++ [41]))) [40]) [40] = false) := by
      rintro ⟨h, h'⟩
      obtain ⟨S, hS⟩ := (hp_one _ _).1 h
      have hp := Utf.encL_pos v
      cases hE : Utf.encL v with
      | nil => rw [hE] at hp; simp at hp
      | cons x t =>
        rw [hE] at hS h'
        have hx : x = 40 := (List.cons.inj hS).1
        have hv40 := encL_first hv hE hx
        have ht : t = [] := by
          rw [hv40] at hE
          exact ((List.cons.inj (hE.symm.trans (show Utf.encL 40 = [40] by decide))).2)
        rw [hx, ht] at h'
        rw [show ([40] : List UInt8) ++ (40 :: (J.data.toList ++ [41])) = 40 :: (40 :: (J.data.toList ++ [41])) from rfl, trimP_one, (hp_one _ _).2 ⟨_, rfl⟩] at h'
        cases h'
    have hno : ¬ ((Utf.encL v).length = 0 ∨ Utf.cp v = 65533 ∧ (Utf.encL v).length = 1) := by
      have hp := Utf.encL_pos v
      have hl := Utf.encL_len v
      rintro (h | ⟨h, h'⟩)
      · omega
      · rw [h, h'] at hl
        simp at hl
    have hX : (Utf.encL v ++ (40 :: (J.data.toList ++ [41]))).drop (Utf.encL v).length = 40 :: (J.data.toList ++ [41]) := by simp
    rw [if_neg hnA]
    simp only
    rw [if_neg hno, hX, trimP_one, trimS_one, hk, if_pos ⟨(hp_one _ _).2 ⟨_, rfl⟩, (hs_one _).2 ⟨_, rfl⟩, hk0⟩, hcp]
  unfold readV
  rw [hA]
  unfold tup3
  simp only [Lib.mk_data]
/-- A text of no verb. -/
theorem readV_bare (J : ByteArray) (k : Int) (hk : bareP J.data.toList = k) (hk0 : ¬ k = 0) (hJ : Lib.hasPrefix (J.data.toList ++ [41]) [40] = false) :
    readV (insS ⟨#[]⟩ J).data.toList = .tuple #[.int .i64 k, .int .i32 0, .string J] := by
  have hl : (insS ⟨#[]⟩ J).data.toList = 37 :: 33 :: 40 :: (J.data.toList ++ [41]) := by simp [insS]
  rw [hl]
  have hA : readA (37 :: 33 :: 40 :: (J.data.toList ++ [41])) = (k, 0, J.data.toList) := by
    unfold readA
    have e0 : (37 :: 33 :: 40 :: (J.data.toList ++ [41])).drop 2 = 40 :: (J.data.toList ++ [41]) := rfl
    rw [if_pos ((hp_two _).2 ⟨_, rfl⟩), e0, trimP_one, trimS_one, hk, if_pos ⟨(hp_one _ _).2 ⟨_, rfl⟩, hJ⟩, if_pos ⟨(hs_one _).2 ⟨_, rfl⟩, hk0⟩]
  unfold readV
  rw [hA]
  unfold tup3
  simp only [Lib.mk_data]
theorem contains_mid (a p b : List UInt8) : Lib.contains (a ++ p ++ b) p = true := by
  cases h : Lib.contains (a ++ p ++ b) p with
  | true => rfl
  | false =>
    exfalso
    unfold Lib.contains at h
    rcases Lib.index_spec (a ++ p ++ b) p with ⟨_, hn⟩ | ⟨i, h1, _⟩
    · have h1 := hn a.length (by simp)
      unfold Lib.occAt at h1
      rw [List.append_assoc, List.drop_left, Bool.eq_false_iff, Ne, List.isPrefixOf_iff_prefix] at h1
      exact h1 ⟨b, rfl⟩
    · have := of_decide_eq_false h
      omega
theorem panicJ_k (a b : ByteArray) : verbedP ((((⟨#[80, 65, 78, 73, 67, 61]⟩ : ByteArray) ++ a) ++ (⟨#[32, 109, 101, 116, 104, 111, 100, 58, 32]⟩ : ByteArray)) ++ b).data.toList = 5 := by
  have hl : ((((⟨#[80, 65, 78, 73, 67, 61]⟩ : ByteArray) ++ a) ++ (⟨#[32, 109, 101, 116, 104, 111, 100, 58, 32]⟩ : ByteArray)) ++ b).data.toList = 80 :: 65 :: 78 :: 73 :: 67 :: 61 :: (a.data.toList ++ [32, 109, 101, 116, 104, 111, 100, 58, 32] ++ b.data.toList) := by simp
  have hl2 : 80 :: 65 :: 78 :: 73 :: 67 :: 61 :: (a.data.toList ++ [32, 109, 101, 116, 104, 111, 100, 58, 32] ++ b.data.toList) = ([80, 65, 78, 73, 67, 61] ++ a.data.toList) ++ [32, 109, 101, 116, 104, 111, 100, 58, 32] ++ b.data.toList := by simp
  rw [hl]
  unfold verbedP
  rw [if_neg (by intro e; cases e), if_neg (by intro e; cases e), if_neg (by intro e; cases e), if_pos]
  refine ⟨?_, ?_⟩
  · unfold Lib.hasPrefix
    rw [List.isPrefixOf_iff_prefix]
    exact ⟨_, rfl⟩
  · rw [hl2]
    exact contains_mid _ _ _
theorem verbJ_k (a b : ByteArray) (ha : a.size < 5 ∨ ¬ a.data.toList.take 5 = [80, 65, 78, 73, 67]) : verbedP ((a ++ (⟨#[61]⟩ : ByteArray)) ++ b).data.toList = 1 := by
  have hl : ((a ++ (⟨#[61]⟩ : ByteArray)) ++ b).data.toList = a.data.toList ++ [61] ++ b.data.toList := by simp
  rw [hl]
  have hmem : (61 : UInt8) ∈ a.data.toList ++ [61] ++ b.data.toList := by simp
  unfold verbedP
  rw [if_neg (by intro e; rw [e] at hmem; revert hmem; decide), if_neg (by intro e; rw [e] at hmem; revert hmem; decide), if_neg (by intro e; rw [e] at hmem; revert hmem; decide), if_neg, if_pos (contains_mid _ _ _)]
  rintro ⟨h, _⟩
  unfold Lib.hasPrefix at h
  rw [List.isPrefixOf_iff_prefix] at h
  obtain ⟨t, ht⟩ := h
  by_cases h5 : a.size < 5
  · rw [Utf.size_eq] at h5
    have e := congrArg (fun l => l[a.data.toList.length]?) ht
    simp only [List.append_assoc] at e
    rw [List.getElem?_append_right (l₁ := a.data.toList) (Nat.le_refl _), Nat.sub_self, List.getElem?_append_left (by simp only [List.length_cons, List.length_nil]; omega)] at e
    have e3 : ∀ n : Nat, n < 5 → ¬ ([80, 65, 78, 73, 67, 61] : List UInt8)[n]? = some 61 := by decide
    exact e3 _ h5 e
  · rcases ha with h | h
    · exact h5 h
    · refine h ?_
      rw [Utf.size_eq] at h5
      have e2 : (a.data.toList ++ [61] ++ b.data.toList).take 5 = a.data.toList.take 5 := by
        rw [List.append_assoc, List.take_append_of_le_length (by omega)]
      rw [← ht] at e2
      exact e2.symm
theorem extraJ_one (a b : ByteArray) : extraJ [a] [b] = (((⟨#[69, 88, 84, 82, 65, 32]⟩ : ByteArray) ++ a) ++ (⟨#[61]⟩ : ByteArray)) ++ b := by
  unfold extraJ
  rw [show pairL [a] [b] = [(a ++ (⟨#[61]⟩ : ByteArray)) ++ b] from rfl, joinS_one]
  refine dbytes_ext ?_
  simp
theorem extraJ_k (a b : ByteArray) : bareP (extraJ [a] [b]).data.toList = 10 ∧ Lib.hasPrefix ((extraJ [a] [b]).data.toList ++ [41]) [40] = false := by
  have hl : (extraJ [a] [b]).data.toList = 69 :: 88 :: 84 :: 82 :: 65 :: 32 :: (a.data.toList ++ (61 :: b.data.toList)) := by
    rw [extraJ_one]
    simp
  rw [hl]
  refine ⟨?_, rfl⟩
  unfold bareP
  rw [if_neg (by intro e; cases e), if_neg (by intro e; cases e), if_neg (by intro e; cases e), if_neg (by intro e; cases e), if_pos]
  unfold Lib.hasPrefix
  rw [List.isPrefixOf_iff_prefix]
  exact ⟨_, rfl⟩
end Go.Proofs.YteifnddblnaepaaDoor
