/-
  Plain law of layer 10: the program's Read and the document's say the same.
-/
import Derived.Test.YteifnddblnaepaaDoorD10
namespace Go.Proofs.YteifnddblnaepaaDoor
open Go.RowKit Go.Proofs

theorem hp_two (l : List UInt8) : Lib.hasPrefix l [37, 33] = true ↔ ∃ R, l = 37 :: 33 :: R := by
  unfold Lib.hasPrefix
  rw [List.isPrefixOf_iff_prefix]
  constructor
  · rintro ⟨R, rfl⟩
    exact ⟨R, rfl⟩
  · rintro ⟨R, rfl⟩
    exact ⟨R, rfl⟩
theorem hp_one (l : List UInt8) (x : UInt8) : Lib.hasPrefix l [x] = true ↔ ∃ R, l = x :: R := by
  unfold Lib.hasPrefix
  rw [List.isPrefixOf_iff_prefix]
  constructor
  · rintro ⟨R, rfl⟩
    exact ⟨R, rfl⟩
  · rintro ⟨R, rfl⟩
    exact ⟨R, rfl⟩
theorem trimP_one (x : UInt8) (R : List UInt8) : Lib.trimPrefix (x :: R) [x] = R := by
  unfold Lib.trimPrefix
  rw [if_pos ((hp_one _ _).2 ⟨R, rfl⟩)]
  rfl
theorem hs_one (l : List UInt8) : Lib.hasSuffix l [41] = true ↔ ∃ t, l = t ++ [41] := by
  unfold Lib.hasSuffix
  rw [List.isSuffixOf_iff_suffix]
  constructor
  · rintro ⟨t, rfl⟩
    exact ⟨t, rfl⟩
  · rintro ⟨t, rfl⟩
    exact ⟨t, rfl⟩
theorem trimS_one (t : List UInt8) : Lib.trimSuffix (t ++ [41]) [41] = t := by
  unfold Lib.trimSuffix
  rw [if_pos ((hs_one _).2 ⟨t, rfl⟩)]
  simp
theorem last_snoc (t : List UInt8) (x : UInt8) : (t ++ [x])[(t ++ [x]).length - 1]?.getD 0 = x := by simp
theorem last_41 {l : List UInt8} (h : l[l.length - 1]?.getD 0 = 41) : ∃ t, l = t ++ [41] := by
  by_cases hl : l = []
  · subst hl; simp at h
  · refine ⟨l.dropLast, ?_⟩
    have h1 := List.dropLast_concat_getLast hl
    have h2 : l.getLast hl = 41 := by
      rw [List.getLast_eq_getElem]
      have hlt : l.length - 1 < l.length := by have := List.length_pos_iff.2 hl; omega
      rw [List.getElem?_eq_getElem hlt] at h
      exact h
    rw [h2] at h1
    exact h1.symm
/-- A tail that is not empty ends as the whole does. -/
theorem tail_last {Y t : List UInt8} {pre : List UInt8} (h : pre ++ Y = t ++ [41]) (hY : Y ≠ []) : ∃ u, Y = u ++ [41] := by
  have h1 := List.dropLast_concat_getLast hY
  have h2 : Y.getLast hY = 41 := by
    have e := congrArg (fun l => l.getLast?) h
    simp only [List.getLast?_append, List.getLast?_singleton, Option.some_or] at e
    rw [List.getLast?_eq_some_getLast hY, Option.some_or] at e
    exact Option.some.inj e
  rw [h2] at h1
  exact ⟨Y.dropLast, h1.symm⟩
theorem readB_eq (l : List UInt8) : readA l = readB l := by
  by_cases h1 : Lib.hasPrefix l [37, 33] = true
  · obtain ⟨R, rfl⟩ := (hp_two l).1 h1
    have hd2 : (37 :: 33 :: R).drop 2 = R := rfl
    by_cases hlast : (37 :: 33 :: R)[(37 :: 33 :: R).length - 1]?.getD 0 = (41 : UInt8)
    · obtain ⟨t, ht⟩ := last_41 hlast
      by_cases hn : (37 :: 33 :: R).length < 4
      · -- too short
        have hA : (readA (37 :: 33 :: R)).1 = 0 := by
          simp only [List.length_cons] at hn
          rcases R with _ | ⟨a, _ | ⟨b, R⟩⟩
          · simp at hlast
          · simp only [List.length_cons, List.length_nil] at hlast
            have ha : a = 41 := by simpa using hlast
            subst ha
            decide
          · simp only [List.length_cons] at hn; omega
        rw [readA_none _ hA]
        unfold readB
        rw [if_pos (Or.inl hn)]
      · have hnot : ¬ ((37 :: 33 :: R).length < 4 ∨ Lib.hasPrefix (37 :: 33 :: R) [37, 33] = false ∨ ¬ (37 :: 33 :: R)[(37 :: 33 :: R).length - 1]?.getD 0 = (41 : UInt8)) := by
          rintro (h | h | h)
          · exact hn h
          · rw [h1] at h; cases h
          · exact h hlast
        unfold readA readB
        conv => lhs; rw [if_pos h1]
        conv => rhs; rw [if_neg hnot]
        rw [hd2]
        clear hnot
        rcases R with _ | ⟨a, _ | ⟨b, R⟩⟩
        · simp at hn
        · simp at hn
        · have hg2 : (37 :: 33 :: a :: b :: R)[2]?.getD 0 = a := rfl
          have hg3 : (37 :: 33 :: a :: b :: R)[3]?.getD 0 = b := rfl
          have hd3 : (37 :: 33 :: a :: b :: R).drop 3 = b :: R := rfl
          rw [hg2, hg3, hd3]
          obtain ⟨u, hu⟩ := tail_last (pre := [37, 33, a]) (Y := b :: R) ht (by simp)
          by_cases hc : a = 40 ∧ ¬ b = 40
          · obtain ⟨rfl, hb⟩ := hc
            have e1 : Lib.hasPrefix (40 :: b :: R) [40] = true := (hp_one _ _).2 ⟨_, rfl⟩
            have e2 : Lib.hasPrefix (b :: R) [40] = false := by
              rw [Bool.eq_false_iff]
              intro h
              obtain ⟨S, hS⟩ := (hp_one _ _).1 h
              exact hb (List.cons.inj hS).1
            have eT := trimP_one 40 (b :: R)
            conv => lhs; rw [eT, if_pos ⟨e1, e2⟩]
            conv => rhs; rw [if_pos ⟨rfl, hb⟩]
            have e3 : Lib.hasSuffix (b :: R) [41] = true := (hs_one _).2 ⟨u, hu⟩
            have e4 : (b :: R).take ((37 :: 33 :: 40 :: b :: R).length - 1 - 3) = u := by
              have : (37 :: 33 :: 40 :: b :: R).length - 1 - 3 = u.length := by
                have := congrArg List.length hu
                simp only [List.length_append, List.length_cons, List.length_nil] at this ⊢
                omega
              rw [this, hu]
              simp
            have e5 : Lib.trimSuffix (b :: R) [41] = u := by rw [hu, trimS_one]
            rw [e4, e5]
            by_cases hk : bareP u = 0
            · conv => lhs; rw [if_neg (fun h => h.2 hk)]
              conv => rhs; rw [if_neg (fun h => h hk)]
            · conv => lhs; rw [if_pos ⟨e3, hk⟩]
              conv => rhs; rw [if_pos hk]
          · have hnA : ¬ (Lib.hasPrefix (a :: b :: R) [40] = true ∧ Lib.hasPrefix (Lib.trimPrefix (a :: b :: R) [40]) [40] = false) := by
              rintro ⟨h, h'⟩
              obtain ⟨S, hS⟩ := (hp_one _ _).1 h
              obtain ⟨rfl, rfl⟩ := List.cons.inj hS
              rw [trimP_one] at h'
              refine hc ⟨rfl, fun hb => ?_⟩
              rw [hb, (hp_one (40 :: R) 40).2 ⟨_, rfl⟩] at h'
              cases h'
            conv => lhs; rw [if_neg hnA]
            conv => rhs; rw [if_neg hc]
            clear hnA hc
            have hne : (a :: b :: R) ≠ [] := by simp
            have hdw := Utf.dec_width (a :: b :: R)
            have hdl := Utf.dec_le _ hne
            have hd0 : dec0 (a :: b :: R) = Utf.decL (a :: b :: R) := dec0_ne hne
            have hBr : Utf.Broken (a :: b :: R) ↔ Utf.decL (a :: b :: R) = (65533, 1) := Iff.rfl
            rw [hd0]
            obtain ⟨⟨c, k⟩, hdc⟩ : ∃ q : Nat × Nat, Utf.decL (a :: b :: R) = q := ⟨_, rfl⟩
            rw [hdc] at hdw hdl hBr ⊢
            simp only at hdw hdl ⊢
            by_cases hbr : Utf.Broken (a :: b :: R)
            · have hck := hBr.1 hbr
              obtain ⟨rfl, rfl⟩ := Prod.mk.inj hck
              conv => lhs; rw [if_pos (Or.inr ⟨rfl, rfl⟩)]
              conv => rhs; rw [if_pos (Or.inl hbr)]
            · have hno : ¬ (k = 0 ∨ c = 65533 ∧ k = 1) := by
                rintro (h | ⟨h, h'⟩)
                · omega
                · exact hbr (hBr.2 (by rw [h, h']))
              conv => lhs; rw [if_neg hno]
              have hXl : ((a :: b :: R).drop k).length + k = R.length + 2 := by
                rw [List.length_drop]
                simp only [List.length_cons] at hdl ⊢
                omega
              have hX2 : (37 :: 33 :: a :: b :: R)[2 + k]?.getD 0 = ((a :: b :: R).drop k)[0]?.getD 0 := by
                rw [List.getElem?_drop, Nat.add_comm 2 k]
                rfl
              have hX3 : (37 :: 33 :: a :: b :: R).drop (3 + k) = ((a :: b :: R).drop k).drop 1 := by
                rw [List.drop_drop, show 3 + k = (k + 1) + 2 by omega]
                rfl
              have hXe : ∃ u, (37 :: 33 :: (a :: b :: R).take k) ++ (a :: b :: R).drop k = u ++ [41] := ⟨t, by
                rw [← ht]
                simp only [List.cons_append, List.take_append_drop]⟩
              rw [hX2, hX3]
              have hlen : (37 :: 33 :: a :: b :: R).length = ((a :: b :: R).drop k).length + k + 2 := by
                rw [hXl]
                simp only [List.length_cons]
              rw [hlen]
              obtain ⟨X, hX⟩ : ∃ X, (a :: b :: R).drop k = X := ⟨_, rfl⟩
              obtain ⟨pre, hpre⟩ : ∃ pre, 37 :: 33 :: (a :: b :: R).take k = pre := ⟨_, rfl⟩
              rw [hX, hpre] at hXe
              rw [hX]
              obtain ⟨u, hXe⟩ := hXe
              clear hX hpre hX2 hX3 hXl hlen hdl hdw hBr hdc hd0 hno ht hu hlast hg2 hg3 hd3 hd2 h1 hn hne
              rcases X with _ | ⟨x, Y⟩
              · conv => lhs; rw [if_neg (fun h => by have := h.1; simp [Lib.hasPrefix] at this)]
                conv => rhs; rw [if_pos (Or.inr (Or.inl (by simp only [List.length_nil]; omega)))]
              · by_cases hx : x = 40
                · subst hx
                  have eT := trimP_one 40 Y
                  have eP : Lib.hasPrefix (40 :: Y) [40] = true := (hp_one _ _).2 ⟨_, rfl⟩
                  rw [eT]
                  by_cases hY : Y = []
                  · subst hY
                    conv => lhs; rw [if_neg (fun h => by have := h.2.1; simp [Lib.hasSuffix] at this)]
                    conv => rhs; rw [if_pos (Or.inr (Or.inl (by simp only [List.length_cons, List.length_nil]; omega)))]
                  · obtain ⟨v, hv⟩ := tail_last (pre := pre ++ [40]) (Y := Y) (by rw [List.append_assoc]; exact hXe) hY
                    have eS : Lib.hasSuffix Y [41] = true := (hs_one _).2 ⟨v, hv⟩
                    have eU : Lib.trimSuffix Y [41] = v := by rw [hv, trimS_one]
                    have eL : Y.length = v.length + 1 := by rw [hv]; simp
                    have eV : ((40 :: Y).drop 1).take ((40 :: Y).length + k + 2 - 1 - (3 + k)) = v := by
                      rw [show (40 :: Y).length + k + 2 - 1 - (3 + k) = v.length by simp only [List.length_cons]; omega, hv]
                      simp
                    rw [eU, eV]
                    have hno2 : ¬ (Utf.Broken (a :: b :: R) ∨ (40 :: Y).length + k + 2 < 4 + k ∨ ¬ ((40 :: Y)[0]?.getD 0 = (40 : UInt8))) := by
                      rintro (h | h | h)
                      · exact hbr h
                      · simp only [List.length_cons] at h; omega
                      · exact h rfl
                    conv => rhs; rw [if_neg hno2]
                    by_cases hk : verbedP v = 0
                    · conv => lhs; rw [if_neg (fun h => h.2.2 hk)]
                      conv => rhs; rw [if_neg (fun h => h hk)]
                    · conv => lhs; rw [if_pos ⟨eP, eS, hk⟩]
                      conv => rhs; rw [if_pos hk]
                · conv => lhs; rw [if_neg (fun h => by
                    obtain ⟨S, hS⟩ := (hp_one _ _).1 h.1
                    exact hx (List.cons.inj hS).1)]
                  conv => rhs; rw [if_pos (Or.inr (Or.inr (by simpa using hx)))]
    · -- the last byte is no ')'
      have hA : (readA (37 :: 33 :: R)).1 = 0 := by
        by_cases h : (readA (37 :: 33 :: R)).1 = 0
        · exact h
        · obtain ⟨t, ht⟩ := readA_end _ h
          rw [ht] at hlast
          exact absurd (last_snoc t 41) hlast
      rw [readA_none _ hA]
      unfold readB
      rw [if_pos (Or.inr (Or.inr hlast))]
  · have hA : (readA l).1 = 0 := by unfold readA; rw [if_neg h1]
    rw [readA_none _ hA]
    unfold readB
    rw [if_pos (Or.inr (Or.inl (Bool.eq_false_iff.2 h1)))]
end Go.Proofs.YteifnddblnaepaaDoor
