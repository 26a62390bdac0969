/-
  Walks of layer 10: the document's Read, of the verb '('.
-/
import Derived.Test.YteifnddblnaepaaDoorD10
namespace Go.Proofs.YteifnddblnaepaaDoor
open Go.RowKit Go.Proofs

set_option maxRecDepth 100000 in
set_option maxHeartbeats 4000000 in
theorem refread_two (s : ByteArray) (w : World) (hs : s.size ≤ 100000) (h4 : 4 ≤ s.size) (h1 : Lib.hasPrefix s.data.toList [37, 33] = true) (h2 : bt s (s.size - 1) = 41) (h3 : bt s 2 = 40) (h5 : bt s 3 = 40) :
    Calls Tryd.prog 15 #[.string s] w fun e w' => e = .returned (tup3 (readB s.data.toList)) ∧ Below w.heap.size w w' := by
  obtain ⟨r, hr⟩ : ∃ r, readB s.data.toList = r := ⟨_, rfl⟩
  rw [hr]
  unfold readB at hr
  have BE := hid (begins_any s ⟨#[37, 33]⟩ w)
  have E1 : Lib.hasPrefix s.data.toList (⟨#[37, 33]⟩ : ByteArray).data.toList = Lib.hasPrefix s.data.toList [37, 33] := rfl
  rw [E1] at BE
  clear E1
  have hcond : ¬ (s.data.toList.length < 4 ∨ Lib.hasPrefix s.data.toList [37, 33] = false ∨ ¬ s.data.toList[s.data.toList.length - 1]?.getD 0 = 41) := by
    rw [← Utf.size_eq, h1]
    rintro (h | h | h)
    · omega
    · cases h
    · exact h ((bt_iff s _ 41).1 h2)
  rw [if_neg hcond] at hr
  rw [h1] at BE
  obtain ⟨p, hp⟩ : ∃ p, s.size = p + 1 := ⟨s.size - 1, by omega⟩
  have hsub : (s.size : Int) - 1 = (p : Int) := by omega
  have hps : p < s.size := by omega
  have E0 := bt_at s p hps
  rw [show s.size - 1 = p by omega] at h2
  rw [h2] at E0
  have i2 : 2 < s.size := by omega
  have i3 : 3 < s.size := by omega
  have E2 := bt_at s 2 i2
  have E3 := bt_at s 3 i3
  rw [if_neg (fun h => h.2 ((bt_iff s 3 40).1 h5))] at hr
  rw [h3] at E2
  rw [h5] at E3
  have hR := drop_bytes s 2
  obtain ⟨R, hRR⟩ : ∃ R, s.extract 2 s.size = R := ⟨_, rfl⟩
  have hRz : R.size = s.size - 2 := by rw [← hRR, ByteArray.size_extract]; omega
  rw [hRR] at hR
  rw [← hR] at hr
  have DE := hid (refdecode_any R w (by omega))
  unfold Dec3 at DE
  obtain ⟨c, hcc⟩ : ∃ c, (dec0 R.data.toList).1 = c := ⟨_, rfl⟩
  obtain ⟨k, hkk⟩ : ∃ k, (dec0 R.data.toList).2 = k := ⟨_, rfl⟩
  have hk4 : k ≤ R.size := by rw [← hkk, Utf.size_eq]; exact dec0_lt _
  rw [hcc, hkk] at DE hr
  clear hcc hkk hR hcond h1 h2 hp h3 h5
  by_cases hb : Utf.Broken R.data.toList
  · rw [if_pos (Or.inl hb)] at hr
    subst hr
    rw [decide_eq_true hb] at DE
    clear hb
    go_enter Tryd.func15, Tryd.ntmps15
    go_wp2_with fail
    refine BE.out.mono ?_
    rintro e w' ⟨rfl, hw⟩
    subst hw
    go_wp2_with fail
    refine DE.out.mono ?_
    rintro e w1 ⟨rfl, hb⟩
    have HB := hid hb
    clear hb
    go_wp2_with fail
    go_ret3
    exact ⟨rfl, HB.out⟩
  · rw [decide_eq_false hb] at DE
    by_cases hk : s.size < 4 + k
    · rw [if_pos (Or.inr (Or.inl (by rw [← Utf.size_eq]; exact hk)))] at hr
      subst hr
      clear hb
      go_enter Tryd.func15, Tryd.ntmps15
      go_wp2_with fail
      refine BE.out.mono ?_
      rintro e w' ⟨rfl, hw⟩
      subst hw
      go_wp2_with fail
      refine DE.out.mono ?_
      rintro e w1 ⟨rfl, hb⟩
      have HB := hid hb
      clear hb
      go_wp2_with fail
      go_ret3
      exact ⟨rfl, HB.out⟩
    · have i6 : 2 + k < s.size := by omega
      have E6 := bt_at s (2 + k) i6
      obtain ⟨z, hz⟩ : ∃ z, bt s (2 + k) = z := ⟨_, rfl⟩
      by_cases hz4 : z = 40
      · rw [if_neg (by
          rintro (h | h | h)
          · exact hb h
          · rw [← Utf.size_eq] at h; exact hk h
          · exact h ((bt_iff s _ 40).1 (hz.trans hz4)))] at hr
        rw [hz, hz4] at E6
        have hI := mid_bytes s (3 + k)
        rw [show s.size - 1 = p by omega] at hI
        have hp3 : 3 + (k : Int) ≤ p := by omega
        obtain ⟨I, hII⟩ : ∃ I, s.extract (3 + k) p = I := ⟨_, rfl⟩
        have hIz : I.size ≤ 100000 := by rw [← hII, ByteArray.size_extract]; omega
        rw [hII] at hI
        rw [← hI] at hr
        have hJJ : (⟨I.data.toList.toArray⟩ : ByteArray) = I := Lib.mk_data I
        have e1 := beq_lit I [77, 73, 83, 83, 73, 78, 71]
        have e2 := beq_lit I [66, 65, 68, 73, 78, 68, 69, 88]
        have e3 := beq_lit I [60, 110, 105, 108, 62]
        have HP := hid (begins_any I ⟨#[80, 65, 78, 73, 67, 61]⟩)
        have HC := hid (fun W => has_any I ⟨#[32, 109, 101, 116, 104, 111, 100, 58, 32]⟩ W hIz)
        have HE := hid (fun W => has_any I ⟨#[61]⟩ W hIz)
        have F1 : Lib.hasPrefix I.data.toList (⟨#[80, 65, 78, 73, 67, 61]⟩ : ByteArray).data.toList = Lib.hasPrefix I.data.toList [80, 65, 78, 73, 67, 61] := rfl
        have F2 : Lib.contains I.data.toList (⟨#[32, 109, 101, 116, 104, 111, 100, 58, 32]⟩ : ByteArray).data.toList = Lib.contains I.data.toList [32, 109, 101, 116, 104, 111, 100, 58, 32] := rfl
        have F3 : Lib.contains I.data.toList (⟨#[61]⟩ : ByteArray).data.toList = Lib.contains I.data.toList [61] := rfl
        rw [F1] at HP
        rw [F2] at HC
        rw [F3] at HE
        have hk0 : (verbedP I.data.toList = 0 → r = (0, 0, [])) ∧ (¬ verbedP I.data.toList = 0 → r = (verbedP I.data.toList, (c : Int), I.data.toList)) := by
          constructor
          · intro h
            rw [if_neg (by simp [h])] at hr
            exact hr.symm
          · intro h
            rw [if_pos h] at hr
            exact hr.symm
        have HK := hid hk0
        clear hr hb hz hz4 hI hk0 F1 F2 F3
        by_cases q1 : I.data.toList = [77, 73, 83, 83, 73, 78, 71]
        · have hb : verbedP I.data.toList = 3 := by unfold verbedP; rw [if_pos q1]
          have hr := HK.out.2 (by rw [hb]; decide)
          rw [hb] at hr
          subst hr
          rw [show tup3 (3, (c : Int), I.data.toList) = .tuple #[.int .i64 3, .int .i32 (c : Int), .string I] by unfold tup3; simp only [hJJ]]
          rw [decide_eq_true q1] at e1
          clear hb HK q1 e2 e3
          go_enter Tryd.func15, Tryd.ntmps15
          go_wp2_with fail
          refine BE.out.mono ?_
          rintro e w' ⟨rfl, hw⟩
          subst hw
          go_wp2_with fail
          refine DE.out.mono ?_
          rintro e w1 ⟨rfl, hb⟩
          have HB := hid hb
          clear hb
          go_wp2_with fail
          go_ret3
          first
            | exact ⟨rfl, HB.out⟩
            | exact ⟨by rw [← hII]; rfl, HB.out⟩
        · rw [decide_eq_false q1] at e1
          by_cases q2 : I.data.toList = [66, 65, 68, 73, 78, 68, 69, 88]
          · have hb : verbedP I.data.toList = 4 := by unfold verbedP; rw [if_neg q1, if_pos q2]
            have hr := HK.out.2 (by rw [hb]; decide)
            rw [hb] at hr
            subst hr
            rw [show tup3 (4, (c : Int), I.data.toList) = .tuple #[.int .i64 4, .int .i32 (c : Int), .string I] by unfold tup3; simp only [hJJ]]
            rw [decide_eq_true q2] at e2
            clear hb HK q2 e3
            go_enter Tryd.func15, Tryd.ntmps15
            go_wp2_with fail
            refine BE.out.mono ?_
            rintro e w' ⟨rfl, hw⟩
            subst hw
            go_wp2_with fail
            refine DE.out.mono ?_
            rintro e w1 ⟨rfl, hb⟩
            have HB := hid hb
            clear hb
            go_wp2_with fail
            go_ret3
            first
              | exact ⟨rfl, HB.out⟩
              | exact ⟨by rw [← hII]; rfl, HB.out⟩
          · rw [decide_eq_false q2] at e2
            by_cases q3 : I.data.toList = [60, 110, 105, 108, 62]
            · have hb : verbedP I.data.toList = 2 := by unfold verbedP; rw [if_neg q1, if_neg q2, if_pos q3]
              have hr := HK.out.2 (by rw [hb]; decide)
              rw [hb] at hr
              subst hr
              rw [show tup3 (2, (c : Int), I.data.toList) = .tuple #[.int .i64 2, .int .i32 (c : Int), .string I] by unfold tup3; simp only [hJJ]]
              rw [decide_eq_true q3] at e3
              clear hb HK q3
              go_enter Tryd.func15, Tryd.ntmps15
              go_wp2_with fail
              refine BE.out.mono ?_
              rintro e w' ⟨rfl, hw⟩
              subst hw
              go_wp2_with fail
              refine DE.out.mono ?_
              rintro e w1 ⟨rfl, hb⟩
              have HB := hid hb
              clear hb
              go_wp2_with fail
              go_ret3
              first
                | exact ⟨rfl, HB.out⟩
                | exact ⟨by rw [← hII]; rfl, HB.out⟩
            · rw [decide_eq_false q3] at e3
              by_cases q4 : Lib.hasPrefix I.data.toList [80, 65, 78, 73, 67, 61] = true
              · rw [q4] at HP
                by_cases q5 : Lib.contains I.data.toList [32, 109, 101, 116, 104, 111, 100, 58, 32] = true
                · have hb : verbedP I.data.toList = 5 := by unfold verbedP; rw [if_neg q1, if_neg q2, if_neg q3, if_pos ⟨q4, q5⟩]
                  have hr := HK.out.2 (by rw [hb]; decide)
                  rw [hb] at hr
                  subst hr
                  rw [show tup3 (5, (c : Int), I.data.toList) = .tuple #[.int .i64 5, .int .i32 (c : Int), .string I] by unfold tup3; simp only [hJJ]]
                  rw [q5] at HC
                  clear hb HK q1 q2 q3 q4 q5
                  go_enter Tryd.func15, Tryd.ntmps15
                  go_wp2_with fail
                  refine BE.out.mono ?_
                  rintro e w' ⟨rfl, hw⟩
                  subst hw
                  go_wp2_with fail
                  refine DE.out.mono ?_
                  rintro e w1 ⟨rfl, hb⟩
                  have HB := hid hb
                  clear hb
                  go_wp2_with fail
                  refine (HP.out _).mono ?_
                  rintro e w' ⟨rfl, hw⟩
                  subst hw
                  go_wp2_with fail
                  refine (HC.out _).mono ?_
                  rintro e w' ⟨rfl, hw⟩
                  subst hw
                  go_wp2_with fail
                  go_ret3
                  first
                    | exact ⟨rfl, HB.out⟩
                    | exact ⟨by rw [← hII]; rfl, HB.out⟩
                · rw [Bool.eq_false_iff.2 q5] at HC
                  by_cases q6 : Lib.contains I.data.toList [61] = true
                  · have hb : verbedP I.data.toList = 1 := by unfold verbedP; rw [if_neg q1, if_neg q2, if_neg q3, if_neg (fun h => q5 h.2), if_pos q6]
                    have hr := HK.out.2 (by rw [hb]; decide)
                    rw [hb] at hr
                    subst hr
                    rw [show tup3 (1, (c : Int), I.data.toList) = .tuple #[.int .i64 1, .int .i32 (c : Int), .string I] by unfold tup3; simp only [hJJ]]
                    rw [q6] at HE
                    clear hb HK q1 q2 q3 q4 q5 q6
                    go_enter Tryd.func15, Tryd.ntmps15
                    go_wp2_with fail
                    refine BE.out.mono ?_
                    rintro e w' ⟨rfl, hw⟩
                    subst hw
                    go_wp2_with fail
                    refine DE.out.mono ?_
                    rintro e w1 ⟨rfl, hb⟩
                    have HB := hid hb
                    clear hb
                    go_wp2_with fail
                    refine (HP.out _).mono ?_
                    rintro e w' ⟨rfl, hw⟩
                    subst hw
                    go_wp2_with fail
                    refine (HC.out _).mono ?_
                    rintro e w' ⟨rfl, hw⟩
                    subst hw
                    go_wp2_with fail
                    refine (HE.out _).mono ?_
                    rintro e w' ⟨rfl, hw⟩
                    subst hw
                    go_wp2_with fail
                    go_ret3
                    first
                      | exact ⟨rfl, HB.out⟩
                      | exact ⟨by rw [← hII]; rfl, HB.out⟩
                  · have hb : verbedP I.data.toList = 0 := by unfold verbedP; rw [if_neg q1, if_neg q2, if_neg q3, if_neg (fun h => q5 h.2), if_neg q6]
                    have hr := HK.out.1 hb
                    subst hr
                    rw [Bool.eq_false_iff.2 q6] at HE
                    clear hb HK q1 q2 q3 q4 q5 q6
                    go_enter Tryd.func15, Tryd.ntmps15
                    go_wp2_with fail
                    refine BE.out.mono ?_
                    rintro e w' ⟨rfl, hw⟩
                    subst hw
                    go_wp2_with fail
                    refine DE.out.mono ?_
                    rintro e w1 ⟨rfl, hb⟩
                    have HB := hid hb
                    clear hb
                    go_wp2_with fail
                    refine (HP.out _).mono ?_
                    rintro e w' ⟨rfl, hw⟩
                    subst hw
                    go_wp2_with fail
                    refine (HC.out _).mono ?_
                    rintro e w' ⟨rfl, hw⟩
                    subst hw
                    go_wp2_with fail
                    refine (HE.out _).mono ?_
                    rintro e w' ⟨rfl, hw⟩
                    subst hw
                    go_wp2_with fail
                    go_ret3
                    exact ⟨rfl, HB.out⟩
              · rw [Bool.eq_false_iff.2 q4] at HP
                by_cases q6 : Lib.contains I.data.toList [61] = true
                · have hb : verbedP I.data.toList = 1 := by unfold verbedP; rw [if_neg q1, if_neg q2, if_neg q3, if_neg (fun h => q4 h.1), if_pos q6]
                  have hr := HK.out.2 (by rw [hb]; decide)
                  rw [hb] at hr
                  subst hr
                  rw [show tup3 (1, (c : Int), I.data.toList) = .tuple #[.int .i64 1, .int .i32 (c : Int), .string I] by unfold tup3; simp only [hJJ]]
                  rw [q6] at HE
                  clear hb HK q1 q2 q3 q4 q6
                  go_enter Tryd.func15, Tryd.ntmps15
                  go_wp2_with fail
                  refine BE.out.mono ?_
                  rintro e w' ⟨rfl, hw⟩
                  subst hw
                  go_wp2_with fail
                  refine DE.out.mono ?_
                  rintro e w1 ⟨rfl, hb⟩
                  have HB := hid hb
                  clear hb
                  go_wp2_with fail
                  refine (HP.out _).mono ?_
                  rintro e w' ⟨rfl, hw⟩
                  subst hw
                  go_wp2_with fail
                  refine (HE.out _).mono ?_
                  rintro e w' ⟨rfl, hw⟩
                  subst hw
                  go_wp2_with fail
                  go_ret3
                  first
                    | exact ⟨rfl, HB.out⟩
                    | exact ⟨by rw [← hII]; rfl, HB.out⟩
                · have hb : verbedP I.data.toList = 0 := by unfold verbedP; rw [if_neg q1, if_neg q2, if_neg q3, if_neg (fun h => q4 h.1), if_neg q6]
                  have hr := HK.out.1 hb
                  subst hr
                  rw [Bool.eq_false_iff.2 q6] at HE
                  clear hb HK q1 q2 q3 q4 q6
                  go_enter Tryd.func15, Tryd.ntmps15
                  go_wp2_with fail
                  refine BE.out.mono ?_
                  rintro e w' ⟨rfl, hw⟩
                  subst hw
                  go_wp2_with fail
                  refine DE.out.mono ?_
                  rintro e w1 ⟨rfl, hb⟩
                  have HB := hid hb
                  clear hb
                  go_wp2_with fail
                  refine (HP.out _).mono ?_
                  rintro e w' ⟨rfl, hw⟩
                  subst hw
                  go_wp2_with fail
                  refine (HE.out _).mono ?_
                  rintro e w' ⟨rfl, hw⟩
                  subst hw
                  go_wp2_with fail
                  go_ret3
                  exact ⟨rfl, HB.out⟩
      · rw [if_pos (Or.inr (Or.inr (fun e => hz4 (hz.symm.trans ((bt_iff s _ 40).2 e)))))] at hr
        subst hr
        rw [hz] at E6
        have z1 : (z == 40) = false := by simpa using hz4
        have z2 : (z != 40) = true := by simpa using hz4
        clear hb hz hz4
        go_enter Tryd.func15, Tryd.ntmps15
        go_wp2_with fail
        refine BE.out.mono ?_
        rintro e w' ⟨rfl, hw⟩
        subst hw
        go_wp2_with fail
        refine DE.out.mono ?_
        rintro e w1 ⟨rfl, hb⟩
        have HB := hid hb
        clear hb
        go_wp2_with fail
        go_ret3
        exact ⟨rfl, HB.out⟩
end Go.Proofs.YteifnddblnaepaaDoor
