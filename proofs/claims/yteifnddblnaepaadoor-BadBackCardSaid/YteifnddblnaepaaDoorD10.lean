/-
  Walks of layer 10: the document's Read, of no verb.
-/
import Derived.Test.YteifnddblnaepaaDoorD9
namespace Go.Proofs.YteifnddblnaepaaDoor
open Go.RowKit Go.Proofs

/-- What the document's 'Read' answers. -/
def readB (l : List UInt8) : Int × Int × List UInt8 :=
  if l.length < 4 ∨ Lib.hasPrefix l [37, 33] = false ∨ ¬ l[l.length - 1]?.getD 0 = 41 then (0, 0, [])
  else if l[2]?.getD 0 = 40 ∧ ¬ l[3]?.getD 0 = 40 then
    if bareP ((l.drop 3).take (l.length - 1 - 3)) ≠ 0 then (bareP ((l.drop 3).take (l.length - 1 - 3)), 0, (l.drop 3).take (l.length - 1 - 3)) else (0, 0, [])
  else if Utf.Broken (l.drop 2) ∨ l.length < 4 + (dec0 (l.drop 2)).2 ∨ ¬ l[2 + (dec0 (l.drop 2)).2]?.getD 0 = 40 then (0, 0, [])
  else if verbedP ((l.drop (3 + (dec0 (l.drop 2)).2)).take (l.length - 1 - (3 + (dec0 (l.drop 2)).2))) ≠ 0 then
    (verbedP ((l.drop (3 + (dec0 (l.drop 2)).2)).take (l.length - 1 - (3 + (dec0 (l.drop 2)).2))), ((dec0 (l.drop 2)).1 : Int), (l.drop (3 + (dec0 (l.drop 2)).2)).take (l.length - 1 - (3 + (dec0 (l.drop 2)).2)))
  else (0, 0, [])
theorem bt_iff (s : ByteArray) (j : Nat) (x : UInt8) : bt s j = (x.toNat : Int) ↔ s.data.toList[j]?.getD 0 = x := by
  unfold bt
  constructor
  · intro h
    exact UInt8.toNat_inj.1 (by omega)
  · intro h
    rw [h]
theorem mid_bytes (s : ByteArray) (a : Nat) : (s.extract a (s.size - 1)).data.toList = (s.data.toList.drop a).take (s.data.toList.length - 1 - a) := by
  rw [Lib.extract_data, Utf.size_eq]
set_option maxRecDepth 100000 in
set_option maxHeartbeats 4000000 in
theorem refread_short (s : ByteArray) (w : World) (hs : s.size ≤ 100000) (hq : s.size < 4 ∨ Lib.hasPrefix s.data.toList [37, 33] = false ∨ ¬ bt s (s.size - 1) = 41) :
    Calls Tryd.prog 15 #[.string s] w fun e w' => e = .returned (tup3 (readB s.data.toList)) ∧ Below w.heap.size w w' := by
  obtain ⟨r, hr⟩ : ∃ r, readB s.data.toList = r := ⟨_, rfl⟩
  rw [hr]
  unfold readB at hr
  have BE := hid (begins_any s ⟨#[37, 33]⟩ w)
  have E1 : Lib.hasPrefix s.data.toList (⟨#[37, 33]⟩ : ByteArray).data.toList = Lib.hasPrefix s.data.toList [37, 33] := rfl
  rw [E1] at BE
  clear E1
  have hcond : s.data.toList.length < 4 ∨ Lib.hasPrefix s.data.toList [37, 33] = false ∨ ¬ s.data.toList[s.data.toList.length - 1]?.getD 0 = 41 := by
    rw [← Utf.size_eq]
    rcases hq with h | h | h
    · exact Or.inl h
    · exact Or.inr (Or.inl h)
    · exact Or.inr (Or.inr (fun e => h ((bt_iff s _ 41).2 e)))
  rw [if_pos hcond] at hr
  subst hr
  clear hcond
  by_cases h4 : s.size < 4
  · clear hq
    go_enter Tryd.func15, Tryd.ntmps15
    go_wp2_with fail
    go_ret3
    exact ⟨rfl, Below.refl _ _⟩
  · obtain ⟨p, hp⟩ : ∃ p, s.size = p + 1 := ⟨s.size - 1, by omega⟩
    have hsub : (s.size : Int) - 1 = (p : Int) := by omega
    have hps : p < s.size := by omega
    have E0 := bt_at s p hps
    rw [show s.size - 1 = p by omega] at hq
    obtain ⟨x, hx⟩ : ∃ x, bt s p = x := ⟨_, rfl⟩
    rw [hx] at E0 hq
    clear hx hp
    obtain ⟨b, hb⟩ : ∃ b, Lib.hasPrefix s.data.toList [37, 33] = b := ⟨_, rfl⟩
    rw [hb] at BE hq
    clear hb
    cases b with
    | false =>
      clear hq
      go_enter Tryd.func15, Tryd.ntmps15
      go_wp2_with fail
      refine BE.out.mono ?_
      rintro e w' ⟨rfl, hw⟩
      subst hw
      go_wp2_with fail
      go_ret3
      exact ⟨rfl, Below.refl _ _⟩
    | true =>
      have hx : ¬ x = 41 := by
        rcases hq with h | h | h
        · omega
        · cases h
        · exact h
      have x1 : (x == 41) = false := by simpa using hx
      have x2 : (x != 41) = true := by simpa using hx
      clear hq
      go_enter Tryd.func15, Tryd.ntmps15
      go_wp2_with fail
      refine BE.out.mono ?_
      rintro e w' ⟨rfl, hw⟩
      subst hw
      go_wp2_with fail
      go_ret3
      exact ⟨rfl, Below.refl _ _⟩
set_option maxRecDepth 100000 in
set_option maxHeartbeats 4000000 in
theorem refread_bare (s : ByteArray) (w : World) (hs : s.size ≤ 100000) (h4 : 4 ≤ s.size) (h1 : Lib.hasPrefix s.data.toList [37, 33] = true) (h2 : bt s (s.size - 1) = 41) (h3 : bt s 2 = 40) (h5 : ¬ bt s 3 = 40) :
    Calls Tryd.prog 15 #[.string s] w fun e w' => e = .returned (tup3 (readB s.data.toList)) ∧ Below w.heap.size w w' := by
  obtain ⟨r, hr⟩ : ∃ r, readB s.data.toList = r := ⟨_, rfl⟩
  rw [hr]
  unfold readB at hr
  have BE := hid (begins_any s ⟨#[37, 33]⟩ w)
  have E1 : Lib.hasPrefix s.data.toList (⟨#[37, 33]⟩ : ByteArray).data.toList = Lib.hasPrefix s.data.toList [37, 33] := rfl
  rw [E1] at BE
  clear E1
  have hcond : ¬ (s.data.toList.length < 4 ∨ Lib.hasPrefix s.data.toList [37, 33] = false ∨ ¬ s.data.toList[s.data.toList.length - 1]?.getD 0 = 41) := by
    rw [← Utf.size_eq, h1]
    rintro (h | h | h)
    · omega
    · cases h
    · exact h ((bt_iff s _ 41).1 h2)
  rw [if_neg hcond] at hr
  rw [h1] at BE
  obtain ⟨p, hp⟩ : ∃ p, s.size = p + 1 := ⟨s.size - 1, by omega⟩
  have hsub : (s.size : Int) - 1 = (p : Int) := by omega
  have hps : p < s.size := by omega
  have E0 := bt_at s p hps
  rw [show s.size - 1 = p by omega] at h2
  rw [h2] at E0
  have i2 : 2 < s.size := by omega
  have i3 : 3 < s.size := by omega
  have E2 := bt_at s 2 i2
  have E3 := bt_at s 3 i3
  rw [if_pos ⟨(bt_iff s 2 40).1 h3, fun e => h5 ((bt_iff s 3 40).2 e)⟩] at hr
  rw [h3] at E2
  obtain ⟨y, hy⟩ : ∃ y, bt s 3 = y := ⟨_, rfl⟩
  rw [hy] at E3 h5
  have y1 : (y == 40) = false := by simpa using h5
  have y2 : (y != 40) = true := by simpa using h5
  have hI := mid_bytes s 3
  have hp3 : 3 ≤ (p : Int) := by omega
  have hp4 : (p : Int) ≤ s.size := by omega
  rw [show s.size - 1 = p by omega] at hI
  obtain ⟨I, hII⟩ : ∃ I, s.extract 3 p = I := ⟨_, rfl⟩
  rw [hII] at hI
  rw [← hI] at hr
  have HX := hid (begins_any I ⟨#[69, 88, 84, 82, 65, 32]⟩)
  have hJJ : (⟨I.data.toList.toArray⟩ : ByteArray) = I := Lib.mk_data I
  have e1 := beq_lit I [78, 79, 86, 69, 82, 66]
  have e2 := beq_lit I [66, 65, 68, 87, 73, 68, 84, 72]
  have e3 := beq_lit I [66, 65, 68, 80, 82, 69, 67]
  have e4 := beq_lit I [68, 69, 80, 84, 72]
  have hk : (bareP I.data.toList = 0 → r = (0, 0, [])) ∧ (¬ bareP I.data.toList = 0 → r = (bareP I.data.toList, 0, I.data.toList)) := by
    constructor
    · intro h
      rw [if_neg (by simp [h])] at hr
      exact hr.symm
    · intro h
      rw [if_pos h] at hr
      exact hr.symm
  have HK := hid hk
  have HB := hid (((Below.refl w.heap.size w).alloc (Nat.le_refl _) (.cells #[.string ⟨#[78, 79, 86, 69, 82, 66]⟩, .string ⟨#[66, 65, 68, 87, 73, 68, 84, 72]⟩, .string ⟨#[66, 65, 68, 80, 82, 69, 67]⟩, .string ⟨#[68, 69, 80, 84, 72]⟩] 9)))
  clear hr hcond hy hI h5 h1 h2 h3 hk hp
  by_cases q1 : I.data.toList = [78, 79, 86, 69, 82, 66]
  · have hb : bareP I.data.toList = 6 := by unfold bareP; rw [if_pos q1]
    have hr := HK.out.2 (by rw [hb]; decide)
    rw [hb] at hr
    subst hr
    rw [show tup3 (6, 0, I.data.toList) = .tuple #[.int .i64 6, .int .i32 0, .string I] by unfold tup3; simp only [hJJ]]
    rw [decide_eq_true q1] at e1
    clear hb HK q1 e2 e3 e4
    go_enter Tryd.func15, Tryd.ntmps15
    go_wp2_with fail
    refine BE.out.mono ?_
    rintro e w' ⟨rfl, hw⟩
    subst hw
    go_wp2_with fail
    refine wp_loop_rounds 5 ?_
    rw [rounds_succ]
    go_wp2_with fail
    go_ret3
    exact ⟨rfl, HB.out⟩
  · rw [decide_eq_false q1] at e1
    by_cases q2 : I.data.toList = [66, 65, 68, 87, 73, 68, 84, 72]
    · have hb : bareP I.data.toList = 7 := by unfold bareP; rw [if_neg q1, if_pos q2]
      have hr := HK.out.2 (by rw [hb]; decide)
      rw [hb] at hr
      subst hr
      rw [show tup3 (7, 0, I.data.toList) = .tuple #[.int .i64 7, .int .i32 0, .string I] by unfold tup3; simp only [hJJ]]
      rw [decide_eq_true q2] at e2
      clear hb HK q2 e3 e4
      go_enter Tryd.func15, Tryd.ntmps15
      go_wp2_with fail
      refine BE.out.mono ?_
      rintro e w' ⟨rfl, hw⟩
      subst hw
      go_wp2_with fail
      refine wp_loop_rounds 5 ?_
      rw [rounds_succ]
      go_wp2_with fail
      rw [rounds_succ]
      go_wp2_with fail
      go_ret3
      exact ⟨rfl, HB.out⟩
    · rw [decide_eq_false q2] at e2
      by_cases q3 : I.data.toList = [66, 65, 68, 80, 82, 69, 67]
      · have hb : bareP I.data.toList = 8 := by unfold bareP; rw [if_neg q1, if_neg q2, if_pos q3]
        have hr := HK.out.2 (by rw [hb]; decide)
        rw [hb] at hr
        subst hr
        rw [show tup3 (8, 0, I.data.toList) = .tuple #[.int .i64 8, .int .i32 0, .string I] by unfold tup3; simp only [hJJ]]
        rw [decide_eq_true q3] at e3
        clear hb HK q3 e4
        go_enter Tryd.func15, Tryd.ntmps15
        go_wp2_with fail
        refine BE.out.mono ?_
        rintro e w' ⟨rfl, hw⟩
        subst hw
        go_wp2_with fail
        refine wp_loop_rounds 5 ?_
        rw [rounds_succ]
        go_wp2_with fail
        rw [rounds_succ]
        go_wp2_with fail
        rw [rounds_succ]
        go_wp2_with fail
        go_ret3
        exact ⟨rfl, HB.out⟩
      · rw [decide_eq_false q3] at e3
        by_cases q4 : I.data.toList = [68, 69, 80, 84, 72]
        · have hb : bareP I.data.toList = 9 := by unfold bareP; rw [if_neg q1, if_neg q2, if_neg q3, if_pos q4]
          have hr := HK.out.2 (by rw [hb]; decide)
          rw [hb] at hr
          subst hr
          rw [show tup3 (9, 0, I.data.toList) = .tuple #[.int .i64 9, .int .i32 0, .string I] by unfold tup3; simp only [hJJ]]
          rw [decide_eq_true q4] at e4
          clear hb HK q4
          go_enter Tryd.func15, Tryd.ntmps15
          go_wp2_with fail
          refine BE.out.mono ?_
          rintro e w' ⟨rfl, hw⟩
          subst hw
          go_wp2_with fail
          refine wp_loop_rounds 5 ?_
          rw [rounds_succ]
          go_wp2_with fail
          rw [rounds_succ]
          go_wp2_with fail
          rw [rounds_succ]
          go_wp2_with fail
          rw [rounds_succ]
          go_wp2_with fail
          go_ret3
          exact ⟨rfl, HB.out⟩
        · rw [decide_eq_false q4] at e4
          have E5 : Lib.hasPrefix I.data.toList (⟨#[69, 88, 84, 82, 65, 32]⟩ : ByteArray).data.toList = Lib.hasPrefix I.data.toList [69, 88, 84, 82, 65, 32] := rfl
          rw [E5] at HX
          by_cases q5 : Lib.hasPrefix I.data.toList [69, 88, 84, 82, 65, 32] = true
          · have hb : bareP I.data.toList = 10 := by unfold bareP; rw [if_neg q1, if_neg q2, if_neg q3, if_neg q4, if_pos q5]
            have hr := HK.out.2 (by rw [hb]; decide)
            rw [hb] at hr
            subst hr
            rw [show tup3 (10, 0, I.data.toList) = .tuple #[.int .i64 10, .int .i32 0, .string I] by unfold tup3; simp only [hJJ]]
            rw [q5] at HX
            clear hb HK q1 q2 q3 q4 q5 E5
            go_enter Tryd.func15, Tryd.ntmps15
            go_wp2_with fail
            refine BE.out.mono ?_
            rintro e w' ⟨rfl, hw⟩
            subst hw
            go_wp2_with fail
            refine wp_loop_rounds 5 ?_
            rw [rounds_succ]
            go_wp2_with fail
            rw [rounds_succ]
            go_wp2_with fail
            rw [rounds_succ]
            go_wp2_with fail
            rw [rounds_succ]
            go_wp2_with fail
            rw [rounds_succ]
            go_wp2_with fail
            refine (HX.out _).mono ?_
            rintro e w' ⟨rfl, hw⟩
            subst hw
            go_wp2_with fail
            go_ret3
            exact ⟨rfl, HB.out⟩
          · have hb : bareP I.data.toList = 0 := by unfold bareP; rw [if_neg q1, if_neg q2, if_neg q3, if_neg q4, if_neg q5]
            have hr := HK.out.1 hb
            subst hr
            rw [Bool.eq_false_iff.2 q5] at HX
            clear hb HK q1 q2 q3 q4 q5 E5
            go_enter Tryd.func15, Tryd.ntmps15
            go_wp2_with fail
            refine BE.out.mono ?_
            rintro e w' ⟨rfl, hw⟩
            subst hw
            go_wp2_with fail
            refine wp_loop_rounds 5 ?_
            rw [rounds_succ]
            go_wp2_with fail
            rw [rounds_succ]
            go_wp2_with fail
            rw [rounds_succ]
            go_wp2_with fail
            rw [rounds_succ]
            go_wp2_with fail
            rw [rounds_succ]
            go_wp2_with fail
            refine (HX.out _).mono ?_
            rintro e w' ⟨rfl, hw⟩
            subst hw
            go_wp2_with fail
            go_ret3
            exact ⟨rfl, HB.out⟩
end Go.Proofs.YteifnddblnaepaaDoor
