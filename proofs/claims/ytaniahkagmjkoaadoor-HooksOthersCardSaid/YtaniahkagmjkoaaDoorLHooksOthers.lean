/-
  The law HooksOthers, walked.
-/
import Derived.Test.YtaniahkagmjkoaaDoorHP
namespace Go.Proofs.YtaniahkagmjkoaaDoor
open Go.RowKit Go.Proofs

theorem which_others (h : Hk) (a : Ac) (ha : thereB a.k = false) (v : Int) (sh : Bool) : whichN (hkFo h a) v sh = if v = 118 ∧ sh = true then (if thereB (hkAt h 1).k = true then 2 else 0)
    else if namedB v = true then (if thereB (hkAt h 2).k = true then 3 else if thereB (hkAt h 3).k = true then 4 else 0) else 0 := by
  show (if thereB a.k = true then (1 : Int) else _) = _
  rw [ha, if_neg (by decide)]
  rfl
set_option maxRecDepth 100000 in
set_option maxHeartbeats 2000000 in
theorem hooksOthers_law (h0 : Hk) (v : Int) (w : World) (hT : Tabs w) (_h0 : -2147483648 ≤ v) (_h1 : v ≤ 2147483647) :
    Calls Tryd.prog 6 #[.agg (hkV h0), .int .i32 v] w fun e w' => e = .returned (.bool true) ∧ Below w.heap.size w w' := by
  have LV := hid (fun W hT => hlives_any W hT)
  have HT := hid hT
  clear hT
  have w1 := which_others h0 acZ rfl 118 true
  have w2 := which_others h0 acZ rfl v false
  have w3 := which_others h0 acZ rfl v true
  rw [if_pos ⟨rfl, rfl⟩] at w1
  rw [if_neg (by simp)] at w2
  obtain ⟨h, hh⟩ : ∃ h, hkFo h0 acZ = h := ⟨_, rfl⟩
  have hat1 : hkAt h 1 = hkAt h0 1 := by rw [← hh]; rfl
  have hat2 : hkAt h 2 = hkAt h0 2 := by rw [← hh]; rfl
  have hat3 : hkAt h 3 = hkAt h0 3 := by rw [← hh]; rfl
  rw [hh, ← hat1] at w1
  rw [hh, ← hat2, ← hat3] at w2
  rw [hh, ← hat1, ← hat2, ← hat3] at w3
  have WA := hid (fun W => which_any h 118 true W)
  have WB := hid (fun W => which_any h v false W)
  have WC := hid (fun W => which_any h v true W)
  have T1 := hid (fun W => there_any (hkAt h 1) W)
  have T2 := hid (fun W => there_any (hkAt h 2) W)
  have T3 := hid (fun W => there_any (hkAt h 3) W)
  obtain ⟨b1, hb1⟩ : ∃ b, thereB (hkAt h 1).k = b := ⟨_, rfl⟩
  obtain ⟨b2, hb2⟩ : ∃ b, thereB (hkAt h 2).k = b := ⟨_, rfl⟩
  obtain ⟨b3, hb3⟩ : ∃ b, thereB (hkAt h 3).k = b := ⟨_, rfl⟩
  rw [hb1] at T1 w1 w3
  rw [hb2] at T2 w2 w3
  rw [hb3] at T3 w2 w3
  obtain ⟨nb, hnb⟩ : ∃ b, namedB v = b := ⟨_, rfl⟩
  rw [hnb] at w2 w3
  have NB := hid hnb
  have HH := hid hh
  have W3 := hid w3
  obtain ⟨n1, hn1⟩ : ∃ n, whichN h 118 true = n := ⟨_, rfl⟩
  obtain ⟨m, hm⟩ : ∃ n, whichN h v false = n := ⟨_, rfl⟩
  rw [hn1] at WA w1
  rw [hm] at WB w2
  have N1 := hid w1
  have M1 := hid w2
  have B0 := (Below.refl w.heap.size w).alloc (Nat.le_refl _) (.cells (hkV h0) 30)
  have A0 := Blk.new w (hkV h0) 30
  obtain ⟨B, hB⟩ : ∃ B, w.heap.size = B := ⟨_, rfl⟩
  clear hat1 hat2 hat3 w1 w2 w3 hb1 hb2 hb3 hnb hh hn1 hm
  go_enter Tryd.func6, Tryd.ntmps6
  go_upto_region 1 with fail
  obtain ⟨W0, hW0⟩ : ∃ W0, w.alloc (.cells (hkV h0) 30) = W0 := ⟨_, rfl⟩
  rw [hW0] at B0 A0 ⊢
  rw [hB] at A0
  have HBB := hid hB
  have BL := hid B0
  have AL := hid A0
  clear B0 A0 hW0 hB
  refine wp_region_list ?_
  refine wpList_buildTo rfl 28 _ rfl (some 8) rfl (acV acZ) (by kernel_rfl) ?_
  refine wpList_plain rfl fun K hK => ?_
  have HK := hid hK
  clear hK
  go_wp2_with fail
  refine HK.out _ _ ?_
  clear HK
  refine wpList_store_mid rfl 28 (.tmp 9) (.tmp 8) rfl B 0 (acV acZ) rfl rfl (AL.out.there 0 12 (by rw [hkV_size]; decide)) act_size (acV_one _) ?_
  have A1 := hk_put AL.out acZ
  rw [HH.out] at A1
  have B1 := below_setCells BL.out B (by have := HBB.out; omega) (acV acZ).toList 0
  obtain ⟨W1, hW1⟩ : ∃ W1, W0.setCells B 0 (acV acZ).toList = W1 := ⟨_, rfl⟩
  rw [hW1] at A1 B1 ⊢
  have AL := hid A1
  have BL := hid B1
  clear A1 B1 hW1
  refine wpList_nil ?_
  go_upto_region 2 with fail
  refine wp_region_list ?_
  refine wpList_load_mid rfl 30 (.tmp 2) rfl B 0 rfl (hkV h).toList _ (fun j v hv => by rw [Nat.zero_add, AL.out.cell]; simpa using hv) Tryd.underlying30 rfl hook_size ?_
  refine wpList_plain rfl fun K hK => ?_
  have HK := hid hK
  clear hK
  go_wp2_with fail
  refine (WA.out _).mono ?_
  rintro e W2 ⟨rfl, hb⟩
  have AL := hid (AL.out.below hb AL.out.lt)
  have BL := hid (BL.out.trans (hb.mono (by have := BL.out.size; have := HBB.out; omega)))
  clear hb
  refine HK.out _ _ ?_
  clear HK
  refine wpList_plain rfl fun K hK => ?_
  have HK := hid hK
  clear hK
  go_wp2_with fail
  refine HK.out _ _ ?_
  clear HK
  refine wpList_nil ?_
  go_upto_region 3 with fail
  go_cut [25] (fun v wn => v = .bool false ∧ Hid (Blk wn B (hkV h) 30 ∧ Below w.heap.size w wn))
  case first =>
    cases b1
    all_goals
      have hn1 := N1.out
      simp at hn1
      subst hn1
      obtain ⟨q0, q1, q2, q3, q4, q5, q6, q7, q8, q9, q10, q11⟩ := hk_row1 AL.out
      go_wp2_with fail
      refine (T1.out _).mono ?_
      rintro e W3 ⟨rfl, hb⟩
      clear q0 q1 q2 q3 q4 q5 q6 q7 q8 q9 q10 q11
      have N : Hid (Blk W3 B (hkV h) 30 ∧ Below w.heap.size w W3) := ⟨AL.out.below hb AL.out.lt, BL.out.trans (hb.mono (by have := BL.out.size; have := HBB.out; omega))⟩
      clear hb
      go_wp2_with fail
      go_meet
      exact ⟨rfl, N⟩
  case rest =>
  obtain ⟨rfl, hN⟩ := hcut
  have AL := hid hN.out.1
  have BL := hid hN.out.2
  clear hN
  go_upto_region 5 with fail
  refine wp_region_list ?_
  refine wpList_load_mid rfl 30 (.tmp 2) rfl B 0 rfl (hkV h).toList _ (fun j v hv => by rw [Nat.zero_add, AL.out.cell]; simpa using hv) Tryd.underlying30 rfl hook_size ?_
  refine wpList_plain rfl fun K hK => ?_
  have HK := hid hK
  clear hK
  go_wp2_with fail
  refine HK.out _ _ ?_
  clear HK
  refine wpList_plain rfl fun K hK => ?_
  have HK := hid hK
  clear hK
  go_wp2_with fail
  refine (WB.out _).mono ?_
  rintro e W5 ⟨rfl, hb⟩
  have AL := hid (AL.out.below hb AL.out.lt)
  have BL := hid (BL.out.trans (hb.mono (by have := BL.out.size; have := HBB.out; omega)))
  clear hb
  refine HK.out _ _ ?_
  clear HK
  refine wpList_plain rfl fun K hK => ?_
  have HK := hid hK
  clear hK
  go_wp2_with fail
  refine HK.out _ _ ?_
  clear HK
  refine wpList_nil ?_
  go_upto_region 6 with fail
  go_cut [7] (fun x wn => x = .bool nb ∧ W5 = wn)
  case first =>
    have hnb := NB.out
    by_cases g1 : v = 118
    · subst g1
      obtain rfl : true = nb := hnb
      go_wp2_with fail
      go_meet
      exact ⟨rfl, rfl⟩
    by_cases g2 : v = 115
    · subst g2
      obtain rfl : true = nb := hnb
      go_wp2_with fail
      go_meet
      exact ⟨rfl, rfl⟩
    by_cases g3 : v = 120
    · subst g3
      obtain rfl : true = nb := hnb
      go_wp2_with fail
      go_meet
      exact ⟨rfl, rfl⟩
    by_cases g4 : v = 88
    · subst g4
      obtain rfl : true = nb := hnb
      go_wp2_with fail
      go_meet
      exact ⟨rfl, rfl⟩
    by_cases g5 : v = 113
    · subst g5
      obtain rfl : true = nb := hnb
      go_wp2_with fail
      go_meet
      exact ⟨rfl, rfl⟩
    obtain rfl : false = nb := by rw [← hnb]; exact (decide_eq_false (by omega)).symm
    have e1 : (v == 118) = false := by simpa using g1
    have e2 : (v == 115) = false := by simpa using g2
    have e3 : (v == 120) = false := by simpa using g3
    have e4 : (v == 88) = false := by simpa using g4
    have e5 : (v == 113) = false := by simpa using g5
    clear g1 g2 g3 g4 g5 hnb
    go_wp2_with fail
    go_meet
    exact ⟨rfl, rfl⟩
  case rest =>
  obtain ⟨rfl, rfl⟩ := hcut
  cases nb
  · have hv : ¬ v = 118 := by
      intro e
      have := NB.out
      rw [e] at this
      cases this
    have w3 := W3.out
    rw [if_neg (fun e => hv e.1), if_neg (by decide)] at w3
    rw [w3] at WC
    clear w3 hv
    obtain rfl : (0 : Int) = m := M1.out.symm
    go_upto_region 8 with fail
    refine wp_region_list ?_
    refine wpList_plain rfl fun K hK => ?_
    have HK := hid hK
    clear hK
    go_wp2_with fail
    refine HK.out _ _ ?_
    clear HK
    refine wpList_plain rfl fun K hK => ?_
    have HK := hid hK
    clear hK
    go_wp2_with fail
    refine HK.out _ _ ?_
    clear HK
    refine wpList_plain rfl fun K hK => ?_
    have HK := hid hK
    clear hK
    go_wp2_with fail
    refine HK.out _ _ ?_
    clear HK
    refine wpList_wantLoad (by rfl) 30 (.tmp 2) rfl B 0 rfl (hkV h) _ (fun j v hv => by rw [Nat.zero_add, AL.out.cell]; simpa using hv) Tryd.underlying30 rfl hook_size ?_
    refine wpList_step fun K hK => ?_
    rw [if_pos (by rfl)]
    have HK := hid hK
    clear hK
    go_wp2_with fail
    refine HK.out _ _ ?_
    clear HK
    refine wpList_step fun K hK => ?_
    rw [if_pos (by rfl)]
    have HK := hid hK
    clear hK
    go_wp2_with fail
    refine (WC.out _).mono ?_
    rintro e W6 ⟨rfl, hb⟩
    have AL := hid (AL.out.below hb AL.out.lt)
    have BL := hid (BL.out.trans (hb.mono (by have := BL.out.size; have := HBB.out; omega)))
    clear hb
    refine HK.out _ _ ?_
    clear HK
    refine wpList_step fun K hK => ?_
    rw [if_pos (by rfl)]
    have HK := hid hK
    clear hK
    go_wp2_with fail
    refine HK.out _ _ ?_
    clear HK
    refine wpList_plain rfl fun K hK => ?_
    have HK := hid hK
    clear hK
    go_wp2_with fail
    refine HK.out _ _ ?_
    clear HK
    refine wpList_plain rfl fun K hK => ?_
    have HK := hid hK
    clear hK
    go_wp2_with fail
    refine HK.out _ _ ?_
    clear HK
    refine wpList_step fun K hK => ?_
    rw [if_pos (by rfl)]
    have HK := hid hK
    clear hK
    go_wp2_with fail
    refine (LV.out _ (HT.out.below BL.out)).mono ?_
    rintro e W7 ⟨rfl, hb⟩
    have AL := hid (AL.out.below hb AL.out.lt)
    have BL := hid (BL.out.trans (hb.mono (by have := BL.out.size; have := HBB.out; omega)))
    clear hb
    refine HK.out _ _ ?_
    clear HK
    refine wpList_plain rfl fun K hK => ?_
    have HK := hid hK
    clear hK
    go_wp2_with fail
    refine HK.out _ _ ?_
    clear HK
    refine wpList_plain rfl fun K hK => ?_
    have HK := hid hK
    clear hK
    go_wp2_with fail
    refine HK.out _ _ ?_
    clear HK
    refine wpList_nil ?_
    go_wp2_with fail
    go_ret
    exact ⟨rfl, BL.out⟩
  · clear WC
    have hm := M1.out
    rw [if_pos rfl] at hm
    cases b2
    · rw [if_neg (by decide)] at hm
      cases b3
      · obtain rfl : (0 : Int) = m := hm.symm
        clear hm
        go_upto_region 9 with fail
        obtain ⟨q0, q1, q2, q3, q4, q5, q6, q7, q8, q9, q10, q11⟩ := hk_row2 AL.out
        go_wp2_with fail
        refine (T2.out _).mono ?_
        rintro e W6 ⟨rfl, hb⟩
        have AL := hid (AL.out.below hb AL.out.lt)
        have BL := hid (BL.out.trans (hb.mono (by have := BL.out.size; have := HBB.out; omega)))
        clear hb
        clear q0 q1 q2 q3 q4 q5 q6 q7 q8 q9 q10 q11
        obtain ⟨q0, q1, q2, q3, q4, q5, q6, q7, q8, q9, q10, q11⟩ := hk_row2 AL.out
        go_wp2_with fail
        refine (T2.out _).mono ?_
        rintro e W7 ⟨rfl, hb⟩
        have AL := hid (AL.out.below hb AL.out.lt)
        have BL := hid (BL.out.trans (hb.mono (by have := BL.out.size; have := HBB.out; omega)))
        clear hb
        clear q0 q1 q2 q3 q4 q5 q6 q7 q8 q9 q10 q11
        obtain ⟨q0, q1, q2, q3, q4, q5, q6, q7, q8, q9, q10, q11⟩ := hk_row3 AL.out
        go_wp2_with fail
        refine (T3.out _).mono ?_
        rintro e W8 ⟨rfl, hb⟩
        have AL := hid (AL.out.below hb AL.out.lt)
        have BL := hid (BL.out.trans (hb.mono (by have := BL.out.size; have := HBB.out; omega)))
        clear hb
        clear q0 q1 q2 q3 q4 q5 q6 q7 q8 q9 q10 q11
        go_wp2_with fail
        refine (LV.out _ (HT.out.below BL.out)).mono ?_
        rintro e W9 ⟨rfl, hb⟩
        have AL := hid (AL.out.below hb AL.out.lt)
        have BL := hid (BL.out.trans (hb.mono (by have := BL.out.size; have := HBB.out; omega)))
        clear hb
        go_wp2_with fail
        go_ret
        exact ⟨rfl, BL.out⟩
      · obtain rfl : (4 : Int) = m := hm.symm
        clear hm
        go_upto_region 9 with fail
        obtain ⟨q0, q1, q2, q3, q4, q5, q6, q7, q8, q9, q10, q11⟩ := hk_row2 AL.out
        go_wp2_with fail
        refine (T2.out _).mono ?_
        rintro e W6 ⟨rfl, hb⟩
        have AL := hid (AL.out.below hb AL.out.lt)
        have BL := hid (BL.out.trans (hb.mono (by have := BL.out.size; have := HBB.out; omega)))
        clear hb
        clear q0 q1 q2 q3 q4 q5 q6 q7 q8 q9 q10 q11
        obtain ⟨q0, q1, q2, q3, q4, q5, q6, q7, q8, q9, q10, q11⟩ := hk_row2 AL.out
        go_wp2_with fail
        refine (T2.out _).mono ?_
        rintro e W7 ⟨rfl, hb⟩
        have AL := hid (AL.out.below hb AL.out.lt)
        have BL := hid (BL.out.trans (hb.mono (by have := BL.out.size; have := HBB.out; omega)))
        clear hb
        clear q0 q1 q2 q3 q4 q5 q6 q7 q8 q9 q10 q11
        obtain ⟨q0, q1, q2, q3, q4, q5, q6, q7, q8, q9, q10, q11⟩ := hk_row3 AL.out
        go_wp2_with fail
        refine (T3.out _).mono ?_
        rintro e W8 ⟨rfl, hb⟩
        have AL := hid (AL.out.below hb AL.out.lt)
        have BL := hid (BL.out.trans (hb.mono (by have := BL.out.size; have := HBB.out; omega)))
        clear hb
        clear q0 q1 q2 q3 q4 q5 q6 q7 q8 q9 q10 q11
        go_wp2_with fail
        refine (LV.out _ (HT.out.below BL.out)).mono ?_
        rintro e W9 ⟨rfl, hb⟩
        have AL := hid (AL.out.below hb AL.out.lt)
        have BL := hid (BL.out.trans (hb.mono (by have := BL.out.size; have := HBB.out; omega)))
        clear hb
        go_wp2_with fail
        go_ret
        exact ⟨rfl, BL.out⟩
    · obtain rfl : (3 : Int) = m := hm.symm
      clear hm
      go_upto_region 9 with fail
      obtain ⟨q0, q1, q2, q3, q4, q5, q6, q7, q8, q9, q10, q11⟩ := hk_row2 AL.out
      go_wp2_with fail
      refine (T2.out _).mono ?_
      rintro e W6 ⟨rfl, hb⟩
      have AL := hid (AL.out.below hb AL.out.lt)
      have BL := hid (BL.out.trans (hb.mono (by have := BL.out.size; have := HBB.out; omega)))
      clear hb
      clear q0 q1 q2 q3 q4 q5 q6 q7 q8 q9 q10 q11
      obtain ⟨q0, q1, q2, q3, q4, q5, q6, q7, q8, q9, q10, q11⟩ := hk_row2 AL.out
      go_wp2_with fail
      refine (T2.out _).mono ?_
      rintro e W7 ⟨rfl, hb⟩
      have AL := hid (AL.out.below hb AL.out.lt)
      have BL := hid (BL.out.trans (hb.mono (by have := BL.out.size; have := HBB.out; omega)))
      clear hb
      clear q0 q1 q2 q3 q4 q5 q6 q7 q8 q9 q10 q11
      go_wp2_with fail
      refine (LV.out _ (HT.out.below BL.out)).mono ?_
      rintro e W9 ⟨rfl, hb⟩
      have AL := hid (AL.out.below hb AL.out.lt)
      have BL := hid (BL.out.trans (hb.mono (by have := BL.out.size; have := HBB.out; omega)))
      clear hb
      go_wp2_with fail
      go_ret
      exact ⟨rfl, BL.out⟩
end Go.Proofs.YtaniahkagmjkoaaDoor
