/-
  Walks of layer 11: which method is asked.
-/
import Derived.Test.YtaniahkagmjkoaaDoorH2
namespace Go.Proofs.YtaniahkagmjkoaaDoor
open Go.RowKit Go.Proofs

/-- Which method is asked of a row: its number, 0: none. -/
def whichN (h : Hk) (v : Int) (sh : Bool) : Int :=
  if thereB (hkAt h 0).k = true then 1 else if v = 118 ∧ sh = true then (if thereB (hkAt h 1).k = true then 2 else 0)
  else if namedB v = true then (if thereB (hkAt h 2).k = true then 3 else if thereB (hkAt h 3).k = true then 4 else 0) else 0
theorem hk_cells {W : World} {B : Nat} {h : Hk} (hb : Blk W B (hkV h) 30) (i : Nat) (hi : i < 4) : W.rangeAt B (12 * i) (acV (hkAt h i)).toList := fun j v hv => by
  rw [hb.cell]
  exact hk_mid h i hi j v (by simpa using hv)
theorem wpList_wantLoad {ops : Array Oper} {rest : List Oper} {o : Oper} {a : Act} {w : World} {Q : Exit → Act → World → Prop} (hw : Region.wanted o (yielded ops a.tmps) = true) (ty : TypeId) (x : Operand) (ho : o.op = .load ty x)
    (b k : Nat) (hx : a.eval x = .pointer (some ⟨b, k, none⟩)) (cs : Array Value) (d : TypeDesc) (hc : w.rangeAt b k cs.toList)
    (hu : Tryd.prog.underlying ty = some d) (hd : d.isRow = true) (hi : (Tryd.prog.info? ty).map (·.size) = some cs.size) (h : wpList Tryd.prog ops Q rest (a.put o.dst (.agg cs)) w) : wpList Tryd.prog ops Q (o :: rest) a w :=
  wpList_step fun K hK => by
    rw [if_pos hw]
    refine wp_load_mid ty x ho b k hx cs.toList d hc hu hd (by simpa using hi) ?_
    exact hK _ _ h
theorem hk_calm {W W' : World} {B : Nat} {h : Hk} {T : TypeId} (hb : Blk W B (hkV h) T) (hw : Below W.heap.size W W') : Blk W' B (hkV h) T := hb.below hw hb.lt

set_option maxRecDepth 100000 in
set_option maxHeartbeats 2000000 in
theorem which_any (h : Hk) (v : Int) (sh : Bool) (w : World) : Calls Tryd.prog 10 #[.agg (hkV h), .int .i32 v, .bool sh] w fun e w' => e = .returned (.int .i64 (whichN h v sh)) ∧ Below w.heap.size w w' := by
  have TH0 := hid (fun W => there_any (hkAt h 0) W)
  have TH1 := hid (fun W => there_any (hkAt h 1) W)
  have TH2 := hid (fun W => there_any (hkAt h 2) W)
  have TH3 := hid (fun W => there_any (hkAt h 3) W)
  obtain ⟨R, hR⟩ : ∃ R, whichN h v sh = R := ⟨_, rfl⟩
  rw [hR]
  unfold whichN at hR
  obtain ⟨b0, hb0⟩ : ∃ b, thereB (hkAt h 0).k = b := ⟨_, rfl⟩
  obtain ⟨b1, hb1⟩ : ∃ b, thereB (hkAt h 1).k = b := ⟨_, rfl⟩
  obtain ⟨b2, hb2⟩ : ∃ b, thereB (hkAt h 2).k = b := ⟨_, rfl⟩
  obtain ⟨b3, hb3⟩ : ∃ b, thereB (hkAt h 3).k = b := ⟨_, rfl⟩
  rw [hb0] at TH0 hR
  rw [hb1] at TH1 hR
  rw [hb2] at TH2 hR
  rw [hb3] at TH3 hR
  obtain ⟨nb, hnb⟩ : ∃ b, namedB v = b := ⟨_, rfl⟩
  rw [hnb] at hR
  have HB := hid (Blk.new w (hkV h) 30)
  have BL := hid ((Below.refl w.heap.size w).alloc (Nat.le_refl _) (.cells (hkV h) 30))
  obtain ⟨B, hB⟩ : ∃ B, w.heap.size = B := ⟨_, rfl⟩
  obtain ⟨W0, hW0⟩ : ∃ W0, w.alloc (.cells (hkV h) 30) = W0 := ⟨_, rfl⟩
  rw [hW0] at HB BL
  rw [hB] at HB BL ⊢
  have HBB := hid hB
  clear hb0 hb1 hb2 hb3
  have CO := hid (fun W => contains_any v W)
  rw [hnb] at CO
  clear hnb
  go_enter Tryd.func10, Tryd.ntmps10
  go_upto_region 1 with fail
  clear hB hW0
  refine wp_region_list ?_
  refine wpList_plain rfl fun K hK => ?_
  have HK := hid hK
  clear hK
  go_wp2_with fail
  refine HK.out _ _ ?_
  clear HK
  refine wpList_load_mid rfl 28 (.tmp 8) rfl B 0 rfl (acV (hkAt h 0)).toList _ (hk_cells HB.out 0 (by decide)) Tryd.underlying28 rfl act_size ?_
  refine wpList_plain rfl fun K hK => ?_
  have HK := hid hK
  clear hK
  go_wp2_with fail
  refine (TH0.out _).mono ?_
  rintro e W1 ⟨rfl, hb⟩
  have HB := hid (hk_calm HB.out hb)
  have BL := hid (BL.out.trans (hb.mono (by have := BL.out.size; have := HBB.out; omega)))
  clear hb
  refine HK.out _ _ ?_
  clear HK
  refine wpList_plain rfl fun K hK => ?_
  have HK := hid hK
  clear hK
  go_wp2_with fail
  refine HK.out _ _ ?_
  clear HK
  refine wpList_nil ?_
  cases b0
  · by_cases h1 : v = 118 ∧ sh = true
    · obtain ⟨rfl, rfl⟩ := h1
      rw [if_neg (by decide), if_pos ⟨rfl, rfl⟩] at hR
      go_upto_region 4 with fail
      refine wp_region_list ?_
      refine wpList_plain rfl fun K hK => ?_
      have HK := hid hK
      clear hK
      go_wp2_with fail
      refine HK.out _ _ ?_
      clear HK
      refine wpList_load_mid rfl 28 (.tmp 17) rfl B 12 rfl (acV (hkAt h 1)).toList _ (hk_cells HB.out 1 (by decide)) Tryd.underlying28 rfl act_size ?_
      refine wpList_plain rfl fun K hK => ?_
      have HK := hid hK
      clear hK
      go_wp2_with fail
      refine (TH1.out _).mono ?_
      rintro e W2 ⟨rfl, hb⟩
      have HB := hid (hk_calm HB.out hb)
      have BL := hid (BL.out.trans (hb.mono (by have := BL.out.size; have := HBB.out; omega)))
      clear hb
      refine HK.out _ _ ?_
      clear HK
      refine wpList_nil ?_
      cases b1
      · obtain rfl : (0 : Int) = R := hR
        go_wp2_with fail
        go_ret
        exact ⟨rfl, BL.out⟩
      · obtain rfl : (2 : Int) = R := hR
        go_wp2_with fail
        go_ret
        exact ⟨rfl, BL.out⟩
    · rw [if_neg (by decide), if_neg h1] at hR
      by_cases h2 : v = 118
      · subst h2
        obtain rfl : sh = false := by cases sh <;> simp_all
        clear h1
        go_wp2_with fail
        refine (CO.out _).mono ?_
        rintro e W2 ⟨rfl, hb⟩
        have HB := hid (hk_calm HB.out hb)
        have BL := hid (BL.out.trans (hb.mono (by have := BL.out.size; have := HBB.out; omega)))
        clear hb
        cases nb
        · obtain rfl : (0 : Int) = R := hR
          go_wp2_with fail
          go_ret
          exact ⟨rfl, BL.out⟩
        · rw [if_pos rfl] at hR
          go_upto_region 7 with fail
          refine wp_region_list ?_
          refine wpList_plain rfl fun K hK => ?_
          have HK := hid hK
          clear hK
          go_wp2_with fail
          refine HK.out _ _ ?_
          clear HK
          refine wpList_load_mid rfl 28 (.tmp 23) rfl B 24 rfl (acV (hkAt h 2)).toList _ (hk_cells HB.out 2 (by decide)) Tryd.underlying28 rfl act_size ?_
          refine wpList_plain rfl fun K hK => ?_
          have HK := hid hK
          clear hK
          go_wp2_with fail
          refine (TH2.out _).mono ?_
          rintro e W3 ⟨rfl, hb⟩
          have HB := hid (hk_calm HB.out hb)
          have BL := hid (BL.out.trans (hb.mono (by have := BL.out.size; have := HBB.out; omega)))
          clear hb
          refine HK.out _ _ ?_
          clear HK
          refine wpList_nil ?_
          cases b2
          · rw [if_neg (by decide)] at hR
            go_upto_region 9 with fail
            refine wp_region_list ?_
            refine wpList_plain rfl fun K hK => ?_
            have HK := hid hK
            clear hK
            go_wp2_with fail
            refine HK.out _ _ ?_
            clear HK
            refine wpList_load_mid rfl 28 (.tmp 26) rfl B 36 rfl (acV (hkAt h 3)).toList _ (hk_cells HB.out 3 (by decide)) Tryd.underlying28 rfl act_size ?_
            refine wpList_plain rfl fun K hK => ?_
            have HK := hid hK
            clear hK
            go_wp2_with fail
            refine (TH3.out _).mono ?_
            rintro e W4 ⟨rfl, hb⟩
            have HB := hid (hk_calm HB.out hb)
            have BL := hid (BL.out.trans (hb.mono (by have := BL.out.size; have := HBB.out; omega)))
            clear hb
            refine HK.out _ _ ?_
            clear HK
            refine wpList_nil ?_
            cases b3
            · obtain rfl : (0 : Int) = R := hR
              go_wp2_with fail
              go_ret
              exact ⟨rfl, BL.out⟩
            · obtain rfl : (4 : Int) = R := hR
              go_wp2_with fail
              go_ret
              exact ⟨rfl, BL.out⟩
          · obtain rfl : (3 : Int) = R := hR
            go_wp2_with fail
            go_ret
            exact ⟨rfl, BL.out⟩
      · have hv : (v == 118) = false := by simpa using h2
        clear h1 h2
        go_wp2_with fail
        refine (CO.out _).mono ?_
        rintro e W2 ⟨rfl, hb⟩
        have HB := hid (hk_calm HB.out hb)
        have BL := hid (BL.out.trans (hb.mono (by have := BL.out.size; have := HBB.out; omega)))
        clear hb
        cases nb
        · obtain rfl : (0 : Int) = R := hR
          go_wp2_with fail
          go_ret
          exact ⟨rfl, BL.out⟩
        · rw [if_pos rfl] at hR
          go_upto_region 7 with fail
          refine wp_region_list ?_
          refine wpList_plain rfl fun K hK => ?_
          have HK := hid hK
          clear hK
          go_wp2_with fail
          refine HK.out _ _ ?_
          clear HK
          refine wpList_load_mid rfl 28 (.tmp 23) rfl B 24 rfl (acV (hkAt h 2)).toList _ (hk_cells HB.out 2 (by decide)) Tryd.underlying28 rfl act_size ?_
          refine wpList_plain rfl fun K hK => ?_
          have HK := hid hK
          clear hK
          go_wp2_with fail
          refine (TH2.out _).mono ?_
          rintro e W3 ⟨rfl, hb⟩
          have HB := hid (hk_calm HB.out hb)
          have BL := hid (BL.out.trans (hb.mono (by have := BL.out.size; have := HBB.out; omega)))
          clear hb
          refine HK.out _ _ ?_
          clear HK
          refine wpList_nil ?_
          cases b2
          · rw [if_neg (by decide)] at hR
            go_upto_region 9 with fail
            refine wp_region_list ?_
            refine wpList_plain rfl fun K hK => ?_
            have HK := hid hK
            clear hK
            go_wp2_with fail
            refine HK.out _ _ ?_
            clear HK
            refine wpList_load_mid rfl 28 (.tmp 26) rfl B 36 rfl (acV (hkAt h 3)).toList _ (hk_cells HB.out 3 (by decide)) Tryd.underlying28 rfl act_size ?_
            refine wpList_plain rfl fun K hK => ?_
            have HK := hid hK
            clear hK
            go_wp2_with fail
            refine (TH3.out _).mono ?_
            rintro e W4 ⟨rfl, hb⟩
            have HB := hid (hk_calm HB.out hb)
            have BL := hid (BL.out.trans (hb.mono (by have := BL.out.size; have := HBB.out; omega)))
            clear hb
            refine HK.out _ _ ?_
            clear HK
            refine wpList_nil ?_
            cases b3
            · obtain rfl : (0 : Int) = R := hR
              go_wp2_with fail
              go_ret
              exact ⟨rfl, BL.out⟩
            · obtain rfl : (4 : Int) = R := hR
              go_wp2_with fail
              go_ret
              exact ⟨rfl, BL.out⟩
          · obtain rfl : (3 : Int) = R := hR
            go_wp2_with fail
            go_ret
            exact ⟨rfl, BL.out⟩
  · obtain rfl : (1 : Int) = R := by rw [← hR]; rfl
    go_wp2_with fail
    go_ret
    exact ⟨rfl, BL.out⟩
set_option maxRecDepth 100000 in
set_option maxHeartbeats 2000000 in
theorem rwhich_any (h : Hk) (v : Int) (sh : Bool) (w : World) : Calls Tryd.prog 11 #[.agg (hkV h), .int .i32 v, .bool sh] w fun e w' => e = .returned (.int .i64 (whichN h v sh)) ∧ Below w.heap.size w w' := by
  have TH0 := hid (fun W => rthere_any (hkAt h 0) W)
  have TH1 := hid (fun W => rthere_any (hkAt h 1) W)
  have TH2 := hid (fun W => rthere_any (hkAt h 2) W)
  have TH3 := hid (fun W => rthere_any (hkAt h 3) W)
  obtain ⟨R, hR⟩ : ∃ R, whichN h v sh = R := ⟨_, rfl⟩
  rw [hR]
  unfold whichN at hR
  obtain ⟨b0, hb0⟩ : ∃ b, thereB (hkAt h 0).k = b := ⟨_, rfl⟩
  obtain ⟨b1, hb1⟩ : ∃ b, thereB (hkAt h 1).k = b := ⟨_, rfl⟩
  obtain ⟨b2, hb2⟩ : ∃ b, thereB (hkAt h 2).k = b := ⟨_, rfl⟩
  obtain ⟨b3, hb3⟩ : ∃ b, thereB (hkAt h 3).k = b := ⟨_, rfl⟩
  rw [hb0] at TH0 hR
  rw [hb1] at TH1 hR
  rw [hb2] at TH2 hR
  rw [hb3] at TH3 hR
  obtain ⟨nb, hnb⟩ : ∃ b, namedB v = b := ⟨_, rfl⟩
  rw [hnb] at hR
  have HB := hid (Blk.new w (hkV h) 30)
  have BL := hid ((Below.refl w.heap.size w).alloc (Nat.le_refl _) (.cells (hkV h) 30))
  obtain ⟨B, hB⟩ : ∃ B, w.heap.size = B := ⟨_, rfl⟩
  obtain ⟨W0, hW0⟩ : ∃ W0, w.alloc (.cells (hkV h) 30) = W0 := ⟨_, rfl⟩
  rw [hW0] at HB BL
  rw [hB] at HB BL ⊢
  have HBB := hid hB
  clear hb0 hb1 hb2 hb3
  have NM := hid (fun W => rnamed_any v W)
  rw [hnb] at NM
  clear hnb
  go_enter Tryd.func11, Tryd.ntmps11
  go_upto_region 1 with fail
  clear hB hW0
  refine wp_region_list ?_
  refine wpList_plain rfl fun K hK => ?_
  have HK := hid hK
  clear hK
  go_wp2_with fail
  refine HK.out _ _ ?_
  clear HK
  refine wpList_load_mid rfl 28 (.tmp 7) rfl B 0 rfl (acV (hkAt h 0)).toList _ (hk_cells HB.out 0 (by decide)) Tryd.underlying28 rfl act_size ?_
  refine wpList_plain rfl fun K hK => ?_
  have HK := hid hK
  clear hK
  go_wp2_with fail
  refine (TH0.out _).mono ?_
  rintro e W1 ⟨rfl, hb⟩
  have HB := hid (hk_calm HB.out hb)
  have BL := hid (BL.out.trans (hb.mono (by have := BL.out.size; have := HBB.out; omega)))
  clear hb
  refine HK.out _ _ ?_
  clear HK
  refine wpList_nil ?_
  cases b0
  · by_cases h1 : v = 118 ∧ sh = true
    · obtain ⟨rfl, rfl⟩ := h1
      rw [if_neg (by decide), if_pos ⟨rfl, rfl⟩] at hR
      go_upto_region 4 with fail
      refine wp_region_list ?_
      refine wpList_plain rfl fun K hK => ?_
      have HK := hid hK
      clear hK
      go_wp2_with fail
      refine HK.out _ _ ?_
      clear HK
      refine wpList_load_mid rfl 28 (.tmp 15) rfl B 12 rfl (acV (hkAt h 1)).toList _ (hk_cells HB.out 1 (by decide)) Tryd.underlying28 rfl act_size ?_
      refine wpList_plain rfl fun K hK => ?_
      have HK := hid hK
      clear hK
      go_wp2_with fail
      refine (TH1.out _).mono ?_
      rintro e W2 ⟨rfl, hb⟩
      have HB := hid (hk_calm HB.out hb)
      have BL := hid (BL.out.trans (hb.mono (by have := BL.out.size; have := HBB.out; omega)))
      clear hb
      refine HK.out _ _ ?_
      clear HK
      refine wpList_nil ?_
      cases b1
      · obtain rfl : (0 : Int) = R := hR
        go_wp2_with fail
        go_ret
        exact ⟨rfl, BL.out⟩
      · obtain rfl : (2 : Int) = R := hR
        go_wp2_with fail
        go_ret
        exact ⟨rfl, BL.out⟩
    · rw [if_neg (by decide), if_neg h1] at hR
      by_cases h2 : v = 118
      · subst h2
        obtain rfl : sh = false := by cases sh <;> simp_all
        clear h1
        cases nb
        · obtain rfl : (0 : Int) = R := hR
          go_wp2_with fail
          refine (NM.out _).mono ?_
          rintro e W9 ⟨rfl, hw⟩
          subst hw
          go_wp2_with fail
          refine (NM.out _).mono ?_
          rintro e W9 ⟨rfl, hw⟩
          subst hw
          go_wp2_with fail
          go_ret
          exact ⟨rfl, BL.out⟩
        · rw [if_pos rfl] at hR
          go_upto_region 7 with fail
          refine wp_region_list ?_
          refine wpList_plain rfl fun K hK => ?_
          have HK := hid hK
          clear hK
          go_wp2_with fail
          refine HK.out _ _ ?_
          clear HK
          refine wpList_plain rfl fun K hK => ?_
          have HK := hid hK
          clear hK
          go_wp2_with fail
          refine (NM.out _).mono ?_
          rintro e W9 ⟨rfl, hw⟩
          subst hw
          refine HK.out _ _ ?_
          clear HK
          refine wpList_plain rfl fun K hK => ?_
          have HK := hid hK
          clear hK
          go_wp2_with fail
          refine HK.out _ _ ?_
          clear HK
          refine wpList_step fun K hK => ?_
          rw [if_pos (by rfl)]
          have HK := hid hK
          clear hK
          go_wp2_with fail
          refine HK.out _ _ ?_
          clear HK
          refine wpList_wantLoad (by rfl) 28 (.tmp 21) rfl B 24 rfl (acV (hkAt h 2)) _ (hk_cells HB.out 2 (by decide)) Tryd.underlying28 rfl act_size ?_
          refine wpList_step fun K hK => ?_
          rw [if_pos (by rfl)]
          have HK := hid hK
          clear hK
          go_wp2_with fail
          refine (TH2.out _).mono ?_
          rintro e W3 ⟨rfl, hb⟩
          have HB := hid (hk_calm HB.out hb)
          have BL := hid (BL.out.trans (hb.mono (by have := BL.out.size; have := HBB.out; omega)))
          clear hb
          refine HK.out _ _ ?_
          clear HK
          refine wpList_plain rfl fun K hK => ?_
          have HK := hid hK
          clear hK
          go_wp2_with fail
          refine HK.out _ _ ?_
          clear HK
          refine wpList_nil ?_
          cases b2
          · rw [if_neg (by decide)] at hR
            go_upto_region 9 with fail
            refine wp_region_list ?_
            refine wpList_plain rfl fun K hK => ?_
            have HK := hid hK
            clear hK
            go_wp2_with fail
            refine HK.out _ _ ?_
            clear HK
            refine wpList_plain rfl fun K hK => ?_
            have HK := hid hK
            clear hK
            go_wp2_with fail
            refine (NM.out _).mono ?_
            rintro e W9 ⟨rfl, hw⟩
            subst hw
            refine HK.out _ _ ?_
            clear HK
            refine wpList_plain rfl fun K hK => ?_
            have HK := hid hK
            clear hK
            go_wp2_with fail
            refine HK.out _ _ ?_
            clear HK
            refine wpList_step fun K hK => ?_
            rw [if_pos (by rfl)]
            have HK := hid hK
            clear hK
            go_wp2_with fail
            refine HK.out _ _ ?_
            clear HK
            refine wpList_wantLoad (by rfl) 28 (.tmp 28) rfl B 36 rfl (acV (hkAt h 3)) _ (hk_cells HB.out 3 (by decide)) Tryd.underlying28 rfl act_size ?_
            refine wpList_step fun K hK => ?_
            rw [if_pos (by rfl)]
            have HK := hid hK
            clear hK
            go_wp2_with fail
            refine (TH3.out _).mono ?_
            rintro e W4 ⟨rfl, hb⟩
            have HB := hid (hk_calm HB.out hb)
            have BL := hid (BL.out.trans (hb.mono (by have := BL.out.size; have := HBB.out; omega)))
            clear hb
            refine HK.out _ _ ?_
            clear HK
            refine wpList_plain rfl fun K hK => ?_
            have HK := hid hK
            clear hK
            go_wp2_with fail
            refine HK.out _ _ ?_
            clear HK
            refine wpList_nil ?_
            cases b3
            · obtain rfl : (0 : Int) = R := hR
              go_wp2_with fail
              go_ret
              exact ⟨rfl, BL.out⟩
            · obtain rfl : (4 : Int) = R := hR
              go_wp2_with fail
              go_ret
              exact ⟨rfl, BL.out⟩
          · obtain rfl : (3 : Int) = R := hR
            go_wp2_with fail
            go_ret
            exact ⟨rfl, BL.out⟩
      · have hv : (v == 118) = false := by simpa using h2
        clear h1 h2
        cases nb
        · obtain rfl : (0 : Int) = R := hR
          go_wp2_with fail
          refine (NM.out _).mono ?_
          rintro e W9 ⟨rfl, hw⟩
          subst hw
          go_wp2_with fail
          refine (NM.out _).mono ?_
          rintro e W9 ⟨rfl, hw⟩
          subst hw
          go_wp2_with fail
          go_ret
          exact ⟨rfl, BL.out⟩
        · rw [if_pos rfl] at hR
          go_upto_region 7 with fail
          refine wp_region_list ?_
          refine wpList_plain rfl fun K hK => ?_
          have HK := hid hK
          clear hK
          go_wp2_with fail
          refine HK.out _ _ ?_
          clear HK
          refine wpList_plain rfl fun K hK => ?_
          have HK := hid hK
          clear hK
          go_wp2_with fail
          refine (NM.out _).mono ?_
          rintro e W9 ⟨rfl, hw⟩
          subst hw
          refine HK.out _ _ ?_
          clear HK
          refine wpList_plain rfl fun K hK => ?_
          have HK := hid hK
          clear hK
          go_wp2_with fail
          refine HK.out _ _ ?_
          clear HK
          refine wpList_step fun K hK => ?_
          rw [if_pos (by rfl)]
          have HK := hid hK
          clear hK
          go_wp2_with fail
          refine HK.out _ _ ?_
          clear HK
          refine wpList_wantLoad (by rfl) 28 (.tmp 21) rfl B 24 rfl (acV (hkAt h 2)) _ (hk_cells HB.out 2 (by decide)) Tryd.underlying28 rfl act_size ?_
          refine wpList_step fun K hK => ?_
          rw [if_pos (by rfl)]
          have HK := hid hK
          clear hK
          go_wp2_with fail
          refine (TH2.out _).mono ?_
          rintro e W3 ⟨rfl, hb⟩
          have HB := hid (hk_calm HB.out hb)
          have BL := hid (BL.out.trans (hb.mono (by have := BL.out.size; have := HBB.out; omega)))
          clear hb
          refine HK.out _ _ ?_
          clear HK
          refine wpList_plain rfl fun K hK => ?_
          have HK := hid hK
          clear hK
          go_wp2_with fail
          refine HK.out _ _ ?_
          clear HK
          refine wpList_nil ?_
          cases b2
          · rw [if_neg (by decide)] at hR
            go_upto_region 9 with fail
            refine wp_region_list ?_
            refine wpList_plain rfl fun K hK => ?_
            have HK := hid hK
            clear hK
            go_wp2_with fail
            refine HK.out _ _ ?_
            clear HK
            refine wpList_plain rfl fun K hK => ?_
            have HK := hid hK
            clear hK
            go_wp2_with fail
            refine (NM.out _).mono ?_
            rintro e W9 ⟨rfl, hw⟩
            subst hw
            refine HK.out _ _ ?_
            clear HK
            refine wpList_plain rfl fun K hK => ?_
            have HK := hid hK
            clear hK
            go_wp2_with fail
            refine HK.out _ _ ?_
            clear HK
            refine wpList_step fun K hK => ?_
            rw [if_pos (by rfl)]
            have HK := hid hK
            clear hK
            go_wp2_with fail
            refine HK.out _ _ ?_
            clear HK
            refine wpList_wantLoad (by rfl) 28 (.tmp 28) rfl B 36 rfl (acV (hkAt h 3)) _ (hk_cells HB.out 3 (by decide)) Tryd.underlying28 rfl act_size ?_
            refine wpList_step fun K hK => ?_
            rw [if_pos (by rfl)]
            have HK := hid hK
            clear hK
            go_wp2_with fail
            refine (TH3.out _).mono ?_
            rintro e W4 ⟨rfl, hb⟩
            have HB := hid (hk_calm HB.out hb)
            have BL := hid (BL.out.trans (hb.mono (by have := BL.out.size; have := HBB.out; omega)))
            clear hb
            refine HK.out _ _ ?_
            clear HK
            refine wpList_plain rfl fun K hK => ?_
            have HK := hid hK
            clear hK
            go_wp2_with fail
            refine HK.out _ _ ?_
            clear HK
            refine wpList_nil ?_
            cases b3
            · obtain rfl : (0 : Int) = R := hR
              go_wp2_with fail
              go_ret
              exact ⟨rfl, BL.out⟩
            · obtain rfl : (4 : Int) = R := hR
              go_wp2_with fail
              go_ret
              exact ⟨rfl, BL.out⟩
          · obtain rfl : (3 : Int) = R := hR
            go_wp2_with fail
            go_ret
            exact ⟨rfl, BL.out⟩
  · obtain rfl : (1 : Int) = R := by rw [← hR]; rfl
    go_wp2_with fail
    go_ret
    exact ⟨rfl, BL.out⟩
end Go.Proofs.YtaniahkagmjkoaaDoor
