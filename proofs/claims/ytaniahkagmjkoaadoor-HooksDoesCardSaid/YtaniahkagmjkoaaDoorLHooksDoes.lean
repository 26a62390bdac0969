/-
  The law HooksDoes, walked.
-/
import Derived.Test.YtaniahkagmjkoaaDoorHM
namespace Go.Proofs.YtaniahkagmjkoaaDoor
open Go.RowKit Go.Proofs

/-- What holds at each round's head. -/
structure DoI (w W : World) (X Y i : Nat) (p s : Int) : Prop where
  x : AskB W X p s
  y : AskB W Y p s
  below : Below w.heap.size w W
  p0 : 0 ≤ p
  p1 : p ≤ i
  s0 : 0 ≤ s
  s1 : s ≤ i
theorem methodS_size (n : Int) : (methodS n).size ≤ 8 := by
  unfold methodS
  split
  · decide
  split
  · decide
  split
  · decide
  split <;> decide
theorem act_bounds (a : Ac) (nil : Bool) : 0 ≤ actP a ∧ actP a ≤ 1 ∧ 0 ≤ actS a nil ∧ actS a nil ≤ 1 := by
  unfold actP actS
  split <;> split <;> omega
set_option maxRecDepth 100000 in
set_option maxHeartbeats 2000000 in
theorem hooksDoes_law (h : Hk) (nil : Bool) (v : Int) (w : World) (hT : Tabs w) (ok : HkOk w h) (hz : HkSz h) (h0 : -2147483648 ≤ v) (h1 : v ≤ 2147483647) :
    Calls Tryd.prog 4 #[.agg (hkV h), .bool nil, .int .i32 v] w fun e w' => e = .returned (.bool true) ∧ Below w.heap.size w w' := by
  have hmf : ∀ (fn : Fn) (first cap : Array Value) (w : World), (Instr.makeFunc fn first cap).run Tryd.prog w = .ok (.func fn first cap) w := fun _ _ _ _ => rfl
  have LV := hid (fun W hT => hlives_any W hT)
  have HT := hid hT
  clear hT
  have SM := hid (fun W => small_any h W hz)
  have OK := hid ok.a
  have HV := hid (And.intro h0 h1)
  clear hz ok h0 h1
  have B0 := (Below.refl w.heap.size w).alloc (Nat.le_refl _) (.cells (hkV h) 30)
  have A0 := Blk.new w (hkV h) 30
  obtain ⟨B, hB⟩ : ∃ B, w.heap.size = B := ⟨_, rfl⟩
  go_enter Tryd.func4, Tryd.ntmps4
  go_upto_region 1 with fail
  obtain ⟨W0, hW0⟩ : ∃ W0, w.alloc (.cells (hkV h) 30) = W0 := ⟨_, rfl⟩
  rw [hW0] at B0 A0 ⊢
  rw [hB] at A0
  have HBB := hid hB
  have BL := hid B0
  have AL := hid A0
  clear B0 A0 hW0 hB
  refine wp_region_list ?_
  refine wpList_load_mid rfl 30 (.tmp 3) rfl B 0 rfl (hkV h).toList _ (fun j v hv => by rw [Nat.zero_add, AL.out.cell]; simpa using hv) Tryd.underlying30 rfl hook_size ?_
  refine wpList_plain rfl fun K hK => ?_
  have HK := hid hK
  clear hK
  go_wp2_with fail
  refine (SM.out _).mono ?_
  rintro e W1 ⟨⟨b, rfl, hb1⟩, hb⟩
  have SA := hid hb1
  have AL := hid (AL.out.below hb AL.out.lt)
  have BL := hid (BL.out.trans (hb.mono (by have := BL.out.size; have := HBB.out; omega)))
  clear hb hb1 SM
  refine HK.out _ _ ?_
  clear HK
  refine wpList_plain rfl fun K hK => ?_
  have HK := hid hK
  clear hK
  go_wp2_with fail
  refine HK.out _ _ ?_
  clear HK
  refine wpList_nil ?_
  cases b
  · go_wp2_with fail
    refine (LV.out _ (HT.out.below BL.out)).mono ?_
    rintro e W9 ⟨rfl, hb⟩
    have BL := hid (BL.out.trans (hb.mono (by have := BL.out.size; have := HBB.out; omega)))
    clear hb
    go_wp2_with fail
    go_ret
    exact ⟨rfl, BL.out⟩
  have x0 := (Blk.new W1 #[.int .i64 0, .int .i64 0] 37).alloc (.cells #[.int .i64 0, .int .i64 0] 37)
  have y0 := Blk.new (W1.alloc (.cells #[.int .i64 0, .int .i64 0] 37)) #[.int .i64 0, .int .i64 0] 37
  have b0 := (BL.out.alloc BL.out.size (.cells #[.int .i64 0, .int .i64 0] 37)).alloc (by have := BL.out.size; simp; omega) (.cells #[.int .i64 0, .int .i64 0] 37)
  have a0 := (AL.out.alloc (.cells #[.int .i64 0, .int .i64 0] 37)).alloc (.cells #[.int .i64 0, .int .i64 0] 37)
  have hwX : w.heap.size ≤ W1.heap.size := BL.out.size
  go_upto_region 4 with fail
  obtain ⟨X, hX⟩ : ∃ X, W1.heap.size = X := ⟨_, rfl⟩
  rw [show (W1.alloc (.cells #[.int .i64 0, .int .i64 0] 37)).heap.size = X + 1 by simp [hX]] at y0
  obtain ⟨W2, hW2⟩ : ∃ W2, (W1.alloc (.cells #[.int .i64 0, .int .i64 0] 37)).alloc (.cells #[.int .i64 0, .int .i64 0] 37) = W2 := ⟨_, rfl⟩
  rw [hW2] at x0 y0 b0 a0 ⊢
  rw [hX] at x0 hwX ⊢
  obtain ⟨Y, hY⟩ : ∃ Y, X + 1 = Y := ⟨_, rfl⟩
  rw [hY] at y0 ⊢
  have AL := hid a0
  have I0 : Hid (DoI w W2 X Y 0 0 0) := hid ⟨x0, y0, b0, by decide, by decide, by decide, by decide⟩
  have hYX : Y ≠ X := by omega
  have hwY : w.heap.size ≤ Y := by omega
  have HXY := hid (And.intro hX hY)
  clear x0 y0 b0 a0 hX hY hW2 BL
  refine wp_region_list ?_
  refine wpList_plain rfl fun K hK => ?_
  have HK := hid hK
  clear hK
  go_wp2_with fail
  refine HK.out _ _ ?_
  clear HK
  refine wpList_load_mid rfl 28 (.tmp 19) rfl B 0 rfl (acV (hkAt h 0)).toList _ (hk_cells AL.out 0 (by decide)) Tryd.underlying28 rfl act_size ?_
  refine wpList_plain rfl fun K hK => ?_
  have HK := hid hK
  clear hK
  go_wp2_with fail
  refine HK.out _ _ ?_
  clear HK
  refine wpList_load_mid rfl 28 (.tmp 21) rfl B 12 rfl (acV (hkAt h 1)).toList _ (hk_cells AL.out 1 (by decide)) Tryd.underlying28 rfl act_size ?_
  refine wpList_plain rfl fun K hK => ?_
  have HK := hid hK
  clear hK
  go_wp2_with fail
  refine HK.out _ _ ?_
  clear HK
  refine wpList_load_mid rfl 28 (.tmp 23) rfl B 24 rfl (acV (hkAt h 2)).toList _ (hk_cells AL.out 2 (by decide)) Tryd.underlying28 rfl act_size ?_
  refine wpList_plain rfl fun K hK => ?_
  have HK := hid hK
  clear hK
  go_wp2_with fail
  refine HK.out _ _ ?_
  clear HK
  refine wpList_load_mid rfl 28 (.tmp 25) rfl B 36 rfl (acV (hkAt h 3)).toList _ (hk_cells AL.out 3 (by decide)) Tryd.underlying28 rfl act_size ?_
  refine wpList_buildTo rfl 38 _ rfl (some 27) rfl (hkV h) (by kernel_rfl) ?_
  refine wpList_plain rfl fun K hK => ?_
  have HK := hid hK
  clear hK
  go_wp2_with fail
  refine HK.out _ _ ?_
  clear HK
  refine wpList_nil ?_
  clear AL
  go_wp2_with fail
  go_loopw [28] (fun iv wr => ∃ (i : Nat) (p s : Int), iv = .int .i64 i ∧ i ≤ 4 ∧ Hid (DoI w wr X Y i p s)) (fun iv _ => 4 - (intOf iv).toNat)
  case atStart => exact ⟨0, 0, 0, rfl, by decide, I0.out⟩
  case round =>
    obtain ⟨i, p, s, rfl, hi, hI⟩ := hrel
    by_cases hlt : i < 4
    · have hix := arr4_at h i hlt
      have hsa := SA.out (by simp) i hlt
      obtain ⟨ds, hds⟩ := OK.out i hlt
      unfold SmAt at hsa
      obtain ⟨a, ha⟩ : ∃ a, hkAt h i = a := ⟨_, rfl⟩
      rw [ha] at hix hsa hds
      clear ha
      have ASM : Hid (∀ W' Z, Below w.heap.size w W' → w.heap.size ≤ Z → AcSm W' Z a ds) := hid fun W' Z hb hZ =>
        ⟨hsa.2.1, hsa.2.2.1, by have := hds.1; omega, hds.below hb, fun g o e hne => by
          obtain ⟨g', o', e1, h2, _⟩ := hds.2 hne
          rw [e] at e1
          simp only [Option.some.injEq, Addr.mk.injEq] at e1
          omega⟩
      have hm8 := methodS_size ((i : Int) + 1)
      have hpt := hsa.2.2.1
      have MT := hid (fun W => method_any ((i : Int) + 1) W)
      have RM := hid (fun W => rmethod_any ((i : Int) + 1) W (by omega) (by omega))
      obtain ⟨nm, hnm⟩ : ∃ nm, methodS ((i : Int) + 1) = nm := ⟨_, rfl⟩
      rw [hnm] at MT RM hm8
      have I4 := hI.out
      have DO := hid (fun W' (hb : Below w.heap.size w W') (x : AskB W' X p s) => do_all a ds nil v nm X p s W' x I4.p0 (by have := I4.p1; omega) I4.s0 (by have := I4.s1; omega) (by omega) (ASM.out W' X hb hwX))
      have DC := hid (fun W' (hb : Below w.heap.size w W') (x : AskB W' Y p s) => doc_all a ds nil Y p s W' x I4.p0 (by have := I4.p1; omega) I4.s0 (by have := I4.s1; omega) (ASM.out W' Y hb hwY))
      have RD := hid (fun W' => rdo_all a ds nil v nm W' HV.out.1 HV.out.2 (by omega) hpt)
      have hab := act_bounds a nil
      obtain ⟨R, hR⟩ : ∃ R, actT a ds nil v nm = R := ⟨_, rfl⟩
      obtain ⟨ok, hok⟩ : ∃ b, actOk a = b := ⟨_, rfl⟩
      obtain ⟨Q, hQ⟩ : ∃ Q, askT a ds nil = Q := ⟨_, rfl⟩
      rw [hR, hok] at DO
      rw [hQ] at DC
      rw [hR, hok, hQ] at RD
      have HAB := hid hab
      have hwrap : IntKind.i64.wrap ((i : Int) + 1) = (i : Int) + 1 := IntWalk.i64_in _ (by omega)
      have HWR := hid hwrap
      clear hwrap hR hok hQ hnm hm8 hpt hsa hds hab ASM
      go_upto_region 6 with fail
      refine wp_region_list ?_
      refine wpList_plain rfl fun K hK => ?_
      have HK := hid hK
      clear hK
      go_wp2_with fail
      refine HK.out _ _ ?_
      clear HK
      refine wpList_plain rfl fun K hK => ?_
      have HK := hid hK
      clear hK
      go_wp2_with fail
      refine HK.out _ _ ?_
      clear HK
      clear hix
      refine wpList_plain rfl fun K hK => ?_
      have HK := hid hK
      clear hK
      go_wp2_with fail
      refine HK.out _ _ ?_
      clear HK
      refine wpList_plain rfl fun K hK => ?_
      have HK := hid hK
      clear hK
      go_wp2_with fail
      refine HK.out _ _ ?_
      clear HK
      have hG := Blk.new wr ac0 28
      refine wpList_store_rowTo rfl 28 _ _ rfl rfl wr.heap.size (acV a) rfl rfl 28 ac0 hG act_size rfl (acV_one _) ?_
      have hG2 := hG.setRow (acV a)
      have b3 : Below wr.heap.size wr ((wr.alloc (.cells ac0 28)).setRow wr.heap.size (acV a)) := below_setRow ((Below.refl _ _).alloc (Nat.le_refl _) _) wr.heap.size (Nat.le_refl _) (acV a)
      obtain ⟨W2, hW2⟩ : ∃ W2, (wr.alloc (.cells ac0 28)).setRow wr.heap.size (acV a) = W2 := ⟨_, rfl⟩
      rw [hW2] at hG2 b3 ⊢
      obtain ⟨G, hGG⟩ : ∃ G, wr.heap.size = G := ⟨_, rfl⟩
      rw [hGG] at hG2 ⊢
      have ML := hid hG2
      have hGX : G ≠ X := by have := I4.x.lt; omega
      have hGY : G ≠ Y := by have := I4.y.lt; omega
      have XL := hid (I4.x.below b3 I4.x.lt)
      have YL := hid (I4.y.below b3 I4.y.lt)
      have BL := hid (I4.below.trans (b3.mono I4.below.size))
      have PS := hid (And.intro I4.p0 (And.intro I4.p1 (And.intro I4.s0 I4.s1)))
      clear hG hG2 hW2 hGG b3 I4 hI
      refine wpList_nil ?_
      have hwrap := HWR.out
      go_upto_region 7 with fail
      refine wp_region_held_drew (S := fun w1 => Only X W2 w1) (by kernel_rfl) ((Only.refl X W2).drew) (fun hH => ?_)
      refine wpAnyH_take (i := 0) (fuel := 13) (v := _) rfl (by kernel_rfl) (by kernel_rfl) (by kernel_rfl) (fun _ _ _ h => h) (yieldsIf_load_mid (by rfl) 28 (.tmp 10) rfl G 0 rfl (acV a).toList _ (fun w1 h1 => fun j v hv => by rw [Nat.zero_add, cell_same (h1.block G ML.out.lt hGX), ML.out.cell]; simpa using hv) Tryd.underlying28 rfl act_size) hH ?_
      simp only [Act.put, List.getElem_toArray, List.getElem_cons_zero, List.setIfInBounds_toArray, List.set_cons_zero, List.set_cons_succ]
      refine wpAnyH_take (i := 1) (fuel := 12) (v := .bool nil) rfl (by kernel_rfl) (by kernel_rfl) (by kernel_rfl) (fun _ _ _ h => h) (Or.inl ⟨by rfl, by intro w1 hw1; go_simp⟩) hH ?_
      try simp only [Act.put, List.getElem_toArray, List.getElem_cons_zero, List.getElem_cons_succ, List.setIfInBounds_toArray, List.set_cons_zero, List.set_cons_succ]
      refine wpAnyH_take (i := 2) (fuel := 11) (v := .int .i32 v) rfl (by kernel_rfl) (by kernel_rfl) (by kernel_rfl) (fun _ _ _ h => h) (Or.inl ⟨by rfl, by intro w1 hw1; go_simp⟩) hH ?_
      try simp only [Act.put, List.getElem_toArray, List.getElem_cons_zero, List.getElem_cons_succ, List.setIfInBounds_toArray, List.set_cons_zero, List.set_cons_succ]
      refine wpAnyH_take (i := 3) (fuel := 10) (v := .int .i64 i) rfl (by kernel_rfl) (by kernel_rfl) (by kernel_rfl) (fun _ _ _ h => h) (Or.inl ⟨by rfl, by intro w1 hw1; go_simp⟩) hH ?_
      try simp only [Act.put, List.getElem_toArray, List.getElem_cons_zero, List.getElem_cons_succ, List.setIfInBounds_toArray, List.set_cons_zero, List.set_cons_succ]
      refine wpAnyH_take (i := 4) (fuel := 9) (v := .int .i64 (i + 1)) rfl (by kernel_rfl) (by kernel_rfl) (by kernel_rfl) (fun _ _ _ h => h) (Or.inl ⟨by rfl, by intro w1 hw1; go_simp⟩) hH ?_
      try simp only [Act.put, List.getElem_toArray, List.getElem_cons_zero, List.getElem_cons_succ, List.setIfInBounds_toArray, List.set_cons_zero, List.set_cons_succ]
      refine wpAnyH_take (i := 6) (fuel := 8) (v := prF X) rfl (by kernel_rfl) (by kernel_rfl) (by kernel_rfl) (fun _ _ _ h => h) (Or.inl ⟨by rfl, by intro w1 hw1; go_simp⟩) hH ?_
      try simp only [Act.put, List.getElem_toArray, List.getElem_cons_zero, List.getElem_cons_succ, List.setIfInBounds_toArray, List.set_cons_zero, List.set_cons_succ]
      refine wpAnyH_take (i := 7) (fuel := 7) (v := shF X) rfl (by kernel_rfl) (by kernel_rfl) (by kernel_rfl) (fun _ _ _ h => h) (Or.inl ⟨by rfl, by intro w1 hw1; go_simp⟩) hH ?_
      try simp only [Act.put, List.getElem_toArray, List.getElem_cons_zero, List.getElem_cons_succ, List.setIfInBounds_toArray, List.set_cons_zero, List.set_cons_succ]
      refine wpAnyH_ready (fuel := 6) (rs := [5]) (by kernel_rfl) (by simp) ?_
      refine AllReadyH.cons rfl (fun K hK => ?_) AllReadyH.nil
      rw [if_pos (by rfl)]
      go_wp2_with fail
      refine (MT.out _).mono ?_
      rintro e W3 ⟨rfl, hw⟩
      subst hw
      have h1 := hH
      refine hK.out _ _ h1 (fun _ => ?_)
      clear hK
      try simp only [Act.put, List.getElem_toArray, List.getElem_cons_zero, List.getElem_cons_succ, List.setIfInBounds_toArray, List.set_cons_zero, List.set_cons_succ]
      refine wpAnyH_ready (fuel := 5) (rs := [8]) (by kernel_rfl) (by simp) ?_
      refine AllReadyH.cons rfl (fun K hK => ?_) AllReadyH.nil
      rw [if_pos (by rfl)]
      go_wp2_with fail
      refine (DO.out _ (below_drew BL.out) (show AskB W2.drew X p s from XL.out)).mono ?_
      rintro e W4 ⟨rfl, hx, ho⟩
      have h2 := h1.trans ho
      have XL := hid hx
      have YL := hid (show AskB W4 Y p s from YL.out.same (ho.block Y YL.out.lt hYX))
      have ML := hid (ML.out.same (ho.block G ML.out.lt hGX))
      have BL := hid ((below_drew BL.out).trans (ho.below (below_drew BL.out).size hwX))
      clear hx ho
      refine hK.out _ _ h2 (fun _ => ?_)
      clear hK
      try simp only [Act.put, List.getElem_toArray, List.getElem_cons_zero, List.getElem_cons_succ, List.setIfInBounds_toArray, List.set_cons_zero, List.set_cons_succ]
      refine wpAnyH_take (i := 9) (fuel := 4) (v := .tuple #[.string R, .bool ok]) rfl (by kernel_rfl) (by kernel_rfl) (by kernel_rfl) (fun _ _ _ h => h) (Or.inl ⟨by rfl, by intro w1 hw1; go_simp⟩) h2 ?_
      try simp only [Act.put, List.getElem_toArray, List.getElem_cons_zero, List.getElem_cons_succ, List.setIfInBounds_toArray, List.set_cons_zero, List.set_cons_succ]
      refine wpAnyH_take (i := 10) (fuel := 3) (v := .string R) rfl (by kernel_rfl) (by kernel_rfl) (by kernel_rfl) (fun _ _ _ h => h) (Or.inl ⟨by rfl, by intro w1 hw1; go_simp⟩) h2 ?_
      try simp only [Act.put, List.getElem_toArray, List.getElem_cons_zero, List.getElem_cons_succ, List.setIfInBounds_toArray, List.set_cons_zero, List.set_cons_succ]
      refine wpAnyH_take (i := 11) (fuel := 2) (v := .bool ok) rfl (by kernel_rfl) (by kernel_rfl) (by kernel_rfl) (fun _ _ _ h => h) (Or.inl ⟨by rfl, by intro w1 hw1; go_simp⟩) h2 ?_
      try simp only [Act.put, List.getElem_toArray, List.getElem_cons_zero, List.getElem_cons_succ, List.setIfInBounds_toArray, List.set_cons_zero, List.set_cons_succ]
      refine wpAnyH_take (i := 12) (fuel := 1) (v := .string R) rfl (by kernel_rfl) (by kernel_rfl) (by kernel_rfl) (fun _ _ _ h => h) (Or.inl ⟨by rfl, by intro w1 hw1; go_simp⟩) h2 ?_
      try simp only [Act.put, List.getElem_toArray, List.getElem_cons_zero, List.getElem_cons_succ, List.setIfInBounds_toArray, List.set_cons_zero, List.set_cons_succ]
      refine wpAnyH_take (i := 13) (fuel := 0) (v := .bool ok) rfl (by kernel_rfl) (by kernel_rfl) (by kernel_rfl) (fun _ _ _ h => h) (Or.inl ⟨by rfl, by intro w1 hw1; go_simp⟩) h2 ?_
      try simp only [Act.put, List.getElem_toArray, List.getElem_cons_zero, List.getElem_cons_succ, List.setIfInBounds_toArray, List.set_cons_zero, List.set_cons_succ]
      refine wpAnyH_done (by kernel_rfl) ?_ _
      clear hH h1 h2
      go_upto_region 8 with fail
      refine wp_region_held_drew (S := fun w1 => Only Y W4 w1) (by kernel_rfl) ((Only.refl Y W4).drew) (fun hH => ?_)
      refine wpAnyH_take (i := 0) (fuel := 14) (v := _) rfl (by kernel_rfl) (by kernel_rfl) (by kernel_rfl) (fun _ _ _ h => h) (yieldsIf_load_mid (by rfl) 28 (.tmp 10) rfl G 0 rfl (acV a).toList _ (fun w1 h1 => fun j v hv => by rw [Nat.zero_add, cell_same (h1.block G ML.out.lt hGY), ML.out.cell]; simpa using hv) Tryd.underlying28 rfl act_size) hH ?_
      simp only [Act.put, List.getElem_toArray, List.getElem_cons_zero, List.setIfInBounds_toArray, List.set_cons_zero, List.set_cons_succ]
      refine wpAnyH_take (i := 1) (fuel := 13) (v := .bool nil) rfl (by kernel_rfl) (by kernel_rfl) (by kernel_rfl) (fun _ _ _ h => h) (Or.inl ⟨by rfl, by intro w1 hw1; go_simp⟩) hH ?_
      try simp only [Act.put, List.getElem_toArray, List.getElem_cons_zero, List.getElem_cons_succ, List.setIfInBounds_toArray, List.set_cons_zero, List.set_cons_succ]
      refine wpAnyH_take (i := 2) (fuel := 12) (v := .int .i32 v) rfl (by kernel_rfl) (by kernel_rfl) (by kernel_rfl) (fun _ _ _ h => h) (Or.inl ⟨by rfl, by intro w1 hw1; go_simp⟩) hH ?_
      try simp only [Act.put, List.getElem_toArray, List.getElem_cons_zero, List.getElem_cons_succ, List.setIfInBounds_toArray, List.set_cons_zero, List.set_cons_succ]
      refine wpAnyH_take (i := 3) (fuel := 11) (v := .int .i64 i) rfl (by kernel_rfl) (by kernel_rfl) (by kernel_rfl) (fun _ _ _ h => h) (Or.inl ⟨by rfl, by intro w1 hw1; go_simp⟩) hH ?_
      try simp only [Act.put, List.getElem_toArray, List.getElem_cons_zero, List.getElem_cons_succ, List.setIfInBounds_toArray, List.set_cons_zero, List.set_cons_succ]
      refine wpAnyH_take (i := 4) (fuel := 10) (v := .int .i64 (i + 1)) rfl (by kernel_rfl) (by kernel_rfl) (by kernel_rfl) (fun _ _ _ h => h) (Or.inl ⟨by rfl, by intro w1 hw1; go_simp⟩) hH ?_
      try simp only [Act.put, List.getElem_toArray, List.getElem_cons_zero, List.getElem_cons_succ, List.setIfInBounds_toArray, List.set_cons_zero, List.set_cons_succ]
      refine wpAnyH_take (i := 6) (fuel := 9) (v := _) rfl (by kernel_rfl) (by kernel_rfl) (by kernel_rfl) (fun _ _ _ h => h) (yieldsIf_load_mid (by rfl) 28 (.tmp 10) rfl G 0 rfl (acV a).toList _ (fun w1 h1 => fun j v hv => by rw [Nat.zero_add, cell_same (h1.block G ML.out.lt hGY), ML.out.cell]; simpa using hv) Tryd.underlying28 rfl act_size) hH ?_
      try simp only [Act.put, List.getElem_toArray, List.getElem_cons_zero, List.getElem_cons_succ, List.setIfInBounds_toArray, List.set_cons_zero, List.set_cons_succ]
      refine wpAnyH_take (i := 7) (fuel := 8) (v := .bool nil) rfl (by kernel_rfl) (by kernel_rfl) (by kernel_rfl) (fun _ _ _ h => h) (Or.inl ⟨by rfl, by intro w1 hw1; go_simp⟩) hH ?_
      try simp only [Act.put, List.getElem_toArray, List.getElem_cons_zero, List.getElem_cons_succ, List.setIfInBounds_toArray, List.set_cons_zero, List.set_cons_succ]
      refine wpAnyH_ready (fuel := 7) (rs := [5]) (by kernel_rfl) (by simp) ?_
      refine AllReadyH.cons rfl (fun K hK => ?_) AllReadyH.nil
      rw [if_pos (by rfl)]
      go_wp2_with fail
      refine (RM.out _).mono ?_
      rintro e W5 ⟨rfl, hb⟩
      have h1 := hH.trans (Only.of_below hb)
      have XL := hid (show AskB W5 X (p + actP a) (s + actS a nil) from Blk.below (show AskB W4.drew X _ _ from XL.out) hb XL.out.lt)
      have YL := hid (show AskB W5 Y p s from Blk.below (show AskB W4.drew Y p s from YL.out) hb YL.out.lt)
      have BL := hid ((below_drew BL.out).trans (hb.mono (below_drew BL.out).size))
      clear hb
      refine hK.out _ _ h1 (fun _ => ?_)
      clear hK
      try simp only [Act.put, List.getElem_toArray, List.getElem_cons_zero, List.getElem_cons_succ, List.setIfInBounds_toArray, List.set_cons_zero, List.set_cons_succ]
      refine wpAnyH_ready (fuel := 6) (rs := [8]) (by kernel_rfl) (by simp) ?_
      refine AllReadyH.cons rfl (fun K hK => ?_) AllReadyH.nil
      rw [if_pos (by rfl)]
      go_wp2_with fail
      refine (DC.out _ BL.out YL.out).mono ?_
      rintro e W6 ⟨rfl, hx, ho⟩
      have h2 := h1.trans ho
      have XL := hid (show AskB W6 X (p + actP a) (s + actS a nil) from XL.out.same (ho.block X XL.out.lt hYX.symm))
      have YL := hid hx
      have BL := hid (BL.out.trans (ho.below BL.out.size hwY))
      clear hx ho
      refine hK.out _ _ h2 (fun _ => ?_)
      clear hK
      try simp only [Act.put, List.getElem_toArray, List.getElem_cons_zero, List.getElem_cons_succ, List.setIfInBounds_toArray, List.set_cons_zero, List.set_cons_succ]
      refine wpAnyH_ready (fuel := 5) (rs := [9]) (by kernel_rfl) (by simp) ?_
      refine AllReadyH.cons rfl (fun K hK => ?_) AllReadyH.nil
      rw [if_pos (by rfl)]
      go_wp2_with fail
      refine (RD.out _).mono ?_
      rintro e W7 ⟨rfl, hb⟩
      have h3 := h2.trans (Only.of_below hb)
      have XL := hid (XL.out.below hb XL.out.lt)
      have YL := hid (YL.out.below hb YL.out.lt)
      have BL := hid (BL.out.trans (hb.mono BL.out.size))
      clear hb
      refine hK.out _ _ h3 (fun _ => ?_)
      clear hK
      try simp only [Act.put, List.getElem_toArray, List.getElem_cons_zero, List.getElem_cons_succ, List.setIfInBounds_toArray, List.set_cons_zero, List.set_cons_succ]
      refine wpAnyH_take (i := 10) (fuel := 4) (v := .tuple #[.string R, .bool ok]) rfl (by kernel_rfl) (by kernel_rfl) (by kernel_rfl) (fun _ _ _ h => h) (Or.inl ⟨by rfl, by intro w1 hw1; go_simp⟩) h3 ?_
      try simp only [Act.put, List.getElem_toArray, List.getElem_cons_zero, List.getElem_cons_succ, List.setIfInBounds_toArray, List.set_cons_zero, List.set_cons_succ]
      refine wpAnyH_take (i := 11) (fuel := 3) (v := .string R) rfl (by kernel_rfl) (by kernel_rfl) (by kernel_rfl) (fun _ _ _ h => h) (Or.inl ⟨by rfl, by intro w1 hw1; go_simp⟩) h3 ?_
      try simp only [Act.put, List.getElem_toArray, List.getElem_cons_zero, List.getElem_cons_succ, List.setIfInBounds_toArray, List.set_cons_zero, List.set_cons_succ]
      refine wpAnyH_take (i := 12) (fuel := 2) (v := .bool ok) rfl (by kernel_rfl) (by kernel_rfl) (by kernel_rfl) (fun _ _ _ h => h) (Or.inl ⟨by rfl, by intro w1 hw1; go_simp⟩) h3 ?_
      try simp only [Act.put, List.getElem_toArray, List.getElem_cons_zero, List.getElem_cons_succ, List.setIfInBounds_toArray, List.set_cons_zero, List.set_cons_succ]
      refine wpAnyH_take (i := 13) (fuel := 1) (v := .string R) rfl (by kernel_rfl) (by kernel_rfl) (by kernel_rfl) (fun _ _ _ h => h) (Or.inl ⟨by rfl, by intro w1 hw1; go_simp⟩) h3 ?_
      try simp only [Act.put, List.getElem_toArray, List.getElem_cons_zero, List.getElem_cons_succ, List.setIfInBounds_toArray, List.set_cons_zero, List.set_cons_succ]
      refine wpAnyH_take (i := 14) (fuel := 0) (v := .bool ok) rfl (by kernel_rfl) (by kernel_rfl) (by kernel_rfl) (fun _ _ _ h => h) (Or.inl ⟨by rfl, by intro w1 hw1; go_simp⟩) h3 ?_
      try simp only [Act.put, List.getElem_toArray, List.getElem_cons_zero, List.getElem_cons_succ, List.setIfInBounds_toArray, List.set_cons_zero, List.set_cons_succ]
      refine wpAnyH_done (by kernel_rfl) ?_ _
      clear hH h1 h2 h3 hwrap
      have x0 : W7.cell? ⟨X, 0, none⟩ = some (.int .i64 (p + actP a)) := XL.out.cell 0
      have x1 : W7.cell? ⟨X, 1, none⟩ = some (.int .i64 (s + actS a nil)) := XL.out.cell 1
      have y0 : W7.cell? ⟨Y, 0, none⟩ = some (.int .i64 (p + actP a)) := YL.out.cell 0
      have y1 : W7.cell? ⟨Y, 1, none⟩ = some (.int .i64 (s + actS a nil)) := YL.out.cell 1
      have N : Hid (DoI w W7 X Y (i + 1) (p + actP a) (s + actS a nil)) := hid ⟨XL.out, YL.out, BL.out, by have := PS.out; have := HAB.out; omega, by have := PS.out; have := HAB.out; omega, by have := PS.out; have := HAB.out; omega, by have := PS.out; have := HAB.out; omega⟩
      go_wp2_with fail
      go_roundw
      case rel => exact ⟨i + 1, p + actP a, s + actS a nil, by go_num, by omega, N.out⟩
      case measure => simp [intOf]; omega
    · have BL := hid hI.out.below
      clear hI
      go_wp2_with fail
      refine (LV.out _ (HT.out.below BL.out)).mono ?_
      rintro e W9 ⟨rfl, hb⟩
      have BL := hid (BL.out.trans (hb.mono (by exact BL.out.size)))
      clear hb
      go_wp2_with fail
      go_ret
      exact ⟨rfl, BL.out⟩
end Go.Proofs.YtaniahkagmjkoaaDoor
