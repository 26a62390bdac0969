/-
  Texts of this claim, joined: UB.
-/
import Derived.Test.YtdjhmanccoekjaaGreatDoorN9
import Derived.Test.YtdjhmanccoekjaaGreatDoorN4

section
namespace Go.Proofs.YtdjhmanccoekjaaGreatDoor
open Go.RowKit Go.Proofs

theorem arr5_2 (h : Hk) (w : World) : (Instr.index 207 (.agg (arr5 h)) (.int .i64 2)).run Tryz.prog w = .ok (.agg (acV (hkAt h 1))) w := by kernel_rfl
theorem arr5_3 (h : Hk) (w : World) : (Instr.index 207 (.agg (arr5 h)) (.int .i64 3)).run Tryz.prog w = .ok (.agg (acV (hkAt h 2))) w := by kernel_rfl
abbrev u_sayArgs (h : Hk) (pl mi sh sp ze : Bool) (wid prec verb : Int) (nil : Bool) (X : Nat) : Array Value := #[.agg (hkV h), .agg #[.bool pl, .bool mi, .bool sh, .bool sp, .bool ze, .int .i64 wid, .int .i64 prec, .int .i32 verb], .bool nil, u_prF X, u_shF X]
set_option maxRecDepth 100000 in
set_option maxHeartbeats 1000000 in
theorem u_say_none (h : Hk) (pl mi sh sp ze : Bool) (wid prec verb : Int) (nil : Bool) (X : Nat) (W : World) (hn : whichN h verb sh = 0) : Calls Tryz.prog 81 (u_sayArgs h pl mi sh sp ze wid prec verb nil X) W fun e w' => e = .returned (.tuple #[.string ⟨#[]⟩, .bool false]) ∧ Below W.heap.size W w' := by
  have WH := hid (fun W => which_any h verb sh W)
  rw [hn] at WH
  have B0 := ((Below.refl W.heap.size W).alloc (Nat.le_refl _) (.cells (hkV h) 34)).alloc (by simp) (.cells (sp8 pl mi sh sp ze wid prec verb) 94)
  have A0 := (Blk.new W (hkV h) 34).alloc (.cells (sp8 pl mi sh sp ze wid prec verb) 94)
  have F0 := Blk.new (W.alloc (.cells (hkV h) 34)) (sp8 pl mi sh sp ze wid prec verb) 94
  obtain ⟨B, hB⟩ : ∃ B, W.heap.size = B := ⟨_, rfl⟩
  rw [show (W.alloc (.cells (hkV h) 34)).heap.size = B + 1 by simp [hB]] at F0
  have HBB := hid hB
  clear hn
  go_enter Tryz.func81, Tryz.ntmps81
  go_upto_region 1 with fail
  obtain ⟨W0, hW0⟩ : ∃ W0, (W.alloc (.cells (hkV h) 34)).alloc (.cells (sp8 pl mi sh sp ze wid prec verb) 94) = W0 := ⟨_, rfl⟩
  rw [hW0] at B0 A0 F0
  first | rw [hW0] | (unfold sp8 at hW0; rw [hW0])
  rw [hB] at A0
  obtain ⟨F, hF⟩ : ∃ F, B + 1 = F := ⟨_, rfl⟩
  rw [hF] at F0 ⊢
  have HF := hid hF
  have BL := hid B0
  have AL := hid A0
  have FL := hid F0
  have f2 : W0.cell? ⟨F, 2, none⟩ = some (.bool sh) := F0.cell 2
  have f7 : W0.cell? ⟨F, 7, none⟩ = some (.int .i32 verb) := F0.cell 7
  clear B0 A0 F0 hW0 hB hF
  refine wp_region_list ?_
  refine wpList_load_mid rfl 34 (.tmp 5) rfl B 0 rfl (hkV h).toList _ (fun j v hv => by rw [Nat.zero_add, AL.out.cell]; simpa using hv) Tryz.underlying34 rfl hook_size ?_
  refine wpList_plain rfl fun K hK => ?_
  have HK := hid hK
  clear hK
  go_wp2_with fail
  refine HK.out _ _ ?_
  clear HK
  refine wpList_plain rfl fun K hK => ?_
  have HK := hid hK
  clear hK
  go_wp2_with fail
  refine HK.out _ _ ?_
  clear HK
  refine wpList_plain rfl fun K hK => ?_
  have HK := hid hK
  clear hK
  go_wp2_with fail
  refine HK.out _ _ ?_
  clear HK
  refine wpList_plain rfl fun K hK => ?_
  have HK := hid hK
  clear hK
  go_wp2_with fail
  refine HK.out _ _ ?_
  clear HK
  refine wpList_plain rfl fun K hK => ?_
  have HK := hid hK
  clear hK
  go_wp2_with fail
  refine (WH.out _).mono ?_
  rintro e W1 ⟨rfl, hb⟩
  have BL := hid (BL.out.trans (hb.mono BL.out.size))
  have AL := hid (AL.out.below hb AL.out.lt)
  have FL := hid (FL.out.below hb FL.out.lt)
  clear hb f2 f7
  refine HK.out _ _ ?_
  clear HK
  refine wpList_plain rfl fun K hK => ?_
  have HK := hid hK
  clear hK
  go_wp2_with fail
  refine HK.out _ _ ?_
  clear HK
  refine wpList_nil ?_
  go_wp2_with fail
  go_ret2
  exact ⟨rfl, BL.out⟩
set_option maxRecDepth 100000 in
set_option maxHeartbeats 1000000 in
theorem u_say_1 (h : Hk) (pl mi sh sp ze : Bool) (wid prec verb : Int) (nil : Bool) (X : Nat) (o : Option Obj) (t : ByteArray) (W : World) (hX : X < W.heap.size) (hn : whichN h verb sh = 1)
    (HDO : (∀ W', Below W.heap.size W W' → Calls Tryz.prog 116 (u_doArgs (hkAt h 0) nil verb (methodS 1) X) W' fun e w' => e = .returned (.tuple #[.string t, .bool true]) ∧ AskO w' X o ∧ Only X W' w')) :
    Calls Tryz.prog 81 (u_sayArgs h pl mi sh sp ze wid prec verb nil X) W fun e w' => e = .returned (.tuple #[.string t, .bool true]) ∧ AskO w' X o ∧ Only X W w' := by
  have DO := hid HDO
  have MT := hid (fun W => method_any 1 W)
  clear HDO
  have WH := hid (fun W => which_any h verb sh W)
  rw [hn] at WH
  have B0 := ((Below.refl W.heap.size W).alloc (Nat.le_refl _) (.cells (hkV h) 34)).alloc (by simp) (.cells (sp8 pl mi sh sp ze wid prec verb) 94)
  have A0 := (Blk.new W (hkV h) 34).alloc (.cells (sp8 pl mi sh sp ze wid prec verb) 94)
  have F0 := Blk.new (W.alloc (.cells (hkV h) 34)) (sp8 pl mi sh sp ze wid prec verb) 94
  obtain ⟨B, hB⟩ : ∃ B, W.heap.size = B := ⟨_, rfl⟩
  rw [show (W.alloc (.cells (hkV h) 34)).heap.size = B + 1 by simp [hB]] at F0
  have HBB := hid hB
  clear hn
  go_enter Tryz.func81, Tryz.ntmps81
  go_upto_region 1 with fail
  obtain ⟨W0, hW0⟩ : ∃ W0, (W.alloc (.cells (hkV h) 34)).alloc (.cells (sp8 pl mi sh sp ze wid prec verb) 94) = W0 := ⟨_, rfl⟩
  rw [hW0] at B0 A0 F0
  first | rw [hW0] | (unfold sp8 at hW0; rw [hW0])
  rw [hB] at A0
  obtain ⟨F, hF⟩ : ∃ F, B + 1 = F := ⟨_, rfl⟩
  rw [hF] at F0 ⊢
  have HF := hid hF
  have BL := hid B0
  have AL := hid A0
  have FL := hid F0
  have f2 : W0.cell? ⟨F, 2, none⟩ = some (.bool sh) := F0.cell 2
  have f7 : W0.cell? ⟨F, 7, none⟩ = some (.int .i32 verb) := F0.cell 7
  clear B0 A0 F0 hW0 hB hF
  refine wp_region_list ?_
  refine wpList_load_mid rfl 34 (.tmp 5) rfl B 0 rfl (hkV h).toList _ (fun j v hv => by rw [Nat.zero_add, AL.out.cell]; simpa using hv) Tryz.underlying34 rfl hook_size ?_
  refine wpList_plain rfl fun K hK => ?_
  have HK := hid hK
  clear hK
  go_wp2_with fail
  refine HK.out _ _ ?_
  clear HK
  refine wpList_plain rfl fun K hK => ?_
  have HK := hid hK
  clear hK
  go_wp2_with fail
  refine HK.out _ _ ?_
  clear HK
  refine wpList_plain rfl fun K hK => ?_
  have HK := hid hK
  clear hK
  go_wp2_with fail
  refine HK.out _ _ ?_
  clear HK
  refine wpList_plain rfl fun K hK => ?_
  have HK := hid hK
  clear hK
  go_wp2_with fail
  refine HK.out _ _ ?_
  clear HK
  refine wpList_plain rfl fun K hK => ?_
  have HK := hid hK
  clear hK
  go_wp2_with fail
  refine (WH.out _).mono ?_
  rintro e W1 ⟨rfl, hb⟩
  have BL := hid (BL.out.trans (hb.mono BL.out.size))
  have AL := hid (AL.out.below hb AL.out.lt)
  have FL := hid (FL.out.below hb FL.out.lt)
  clear hb f2 f7
  refine HK.out _ _ ?_
  clear HK
  refine wpList_plain rfl fun K hK => ?_
  have HK := hid hK
  clear hK
  go_wp2_with fail
  refine HK.out _ _ ?_
  clear HK
  refine wpList_nil ?_
  go_upto_region 4 with fail
  refine wp_region_list ?_
  refine wpList_plain rfl fun K hK => ?_
  have HK := hid hK
  clear hK
  go_wp2_with fail
  refine HK.out _ _ ?_
  clear HK
  refine wpList_load_mid rfl 31 (.tmp 24) rfl B 0 rfl (acV (hkAt h 0)).toList _ (hk_cells AL.out 0 (by decide)) Tryz.underlying31 rfl act_size ?_
  refine wpList_plain rfl fun K hK => ?_
  have HK := hid hK
  clear hK
  go_wp2_with fail
  refine HK.out _ _ ?_
  clear HK
  refine wpList_load_mid rfl 31 (.tmp 26) rfl B 12 rfl (acV (hkAt h 1)).toList _ (hk_cells AL.out 1 (by decide)) Tryz.underlying31 rfl act_size ?_
  refine wpList_plain rfl fun K hK => ?_
  have HK := hid hK
  clear hK
  go_wp2_with fail
  refine HK.out _ _ ?_
  clear HK
  refine wpList_load_mid rfl 31 (.tmp 28) rfl B 24 rfl (acV (hkAt h 2)).toList _ (hk_cells AL.out 2 (by decide)) Tryz.underlying31 rfl act_size ?_
  refine wpList_plain rfl fun K hK => ?_
  have HK := hid hK
  clear hK
  go_wp2_with fail
  refine HK.out _ _ ?_
  clear HK
  refine wpList_load_mid rfl 31 (.tmp 30) rfl B 36 rfl (acV (hkAt h 3)).toList _ (hk_cells AL.out 3 (by decide)) Tryz.underlying31 rfl act_size ?_
  refine wpList_buildTo rfl 207 _ rfl (some 32) rfl (arr5 h) (by kernel_rfl) ?_
  refine wpList_plain rfl fun K hK => ?_
  have HK := hid hK
  clear hK
  go_wp2_with fail
  refine HK.out _ _ ?_
  clear HK
  have hix := arr5_1 h
  refine wpList_plain rfl fun K hK => ?_
  have HK := hid hK
  clear hK
  go_wp2_with fail
  refine HK.out _ _ ?_
  clear HK
  clear hix
  refine wpList_plain rfl fun K hK => ?_
  have HK := hid hK
  clear hK
  go_wp2_with fail
  refine HK.out _ _ ?_
  clear HK
  have hG := Blk.new W1 ac0 31
  refine wpList_store_rowTo rfl 31 _ _ rfl rfl W1.heap.size (acV (hkAt h 0)) rfl rfl 31 ac0 hG act_size rfl (acV_one _) ?_
  have hG2 := hG.setRow (acV (hkAt h 0))
  have b3 : Below W1.heap.size W1 ((W1.alloc (.cells ac0 31)).setRow W1.heap.size (acV (hkAt h 0))) := below_setRow ((Below.refl _ _).alloc (Nat.le_refl _) _) W1.heap.size (Nat.le_refl _) (acV (hkAt h 0))
  obtain ⟨W2, hW2⟩ : ∃ W2, (W1.alloc (.cells ac0 31)).setRow W1.heap.size (acV (hkAt h 0)) = W2 := ⟨_, rfl⟩
  rw [hW2] at hG2 b3 ⊢
  obtain ⟨G, hGG⟩ : ∃ G, W1.heap.size = G := ⟨_, rfl⟩
  rw [hGG] at hG2 ⊢
  have ML := hid hG2
  have FL := hid (FL.out.below b3 FL.out.lt)
  have hGX : G ≠ X := by have := BL.out.size; omega
  have BL := hid (BL.out.trans (b3.mono BL.out.size))
  have hFX : F ≠ X := by have := HF.out; have := HBB.out; omega
  clear hG hG2 hW2 hGG b3
  refine wpList_nil ?_
  go_upto_region 5 with fail
  refine wp_region_held_drew (S := fun w1 => Only X W2 w1) (by kernel_rfl) ((Only.refl X W2).drew) (fun hH => ?_)
  refine wpAnyH_take (i := 0) (fuel := 13) (v := _) rfl (by kernel_rfl) (by kernel_rfl) (by kernel_rfl) (fun _ _ _ h => h) (yieldsIf_load_mid (by rfl) 31 (.tmp 13) rfl G 0 rfl (acV (hkAt h 0)).toList _ (fun w1 h1 => fun j v hv => by rw [Nat.zero_add, cell_same (h1.block G ML.out.lt hGX), ML.out.cell]; simpa using hv) Tryz.underlying31 rfl act_size) hH ?_
  simp only [Act.put, List.getElem_toArray, List.getElem_cons_zero, List.setIfInBounds_toArray, List.set_cons_zero, List.set_cons_succ]
  refine wpAnyH_take (i := 1) (fuel := 12) (v := .bool nil) rfl (by kernel_rfl) (by kernel_rfl) (by kernel_rfl) (fun _ _ _ h => h) (Or.inl ⟨by rfl, by intro w1 hw1; go_simp⟩) hH ?_
  simp only [Act.put, List.getElem_toArray, List.getElem_cons_zero, List.getElem_cons_succ, List.setIfInBounds_toArray, List.set_cons_zero, List.set_cons_succ]
  refine wpAnyH_take (i := 2) (fuel := 11) (v := .pointer (some ⟨F, 7, none⟩)) rfl (by kernel_rfl) (by kernel_rfl) (by kernel_rfl) (fun _ _ _ h => h) (Or.inl ⟨by rfl, by intro w1 hw1; go_simp⟩) hH ?_
  simp only [Act.put, List.getElem_toArray, List.getElem_cons_zero, List.getElem_cons_succ, List.setIfInBounds_toArray, List.set_cons_zero, List.set_cons_succ]
  refine wpAnyH_take (i := 3) (fuel := 10) (v := .int .i32 verb) rfl (by kernel_rfl) (by kernel_rfl) (by kernel_rfl) (fun _ _ _ h => h) (Or.inl ⟨by rfl, by intro w1 hw1; have hq : w1.cell? ⟨F, 7, none⟩ = some (.int .i32 verb) := (cell_same (hw1.block F FL.out.lt hFX) 7).trans (FL.out.cell 7); go_simp⟩) hH ?_
  simp only [Act.put, List.getElem_toArray, List.getElem_cons_zero, List.getElem_cons_succ, List.setIfInBounds_toArray, List.set_cons_zero, List.set_cons_succ]
  refine wpAnyH_take (i := 4) (fuel := 9) (v := .int .i64 1) rfl (by kernel_rfl) (by kernel_rfl) (by kernel_rfl) (fun _ _ _ h => h) (Or.inl ⟨by rfl, by intro w1 hw1; go_simp⟩) hH ?_
  simp only [Act.put, List.getElem_toArray, List.getElem_cons_zero, List.getElem_cons_succ, List.setIfInBounds_toArray, List.set_cons_zero, List.set_cons_succ]
  refine wpAnyH_take (i := 6) (fuel := 8) (v := u_prF X) rfl (by kernel_rfl) (by kernel_rfl) (by kernel_rfl) (fun _ _ _ h => h) (Or.inl ⟨by rfl, by intro w1 hw1; go_simp⟩) hH ?_
  simp only [Act.put, List.getElem_toArray, List.getElem_cons_zero, List.getElem_cons_succ, List.setIfInBounds_toArray, List.set_cons_zero, List.set_cons_succ]
  refine wpAnyH_take (i := 7) (fuel := 7) (v := u_shF X) rfl (by kernel_rfl) (by kernel_rfl) (by kernel_rfl) (fun _ _ _ h => h) (Or.inl ⟨by rfl, by intro w1 hw1; go_simp⟩) hH ?_
  simp only [Act.put, List.getElem_toArray, List.getElem_cons_zero, List.getElem_cons_succ, List.setIfInBounds_toArray, List.set_cons_zero, List.set_cons_succ]
  refine wpAnyH_ready (fuel := 6) (rs := [5]) (by kernel_rfl) (by simp) ?_
  refine AllReadyH.cons rfl (fun K hK => ?_) AllReadyH.nil
  rw [if_pos (by rfl)]
  go_wp2_with fail
  refine (MT.out _).mono ?_
  rintro e W3 ⟨rfl, hw⟩
  subst hw
  refine hK.out _ _ hH (fun _ => ?_)
  clear hK
  try simp only [Act.put, List.getElem_toArray, List.getElem_cons_zero, List.getElem_cons_succ, List.setIfInBounds_toArray, List.set_cons_zero, List.set_cons_succ]
  refine wpAnyH_ready (fuel := 5) (rs := [8]) (by kernel_rfl) (by simp) ?_
  refine AllReadyH.cons rfl (fun K hK => ?_) AllReadyH.nil
  rw [if_pos (by rfl)]
  go_wp2_with fail
  refine (DO.out _ (below_drew BL.out)).mono ?_
  rintro e W4 ⟨rfl, hx, ho⟩
  have hS2 := hH.trans ho
  have N := hid (And.intro hx ((Only.of_below (below_drew BL.out) : Only X W W2.drew).trans ho))
  clear hx ho
  refine hK.out _ _ hS2 (fun _ => ?_)
  clear hK
  try simp only [Act.put, List.getElem_toArray, List.getElem_cons_zero, List.getElem_cons_succ, List.setIfInBounds_toArray, List.set_cons_zero, List.set_cons_succ]
  refine wpAnyH_take (i := 9) (fuel := 4) (v := .tuple #[.string t, .bool true]) rfl (by kernel_rfl) (by kernel_rfl) (by kernel_rfl) (fun _ _ _ h => h) (Or.inl ⟨by rfl, by intro w1 hw1; go_simp⟩) hS2 ?_
  simp only [Act.put, List.getElem_toArray, List.getElem_cons_zero, List.getElem_cons_succ, List.setIfInBounds_toArray, List.set_cons_zero, List.set_cons_succ]
  refine wpAnyH_take (i := 10) (fuel := 3) (v := .string t) rfl (by kernel_rfl) (by kernel_rfl) (by kernel_rfl) (fun _ _ _ h => h) (Or.inl ⟨by rfl, by intro w1 hw1; go_simp⟩) hS2 ?_
  simp only [Act.put, List.getElem_toArray, List.getElem_cons_zero, List.getElem_cons_succ, List.setIfInBounds_toArray, List.set_cons_zero, List.set_cons_succ]
  refine wpAnyH_take (i := 11) (fuel := 2) (v := .bool true) rfl (by kernel_rfl) (by kernel_rfl) (by kernel_rfl) (fun _ _ _ h => h) (Or.inl ⟨by rfl, by intro w1 hw1; go_simp⟩) hS2 ?_
  simp only [Act.put, List.getElem_toArray, List.getElem_cons_zero, List.getElem_cons_succ, List.setIfInBounds_toArray, List.set_cons_zero, List.set_cons_succ]
  refine wpAnyH_take (i := 12) (fuel := 1) (v := .string t) rfl (by kernel_rfl) (by kernel_rfl) (by kernel_rfl) (fun _ _ _ h => h) (Or.inl ⟨by rfl, by intro w1 hw1; go_simp⟩) hS2 ?_
  simp only [Act.put, List.getElem_toArray, List.getElem_cons_zero, List.getElem_cons_succ, List.setIfInBounds_toArray, List.set_cons_zero, List.set_cons_succ]
  refine wpAnyH_take (i := 13) (fuel := 0) (v := .bool true) rfl (by kernel_rfl) (by kernel_rfl) (by kernel_rfl) (fun _ _ _ h => h) (Or.inl ⟨by rfl, by intro w1 hw1; go_simp⟩) hS2 ?_
  simp only [Act.put, List.getElem_toArray, List.getElem_cons_zero, List.getElem_cons_succ, List.setIfInBounds_toArray, List.set_cons_zero, List.set_cons_succ]
  refine wpAnyH_done (by kernel_rfl) ?_ _
  have FL := hid (FL.out.same (hS2.block F FL.out.lt hFX))
  clear hH hS2
  go_wp2_with fail
  go_ret2
  exact ⟨rfl, N.out⟩
set_option maxRecDepth 100000 in
set_option maxHeartbeats 1000000 in
theorem u_say_2 (h : Hk) (pl mi sh sp ze : Bool) (wid prec verb : Int) (nil : Bool) (X : Nat) (o : Option Obj) (t : ByteArray) (W : World) (hX : X < W.heap.size) (hn : whichN h verb sh = 2)
    (HDO : (∀ W', Below W.heap.size W W' → Calls Tryz.prog 116 (u_doArgs (hkAt h 1) nil verb (methodS 2) X) W' fun e w' => e = .returned (.tuple #[.string t, .bool true]) ∧ AskO w' X o ∧ Only X W' w')) :
    Calls Tryz.prog 81 (u_sayArgs h pl mi sh sp ze wid prec verb nil X) W fun e w' => e = .returned (.tuple #[.string t, .bool true]) ∧ AskO w' X o ∧ Only X W w' := by
  have DO := hid HDO
  have MT := hid (fun W => method_any 2 W)
  clear HDO
  have WH := hid (fun W => which_any h verb sh W)
  rw [hn] at WH
  have B0 := ((Below.refl W.heap.size W).alloc (Nat.le_refl _) (.cells (hkV h) 34)).alloc (by simp) (.cells (sp8 pl mi sh sp ze wid prec verb) 94)
  have A0 := (Blk.new W (hkV h) 34).alloc (.cells (sp8 pl mi sh sp ze wid prec verb) 94)
  have F0 := Blk.new (W.alloc (.cells (hkV h) 34)) (sp8 pl mi sh sp ze wid prec verb) 94
  obtain ⟨B, hB⟩ : ∃ B, W.heap.size = B := ⟨_, rfl⟩
  rw [show (W.alloc (.cells (hkV h) 34)).heap.size = B + 1 by simp [hB]] at F0
  have HBB := hid hB
  clear hn
  go_enter Tryz.func81, Tryz.ntmps81
  go_upto_region 1 with fail
  obtain ⟨W0, hW0⟩ : ∃ W0, (W.alloc (.cells (hkV h) 34)).alloc (.cells (sp8 pl mi sh sp ze wid prec verb) 94) = W0 := ⟨_, rfl⟩
  rw [hW0] at B0 A0 F0
  first | rw [hW0] | (unfold sp8 at hW0; rw [hW0])
  rw [hB] at A0
  obtain ⟨F, hF⟩ : ∃ F, B + 1 = F := ⟨_, rfl⟩
  rw [hF] at F0 ⊢
  have HF := hid hF
  have BL := hid B0
  have AL := hid A0
  have FL := hid F0
  have f2 : W0.cell? ⟨F, 2, none⟩ = some (.bool sh) := F0.cell 2
  have f7 : W0.cell? ⟨F, 7, none⟩ = some (.int .i32 verb) := F0.cell 7
  clear B0 A0 F0 hW0 hB hF
  refine wp_region_list ?_
  refine wpList_load_mid rfl 34 (.tmp 5) rfl B 0 rfl (hkV h).toList _ (fun j v hv => by rw [Nat.zero_add, AL.out.cell]; simpa using hv) Tryz.underlying34 rfl hook_size ?_
  refine wpList_plain rfl fun K hK => ?_
  have HK := hid hK
  clear hK
  go_wp2_with fail
  refine HK.out _ _ ?_
  clear HK
  refine wpList_plain rfl fun K hK => ?_
  have HK := hid hK
  clear hK
  go_wp2_with fail
  refine HK.out _ _ ?_
  clear HK
  refine wpList_plain rfl fun K hK => ?_
  have HK := hid hK
  clear hK
  go_wp2_with fail
  refine HK.out _ _ ?_
  clear HK
  refine wpList_plain rfl fun K hK => ?_
  have HK := hid hK
  clear hK
  go_wp2_with fail
  refine HK.out _ _ ?_
  clear HK
  refine wpList_plain rfl fun K hK => ?_
  have HK := hid hK
  clear hK
  go_wp2_with fail
  refine (WH.out _).mono ?_
  rintro e W1 ⟨rfl, hb⟩
  have BL := hid (BL.out.trans (hb.mono BL.out.size))
  have AL := hid (AL.out.below hb AL.out.lt)
  have FL := hid (FL.out.below hb FL.out.lt)
  clear hb f2 f7
  refine HK.out _ _ ?_
  clear HK
  refine wpList_plain rfl fun K hK => ?_
  have HK := hid hK
  clear hK
  go_wp2_with fail
  refine HK.out _ _ ?_
  clear HK
  refine wpList_nil ?_
  go_upto_region 4 with fail
  refine wp_region_list ?_
  refine wpList_plain rfl fun K hK => ?_
  have HK := hid hK
  clear hK
  go_wp2_with fail
  refine HK.out _ _ ?_
  clear HK
  refine wpList_load_mid rfl 31 (.tmp 24) rfl B 0 rfl (acV (hkAt h 0)).toList _ (hk_cells AL.out 0 (by decide)) Tryz.underlying31 rfl act_size ?_
  refine wpList_plain rfl fun K hK => ?_
  have HK := hid hK
  clear hK
  go_wp2_with fail
  refine HK.out _ _ ?_
  clear HK
  refine wpList_load_mid rfl 31 (.tmp 26) rfl B 12 rfl (acV (hkAt h 1)).toList _ (hk_cells AL.out 1 (by decide)) Tryz.underlying31 rfl act_size ?_
  refine wpList_plain rfl fun K hK => ?_
  have HK := hid hK
  clear hK
  go_wp2_with fail
  refine HK.out _ _ ?_
  clear HK
  refine wpList_load_mid rfl 31 (.tmp 28) rfl B 24 rfl (acV (hkAt h 2)).toList _ (hk_cells AL.out 2 (by decide)) Tryz.underlying31 rfl act_size ?_
  refine wpList_plain rfl fun K hK => ?_
  have HK := hid hK
  clear hK
  go_wp2_with fail
  refine HK.out _ _ ?_
  clear HK
  refine wpList_load_mid rfl 31 (.tmp 30) rfl B 36 rfl (acV (hkAt h 3)).toList _ (hk_cells AL.out 3 (by decide)) Tryz.underlying31 rfl act_size ?_
  refine wpList_buildTo rfl 207 _ rfl (some 32) rfl (arr5 h) (by kernel_rfl) ?_
  refine wpList_plain rfl fun K hK => ?_
  have HK := hid hK
  clear hK
  go_wp2_with fail
  refine HK.out _ _ ?_
  clear HK
  have hix := arr5_2 h
  refine wpList_plain rfl fun K hK => ?_
  have HK := hid hK
  clear hK
  go_wp2_with fail
  refine HK.out _ _ ?_
  clear HK
  clear hix
  refine wpList_plain rfl fun K hK => ?_
  have HK := hid hK
  clear hK
  go_wp2_with fail
  refine HK.out _ _ ?_
  clear HK
  have hG := Blk.new W1 ac0 31
  refine wpList_store_rowTo rfl 31 _ _ rfl rfl W1.heap.size (acV (hkAt h 1)) rfl rfl 31 ac0 hG act_size rfl (acV_one _) ?_
  have hG2 := hG.setRow (acV (hkAt h 1))
  have b3 : Below W1.heap.size W1 ((W1.alloc (.cells ac0 31)).setRow W1.heap.size (acV (hkAt h 1))) := below_setRow ((Below.refl _ _).alloc (Nat.le_refl _) _) W1.heap.size (Nat.le_refl _) (acV (hkAt h 1))
  obtain ⟨W2, hW2⟩ : ∃ W2, (W1.alloc (.cells ac0 31)).setRow W1.heap.size (acV (hkAt h 1)) = W2 := ⟨_, rfl⟩
  rw [hW2] at hG2 b3 ⊢
  obtain ⟨G, hGG⟩ : ∃ G, W1.heap.size = G := ⟨_, rfl⟩
  rw [hGG] at hG2 ⊢
  have ML := hid hG2
  have FL := hid (FL.out.below b3 FL.out.lt)
  have hGX : G ≠ X := by have := BL.out.size; omega
  have BL := hid (BL.out.trans (b3.mono BL.out.size))
  have hFX : F ≠ X := by have := HF.out; have := HBB.out; omega
  clear hG hG2 hW2 hGG b3
  refine wpList_nil ?_
  go_upto_region 5 with fail
  refine wp_region_held_drew (S := fun w1 => Only X W2 w1) (by kernel_rfl) ((Only.refl X W2).drew) (fun hH => ?_)
  refine wpAnyH_take (i := 0) (fuel := 13) (v := _) rfl (by kernel_rfl) (by kernel_rfl) (by kernel_rfl) (fun _ _ _ h => h) (yieldsIf_load_mid (by rfl) 31 (.tmp 13) rfl G 0 rfl (acV (hkAt h 1)).toList _ (fun w1 h1 => fun j v hv => by rw [Nat.zero_add, cell_same (h1.block G ML.out.lt hGX), ML.out.cell]; simpa using hv) Tryz.underlying31 rfl act_size) hH ?_
  simp only [Act.put, List.getElem_toArray, List.getElem_cons_zero, List.setIfInBounds_toArray, List.set_cons_zero, List.set_cons_succ]
  refine wpAnyH_take (i := 1) (fuel := 12) (v := .bool nil) rfl (by kernel_rfl) (by kernel_rfl) (by kernel_rfl) (fun _ _ _ h => h) (Or.inl ⟨by rfl, by intro w1 hw1; go_simp⟩) hH ?_
  simp only [Act.put, List.getElem_toArray, List.getElem_cons_zero, List.getElem_cons_succ, List.setIfInBounds_toArray, List.set_cons_zero, List.set_cons_succ]
  refine wpAnyH_take (i := 2) (fuel := 11) (v := .pointer (some ⟨F, 7, none⟩)) rfl (by kernel_rfl) (by kernel_rfl) (by kernel_rfl) (fun _ _ _ h => h) (Or.inl ⟨by rfl, by intro w1 hw1; go_simp⟩) hH ?_
  simp only [Act.put, List.getElem_toArray, List.getElem_cons_zero, List.getElem_cons_succ, List.setIfInBounds_toArray, List.set_cons_zero, List.set_cons_succ]
  refine wpAnyH_take (i := 3) (fuel := 10) (v := .int .i32 verb) rfl (by kernel_rfl) (by kernel_rfl) (by kernel_rfl) (fun _ _ _ h => h) (Or.inl ⟨by rfl, by intro w1 hw1; have hq : w1.cell? ⟨F, 7, none⟩ = some (.int .i32 verb) := (cell_same (hw1.block F FL.out.lt hFX) 7).trans (FL.out.cell 7); go_simp⟩) hH ?_
  simp only [Act.put, List.getElem_toArray, List.getElem_cons_zero, List.getElem_cons_succ, List.setIfInBounds_toArray, List.set_cons_zero, List.set_cons_succ]
  refine wpAnyH_take (i := 4) (fuel := 9) (v := .int .i64 2) rfl (by kernel_rfl) (by kernel_rfl) (by kernel_rfl) (fun _ _ _ h => h) (Or.inl ⟨by rfl, by intro w1 hw1; go_simp⟩) hH ?_
  simp only [Act.put, List.getElem_toArray, List.getElem_cons_zero, List.getElem_cons_succ, List.setIfInBounds_toArray, List.set_cons_zero, List.set_cons_succ]
  refine wpAnyH_take (i := 6) (fuel := 8) (v := u_prF X) rfl (by kernel_rfl) (by kernel_rfl) (by kernel_rfl) (fun _ _ _ h => h) (Or.inl ⟨by rfl, by intro w1 hw1; go_simp⟩) hH ?_
  simp only [Act.put, List.getElem_toArray, List.getElem_cons_zero, List.getElem_cons_succ, List.setIfInBounds_toArray, List.set_cons_zero, List.set_cons_succ]
  refine wpAnyH_take (i := 7) (fuel := 7) (v := u_shF X) rfl (by kernel_rfl) (by kernel_rfl) (by kernel_rfl) (fun _ _ _ h => h) (Or.inl ⟨by rfl, by intro w1 hw1; go_simp⟩) hH ?_
  simp only [Act.put, List.getElem_toArray, List.getElem_cons_zero, List.getElem_cons_succ, List.setIfInBounds_toArray, List.set_cons_zero, List.set_cons_succ]
  refine wpAnyH_ready (fuel := 6) (rs := [5]) (by kernel_rfl) (by simp) ?_
  refine AllReadyH.cons rfl (fun K hK => ?_) AllReadyH.nil
  rw [if_pos (by rfl)]
  go_wp2_with fail
  refine (MT.out _).mono ?_
  rintro e W3 ⟨rfl, hw⟩
  subst hw
  refine hK.out _ _ hH (fun _ => ?_)
  clear hK
  try simp only [Act.put, List.getElem_toArray, List.getElem_cons_zero, List.getElem_cons_succ, List.setIfInBounds_toArray, List.set_cons_zero, List.set_cons_succ]
  refine wpAnyH_ready (fuel := 5) (rs := [8]) (by kernel_rfl) (by simp) ?_
  refine AllReadyH.cons rfl (fun K hK => ?_) AllReadyH.nil
  rw [if_pos (by rfl)]
  go_wp2_with fail
  refine (DO.out _ (below_drew BL.out)).mono ?_
  rintro e W4 ⟨rfl, hx, ho⟩
  have hS2 := hH.trans ho
  have N := hid (And.intro hx ((Only.of_below (below_drew BL.out) : Only X W W2.drew).trans ho))
  clear hx ho
  refine hK.out _ _ hS2 (fun _ => ?_)
  clear hK
  try simp only [Act.put, List.getElem_toArray, List.getElem_cons_zero, List.getElem_cons_succ, List.setIfInBounds_toArray, List.set_cons_zero, List.set_cons_succ]
  refine wpAnyH_take (i := 9) (fuel := 4) (v := .tuple #[.string t, .bool true]) rfl (by kernel_rfl) (by kernel_rfl) (by kernel_rfl) (fun _ _ _ h => h) (Or.inl ⟨by rfl, by intro w1 hw1; go_simp⟩) hS2 ?_
  simp only [Act.put, List.getElem_toArray, List.getElem_cons_zero, List.getElem_cons_succ, List.setIfInBounds_toArray, List.set_cons_zero, List.set_cons_succ]
  refine wpAnyH_take (i := 10) (fuel := 3) (v := .string t) rfl (by kernel_rfl) (by kernel_rfl) (by kernel_rfl) (fun _ _ _ h => h) (Or.inl ⟨by rfl, by intro w1 hw1; go_simp⟩) hS2 ?_
  simp only [Act.put, List.getElem_toArray, List.getElem_cons_zero, List.getElem_cons_succ, List.setIfInBounds_toArray, List.set_cons_zero, List.set_cons_succ]
  refine wpAnyH_take (i := 11) (fuel := 2) (v := .bool true) rfl (by kernel_rfl) (by kernel_rfl) (by kernel_rfl) (fun _ _ _ h => h) (Or.inl ⟨by rfl, by intro w1 hw1; go_simp⟩) hS2 ?_
  simp only [Act.put, List.getElem_toArray, List.getElem_cons_zero, List.getElem_cons_succ, List.setIfInBounds_toArray, List.set_cons_zero, List.set_cons_succ]
  refine wpAnyH_take (i := 12) (fuel := 1) (v := .string t) rfl (by kernel_rfl) (by kernel_rfl) (by kernel_rfl) (fun _ _ _ h => h) (Or.inl ⟨by rfl, by intro w1 hw1; go_simp⟩) hS2 ?_
  simp only [Act.put, List.getElem_toArray, List.getElem_cons_zero, List.getElem_cons_succ, List.setIfInBounds_toArray, List.set_cons_zero, List.set_cons_succ]
  refine wpAnyH_take (i := 13) (fuel := 0) (v := .bool true) rfl (by kernel_rfl) (by kernel_rfl) (by kernel_rfl) (fun _ _ _ h => h) (Or.inl ⟨by rfl, by intro w1 hw1; go_simp⟩) hS2 ?_
  simp only [Act.put, List.getElem_toArray, List.getElem_cons_zero, List.getElem_cons_succ, List.setIfInBounds_toArray, List.set_cons_zero, List.set_cons_succ]
  refine wpAnyH_done (by kernel_rfl) ?_ _
  have FL := hid (FL.out.same (hS2.block F FL.out.lt hFX))
  clear hH hS2
  go_wp2_with fail
  go_ret2
  exact ⟨rfl, N.out⟩
set_option maxRecDepth 100000 in
set_option maxHeartbeats 1000000 in
theorem u_say_3 (h : Hk) (pl mi sh sp ze : Bool) (wid prec verb : Int) (nil : Bool) (X : Nat) (o : Option Obj) (t r : ByteArray) (W : World) (hX : X < W.heap.size) (hr : textS pl mi sh sp ze wid prec verb t = some r) (hn : whichN h verb sh = 3)
    (hT : Tabs W) (hO : W.heap[X]? = o) (ht : t.size ≤ 2000) (hw0 : -9223372036854775808 ≤ wid) (hw1 : wid ≤ 9223372036854775807) (hp0 : -9223372036854775808 ≤ prec) (hp1 : prec ≤ 9223372036854775807)
    (HDO : (∀ W', Below W.heap.size W W' → Calls Tryz.prog 116 (u_doArgs (hkAt h 2) nil verb (methodS 3) X) W' fun e w' => e = .returned (.tuple #[.string t, .bool true]) ∧ AskO w' X o ∧ Only X W' w')) :
    Calls Tryz.prog 81 (u_sayArgs h pl mi sh sp ze wid prec verb nil X) W fun e w' => e = .returned (.tuple #[.string r, .bool true]) ∧ AskO w' X o ∧ Only X W w' := by
  have DO := hid HDO
  have MT := hid (fun W => method_any 3 W)
  have TX := hid (fun W' hT' => text_any t pl mi sh sp ze wid prec verb W' hT' ht hw0 hw1 hp0 hp1)
  have HT := hid (fun W' (h : AskO W' X o ∧ Only X W W') => hT.below (AskO.all (hO ▸ h.1) h.2))
  rw [hr] at TX
  clear HDO hr hT hO hw0 hw1 hp0 hp1 ht
  have WH := hid (fun W => which_any h verb sh W)
  rw [hn] at WH
  have B0 := ((Below.refl W.heap.size W).alloc (Nat.le_refl _) (.cells (hkV h) 34)).alloc (by simp) (.cells (sp8 pl mi sh sp ze wid prec verb) 94)
  have A0 := (Blk.new W (hkV h) 34).alloc (.cells (sp8 pl mi sh sp ze wid prec verb) 94)
  have F0 := Blk.new (W.alloc (.cells (hkV h) 34)) (sp8 pl mi sh sp ze wid prec verb) 94
  obtain ⟨B, hB⟩ : ∃ B, W.heap.size = B := ⟨_, rfl⟩
  rw [show (W.alloc (.cells (hkV h) 34)).heap.size = B + 1 by simp [hB]] at F0
  have HBB := hid hB
  clear hn
  go_enter Tryz.func81, Tryz.ntmps81
  go_upto_region 1 with fail
  obtain ⟨W0, hW0⟩ : ∃ W0, (W.alloc (.cells (hkV h) 34)).alloc (.cells (sp8 pl mi sh sp ze wid prec verb) 94) = W0 := ⟨_, rfl⟩
  rw [hW0] at B0 A0 F0
  first | rw [hW0] | (unfold sp8 at hW0; rw [hW0])
  rw [hB] at A0
  obtain ⟨F, hF⟩ : ∃ F, B + 1 = F := ⟨_, rfl⟩
  rw [hF] at F0 ⊢
  have HF := hid hF
  have BL := hid B0
  have AL := hid A0
  have FL := hid F0
  have f2 : W0.cell? ⟨F, 2, none⟩ = some (.bool sh) := F0.cell 2
  have f7 : W0.cell? ⟨F, 7, none⟩ = some (.int .i32 verb) := F0.cell 7
  clear B0 A0 F0 hW0 hB hF
  refine wp_region_list ?_
  refine wpList_load_mid rfl 34 (.tmp 5) rfl B 0 rfl (hkV h).toList _ (fun j v hv => by rw [Nat.zero_add, AL.out.cell]; simpa using hv) Tryz.underlying34 rfl hook_size ?_
  refine wpList_plain rfl fun K hK => ?_
  have HK := hid hK
  clear hK
  go_wp2_with fail
  refine HK.out _ _ ?_
  clear HK
  refine wpList_plain rfl fun K hK => ?_
  have HK := hid hK
  clear hK
  go_wp2_with fail
  refine HK.out _ _ ?_
  clear HK
  refine wpList_plain rfl fun K hK => ?_
  have HK := hid hK
  clear hK
  go_wp2_with fail
  refine HK.out _ _ ?_
  clear HK
  refine wpList_plain rfl fun K hK => ?_
  have HK := hid hK
  clear hK
  go_wp2_with fail
  refine HK.out _ _ ?_
  clear HK
  refine wpList_plain rfl fun K hK => ?_
  have HK := hid hK
  clear hK
  go_wp2_with fail
  refine (WH.out _).mono ?_
  rintro e W1 ⟨rfl, hb⟩
  have BL := hid (BL.out.trans (hb.mono BL.out.size))
  have AL := hid (AL.out.below hb AL.out.lt)
  have FL := hid (FL.out.below hb FL.out.lt)
  clear hb f2 f7
  refine HK.out _ _ ?_
  clear HK
  refine wpList_plain rfl fun K hK => ?_
  have HK := hid hK
  clear hK
  go_wp2_with fail
  refine HK.out _ _ ?_
  clear HK
  refine wpList_nil ?_
  go_upto_region 4 with fail
  refine wp_region_list ?_
  refine wpList_plain rfl fun K hK => ?_
  have HK := hid hK
  clear hK
  go_wp2_with fail
  refine HK.out _ _ ?_
  clear HK
  refine wpList_load_mid rfl 31 (.tmp 24) rfl B 0 rfl (acV (hkAt h 0)).toList _ (hk_cells AL.out 0 (by decide)) Tryz.underlying31 rfl act_size ?_
  refine wpList_plain rfl fun K hK => ?_
  have HK := hid hK
  clear hK
  go_wp2_with fail
  refine HK.out _ _ ?_
  clear HK
  refine wpList_load_mid rfl 31 (.tmp 26) rfl B 12 rfl (acV (hkAt h 1)).toList _ (hk_cells AL.out 1 (by decide)) Tryz.underlying31 rfl act_size ?_
  refine wpList_plain rfl fun K hK => ?_
  have HK := hid hK
  clear hK
  go_wp2_with fail
  refine HK.out _ _ ?_
  clear HK
  refine wpList_load_mid rfl 31 (.tmp 28) rfl B 24 rfl (acV (hkAt h 2)).toList _ (hk_cells AL.out 2 (by decide)) Tryz.underlying31 rfl act_size ?_
  refine wpList_plain rfl fun K hK => ?_
  have HK := hid hK
  clear hK
  go_wp2_with fail
  refine HK.out _ _ ?_
  clear HK
  refine wpList_load_mid rfl 31 (.tmp 30) rfl B 36 rfl (acV (hkAt h 3)).toList _ (hk_cells AL.out 3 (by decide)) Tryz.underlying31 rfl act_size ?_
  refine wpList_buildTo rfl 207 _ rfl (some 32) rfl (arr5 h) (by kernel_rfl) ?_
  refine wpList_plain rfl fun K hK => ?_
  have HK := hid hK
  clear hK
  go_wp2_with fail
  refine HK.out _ _ ?_
  clear HK
  have hix := arr5_3 h
  refine wpList_plain rfl fun K hK => ?_
  have HK := hid hK
  clear hK
  go_wp2_with fail
  refine HK.out _ _ ?_
  clear HK
  clear hix
  refine wpList_plain rfl fun K hK => ?_
  have HK := hid hK
  clear hK
  go_wp2_with fail
  refine HK.out _ _ ?_
  clear HK
  have hG := Blk.new W1 ac0 31
  refine wpList_store_rowTo rfl 31 _ _ rfl rfl W1.heap.size (acV (hkAt h 2)) rfl rfl 31 ac0 hG act_size rfl (acV_one _) ?_
  have hG2 := hG.setRow (acV (hkAt h 2))
  have b3 : Below W1.heap.size W1 ((W1.alloc (.cells ac0 31)).setRow W1.heap.size (acV (hkAt h 2))) := below_setRow ((Below.refl _ _).alloc (Nat.le_refl _) _) W1.heap.size (Nat.le_refl _) (acV (hkAt h 2))
  obtain ⟨W2, hW2⟩ : ∃ W2, (W1.alloc (.cells ac0 31)).setRow W1.heap.size (acV (hkAt h 2)) = W2 := ⟨_, rfl⟩
  rw [hW2] at hG2 b3 ⊢
  obtain ⟨G, hGG⟩ : ∃ G, W1.heap.size = G := ⟨_, rfl⟩
  rw [hGG] at hG2 ⊢
  have ML := hid hG2
  have FL := hid (FL.out.below b3 FL.out.lt)
  have hGX : G ≠ X := by have := BL.out.size; omega
  have BL := hid (BL.out.trans (b3.mono BL.out.size))
  have hFX : F ≠ X := by have := HF.out; have := HBB.out; omega
  clear hG hG2 hW2 hGG b3
  refine wpList_nil ?_
  go_upto_region 5 with fail
  refine wp_region_held_drew (S := fun w1 => Only X W2 w1) (by kernel_rfl) ((Only.refl X W2).drew) (fun hH => ?_)
  refine wpAnyH_take (i := 0) (fuel := 13) (v := _) rfl (by kernel_rfl) (by kernel_rfl) (by kernel_rfl) (fun _ _ _ h => h) (yieldsIf_load_mid (by rfl) 31 (.tmp 13) rfl G 0 rfl (acV (hkAt h 2)).toList _ (fun w1 h1 => fun j v hv => by rw [Nat.zero_add, cell_same (h1.block G ML.out.lt hGX), ML.out.cell]; simpa using hv) Tryz.underlying31 rfl act_size) hH ?_
  simp only [Act.put, List.getElem_toArray, List.getElem_cons_zero, List.setIfInBounds_toArray, List.set_cons_zero, List.set_cons_succ]
  refine wpAnyH_take (i := 1) (fuel := 12) (v := .bool nil) rfl (by kernel_rfl) (by kernel_rfl) (by kernel_rfl) (fun _ _ _ h => h) (Or.inl ⟨by rfl, by intro w1 hw1; go_simp⟩) hH ?_
  simp only [Act.put, List.getElem_toArray, List.getElem_cons_zero, List.getElem_cons_succ, List.setIfInBounds_toArray, List.set_cons_zero, List.set_cons_succ]
  refine wpAnyH_take (i := 2) (fuel := 11) (v := .pointer (some ⟨F, 7, none⟩)) rfl (by kernel_rfl) (by kernel_rfl) (by kernel_rfl) (fun _ _ _ h => h) (Or.inl ⟨by rfl, by intro w1 hw1; go_simp⟩) hH ?_
  simp only [Act.put, List.getElem_toArray, List.getElem_cons_zero, List.getElem_cons_succ, List.setIfInBounds_toArray, List.set_cons_zero, List.set_cons_succ]
  refine wpAnyH_take (i := 3) (fuel := 10) (v := .int .i32 verb) rfl (by kernel_rfl) (by kernel_rfl) (by kernel_rfl) (fun _ _ _ h => h) (Or.inl ⟨by rfl, by intro w1 hw1; have hq : w1.cell? ⟨F, 7, none⟩ = some (.int .i32 verb) := (cell_same (hw1.block F FL.out.lt hFX) 7).trans (FL.out.cell 7); go_simp⟩) hH ?_
  simp only [Act.put, List.getElem_toArray, List.getElem_cons_zero, List.getElem_cons_succ, List.setIfInBounds_toArray, List.set_cons_zero, List.set_cons_succ]
  refine wpAnyH_take (i := 4) (fuel := 9) (v := .int .i64 3) rfl (by kernel_rfl) (by kernel_rfl) (by kernel_rfl) (fun _ _ _ h => h) (Or.inl ⟨by rfl, by intro w1 hw1; go_simp⟩) hH ?_
  simp only [Act.put, List.getElem_toArray, List.getElem_cons_zero, List.getElem_cons_succ, List.setIfInBounds_toArray, List.set_cons_zero, List.set_cons_succ]
  refine wpAnyH_take (i := 6) (fuel := 8) (v := u_prF X) rfl (by kernel_rfl) (by kernel_rfl) (by kernel_rfl) (fun _ _ _ h => h) (Or.inl ⟨by rfl, by intro w1 hw1; go_simp⟩) hH ?_
  simp only [Act.put, List.getElem_toArray, List.getElem_cons_zero, List.getElem_cons_succ, List.setIfInBounds_toArray, List.set_cons_zero, List.set_cons_succ]
  refine wpAnyH_take (i := 7) (fuel := 7) (v := u_shF X) rfl (by kernel_rfl) (by kernel_rfl) (by kernel_rfl) (fun _ _ _ h => h) (Or.inl ⟨by rfl, by intro w1 hw1; go_simp⟩) hH ?_
  simp only [Act.put, List.getElem_toArray, List.getElem_cons_zero, List.getElem_cons_succ, List.setIfInBounds_toArray, List.set_cons_zero, List.set_cons_succ]
  refine wpAnyH_ready (fuel := 6) (rs := [5]) (by kernel_rfl) (by simp) ?_
  refine AllReadyH.cons rfl (fun K hK => ?_) AllReadyH.nil
  rw [if_pos (by rfl)]
  go_wp2_with fail
  refine (MT.out _).mono ?_
  rintro e W3 ⟨rfl, hw⟩
  subst hw
  refine hK.out _ _ hH (fun _ => ?_)
  clear hK
  try simp only [Act.put, List.getElem_toArray, List.getElem_cons_zero, List.getElem_cons_succ, List.setIfInBounds_toArray, List.set_cons_zero, List.set_cons_succ]
  refine wpAnyH_ready (fuel := 5) (rs := [8]) (by kernel_rfl) (by simp) ?_
  refine AllReadyH.cons rfl (fun K hK => ?_) AllReadyH.nil
  rw [if_pos (by rfl)]
  go_wp2_with fail
  refine (DO.out _ (below_drew BL.out)).mono ?_
  rintro e W4 ⟨rfl, hx, ho⟩
  have hS2 := hH.trans ho
  have N := hid (And.intro hx ((Only.of_below (below_drew BL.out) : Only X W W2.drew).trans ho))
  clear hx ho
  refine hK.out _ _ hS2 (fun _ => ?_)
  clear hK
  try simp only [Act.put, List.getElem_toArray, List.getElem_cons_zero, List.getElem_cons_succ, List.setIfInBounds_toArray, List.set_cons_zero, List.set_cons_succ]
  refine wpAnyH_take (i := 9) (fuel := 4) (v := .tuple #[.string t, .bool true]) rfl (by kernel_rfl) (by kernel_rfl) (by kernel_rfl) (fun _ _ _ h => h) (Or.inl ⟨by rfl, by intro w1 hw1; go_simp⟩) hS2 ?_
  simp only [Act.put, List.getElem_toArray, List.getElem_cons_zero, List.getElem_cons_succ, List.setIfInBounds_toArray, List.set_cons_zero, List.set_cons_succ]
  refine wpAnyH_take (i := 10) (fuel := 3) (v := .string t) rfl (by kernel_rfl) (by kernel_rfl) (by kernel_rfl) (fun _ _ _ h => h) (Or.inl ⟨by rfl, by intro w1 hw1; go_simp⟩) hS2 ?_
  simp only [Act.put, List.getElem_toArray, List.getElem_cons_zero, List.getElem_cons_succ, List.setIfInBounds_toArray, List.set_cons_zero, List.set_cons_succ]
  refine wpAnyH_take (i := 11) (fuel := 2) (v := .bool true) rfl (by kernel_rfl) (by kernel_rfl) (by kernel_rfl) (fun _ _ _ h => h) (Or.inl ⟨by rfl, by intro w1 hw1; go_simp⟩) hS2 ?_
  simp only [Act.put, List.getElem_toArray, List.getElem_cons_zero, List.getElem_cons_succ, List.setIfInBounds_toArray, List.set_cons_zero, List.set_cons_succ]
  refine wpAnyH_take (i := 12) (fuel := 1) (v := .string t) rfl (by kernel_rfl) (by kernel_rfl) (by kernel_rfl) (fun _ _ _ h => h) (Or.inl ⟨by rfl, by intro w1 hw1; go_simp⟩) hS2 ?_
  simp only [Act.put, List.getElem_toArray, List.getElem_cons_zero, List.getElem_cons_succ, List.setIfInBounds_toArray, List.set_cons_zero, List.set_cons_succ]
  refine wpAnyH_take (i := 13) (fuel := 0) (v := .bool true) rfl (by kernel_rfl) (by kernel_rfl) (by kernel_rfl) (fun _ _ _ h => h) (Or.inl ⟨by rfl, by intro w1 hw1; go_simp⟩) hS2 ?_
  simp only [Act.put, List.getElem_toArray, List.getElem_cons_zero, List.getElem_cons_succ, List.setIfInBounds_toArray, List.set_cons_zero, List.set_cons_succ]
  refine wpAnyH_done (by kernel_rfl) ?_ _
  have FL := hid (FL.out.same (hS2.block F FL.out.lt hFX))
  clear hH hS2
  go_upto_region 7 with fail
  refine wp_region_list ?_
  refine wpList_plain rfl fun K hK => ?_
  have HK := hid hK
  clear hK
  go_wp2_with fail
  refine HK.out _ _ ?_
  clear HK
  refine wpList_load_mid rfl 94 (.tmp 6) rfl F 0 rfl (sp8 pl mi sh sp ze wid prec verb).toList _ (fun j v hv => by rw [Nat.zero_add, FL.out.cell]; simpa using hv) Tryz.underlying94 rfl hspec_size ?_
  refine wpList_plain rfl fun K hK => ?_
  have HK := hid hK
  clear hK
  go_wp2_with fail
  refine (TX.out _ (HT.out _ N.out)).mono ?_
  rintro e W5 ⟨he, hb⟩
  obtain rfl : e = .returned (.tuple #[.string r, .bool true]) := he
  have N := hid (show AskO W5 X o ∧ Only X W W5 from ⟨N.out.1.below hb N.out.1.lt hb.size, N.out.2.trans (Only.of_below hb)⟩)
  clear hb
  refine HK.out _ _ ?_
  clear HK
  refine wpList_plain rfl fun K hK => ?_
  have HK := hid hK
  clear hK
  go_wp2_with fail
  refine HK.out _ _ ?_
  clear HK
  refine wpList_plain rfl fun K hK => ?_
  have HK := hid hK
  clear hK
  go_wp2_with fail
  refine HK.out _ _ ?_
  clear HK
  refine wpList_plain rfl fun K hK => ?_
  have HK := hid hK
  clear hK
  go_wp2_with fail
  refine HK.out _ _ ?_
  clear HK
  refine wpList_plain rfl fun K hK => ?_
  have HK := hid hK
  clear hK
  go_wp2_with fail
  refine HK.out _ _ ?_
  clear HK
  refine wpList_nil ?_
  go_wp2_with fail
  go_ret2
  exact ⟨rfl, N.out⟩
set_option maxRecDepth 100000 in
set_option maxHeartbeats 1000000 in
theorem u_say_4 (h : Hk) (pl mi sh sp ze : Bool) (wid prec verb : Int) (nil : Bool) (X : Nat) (o : Option Obj) (t r : ByteArray) (W : World) (hX : X < W.heap.size) (hr : textS pl mi sh sp ze wid prec verb t = some r) (hn : whichN h verb sh = 4)
    (hT : Tabs W) (hO : W.heap[X]? = o) (ht : t.size ≤ 2000) (hw0 : -9223372036854775808 ≤ wid) (hw1 : wid ≤ 9223372036854775807) (hp0 : -9223372036854775808 ≤ prec) (hp1 : prec ≤ 9223372036854775807)
    (HDO : (∀ W', Below W.heap.size W W' → Calls Tryz.prog 116 (u_doArgs (hkAt h 3) nil verb (methodS 4) X) W' fun e w' => e = .returned (.tuple #[.string t, .bool true]) ∧ AskO w' X o ∧ Only X W' w')) :
    Calls Tryz.prog 81 (u_sayArgs h pl mi sh sp ze wid prec verb nil X) W fun e w' => e = .returned (.tuple #[.string r, .bool true]) ∧ AskO w' X o ∧ Only X W w' := by
  have DO := hid HDO
  have MT := hid (fun W => method_any 4 W)
  have TX := hid (fun W' hT' => text_any t pl mi sh sp ze wid prec verb W' hT' ht hw0 hw1 hp0 hp1)
  have HT := hid (fun W' (h : AskO W' X o ∧ Only X W W') => hT.below (AskO.all (hO ▸ h.1) h.2))
  rw [hr] at TX
  clear HDO hr hT hO hw0 hw1 hp0 hp1 ht
  have WH := hid (fun W => which_any h verb sh W)
  rw [hn] at WH
  have B0 := ((Below.refl W.heap.size W).alloc (Nat.le_refl _) (.cells (hkV h) 34)).alloc (by simp) (.cells (sp8 pl mi sh sp ze wid prec verb) 94)
  have A0 := (Blk.new W (hkV h) 34).alloc (.cells (sp8 pl mi sh sp ze wid prec verb) 94)
  have F0 := Blk.new (W.alloc (.cells (hkV h) 34)) (sp8 pl mi sh sp ze wid prec verb) 94
  obtain ⟨B, hB⟩ : ∃ B, W.heap.size = B := ⟨_, rfl⟩
  rw [show (W.alloc (.cells (hkV h) 34)).heap.size = B + 1 by simp [hB]] at F0
  have HBB := hid hB
  clear hn
  go_enter Tryz.func81, Tryz.ntmps81
  go_upto_region 1 with fail
  obtain ⟨W0, hW0⟩ : ∃ W0, (W.alloc (.cells (hkV h) 34)).alloc (.cells (sp8 pl mi sh sp ze wid prec verb) 94) = W0 := ⟨_, rfl⟩
  rw [hW0] at B0 A0 F0
  first | rw [hW0] | (unfold sp8 at hW0; rw [hW0])
  rw [hB] at A0
  obtain ⟨F, hF⟩ : ∃ F, B + 1 = F := ⟨_, rfl⟩
  rw [hF] at F0 ⊢
  have HF := hid hF
  have BL := hid B0
  have AL := hid A0
  have FL := hid F0
  have f2 : W0.cell? ⟨F, 2, none⟩ = some (.bool sh) := F0.cell 2
  have f7 : W0.cell? ⟨F, 7, none⟩ = some (.int .i32 verb) := F0.cell 7
  clear B0 A0 F0 hW0 hB hF
  refine wp_region_list ?_
  refine wpList_load_mid rfl 34 (.tmp 5) rfl B 0 rfl (hkV h).toList _ (fun j v hv => by rw [Nat.zero_add, AL.out.cell]; simpa using hv) Tryz.underlying34 rfl hook_size ?_
  refine wpList_plain rfl fun K hK => ?_
  have HK := hid hK
  clear hK
  go_wp2_with fail
  refine HK.out _ _ ?_
  clear HK
  refine wpList_plain rfl fun K hK => ?_
  have HK := hid hK
  clear hK
  go_wp2_with fail
  refine HK.out _ _ ?_
  clear HK
  refine wpList_plain rfl fun K hK => ?_
  have HK := hid hK
  clear hK
  go_wp2_with fail
  refine HK.out _ _ ?_
  clear HK
  refine wpList_plain rfl fun K hK => ?_
  have HK := hid hK
  clear hK
  go_wp2_with fail
  refine HK.out _ _ ?_
  clear HK
  refine wpList_plain rfl fun K hK => ?_
  have HK := hid hK
  clear hK
  go_wp2_with fail
  refine (WH.out _).mono ?_
  rintro e W1 ⟨rfl, hb⟩
  have BL := hid (BL.out.trans (hb.mono BL.out.size))
  have AL := hid (AL.out.below hb AL.out.lt)
  have FL := hid (FL.out.below hb FL.out.lt)
  clear hb f2 f7
  refine HK.out _ _ ?_
  clear HK
  refine wpList_plain rfl fun K hK => ?_
  have HK := hid hK
  clear hK
  go_wp2_with fail
  refine HK.out _ _ ?_
  clear HK
  refine wpList_nil ?_
  go_upto_region 4 with fail
  refine wp_region_list ?_
  refine wpList_plain rfl fun K hK => ?_
  have HK := hid hK
  clear hK
  go_wp2_with fail
  refine HK.out _ _ ?_
  clear HK
  refine wpList_load_mid rfl 31 (.tmp 24) rfl B 0 rfl (acV (hkAt h 0)).toList _ (hk_cells AL.out 0 (by decide)) Tryz.underlying31 rfl act_size ?_
  refine wpList_plain rfl fun K hK => ?_
  have HK := hid hK
  clear hK
  go_wp2_with fail
  refine HK.out _ _ ?_
  clear HK
  refine wpList_load_mid rfl 31 (.tmp 26) rfl B 12 rfl (acV (hkAt h 1)).toList _ (hk_cells AL.out 1 (by decide)) Tryz.underlying31 rfl act_size ?_
  refine wpList_plain rfl fun K hK => ?_
  have HK := hid hK
  clear hK
  go_wp2_with fail
  refine HK.out _ _ ?_
  clear HK
  refine wpList_load_mid rfl 31 (.tmp 28) rfl B 24 rfl (acV (hkAt h 2)).toList _ (hk_cells AL.out 2 (by decide)) Tryz.underlying31 rfl act_size ?_
  refine wpList_plain rfl fun K hK => ?_
  have HK := hid hK
  clear hK
  go_wp2_with fail
  refine HK.out _ _ ?_
  clear HK
  refine wpList_load_mid rfl 31 (.tmp 30) rfl B 36 rfl (acV (hkAt h 3)).toList _ (hk_cells AL.out 3 (by decide)) Tryz.underlying31 rfl act_size ?_
  refine wpList_buildTo rfl 207 _ rfl (some 32) rfl (arr5 h) (by kernel_rfl) ?_
  refine wpList_plain rfl fun K hK => ?_
  have HK := hid hK
  clear hK
  go_wp2_with fail
  refine HK.out _ _ ?_
  clear HK
  have hix := arr5_4 h
  refine wpList_plain rfl fun K hK => ?_
  have HK := hid hK
  clear hK
  go_wp2_with fail
  refine HK.out _ _ ?_
  clear HK
  clear hix
  refine wpList_plain rfl fun K hK => ?_
  have HK := hid hK
  clear hK
  go_wp2_with fail
  refine HK.out _ _ ?_
  clear HK
  have hG := Blk.new W1 ac0 31
  refine wpList_store_rowTo rfl 31 _ _ rfl rfl W1.heap.size (acV (hkAt h 3)) rfl rfl 31 ac0 hG act_size rfl (acV_one _) ?_
  have hG2 := hG.setRow (acV (hkAt h 3))
  have b3 : Below W1.heap.size W1 ((W1.alloc (.cells ac0 31)).setRow W1.heap.size (acV (hkAt h 3))) := below_setRow ((Below.refl _ _).alloc (Nat.le_refl _) _) W1.heap.size (Nat.le_refl _) (acV (hkAt h 3))
  obtain ⟨W2, hW2⟩ : ∃ W2, (W1.alloc (.cells ac0 31)).setRow W1.heap.size (acV (hkAt h 3)) = W2 := ⟨_, rfl⟩
  rw [hW2] at hG2 b3 ⊢
  obtain ⟨G, hGG⟩ : ∃ G, W1.heap.size = G := ⟨_, rfl⟩
  rw [hGG] at hG2 ⊢
  have ML := hid hG2
  have FL := hid (FL.out.below b3 FL.out.lt)
  have hGX : G ≠ X := by have := BL.out.size; omega
  have BL := hid (BL.out.trans (b3.mono BL.out.size))
  have hFX : F ≠ X := by have := HF.out; have := HBB.out; omega
  clear hG hG2 hW2 hGG b3
  refine wpList_nil ?_
  go_upto_region 5 with fail
  refine wp_region_held_drew (S := fun w1 => Only X W2 w1) (by kernel_rfl) ((Only.refl X W2).drew) (fun hH => ?_)
  refine wpAnyH_take (i := 0) (fuel := 13) (v := _) rfl (by kernel_rfl) (by kernel_rfl) (by kernel_rfl) (fun _ _ _ h => h) (yieldsIf_load_mid (by rfl) 31 (.tmp 13) rfl G 0 rfl (acV (hkAt h 3)).toList _ (fun w1 h1 => fun j v hv => by rw [Nat.zero_add, cell_same (h1.block G ML.out.lt hGX), ML.out.cell]; simpa using hv) Tryz.underlying31 rfl act_size) hH ?_
  simp only [Act.put, List.getElem_toArray, List.getElem_cons_zero, List.setIfInBounds_toArray, List.set_cons_zero, List.set_cons_succ]
  refine wpAnyH_take (i := 1) (fuel := 12) (v := .bool nil) rfl (by kernel_rfl) (by kernel_rfl) (by kernel_rfl) (fun _ _ _ h => h) (Or.inl ⟨by rfl, by intro w1 hw1; go_simp⟩) hH ?_
  simp only [Act.put, List.getElem_toArray, List.getElem_cons_zero, List.getElem_cons_succ, List.setIfInBounds_toArray, List.set_cons_zero, List.set_cons_succ]
  refine wpAnyH_take (i := 2) (fuel := 11) (v := .pointer (some ⟨F, 7, none⟩)) rfl (by kernel_rfl) (by kernel_rfl) (by kernel_rfl) (fun _ _ _ h => h) (Or.inl ⟨by rfl, by intro w1 hw1; go_simp⟩) hH ?_
  simp only [Act.put, List.getElem_toArray, List.getElem_cons_zero, List.getElem_cons_succ, List.setIfInBounds_toArray, List.set_cons_zero, List.set_cons_succ]
  refine wpAnyH_take (i := 3) (fuel := 10) (v := .int .i32 verb) rfl (by kernel_rfl) (by kernel_rfl) (by kernel_rfl) (fun _ _ _ h => h) (Or.inl ⟨by rfl, by intro w1 hw1; have hq : w1.cell? ⟨F, 7, none⟩ = some (.int .i32 verb) := (cell_same (hw1.block F FL.out.lt hFX) 7).trans (FL.out.cell 7); go_simp⟩) hH ?_
  simp only [Act.put, List.getElem_toArray, List.getElem_cons_zero, List.getElem_cons_succ, List.setIfInBounds_toArray, List.set_cons_zero, List.set_cons_succ]
  refine wpAnyH_take (i := 4) (fuel := 9) (v := .int .i64 4) rfl (by kernel_rfl) (by kernel_rfl) (by kernel_rfl) (fun _ _ _ h => h) (Or.inl ⟨by rfl, by intro w1 hw1; go_simp⟩) hH ?_
  simp only [Act.put, List.getElem_toArray, List.getElem_cons_zero, List.getElem_cons_succ, List.setIfInBounds_toArray, List.set_cons_zero, List.set_cons_succ]
  refine wpAnyH_take (i := 6) (fuel := 8) (v := u_prF X) rfl (by kernel_rfl) (by kernel_rfl) (by kernel_rfl) (fun _ _ _ h => h) (Or.inl ⟨by rfl, by intro w1 hw1; go_simp⟩) hH ?_
  simp only [Act.put, List.getElem_toArray, List.getElem_cons_zero, List.getElem_cons_succ, List.setIfInBounds_toArray, List.set_cons_zero, List.set_cons_succ]
  refine wpAnyH_take (i := 7) (fuel := 7) (v := u_shF X) rfl (by kernel_rfl) (by kernel_rfl) (by kernel_rfl) (fun _ _ _ h => h) (Or.inl ⟨by rfl, by intro w1 hw1; go_simp⟩) hH ?_
  simp only [Act.put, List.getElem_toArray, List.getElem_cons_zero, List.getElem_cons_succ, List.setIfInBounds_toArray, List.set_cons_zero, List.set_cons_succ]
  refine wpAnyH_ready (fuel := 6) (rs := [5]) (by kernel_rfl) (by simp) ?_
  refine AllReadyH.cons rfl (fun K hK => ?_) AllReadyH.nil
  rw [if_pos (by rfl)]
  go_wp2_with fail
  refine (MT.out _).mono ?_
  rintro e W3 ⟨rfl, hw⟩
  subst hw
  refine hK.out _ _ hH (fun _ => ?_)
  clear hK
  try simp only [Act.put, List.getElem_toArray, List.getElem_cons_zero, List.getElem_cons_succ, List.setIfInBounds_toArray, List.set_cons_zero, List.set_cons_succ]
  refine wpAnyH_ready (fuel := 5) (rs := [8]) (by kernel_rfl) (by simp) ?_
  refine AllReadyH.cons rfl (fun K hK => ?_) AllReadyH.nil
  rw [if_pos (by rfl)]
  go_wp2_with fail
  refine (DO.out _ (below_drew BL.out)).mono ?_
  rintro e W4 ⟨rfl, hx, ho⟩
  have hS2 := hH.trans ho
  have N := hid (And.intro hx ((Only.of_below (below_drew BL.out) : Only X W W2.drew).trans ho))
  clear hx ho
  refine hK.out _ _ hS2 (fun _ => ?_)
  clear hK
  try simp only [Act.put, List.getElem_toArray, List.getElem_cons_zero, List.getElem_cons_succ, List.setIfInBounds_toArray, List.set_cons_zero, List.set_cons_succ]
  refine wpAnyH_take (i := 9) (fuel := 4) (v := .tuple #[.string t, .bool true]) rfl (by kernel_rfl) (by kernel_rfl) (by kernel_rfl) (fun _ _ _ h => h) (Or.inl ⟨by rfl, by intro w1 hw1; go_simp⟩) hS2 ?_
  simp only [Act.put, List.getElem_toArray, List.getElem_cons_zero, List.getElem_cons_succ, List.setIfInBounds_toArray, List.set_cons_zero, List.set_cons_succ]
  refine wpAnyH_take (i := 10) (fuel := 3) (v := .string t) rfl (by kernel_rfl) (by kernel_rfl) (by kernel_rfl) (fun _ _ _ h => h) (Or.inl ⟨by rfl, by intro w1 hw1; go_simp⟩) hS2 ?_
  simp only [Act.put, List.getElem_toArray, List.getElem_cons_zero, List.getElem_cons_succ, List.setIfInBounds_toArray, List.set_cons_zero, List.set_cons_succ]
  refine wpAnyH_take (i := 11) (fuel := 2) (v := .bool true) rfl (by kernel_rfl) (by kernel_rfl) (by kernel_rfl) (fun _ _ _ h => h) (Or.inl ⟨by rfl, by intro w1 hw1; go_simp⟩) hS2 ?_
  simp only [Act.put, List.getElem_toArray, List.getElem_cons_zero, List.getElem_cons_succ, List.setIfInBounds_toArray, List.set_cons_zero, List.set_cons_succ]
  refine wpAnyH_take (i := 12) (fuel := 1) (v := .string t) rfl (by kernel_rfl) (by kernel_rfl) (by kernel_rfl) (fun _ _ _ h => h) (Or.inl ⟨by rfl, by intro w1 hw1; go_simp⟩) hS2 ?_
  simp only [Act.put, List.getElem_toArray, List.getElem_cons_zero, List.getElem_cons_succ, List.setIfInBounds_toArray, List.set_cons_zero, List.set_cons_succ]
  refine wpAnyH_take (i := 13) (fuel := 0) (v := .bool true) rfl (by kernel_rfl) (by kernel_rfl) (by kernel_rfl) (fun _ _ _ h => h) (Or.inl ⟨by rfl, by intro w1 hw1; go_simp⟩) hS2 ?_
  simp only [Act.put, List.getElem_toArray, List.getElem_cons_zero, List.getElem_cons_succ, List.setIfInBounds_toArray, List.set_cons_zero, List.set_cons_succ]
  refine wpAnyH_done (by kernel_rfl) ?_ _
  have FL := hid (FL.out.same (hS2.block F FL.out.lt hFX))
  clear hH hS2
  go_upto_region 7 with fail
  refine wp_region_list ?_
  refine wpList_plain rfl fun K hK => ?_
  have HK := hid hK
  clear hK
  go_wp2_with fail
  refine HK.out _ _ ?_
  clear HK
  refine wpList_load_mid rfl 94 (.tmp 6) rfl F 0 rfl (sp8 pl mi sh sp ze wid prec verb).toList _ (fun j v hv => by rw [Nat.zero_add, FL.out.cell]; simpa using hv) Tryz.underlying94 rfl hspec_size ?_
  refine wpList_plain rfl fun K hK => ?_
  have HK := hid hK
  clear hK
  go_wp2_with fail
  refine (TX.out _ (HT.out _ N.out)).mono ?_
  rintro e W5 ⟨he, hb⟩
  obtain rfl : e = .returned (.tuple #[.string r, .bool true]) := he
  have N := hid (show AskO W5 X o ∧ Only X W W5 from ⟨N.out.1.below hb N.out.1.lt hb.size, N.out.2.trans (Only.of_below hb)⟩)
  clear hb
  refine HK.out _ _ ?_
  clear HK
  refine wpList_plain rfl fun K hK => ?_
  have HK := hid hK
  clear hK
  go_wp2_with fail
  refine HK.out _ _ ?_
  clear HK
  refine wpList_plain rfl fun K hK => ?_
  have HK := hid hK
  clear hK
  go_wp2_with fail
  refine HK.out _ _ ?_
  clear HK
  refine wpList_plain rfl fun K hK => ?_
  have HK := hid hK
  clear hK
  go_wp2_with fail
  refine HK.out _ _ ?_
  clear HK
  refine wpList_plain rfl fun K hK => ?_
  have HK := hid hK
  clear hK
  go_wp2_with fail
  refine HK.out _ _ ?_
  clear HK
  refine wpList_nil ?_
  go_wp2_with fail
  go_ret2
  exact ⟨rfl, N.out⟩
end Go.Proofs.YtdjhmanccoekjaaGreatDoor
end
