/-
  Walks of layer 11: the document's examples.
-/
import Derived.Test.YtaniahkagmjkoaaDoorHB
namespace Go.Proofs.YtaniahkagmjkoaaDoor
open Go.RowKit Go.Proofs

abbrev hk0 : Array Value := #[.int .i64 0, .string ⟨#[]⟩, .string ⟨#[]⟩, .slice none 0 0, .int .i64 0, .string ⟨#[]⟩, .int .u64 0, .int .u64 0, .string ⟨#[]⟩, .slice none 0 0, .slice none 0 0, .int .i64 0, .int .i64 0, .string ⟨#[]⟩, .string ⟨#[]⟩, .slice none 0 0, .int .i64 0, .string ⟨#[]⟩, .int .u64 0, .int .u64 0, .string ⟨#[]⟩, .slice none 0 0, .slice none 0 0, .int .i64 0, .int .i64 0, .string ⟨#[]⟩, .string ⟨#[]⟩, .slice none 0 0, .int .i64 0, .string ⟨#[]⟩, .int .u64 0, .int .u64 0, .string ⟨#[]⟩, .slice none 0 0, .slice none 0 0, .int .i64 0, .int .i64 0, .string ⟨#[]⟩, .string ⟨#[]⟩, .slice none 0 0, .int .i64 0, .string ⟨#[]⟩, .int .u64 0, .int .u64 0, .string ⟨#[]⟩, .slice none 0 0, .slice none 0 0, .int .i64 0]
set_option maxRecDepth 100000 in
set_option maxHeartbeats 2000000 in
theorem hlives_any (w : World) (hT : Tabs w) : Calls Tryd.prog 14 #[] w fun e w' => e = .returned (.bool true) ∧ Below w.heap.size w w' := by
  have hmf : ∀ (fn : Fn) (first cap : Array Value) (w : World), (Instr.makeFunc fn first cap).run Tryd.prog w = .ok (.func fn first cap) w := fun _ _ _ _ => rfl
  have BA := hid (fun v W => hbare_any v W)
  have SAY1 := hid (fun W' (hb : Below w.heap.size w W') (x : AskB W' w.heap.size 0 0) => say_st_text hkHi false false false false false (-1) (-1) 113 false w.heap.size 0 0 ⟨#[104, 105]⟩ ⟨#[34, 104, 105, 34]⟩ w W' x.lt text_hi which_hi hT hb (Nat.le_refl _) (by decide) (by decide) (by decide) (by decide) (by decide)
    (fun W1 b1 => do_tells acHi false 113 (methodS 4) w.heap.size 0 0 W1 rfl (x.below b1 x.lt)))
  have SAY2 := hid (fun W' (x : AskB W' w.heap.size 0 0) => say_st_plain hkBoo false false false false false (-1) (-1) 115 false w.heap.size 0 1 (panicS 115 (methodS 4) (showS acBoo.p)) W' x.lt which_boo
    (fun W1 b1 => do_thr acBoo 115 (methodS 4) w.heap.size 0 0 W1 rfl (x.below b1 x.lt) (by decide) (by decide) (by decide) (by decide)))
  rw [panic_boo] at SAY2
  obtain ⟨sHi, hsHi⟩ : ∃ s : ByteArray, (⟨#[34, 104, 105, 34]⟩ : ByteArray) = s := ⟨_, rfl⟩
  obtain ⟨sBoo, hsBoo⟩ : ∃ s : ByteArray, (⟨#[37, 33, 115, 40, 80, 65, 78, 73, 67, 61, 83, 116, 114, 105, 110, 103, 32, 109, 101, 116, 104, 111, 100, 58, 32, 123, 48, 98, 111, 111, 125, 41]⟩ : ByteArray) = s := ⟨_, rfl⟩
  rw [hsHi] at SAY1
  rw [hsBoo] at SAY2
  have e1 : (sHi.toList == [34, 104, 105, 34]) = true := by rw [← hsHi, Lib.toList_data]; decide
  have e2 : (sBoo.toList == [37, 33, 115, 40, 80, 65, 78, 73, 67, 61, 83, 116, 114, 105, 110, 103, 32, 109, 101, 116, 104, 111, 100, 58, 32, 123, 48, 98, 111, 111, 125, 41]) = true := by rw [← hsBoo, Lib.toList_data]; decide
  clear hsHi hsBoo
  obtain ⟨X, hX⟩ : ∃ X, w.heap.size = X := ⟨_, rfl⟩
  rw [hX] at SAY1 SAY2
  have x0 : AskB (w.alloc (.cells #[.int .i64 0, .int .i64 0] 37)) X 0 0 := hX ▸ Blk.new w _ _
  have b0 := (Below.refl w.heap.size w).alloc (Nat.le_refl _) (.cells #[.int .i64 0, .int .i64 0] 37)
  go_enter Tryd.func14, Tryd.ntmps14
  go_upto_region 2 with fail
  obtain ⟨W0, hW0⟩ : ∃ W0, w.alloc (.cells #[.int .i64 0, .int .i64 0] 37) = W0 := ⟨_, rfl⟩
  rw [hW0] at x0 b0 ⊢
  have BL := hid b0
  have XL := hid x0
  have HX := hid hX
  have HT := hid hT
  clear hW0 hX x0 b0 hT
  refine wp_region_list ?_
  refine wpList_buildTo rfl 28 _ rfl (some 7) rfl (acV acHi) (by kernel_rfl) ?_
  refine wpList_buildTo rfl 30 _ rfl (some 8) rfl (hkV hkHi) (by kernel_rfl) ?_
  refine wpList_plain rfl fun K hK => ?_
  have HK := hid hK
  clear hK
  go_wp2_with fail
  refine HK.out _ _ ?_
  clear HK
  have hG := Blk.new W0 hk0 30
  refine wpList_store_rowTo rfl 30 _ _ rfl rfl W0.heap.size (hkV hkHi) rfl rfl 30 hk0 hG hook_size rfl (hkV_one _) ?_
  have hG2 := hG.setRow (hkV hkHi)
  have b3 : Below W0.heap.size W0 ((W0.alloc (.cells hk0 30)).setRow W0.heap.size (hkV hkHi)) := below_setRow ((Below.refl _ _).alloc (Nat.le_refl _) _) W0.heap.size (Nat.le_refl _) (hkV hkHi)
  obtain ⟨W2, hW2⟩ : ∃ W2, (W0.alloc (.cells hk0 30)).setRow W0.heap.size (hkV hkHi) = W2 := ⟨_, rfl⟩
  rw [hW2] at hG2 b3 ⊢
  obtain ⟨G, hGG⟩ : ∃ G, W0.heap.size = G := ⟨_, rfl⟩
  rw [hGG] at hG2 ⊢
  have ML := hid hG2
  have hGX : G ≠ X := by have := XL.out.lt; omega
  have XL := hid (XL.out.below b3 XL.out.lt)
  have BL := hid (BL.out.trans (b3.mono BL.out.size))
  clear hG hG2 hW2 hGG b3
  refine wpList_nil ?_
  go_upto_region 3 with fail
  refine wp_region_held_drew (S := fun w1 => Only X W2 w1) (by kernel_rfl) ((Only.refl X W2).drew) (fun hH => ?_)
  refine wpAnyH_take (i := 0) (fuel := 9) (v := _) rfl (by kernel_rfl) (by kernel_rfl) (by kernel_rfl) (fun _ _ _ h => h) (yieldsIf_load_mid (by rfl) 30 (.tmp 2) rfl G 0 rfl (hkV hkHi).toList _ (fun w1 h1 => fun j v hv => by rw [Nat.zero_add, cell_same (h1.block G ML.out.lt hGX), ML.out.cell]; simpa using hv) Tryd.underlying30 rfl hook_size) hH ?_
  simp only [Act.put, List.getElem_toArray, List.getElem_cons_zero, List.setIfInBounds_toArray, List.set_cons_zero, List.set_cons_succ]
  refine wpAnyH_take (i := 2) (fuel := 8) (v := prF X) rfl (by kernel_rfl) (by kernel_rfl) (by kernel_rfl) (fun _ _ _ h => h) (Or.inl ⟨by rfl, by intro w1 hw1; go_simp⟩) hH ?_
  simp only [Act.put, List.getElem_toArray, List.getElem_cons_zero, List.getElem_cons_succ, List.setIfInBounds_toArray, List.set_cons_zero, List.set_cons_succ]
  refine wpAnyH_take (i := 3) (fuel := 7) (v := shF X) rfl (by kernel_rfl) (by kernel_rfl) (by kernel_rfl) (fun _ _ _ h => h) (Or.inl ⟨by rfl, by intro w1 hw1; go_simp⟩) hH ?_
  simp only [Act.put, List.getElem_toArray, List.getElem_cons_zero, List.getElem_cons_succ, List.setIfInBounds_toArray, List.set_cons_zero, List.set_cons_succ]
  refine wpAnyH_ready (fuel := 6) (rs := [1]) (by kernel_rfl) (by simp) ?_
  refine AllReadyH.cons rfl (fun K hK => ?_) AllReadyH.nil
  rw [if_pos (by rfl)]
  go_wp2_with fail
  refine (BA.out _ _).mono ?_
  rintro e W3 ⟨rfl, hb⟩
  have hS1 := hH.trans (Only.of_below hb)
  have x3 : AskB W3 X 0 0 := Blk.below (show AskB W2.drew X 0 0 from XL.out) hb XL.out.lt
  refine hK.out _ _ hS1 (fun _ => ?_)
  clear hK hb
  try simp only [Act.put, List.getElem_toArray, List.getElem_cons_zero, List.getElem_cons_succ, List.setIfInBounds_toArray, List.set_cons_zero, List.set_cons_succ]
  refine wpAnyH_ready (fuel := 5) (rs := [4]) (by kernel_rfl) (by simp) ?_
  refine AllReadyH.cons rfl (fun K hK => ?_) AllReadyH.nil
  rw [if_pos (by rfl)]
  go_wp2_with fail
  refine (SAY1.out W3 (by have h := BL.out.trans (hS1.below BL.out.size (by have := HX.out; omega)); rw [HX.out] at h; exact h) x3).mono ?_
  rintro e W4 ⟨rfl, hx, ho⟩
  have hS2 := hS1.trans ho
  refine hK.out _ _ hS2 (fun _ => ?_)
  clear hK
  try simp only [Act.put, List.getElem_toArray, List.getElem_cons_zero, List.getElem_cons_succ, List.setIfInBounds_toArray, List.set_cons_zero, List.set_cons_succ]
  refine wpAnyH_take (i := 5) (fuel := 4) (v := .tuple #[.string sHi, .bool true]) rfl (by kernel_rfl) (by kernel_rfl) (by kernel_rfl) (fun _ _ _ h => h) (Or.inl ⟨by rfl, by intro w1 hw1; go_simp⟩) hS2 ?_
  simp only [Act.put, List.getElem_toArray, List.getElem_cons_zero, List.getElem_cons_succ, List.setIfInBounds_toArray, List.set_cons_zero, List.set_cons_succ]
  refine wpAnyH_take (i := 6) (fuel := 3) (v := .string sHi) rfl (by kernel_rfl) (by kernel_rfl) (by kernel_rfl) (fun _ _ _ h => h) (Or.inl ⟨by rfl, by intro w1 hw1; go_simp⟩) hS2 ?_
  simp only [Act.put, List.getElem_toArray, List.getElem_cons_zero, List.getElem_cons_succ, List.setIfInBounds_toArray, List.set_cons_zero, List.set_cons_succ]
  refine wpAnyH_take (i := 7) (fuel := 2) (v := .bool true) rfl (by kernel_rfl) (by kernel_rfl) (by kernel_rfl) (fun _ _ _ h => h) (Or.inl ⟨by rfl, by intro w1 hw1; go_simp⟩) hS2 ?_
  simp only [Act.put, List.getElem_toArray, List.getElem_cons_zero, List.getElem_cons_succ, List.setIfInBounds_toArray, List.set_cons_zero, List.set_cons_succ]
  refine wpAnyH_take (i := 8) (fuel := 1) (v := .string sHi) rfl (by kernel_rfl) (by kernel_rfl) (by kernel_rfl) (fun _ _ _ h => h) (Or.inl ⟨by rfl, by intro w1 hw1; go_simp⟩) hS2 ?_
  simp only [Act.put, List.getElem_toArray, List.getElem_cons_zero, List.getElem_cons_succ, List.setIfInBounds_toArray, List.set_cons_zero, List.set_cons_succ]
  refine wpAnyH_take (i := 9) (fuel := 0) (v := .bool true) rfl (by kernel_rfl) (by kernel_rfl) (by kernel_rfl) (fun _ _ _ h => h) (Or.inl ⟨by rfl, by intro w1 hw1; go_simp⟩) hS2 ?_
  simp only [Act.put, List.getElem_toArray, List.getElem_cons_zero, List.getElem_cons_succ, List.setIfInBounds_toArray, List.set_cons_zero, List.set_cons_succ]
  refine wpAnyH_done (by kernel_rfl) ?_ _
  have BL := hid (BL.out.trans (hS2.below BL.out.size (by have := HX.out; omega)))
  have XL := hid hx
  clear hH hS1 hS2 hx ho x3 ML hGX
  go_upto_region 4 with fail
  refine wp_region_list ?_
  refine wpList_buildTo rfl 26 _ rfl (some 18) rfl (deV acBoo.p) (by kernel_rfl) ?_
  refine wpList_buildTo rfl 28 _ rfl (some 19) rfl (acV acBoo) (by kernel_rfl) ?_
  refine wpList_buildTo rfl 30 _ rfl (some 20) rfl (hkV hkBoo) (by kernel_rfl) ?_
  refine wpList_plain rfl fun K hK => ?_
  have HK := hid hK
  clear hK
  go_wp2_with fail
  refine (BA.out _ _).mono ?_
  rintro e W5 ⟨rfl, hb⟩
  have XL := hid (XL.out.below hb XL.out.lt)
  have BL := hid (BL.out.trans (hb.mono BL.out.size))
  clear hb
  refine HK.out _ _ ?_
  clear HK
  refine wpList_plain rfl fun K hK => ?_
  have HK := hid hK
  clear hK
  go_wp2_with fail
  refine HK.out _ _ ?_
  clear HK
  refine wpList_plain rfl fun K hK => ?_
  have HK := hid hK
  clear hK
  go_wp2_with fail
  refine HK.out _ _ ?_
  clear HK
  refine wpList_plain rfl fun K hK => ?_
  have HK := hid hK
  clear hK
  go_wp2_with fail
  refine (SAY2.out W5 XL.out).mono ?_
  rintro e W6 ⟨rfl, hx, ho⟩
  have XL := hid hx
  have BL := hid (BL.out.trans (ho.below BL.out.size (by have := HX.out; omega)))
  clear hx ho
  refine HK.out _ _ ?_
  clear HK
  refine wpList_plain rfl fun K hK => ?_
  have HK := hid hK
  clear hK
  go_wp2_with fail
  refine HK.out _ _ ?_
  clear HK
  refine wpList_plain rfl fun K hK => ?_
  have HK := hid hK
  clear hK
  go_wp2_with fail
  refine HK.out _ _ ?_
  clear HK
  refine wpList_plain rfl fun K hK => ?_
  have HK := hid hK
  clear hK
  go_wp2_with fail
  refine HK.out _ _ ?_
  clear HK
  refine wpList_plain rfl fun K hK => ?_
  have HK := hid hK
  clear hK
  go_wp2_with fail
  refine HK.out _ _ ?_
  clear HK
  refine wpList_plain rfl fun K hK => ?_
  have HK := hid hK
  clear hK
  go_wp2_with fail
  refine HK.out _ _ ?_
  clear HK
  refine wpList_nil ?_
  have x0 : W6.cell? ⟨X, 0, none⟩ = some (.int .i64 0) := XL.out.cell 0
  have x1 : W6.cell? ⟨X, 1, none⟩ = some (.int .i64 1) := XL.out.cell 1
  go_wp2_with fail
  go_ret
  exact ⟨rfl, BL.out⟩
end Go.Proofs.YtaniahkagmjkoaaDoor
