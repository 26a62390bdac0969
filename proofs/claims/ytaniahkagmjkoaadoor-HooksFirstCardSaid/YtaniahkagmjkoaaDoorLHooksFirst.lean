/-
  The law HooksFirst, walked.
-/
import Derived.Test.YtaniahkagmjkoaaDoorHS
namespace Go.Proofs.YtaniahkagmjkoaaDoor
open Go.RowKit Go.Proofs

abbrev ac1 (t : ByteArray) : Ac := { acZ with k := 1, t := t }
theorem which_first (h : Hk) (t : ByteArray) (v : Int) (sh : Bool) : whichN (hkFo h (ac1 t)) v sh = 1 := by
  show (if thereB 1 = true then (1 : Int) else _) = _
  rfl
set_option maxRecDepth 100000 in
set_option maxHeartbeats 2000000 in
theorem hooksFirst_law (h0 : Hk) (pl mi sh sp ze : Bool) (wid prec verb : Int) (t : ByteArray) (w : World) (hT : Tabs w) (_ok : HkOk w h0) (hz : HkSz h0) (_hw0 : -9223372036854775808 ≤ wid) (_hw1 : wid ≤ 9223372036854775807) (_hp0 : -9223372036854775808 ≤ prec) (_hp1 : prec ≤ 9223372036854775807) (_hr0 : -2147483648 ≤ verb) (_hr1 : verb ≤ 2147483647)
    (ht : t.size ≤ 140737488355328) :
    Calls Tryd.prog 5 #[.agg (hkV h0), .agg #[.bool pl, .bool mi, .bool sh, .bool sp, .bool ze, .int .i64 wid, .int .i64 prec, .int .i32 verb], .string t] w fun e w' => e = .returned (.bool true) ∧ Below w.heap.size w w' := by
  have hmf : ∀ (fn : Fn) (first cap : Array Value) (w : World), (Instr.makeFunc fn first cap).run Tryd.prog w = .ok (.func fn first cap) w := fun _ _ _ _ => rfl
  have LV := hid (fun W hT => hlives_any W hT)
  have HT := hid hT
  clear hT
  have SM := hid (fun W => small_any h0 W hz)
  obtain ⟨h, hh⟩ : ∃ h, hkFo h0 (ac1 t) = h := ⟨_, rfl⟩
  have hwn := which_first h0 t verb sh
  have hat : hkAt h 0 = ac1 t := by rw [← hh]; rfl
  rw [hh] at hwn
  have HH := hid hh
  have WH := hid (fun W => which_any h verb sh W)
  rw [hwn] at WH
  have SAY := hid (fun X W (x : AskB W X 0 0) => say_fo h pl mi sh sp ze wid prec verb true true X 0 0 t W x.lt hwn (fun W1 b1 => by
    rw [hat]
    exact do_tells (ac1 t) true verb (methodS 1) X 0 0 W1 rfl (x.below b1 x.lt)))
  clear hz hh hwn hat
  have B0 := ((Below.refl w.heap.size w).alloc (Nat.le_refl _) (.cells (hkV h0) 30)).alloc (by simp) (.cells (sp8 pl mi sh sp ze wid prec verb) 48)
  have A0 := (Blk.new w (hkV h0) 30).alloc (.cells (sp8 pl mi sh sp ze wid prec verb) 48)
  have F0 := Blk.new (w.alloc (.cells (hkV h0) 30)) (sp8 pl mi sh sp ze wid prec verb) 48
  obtain ⟨B, hB⟩ : ∃ B, w.heap.size = B := ⟨_, rfl⟩
  rw [show (w.alloc (.cells (hkV h0) 30)).heap.size = B + 1 by simp [hB]] at F0
  have HBB := hid hB
  go_enter Tryd.func5, Tryd.ntmps5
  go_upto_region 1 with fail
  obtain ⟨W0, hW0⟩ : ∃ W0, (w.alloc (.cells (hkV h0) 30)).alloc (.cells (sp8 pl mi sh sp ze wid prec verb) 48) = W0 := ⟨_, rfl⟩
  rw [hW0] at B0 A0 F0
  first | rw [hW0] | (unfold sp8 at hW0; rw [hW0])
  rw [hB] at A0
  obtain ⟨F, hF⟩ : ∃ F, B + 1 = F := ⟨_, rfl⟩
  rw [hF] at F0 ⊢
  have HF := hid hF
  have BL := hid B0
  have AL := hid A0
  have FL := hid F0
  clear B0 A0 F0 hW0 hB hF
  refine wp_region_list ?_
  refine wpList_load_mid rfl 30 (.tmp 3) rfl B 0 rfl (hkV h0).toList _ (fun j v hv => by rw [Nat.zero_add, AL.out.cell]; simpa using hv) Tryd.underlying30 rfl hook_size ?_
  refine wpList_plain rfl fun K hK => ?_
  have HK := hid hK
  clear hK
  go_wp2_with fail
  refine (SM.out _).mono ?_
  rintro e W1 ⟨⟨b, rfl, _⟩, hb⟩
  have AL := hid (AL.out.below hb AL.out.lt)
  have FL := hid (FL.out.below hb FL.out.lt)
  have BL := hid (BL.out.trans (hb.mono (by have := BL.out.size; have := HBB.out; omega)))
  clear hb
  refine HK.out _ _ ?_
  clear HK
  cases b
  · clear SAY WH
    go_wp2_with fail
    refine (LV.out _ (HT.out.below BL.out)).mono ?_
    rintro e W9 ⟨rfl, hb⟩
    have BL := hid (BL.out.trans (hb.mono (by have := BL.out.size; have := HBB.out; omega)))
    clear hb
    go_wp2_with fail
    go_ret
    exact ⟨rfl, BL.out⟩
  by_cases hz : 1000 < t.size
  · have hz2 : decide ((1000 : Int) < (t.size : Int)) = true := decide_eq_true (by omega)
    clear SAY WH
    go_wp2_with fail
    refine (LV.out _ (HT.out.below BL.out)).mono ?_
    rintro e W9 ⟨rfl, hb⟩
    have BL := hid (BL.out.trans (hb.mono (by have := BL.out.size; have := HBB.out; omega)))
    clear hb
    go_wp2_with fail
    go_ret
    exact ⟨rfl, BL.out⟩
  have hz2 : decide ((1000 : Int) < (t.size : Int)) = false := decide_eq_false (by omega)
  go_upto_region 3 with fail
  clear hz2 hz SM
  refine wp_region_list ?_
  refine wpList_plain rfl fun K hK => ?_
  have HK := hid hK
  clear hK
  go_wp2_with fail
  refine HK.out _ _ ?_
  clear HK
  refine wpList_buildTo rfl 28 _ rfl (some 20) rfl (acV (ac1 t)) (by kernel_rfl) ?_
  refine wpList_plain rfl fun K hK => ?_
  have HK := hid hK
  clear hK
  go_wp2_with fail
  refine HK.out _ _ ?_
  clear HK
  refine wpList_store_mid rfl 28 (.tmp 21) (.tmp 20) rfl B 0 (acV (ac1 t)) rfl rfl (AL.out.there 0 12 (by rw [hkV_size]; decide)) act_size (acV_one _) ?_
  have A1 := hk_put AL.out (ac1 t)
  rw [HH.out] at A1
  have B1 := below_setCells BL.out B (by have := HBB.out; omega) (acV (ac1 t)).toList 0
  have F1 : Blk (W1.setCells B 0 (acV (ac1 t)).toList) F (sp8 pl mi sh sp ze wid prec verb) 48 := FL.out.same (setCells_far (by have := HF.out; omega) _ _ _)
  obtain ⟨W2, hW2⟩ : ∃ W2, W1.setCells B 0 (acV (ac1 t)).toList = W2 := ⟨_, rfl⟩
  rw [hW2] at A1 B1 F1 ⊢
  have AL := hid A1
  have BL := hid B1
  have FL := hid F1
  clear A1 B1 F1 hW2
  refine wpList_nil ?_
  have x0 := Blk.new W2 #[.int .i64 0, .int .i64 0] 37
  have b0 := BL.out.alloc BL.out.size (.cells #[.int .i64 0, .int .i64 0] 37)
  have hlt := AL.out.lt
  have flt := FL.out.lt
  go_upto_region 5 with fail
  obtain ⟨X, hX⟩ : ∃ X, W2.heap.size = X := ⟨_, rfl⟩
  obtain ⟨W3, hW3⟩ : ∃ W3, W2.alloc (.cells #[.int .i64 0, .int .i64 0] 37) = W3 := ⟨_, rfl⟩
  have AL := hid (show Blk W3 B (hkV h) 30 from hW3 ▸ AL.out.alloc _)
  have FL := hid (show Blk W3 F (sp8 pl mi sh sp ze wid prec verb) 48 from hW3 ▸ FL.out.alloc _)
  rw [hW3] at x0 b0 ⊢
  rw [hX] at x0 hlt flt ⊢
  have hwX : w.heap.size ≤ X := by have := BL.out.size; omega
  have BL := hid b0
  have XL := hid x0
  have hBX : B ≠ X := by omega
  have hFX : F ≠ X := by omega
  clear hW3 hX x0 b0 hlt flt
  refine wp_region_list ?_
  refine wpList_load_mid rfl 30 (.tmp 3) rfl B 0 rfl (hkV h).toList _ (fun j v hv => by rw [Nat.zero_add, AL.out.cell]; simpa using hv) Tryd.underlying30 rfl hook_size ?_
  refine wpList_load_mid rfl 48 (.tmp 4) rfl F 0 rfl (sp8 pl mi sh sp ze wid prec verb).toList _ (fun j v hv => by rw [Nat.zero_add, FL.out.cell]; simpa using hv) Tryd.underlying48 rfl hspec_size ?_
  refine wpList_plain rfl fun K hK => ?_
  have HK := hid hK
  clear hK
  go_wp2_with fail
  refine HK.out _ _ ?_
  clear HK
  refine wpList_plain rfl fun K hK => ?_
  have HK := hid hK
  clear hK
  go_wp2_with fail
  refine HK.out _ _ ?_
  clear HK
  refine wpList_plain rfl fun K hK => ?_
  have HK := hid hK
  clear hK
  go_wp2_with fail
  refine (SAY.out X W3 XL.out).mono ?_
  rintro e W4 ⟨rfl, hx, ho⟩
  have AL := hid (AL.out.same (ho.block B AL.out.lt hBX))
  have FL := hid (FL.out.same (ho.block F FL.out.lt hFX))
  have BL := hid (BL.out.trans (ho.below BL.out.size hwX))
  have XL := hid hx
  clear hx ho
  refine HK.out _ _ ?_
  clear HK
  refine wpList_plain rfl fun K hK => ?_
  have HK := hid hK
  clear hK
  go_wp2_with fail
  refine HK.out _ _ ?_
  clear HK
  refine wpList_plain rfl fun K hK => ?_
  have HK := hid hK
  clear hK
  go_wp2_with fail
  refine HK.out _ _ ?_
  clear HK
  refine wpList_plain rfl fun K hK => ?_
  have HK := hid hK
  clear hK
  go_wp2_with fail
  refine HK.out _ _ ?_
  clear HK
  refine wpList_plain rfl fun K hK => ?_
  have HK := hid hK
  clear hK
  go_wp2_with fail
  refine HK.out _ _ ?_
  clear HK
  refine wpList_plain rfl fun K hK => ?_
  have HK := hid hK
  clear hK
  go_wp2_with fail
  refine HK.out _ _ ?_
  clear HK
  refine wpList_nil ?_
  go_upto_region 6 with fail
  refine wp_region_list ?_
  refine wpList_plain rfl fun K hK => ?_
  have HK := hid hK
  clear hK
  go_wp2_with fail
  refine HK.out _ _ ?_
  clear HK
  refine wpList_plain rfl fun K hK => ?_
  have HK := hid hK
  clear hK
  go_wp2_with fail
  refine HK.out _ _ ?_
  clear HK
  refine wpList_step fun K hK => ?_
  rw [if_pos (by rfl)]
  have HK := hid hK
  clear hK
  go_wp2_with fail
  refine HK.out _ _ ?_
  clear HK
  refine wpList_step fun K hK => ?_
  rw [if_pos (by rfl)]
  have HK := hid hK
  clear hK
  go_wp2_with fail
  refine HK.out _ _ ?_
  clear HK
  refine wpList_step fun K hK => ?_
  rw [if_pos (by rfl)]
  have HK := hid hK
  clear hK
  go_wp2_with fail
  refine HK.out _ _ ?_
  clear HK
  refine wpList_plain rfl fun K hK => ?_
  have HK := hid hK
  clear hK
  go_wp2_with fail
  refine HK.out _ _ ?_
  clear HK
  refine wpList_plain rfl fun K hK => ?_
  have HK := hid hK
  clear hK
  go_wp2_with fail
  refine HK.out _ _ ?_
  clear HK
  have x0 : W4.cell? ⟨X, 0, none⟩ = some (.int .i64 0) := XL.out.cell 0
  have x1 : W4.cell? ⟨X, 1, none⟩ = some (.int .i64 0) := XL.out.cell 1
  refine wpList_step fun K hK => ?_
  rw [if_pos (by rfl)]
  have HK := hid hK
  clear hK
  go_wp2_with fail
  refine HK.out _ _ ?_
  clear HK
  refine wpList_step fun K hK => ?_
  rw [if_pos (by rfl)]
  have HK := hid hK
  clear hK
  go_wp2_with fail
  refine HK.out _ _ ?_
  clear HK
  refine wpList_step fun K hK => ?_
  rw [if_pos (by rfl)]
  have HK := hid hK
  clear hK
  go_wp2_with fail
  refine HK.out _ _ ?_
  clear HK
  refine wpList_plain rfl fun K hK => ?_
  have HK := hid hK
  clear hK
  go_wp2_with fail
  refine HK.out _ _ ?_
  clear HK
  refine wpList_plain rfl fun K hK => ?_
  have HK := hid hK
  clear hK
  go_wp2_with fail
  refine HK.out _ _ ?_
  clear HK
  clear x0 x1
  refine wpList_wantLoad (by rfl) 30 (.tmp 3) rfl B 0 rfl (hkV h) _ (fun j v hv => by rw [Nat.zero_add, AL.out.cell]; simpa using hv) Tryd.underlying30 rfl hook_size ?_
  have f7 : W4.cell? ⟨F, 7, none⟩ = some (.int .i32 verb) := FL.out.cell 7
  have f2 : W4.cell? ⟨F, 2, none⟩ = some (.bool sh) := FL.out.cell 2
  refine wpList_step fun K hK => ?_
  rw [if_pos (by rfl)]
  have HK := hid hK
  clear hK
  go_wp2_with fail
  refine HK.out _ _ ?_
  clear HK
  refine wpList_step fun K hK => ?_
  rw [if_pos (by rfl)]
  have HK := hid hK
  clear hK
  go_wp2_with fail
  refine HK.out _ _ ?_
  clear HK
  refine wpList_step fun K hK => ?_
  rw [if_pos (by rfl)]
  have HK := hid hK
  clear hK
  go_wp2_with fail
  refine HK.out _ _ ?_
  clear HK
  refine wpList_step fun K hK => ?_
  rw [if_pos (by rfl)]
  have HK := hid hK
  clear hK
  go_wp2_with fail
  refine HK.out _ _ ?_
  clear HK
  refine wpList_step fun K hK => ?_
  rw [if_pos (by rfl)]
  have HK := hid hK
  clear hK
  go_wp2_with fail
  refine (WH.out _).mono ?_
  rintro e W5 ⟨rfl, hb⟩
  have BL := hid (BL.out.trans (hb.mono BL.out.size))
  clear hb f7 f2
  refine HK.out _ _ ?_
  clear HK
  refine wpList_step fun K hK => ?_
  rw [if_pos (by rfl)]
  have HK := hid hK
  clear hK
  go_wp2_with fail
  refine HK.out _ _ ?_
  clear HK
  refine wpList_plain rfl fun K hK => ?_
  have HK := hid hK
  clear hK
  go_wp2_with fail
  refine HK.out _ _ ?_
  clear HK
  refine wpList_plain rfl fun K hK => ?_
  have HK := hid hK
  clear hK
  go_wp2_with fail
  refine HK.out _ _ ?_
  clear HK
  refine wpList_step fun K hK => ?_
  rw [if_pos (by rfl)]
  have HK := hid hK
  clear hK
  go_wp2_with fail
  refine (LV.out _ (HT.out.below BL.out)).mono ?_
  rintro e W7 ⟨rfl, hb⟩
  have BL := hid (BL.out.trans (hb.mono BL.out.size))
  clear hb
  refine HK.out _ _ ?_
  clear HK
  refine wpList_plain rfl fun K hK => ?_
  have HK := hid hK
  clear hK
  go_wp2_with fail
  refine HK.out _ _ ?_
  clear HK
  refine wpList_plain rfl fun K hK => ?_
  have HK := hid hK
  clear hK
  go_wp2_with fail
  refine HK.out _ _ ?_
  clear HK
  refine wpList_nil ?_
  go_wp2_with fail
  go_ret
  exact ⟨rfl, BL.out⟩
end Go.Proofs.YtaniahkagmjkoaaDoor
