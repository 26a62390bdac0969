/-
  The law HooksLacks, walked.
-/
import Derived.Test.YtaniahkagmjkoaaDoorHL
namespace Go.Proofs.YtaniahkagmjkoaaDoor
open Go.RowKit Go.Proofs

/-- What holds at each round's head. -/
structure SlI (w W : World) (L F : Nat) (sc : Array Value) (h : Hk) : Prop where
  a : Blk W L (hkV h) 38
  f : Blk W F sc 48
  below : Below w.heap.size w W
  none : NoneThere h
set_option maxRecDepth 100000 in
set_option maxHeartbeats 2000000 in
theorem hooksLacks_law (pl mi sh sp ze : Bool) (wid prec verb : Int) (k0 k1 k2 k3 : Int) (nil : Bool) (w : World) (hT : Tabs w) (_hw0 : -9223372036854775808 ≤ wid) (_hw1 : wid ≤ 9223372036854775807) (_hp0 : -9223372036854775808 ≤ prec) (_hp1 : prec ≤ 9223372036854775807) (_hr0 : -2147483648 ≤ verb) (_hr1 : verb ≤ 2147483647)
    (_hk4 : ∀ k ∈ [k0, k1, k2, k3], -9223372036854775808 ≤ k ∧ k ≤ 9223372036854775807) :
    Calls Tryd.prog 8 #[.agg #[.bool pl, .bool mi, .bool sh, .bool sp, .bool ze, .int .i64 wid, .int .i64 prec, .int .i32 verb], .agg #[.int .i64 k0, .int .i64 k1, .int .i64 k2, .int .i64 k3], .bool nil] w fun e w' => e = .returned (.bool true) ∧ Below w.heap.size w w' := by
  have hmf : ∀ (fn : Fn) (first cap : Array Value) (w : World), (Instr.makeFunc fn first cap).run Tryd.prog w = .ok (.func fn first cap) w := fun _ _ _ _ => rfl
  have LV := hid (fun W hT => hlives_any W hT)
  have HT := hid hT
  clear hT
  have KA := hid (k_at k0 k1 k2 k3)
  have B0 := (((Below.refl w.heap.size w).alloc (Nat.le_refl _) (.cells (sp8 pl mi sh sp ze wid prec verb) 48)).alloc (by simp) (.cells #[.int .i64 k0, .int .i64 k1, .int .i64 k2, .int .i64 k3] 53)).alloc (by simp; omega) (.cells hk0 38)
  have F0 := ((Blk.new w (sp8 pl mi sh sp ze wid prec verb) 48).alloc (.cells #[.int .i64 k0, .int .i64 k1, .int .i64 k2, .int .i64 k3] 53)).alloc (.cells hk0 38)
  have L0 := Blk.new ((w.alloc (.cells (sp8 pl mi sh sp ze wid prec verb) 48)).alloc (.cells #[.int .i64 k0, .int .i64 k1, .int .i64 k2, .int .i64 k3] 53)) hk0 38
  obtain ⟨F, hF⟩ : ∃ F, w.heap.size = F := ⟨_, rfl⟩
  rw [show ((w.alloc (.cells (sp8 pl mi sh sp ze wid prec verb) 48)).alloc (.cells #[.int .i64 k0, .int .i64 k1, .int .i64 k2, .int .i64 k3] 53)).heap.size = F + 1 + 1 by simp [hF]] at L0
  have HF := hid hF
  go_enter Tryd.func8, Tryd.ntmps8
  go_wp2_with fail
  obtain ⟨W0, hW0⟩ : ∃ W0, ((w.alloc (.cells (sp8 pl mi sh sp ze wid prec verb) 48)).alloc (.cells #[.int .i64 k0, .int .i64 k1, .int .i64 k2, .int .i64 k3] 53)).alloc (.cells hk0 38) = W0 := ⟨_, rfl⟩
  rw [hW0] at B0 F0 L0
  first | rw [hW0] | (unfold sp8 at hW0; rw [hW0])
  rw [hF] at F0
  obtain ⟨L, hL⟩ : ∃ L, F + 1 + 1 = L := ⟨_, rfl⟩
  rw [hL] at L0 ⊢
  have HLF := hid hL
  have I0 : Hid (SlI w W0 L F (sp8 pl mi sh sp ze wid prec verb) hkZ) := hid ⟨L0, F0, B0, none_Z⟩
  clear B0 F0 L0 hW0 hL hF
  go_loopw [16] (fun iv wr => ∃ (i : Nat) (h : Hk), iv = .int .i64 i ∧ i ≤ 4 ∧ Hid (SlI w wr L F (sp8 pl mi sh sp ze wid prec verb) h)) (fun iv _ => 4 - (intOf iv).toNat)
  case atStart => exact ⟨0, hkZ, rfl, by decide, I0.out⟩
  case round =>
    obtain ⟨i, h, rfl, hi, hI⟩ := hrel
    by_cases hlt : i < 4
    · have hix := KA.out i hlt
      obtain ⟨k, hk⟩ : ∃ k, kAt k0 k1 k2 k3 i = k := ⟨_, rfl⟩
      rw [hk] at hix
      clear hk
      by_cases g1 : k < 1
      · have d1 : decide (k < 1) = true := decide_eq_true g1
        have hth : thereB k = false := decide_eq_false (by omega)
        have GG := hid g1
        clear g1
        go_upto_region 6 with fail
        clear hix d1
        refine wp_region_list ?_
        refine wpList_plain rfl fun K hK => ?_
        have HK := hid hK
        clear hK
        go_wp2_with fail
        refine HK.out _ _ ?_
        clear HK
        refine wpList_plain rfl fun K hK => ?_
        have HK := hid hK
        clear hK
        go_wp2_with fail
        refine HK.out _ _ ?_
        clear HK
        refine wpList_buildTo rfl 28 _ rfl (some 28) rfl (acV (acK k)) (by kernel_rfl) ?_
        refine wpList_plain rfl fun K hK => ?_
        have HK := hid hK
        clear hK
        go_wp2_with fail
        refine HK.out _ _ ?_
        clear HK
        refine wpList_store_mid rfl 28 (.tmp 29) (.tmp 28) rfl L (i * 12) (acV (acK k)) rfl rfl (hI.out.a.there (i * 12) 12 (by rw [hkV_size]; omega)) act_size (acV_one _) ?_
        have N := hid (show SlI w (wr.setCells L (i * 12) (acV (acK k)).toList) L F (sp8 pl mi sh sp ze wid prec verb) (hkSet h i (acK k)) from
          ⟨hk_puts hI.out.a i hlt _, hI.out.f.same (setCells_far (by have := HLF.out; omega) _ _ _), below_setCells hI.out.below L (by have := HLF.out; have := HF.out; omega) _ _, none_set hI.out.none i hlt _ hth⟩)
        refine wpList_nil ?_
        go_wp2_with fail
        go_roundw
        case rel => exact ⟨i + 1, _, by go_num, by omega, N.out⟩
        case measure => simp [intOf]; omega
      · have d1 : decide (k < 1) = false := decide_eq_false g1
        by_cases g2 : 3 < k
        · have d2 : decide (3 < k) = true := decide_eq_true g2
          have hth : thereB k = false := decide_eq_false (by omega)
          clear g1 g2
          go_upto_region 6 with fail
          clear hix d1 d2
          refine wp_region_list ?_
          refine wpList_plain rfl fun K hK => ?_
          have HK := hid hK
          clear hK
          go_wp2_with fail
          refine HK.out _ _ ?_
          clear HK
          refine wpList_plain rfl fun K hK => ?_
          have HK := hid hK
          clear hK
          go_wp2_with fail
          refine HK.out _ _ ?_
          clear HK
          refine wpList_buildTo rfl 28 _ rfl (some 28) rfl (acV (acK k)) (by kernel_rfl) ?_
          refine wpList_plain rfl fun K hK => ?_
          have HK := hid hK
          clear hK
          go_wp2_with fail
          refine HK.out _ _ ?_
          clear HK
          refine wpList_store_mid rfl 28 (.tmp 29) (.tmp 28) rfl L (i * 12) (acV (acK k)) rfl rfl (hI.out.a.there (i * 12) 12 (by rw [hkV_size]; omega)) act_size (acV_one _) ?_
          have N := hid (show SlI w (wr.setCells L (i * 12) (acV (acK k)).toList) L F (sp8 pl mi sh sp ze wid prec verb) (hkSet h i (acK k)) from
            ⟨hk_puts hI.out.a i hlt _, hI.out.f.same (setCells_far (by have := HLF.out; omega) _ _ _), below_setCells hI.out.below L (by have := HLF.out; have := HF.out; omega) _ _, none_set hI.out.none i hlt _ hth⟩)
          refine wpList_nil ?_
          go_wp2_with fail
          go_roundw
          case rel => exact ⟨i + 1, _, by go_num, by omega, N.out⟩
          case measure => simp [intOf]; omega
        · have d2 : decide (3 < k) = false := decide_eq_false g2
          clear g1 g2
          go_wp2_with fail
          go_roundw
          case rel => exact ⟨i + 1, h, by go_num, by omega, hI.out⟩
          case measure => simp [intOf]; omega
    · obtain ⟨W1, rfl⟩ : ∃ W1, W1 = wr := ⟨_, rfl⟩
      have hI2 := hI.out
      have AL := hid hI2.a
      have FL := hid hI2.f
      have BL := hid hI2.below
      have NT := hid hI2.none
      have x0 := Blk.new W1 #[.int .i64 0, .int .i64 0] 37
      have b0 := BL.out.alloc BL.out.size (.cells #[.int .i64 0, .int .i64 0] 37)
      have SAY := hid (fun X W => say_none h pl mi sh sp ze wid prec verb nil X W (which_none hI2.none verb sh))
      have DO := hid (fun X W => do_lacks (hkAt h 0) nil verb (methodS 1) X W (hI2.none 0 (by decide)))
      clear hI hI2 KA
      go_upto_region 9 with fail
      obtain ⟨X, hX⟩ : ∃ X, W1.heap.size = X := ⟨_, rfl⟩
      obtain ⟨W3, hW3⟩ : ∃ W3, W1.alloc (.cells #[.int .i64 0, .int .i64 0] 37) = W3 := ⟨_, rfl⟩
      have AL := hid (show Blk W3 L (hkV h) 38 from hW3 ▸ AL.out.alloc _)
      have FL := hid (show Blk W3 F (sp8 pl mi sh sp ze wid prec verb) 48 from hW3 ▸ FL.out.alloc _)
      rw [hW3] at x0 b0 ⊢
      rw [hX] at x0 ⊢
      have BL := hid b0
      have XL := hid x0
      clear hW3 hX x0 b0
      refine wp_region_list ?_
      refine wpList_plain rfl fun K hK => ?_
      have HK := hid hK
      clear hK
      go_wp2_with fail
      refine HK.out _ _ ?_
      clear HK
      refine wpList_load_mid rfl 28 (.tmp 32) rfl L 0 rfl (acV (hkAt h 0)).toList _ (hk_cellsT AL.out 0 (by decide)) Tryd.underlying28 rfl act_size ?_
      refine wpList_plain rfl fun K hK => ?_
      have HK := hid hK
      clear hK
      go_wp2_with fail
      refine HK.out _ _ ?_
      clear HK
      refine wpList_load_mid rfl 28 (.tmp 34) rfl L 12 rfl (acV (hkAt h 1)).toList _ (hk_cellsT AL.out 1 (by decide)) Tryd.underlying28 rfl act_size ?_
      refine wpList_plain rfl fun K hK => ?_
      have HK := hid hK
      clear hK
      go_wp2_with fail
      refine HK.out _ _ ?_
      clear HK
      refine wpList_load_mid rfl 28 (.tmp 36) rfl L 24 rfl (acV (hkAt h 2)).toList _ (hk_cellsT AL.out 2 (by decide)) Tryd.underlying28 rfl act_size ?_
      refine wpList_plain rfl fun K hK => ?_
      have HK := hid hK
      clear hK
      go_wp2_with fail
      refine HK.out _ _ ?_
      clear HK
      refine wpList_load_mid rfl 28 (.tmp 38) rfl L 36 rfl (acV (hkAt h 3)).toList _ (hk_cellsT AL.out 3 (by decide)) Tryd.underlying28 rfl act_size ?_
      refine wpList_buildTo rfl 30 _ rfl (some 40) rfl (hkV h) (by kernel_rfl) ?_
      refine wpList_load_mid rfl 48 (.tmp 3) rfl F 0 rfl (sp8 pl mi sh sp ze wid prec verb).toList _ (fun j v hv => by rw [Nat.zero_add, FL.out.cell]; simpa using hv) Tryd.underlying48 rfl hspec_size ?_
      refine wpList_plain rfl fun K hK => ?_
      have HK := hid hK
      clear hK
      go_wp2_with fail
      refine HK.out _ _ ?_
      clear HK
      refine wpList_plain rfl fun K hK => ?_
      have HK := hid hK
      clear hK
      go_wp2_with fail
      refine HK.out _ _ ?_
      clear HK
      refine wpList_plain rfl fun K hK => ?_
      have HK := hid hK
      clear hK
      go_wp2_with fail
      refine HK.out _ _ ?_
      clear HK
      refine wpList_plain rfl fun K hK => ?_
      have HK := hid hK
      clear hK
      go_wp2_with fail
      refine (SAY.out X W3).mono ?_
      rintro e W4 ⟨rfl, hb⟩
      have AL := hid (AL.out.below hb AL.out.lt)
      have FL := hid (FL.out.below hb FL.out.lt)
      have XL := hid (XL.out.below hb XL.out.lt)
      have BL := hid (BL.out.trans (hb.mono BL.out.size))
      clear hb
      refine HK.out _ _ ?_
      clear HK
      refine wpList_plain rfl fun K hK => ?_
      have HK := hid hK
      clear hK
      go_wp2_with fail
      refine HK.out _ _ ?_
      clear HK
      refine wpList_plain rfl fun K hK => ?_
      have HK := hid hK
      clear hK
      go_wp2_with fail
      refine HK.out _ _ ?_
      clear HK
      refine wpList_plain rfl fun K hK => ?_
      have HK := hid hK
      clear hK
      go_wp2_with fail
      refine HK.out _ _ ?_
      clear HK
      refine wpList_plain rfl fun K hK => ?_
      have HK := hid hK
      clear hK
      go_wp2_with fail
      refine HK.out _ _ ?_
      clear HK
      refine wpList_plain rfl fun K hK => ?_
      have HK := hid hK
      clear hK
      go_wp2_with fail
      refine HK.out _ _ ?_
      clear HK
      refine wpList_nil ?_
      go_upto_region 10 with fail
      refine wp_region_list ?_
      refine wpList_plain rfl fun K hK => ?_
      have HK := hid hK
      clear hK
      go_wp2_with fail
      refine HK.out _ _ ?_
      clear HK
      refine wpList_load_mid rfl 28 (.tmp 49) rfl L 0 rfl (acV (hkAt h 0)).toList _ (hk_cellsT AL.out 0 (by decide)) Tryd.underlying28 rfl act_size ?_
      refine wpList_plain rfl fun K hK => ?_
      have HK := hid hK
      clear hK
      go_wp2_with fail
      refine HK.out _ _ ?_
      clear HK
      refine wpList_plain rfl fun K hK => ?_
      have HK := hid hK
      clear hK
      go_wp2_with fail
      refine HK.out _ _ ?_
      clear HK
      have f7 : W4.cell? ⟨F, 7, none⟩ = some (.int .i32 verb) := FL.out.cell 7
      refine wpList_plain rfl fun K hK => ?_
      have HK := hid hK
      clear hK
      go_wp2_with fail
      refine HK.out _ _ ?_
      clear HK
      refine wpList_plain rfl fun K hK => ?_
      have HK := hid hK
      clear hK
      go_wp2_with fail
      refine HK.out _ _ ?_
      clear HK
      refine wpList_plain rfl fun K hK => ?_
      have HK := hid hK
      clear hK
      go_wp2_with fail
      refine HK.out _ _ ?_
      clear HK
      refine wpList_plain rfl fun K hK => ?_
      have HK := hid hK
      clear hK
      go_wp2_with fail
      refine (DO.out X W4).mono ?_
      rintro e W5 ⟨rfl, hb⟩
      have AL := hid (AL.out.below hb AL.out.lt)
      have FL := hid (FL.out.below hb FL.out.lt)
      have XL := hid (XL.out.below hb XL.out.lt)
      have BL := hid (BL.out.trans (hb.mono BL.out.size))
      clear hb
      refine HK.out _ _ ?_
      clear HK
      refine wpList_plain rfl fun K hK => ?_
      have HK := hid hK
      clear hK
      go_wp2_with fail
      refine HK.out _ _ ?_
      clear HK
      refine wpList_plain rfl fun K hK => ?_
      have HK := hid hK
      clear hK
      go_wp2_with fail
      refine HK.out _ _ ?_
      clear HK
      refine wpList_plain rfl fun K hK => ?_
      have HK := hid hK
      clear hK
      go_wp2_with fail
      refine HK.out _ _ ?_
      clear HK
      refine wpList_plain rfl fun K hK => ?_
      have HK := hid hK
      clear hK
      go_wp2_with fail
      refine HK.out _ _ ?_
      clear HK
      refine wpList_plain rfl fun K hK => ?_
      have HK := hid hK
      clear hK
      go_wp2_with fail
      refine HK.out _ _ ?_
      clear HK
      refine wpList_nil ?_
      have x0 : W5.cell? ⟨X, 0, none⟩ = some (.int .i64 0) := XL.out.cell 0
      have x1 : W5.cell? ⟨X, 1, none⟩ = some (.int .i64 0) := XL.out.cell 1
      clear f7
      go_wp2_with fail
      refine (LV.out _ (HT.out.below BL.out)).mono ?_
      rintro e W9 ⟨rfl, b9⟩
      have BL := hid (BL.out.trans (b9.mono BL.out.size))
      clear b9
      go_wp2_with fail
      go_ret
      exact ⟨rfl, BL.out⟩
end Go.Proofs.YtaniahkagmjkoaaDoor
