/-
  Walks of layer 11: has a row not more in it than is looked at?
-/
import Derived.Test.YtaniahkagmjkoaaDoorHO
import Derived.Test.YtaniahkagmjkoaaDoorHP
namespace Go.Proofs.YtaniahkagmjkoaaDoor
open Go.RowKit Go.Proofs

/-- No more than is looked at. -/
def SmAt (h : Hk) (i : Nat) : Prop := (hkAt h i).t.size ≤ 4000 ∧ (hkAt h i).f.size ≤ 4000 ∧ (hkAt h i).p.t.size ≤ 4000 ∧ (hkAt h i).ar.n ≤ 100
theorem arr4_0 (h : Hk) (w : World) : (Instr.index 38 (.agg (hkV h)) (.int .i64 0)).run Tryd.prog w = .ok (.agg (acV (hkAt h 0))) w := by kernel_rfl
theorem arr4_1 (h : Hk) (w : World) : (Instr.index 38 (.agg (hkV h)) (.int .i64 1)).run Tryd.prog w = .ok (.agg (acV (hkAt h 1))) w := by kernel_rfl
theorem arr4_2 (h : Hk) (w : World) : (Instr.index 38 (.agg (hkV h)) (.int .i64 2)).run Tryd.prog w = .ok (.agg (acV (hkAt h 2))) w := by kernel_rfl
theorem arr4_3 (h : Hk) (w : World) : (Instr.index 38 (.agg (hkV h)) (.int .i64 3)).run Tryd.prog w = .ok (.agg (acV (hkAt h 3))) w := by kernel_rfl
theorem arr4_at (h : Hk) (i : Nat) (hi : i < 4) (w : World) : (Instr.index 38 (.agg (hkV h)) (.int .i64 i)).run Tryd.prog w = .ok (.agg (acV (hkAt h i))) w := by
  match i, hi with
  | 0, _ => exact arr4_0 h w
  | 1, _ => exact arr4_1 h w
  | 2, _ => exact arr4_2 h w
  | 3, _ => exact arr4_3 h w
/-- What holds at each round's head. -/
structure SmI (w W : World) (B : Nat) (h : Hk) (i : Nat) (n : Int) : Prop where
  a : Blk W B (hkV h) 30
  below : Below w.heap.size w W
  sm : ∀ j, j < i → SmAt h j
  n0 : 0 ≤ n
  n1 : n ≤ 4000

set_option maxRecDepth 100000 in
set_option maxHeartbeats 2000000 in
theorem small_any (h : Hk) (w : World) (hz : HkSz h) : Calls Tryd.prog 15 #[.agg (hkV h)] w fun e w' => (∃ b, e = .returned (.bool b) ∧ (b = true → ∀ i, i < 4 → SmAt h i)) ∧ Below w.heap.size w w' := by
  have B0 := (Below.refl w.heap.size w).alloc (Nat.le_refl _) (.cells (hkV h) 30)
  have A0 := Blk.new w (hkV h) 30
  obtain ⟨B, hB⟩ : ∃ B, w.heap.size = B := ⟨_, rfl⟩
  have HZ := hid hz
  clear hz
  go_enter Tryd.func15, Tryd.ntmps15
  go_upto_region 2 with fail
  obtain ⟨W0, hW0⟩ : ∃ W0, w.alloc (.cells (hkV h) 30) = W0 := ⟨_, rfl⟩
  rw [hW0] at B0 A0 ⊢
  rw [hB] at A0
  have HBB := hid hB
  have BL := hid B0
  have AL := hid A0
  clear B0 A0 hW0 hB
  refine wp_region_list ?_
  refine wpList_plain rfl fun K hK => ?_
  have HK := hid hK
  clear hK
  go_wp2_with fail
  refine HK.out _ _ ?_
  clear HK
  refine wpList_load_mid rfl 28 (.tmp 6) rfl B 0 rfl (acV (hkAt h 0)).toList _ (hk_cells AL.out 0 (by decide)) Tryd.underlying28 rfl act_size ?_
  refine wpList_plain rfl fun K hK => ?_
  have HK := hid hK
  clear hK
  go_wp2_with fail
  refine HK.out _ _ ?_
  clear HK
  refine wpList_load_mid rfl 28 (.tmp 8) rfl B 12 rfl (acV (hkAt h 1)).toList _ (hk_cells AL.out 1 (by decide)) Tryd.underlying28 rfl act_size ?_
  refine wpList_plain rfl fun K hK => ?_
  have HK := hid hK
  clear hK
  go_wp2_with fail
  refine HK.out _ _ ?_
  clear HK
  refine wpList_load_mid rfl 28 (.tmp 10) rfl B 24 rfl (acV (hkAt h 2)).toList _ (hk_cells AL.out 2 (by decide)) Tryd.underlying28 rfl act_size ?_
  refine wpList_plain rfl fun K hK => ?_
  have HK := hid hK
  clear hK
  go_wp2_with fail
  refine HK.out _ _ ?_
  clear HK
  refine wpList_load_mid rfl 28 (.tmp 12) rfl B 36 rfl (acV (hkAt h 3)).toList _ (hk_cells AL.out 3 (by decide)) Tryd.underlying28 rfl act_size ?_
  refine wpList_buildTo rfl 38 _ rfl (some 14) rfl (hkV h) (by kernel_rfl) ?_
  refine wpList_plain rfl fun K hK => ?_
  have HK := hid hK
  clear hK
  go_wp2_with fail
  refine HK.out _ _ ?_
  clear HK
  refine wpList_nil ?_
  go_wp2_with fail
  go_loopw [3, 15] (fun nv iv wr => ∃ (i : Nat) (n : Int), iv = .int .i64 i ∧ nv = .int .i64 n ∧ i ≤ 4 ∧ Hid (SmI w wr B h i n)) (fun _ iv _ => 4 - (intOf iv).toNat)
  case atStart => exact ⟨0, 0, rfl, rfl, by decide, ⟨AL.out, BL.out, fun j hj => absurd hj (by omega), by decide, by decide⟩⟩
  case round =>
    obtain ⟨i, n, rfl, rfl, hi, hI⟩ := hrel
    by_cases hlt : i < 4
    · have hix := arr4_at h i hlt
      obtain ⟨z1, z2, z3⟩ := HZ.out i hlt
      have hn0 := hI.out.n0
      have hn1 := hI.out.n1
      obtain ⟨a, ha⟩ : ∃ a, hkAt h i = a := ⟨_, rfl⟩
      rw [ha] at hix z1 z2 z3
      have HA := hid ha
      clear ha
      go_upto_region 4 with fail
      refine wp_region_list ?_
      refine wpList_plain rfl fun K hK => ?_
      have HK := hid hK
      clear hK
      go_wp2_with fail
      refine HK.out _ _ ?_
      clear HK
      clear hix
      refine wpList_plain rfl fun K hK => ?_
      have HK := hid hK
      clear hK
      go_wp2_with fail
      refine HK.out _ _ ?_
      clear HK
      have hG := Blk.new wr ac0 28
      refine wpList_store_rowTo rfl 28 _ _ rfl rfl wr.heap.size (acV a) rfl rfl 28 ac0 hG act_size rfl (acV_one _) ?_
      have hG2 := hG.setRow (acV a)
      have b3 : Below wr.heap.size wr ((wr.alloc (.cells ac0 28)).setRow wr.heap.size (acV a)) := below_setRow ((Below.refl _ _).alloc (Nat.le_refl _) _) wr.heap.size (Nat.le_refl _) (acV a)
      obtain ⟨W2, hW2⟩ : ∃ W2, (wr.alloc (.cells ac0 28)).setRow wr.heap.size (acV a) = W2 := ⟨_, rfl⟩
      rw [hW2] at hG2 b3 ⊢
      obtain ⟨G, hGG⟩ : ∃ G, wr.heap.size = G := ⟨_, rfl⟩
      rw [hGG] at hG2 ⊢
      have c1 : W2.cell? ⟨G, 1, none⟩ = some (.string a.t) := hG2.cell 1
      have c2 : W2.cell? ⟨G, 2, none⟩ = some (.string a.f) := hG2.cell 2
      have c3 : W2.cell? ⟨G, 3, none⟩ = some (slV a.ar) := hG2.cell 3
      have c8 : W2.cell? ⟨G, 8, none⟩ = some (.string a.p.t) := hG2.cell 8
      have AL := hid (hI.out.a.below b3 hI.out.a.lt)
      have BL := hid (hI.out.below.trans (b3.mono hI.out.below.size))
      have SMI := hid hI.out.sm
      clear hG hG2 hW2 hGG b3 hI
      refine wpList_nil ?_
      by_cases g1 : 100 < a.ar.n
      · have d1 : decide ((100 : Int) < (a.ar.n : Int)) = true := decide_eq_true (by omega)
        go_wp2_with fail
        go_ret
        exact ⟨⟨false, rfl, fun h => by cases h⟩, BL.out⟩
      · have d1 : decide ((100 : Int) < (a.ar.n : Int)) = false := decide_eq_false (by omega)
        obtain ⟨m, hm⟩ : ∃ m : Int, n + ((a.t.size : Int) + (a.f.size : Int) + (a.p.t.size : Int)) = m := ⟨_, rfl⟩
        have d2 : decide (n + ((a.t.size : Int) + (a.f.size : Int) + (a.p.t.size : Int)) < 0) = false := decide_eq_false (by omega)
        by_cases g2 : 4000 < n + ((a.t.size : Int) + (a.f.size : Int) + (a.p.t.size : Int))
        · clear hm
          go_wp2_with fail
          go_ret
          exact ⟨⟨false, rfl, fun h => by cases h⟩, BL.out⟩
        · have N : Hid (SmI w W2 B h (i + 1) m) := by
            refine hid ⟨AL.out, BL.out, fun j hj => ?_, by omega, by omega⟩
            by_cases e : j = i
            · subst e
              unfold SmAt
              rw [HA.out]
              omega
            · exact SMI.out j (by omega)
          have HM := hid hm
          clear hm
          go_wp2_with fail
          rw [HM.out]
          go_roundw
          case rel => exact ⟨i + 1, m, by go_num, rfl, by omega, N.out⟩
          case measure => simp [intOf]; omega
    · have e : i = 4 := by omega
      have SMI := hid hI.out.sm
      have BL := hid hI.out.below
      have HE := hid e
      clear hI e
      go_wp2_with fail
      go_ret
      exact ⟨⟨true, rfl, fun _ j hj => SMI.out j (by have := HE.out; omega)⟩, BL.out⟩
end Go.Proofs.YtaniahkagmjkoaaDoor
