/-
  Texts of this claim, joined: LTopNumbers, Numb.
-/
import Derived.Deep.Fields
import Derived.Lib.SmallJoins
import Derived.Test.YtdjhmanccoekjaaGreatDoorN15
import Derived.Test.YtdjhmanccoekjaaGreatDoorN1

section
namespace Go.Proofs.YtdjhmanccoekjaaGreatDoor
open Go.RowKit Go.Proofs

abbrev verbS (j : Nat) : ByteArray := ⟨#[verbU j]⟩
abbrev flagS (f : Nat) : ByteArray := ⟨(flagL f).toArray⟩
theorem verb_cut (j : Nat) (hj : j < 5) : (⟨#[100, 98, 111, 120, 88]⟩ : ByteArray).extract j (j + 1) = verbS j := by
  match j, hj with
  | 0, _ | 1, _ | 2, _ | 3, _ | 4, _ => rfl
theorem base_at (j : Nat) (hj : j < 5) (h : j < ([Value.int .u64 10, .int .u64 2, .int .u64 8, .int .u64 16, .int .u64 16] : List Value).length) : ([Value.int .u64 10, .int .u64 2, .int .u64 8, .int .u64 16, .int .u64 16] : List Value)[j]'h = .int .u64 (baseN j) := by
  match j, hj with
  | 0, _ | 1, _ | 2, _ | 3, _ | 4, _ => rfl
theorem flag_0 (W : World) : (Instr.index 49 (.agg #[.string ⟨#[]⟩, .string ⟨#[48]⟩, .string ⟨#[43]⟩]) (.int .i64 0)).run Tryz.prog W = .ok (.string ⟨#[]⟩) W := by kernel_rfl
theorem flag_1 (W : World) : (Instr.index 49 (.agg #[.string ⟨#[]⟩, .string ⟨#[48]⟩, .string ⟨#[43]⟩]) (.int .i64 1)).run Tryz.prog W = .ok (.string ⟨#[48]⟩) W := by kernel_rfl
theorem flag_2 (W : World) : (Instr.index 49 (.agg #[.string ⟨#[]⟩, .string ⟨#[48]⟩, .string ⟨#[43]⟩]) (.int .i64 2)).run Tryz.prog W = .ok (.string ⟨#[43]⟩) W := by kernel_rfl
theorem flag_at (f : Nat) (W : World) (hf : f < 3) : (Instr.index 49 (.agg #[.string ⟨#[]⟩, .string ⟨#[48]⟩, .string ⟨#[43]⟩]) (.int .i64 f)).run Tryz.prog W = .ok (.string (flagS f)) W := by
  match f, hf with
  | 0, _ => exact flag_0 W
  | 1, _ => exact flag_1 W
  | 2, _ => exact flag_2 W
theorem fmt_sum (f j : Nat) : (((⟨#[37]⟩ : ByteArray) ++ flagS f) ++ ⟨#[42]⟩) ++ verbS j = ⟨(numF f j).toArray⟩ := by
  refine bytes_ext ?_
  simp [numF]
theorem flagS_size (f : Nat) : (flagS f).size ≤ 1 := by
  rw [Utf.size_eq]
  show (flagL f).length ≤ 1
  unfold flagL
  split
  · simp
  · split <;> simp
theorem digV_cases (c : UInt8) (b : Nat) (hb : b ≤ 16) (h : IP.digV c < b) : (48 ≤ (c.toNat : Int) ∧ (c.toNat : Int) ≤ 57 ∧ (IP.digV c : Int) = (c.toNat : Int) - 48) ∨ (97 ≤ (c.toNat : Int) ∧ (c.toNat : Int) ≤ 102 ∧ (IP.digV c : Int) = (c.toNat : Int) - 87) ∨ (65 ≤ (c.toNat : Int) ∧ (c.toNat : Int) ≤ 70 ∧ (IP.digV c : Int) = (c.toNat : Int) - 55) := by
  revert h
  unfold IP.digV
  generalize c.toNat = x
  intro h
  split at h
  · rename_i h1
    rw [if_pos h1]
    omega
  · rename_i h1
    rw [if_neg h1]
    split at h
    · rename_i h2
      rw [if_pos h2]
      omega
    · rename_i h2
      rw [if_neg h2]
      split at h
      · rename_i h3
        rw [if_pos h3]
        omega
      · omega
/-- What holds in the loop over the flags. -/
structure NmI (w : World) (D X : Nat) (K bits : Int) (wr : World) : Prop where
  low : Below w.heap.size w wr
  d : Blk wr D (deV (deK K bits)) 29
  x : Blk wr X (deV (inW (deK K bits))) 29
theorem NmI.kept {w : World} {D X : Nat} {K bits : Int} {W W' : World} (h : NmI w D X K bits W) (hb : Below W.heap.size W W') : NmI w D X K bits W' :=
  ⟨h.low.trans (hb.mono h.low.size), h.d.below hb h.d.lt, h.x.below hb h.x.lt⟩
structure NmI0 (w : World) (D : Nat) (K bits : Int) (wr : World) : Prop where
  low : Below w.heap.size w wr
  d : Blk wr D (deV (deK K bits)) 29
theorem NmI0.mk' (w : World) (K bits : Int) (o1 o2 : Obj) (q : Nat) : NmI0 w (w.heap.size + 1 + 1) K bits ((((w.alloc o1).drewN q).alloc o2).alloc (.cells (deV (deK K bits)) 29)) := by
  have l1 : Below w.heap.size w ((w.alloc o1).drewN q) := below_drewN ((Below.refl _ _).alloc (Nat.le_refl _) _) _
  refine ⟨(l1.alloc l1.size _).alloc (by have := l1.size; simp at *; omega) _, ?_⟩
  have := Blk.new (((w.alloc o1).drewN q).alloc o2) (deV (deK K bits)) 29
  rw [World.size_alloc, show ((w.alloc o1).drewN q).heap.size = w.heap.size + 1 by show (w.alloc o1).heap.size = _; simp] at this
  exact this
set_option maxRecDepth 100000 in
set_option maxHeartbeats 8000000 in
theorem topNumbers_law (kd bits wd vb : Int) (w : World) (hT : Tabs w) (_hk0 : -9223372036854775808 ≤ kd) (_hk1 : kd ≤ 9223372036854775807) (hb0 : 0 ≤ bits) (hb1 : bits ≤ 18446744073709551615) (hw0 : -9223372036854775808 ≤ wd) (hw1 : wd ≤ 9223372036854775807) (hv0 : 0 ≤ vb) (hv1 : vb ≤ 18446744073709551615) :
    Calls Tryz.prog 5 #[.agg #[.int .i64 kd, .int .u64 bits, .int .i64 wd, .int .u64 vb]] w fun e w' => e = .returned (.bool true) ∧ Below w.heap.size w w' := by
  have LV := hid (fun W h => lives_any W h)
  obtain ⟨j, hj, hj5⟩ : ∃ j : Nat, vb.toNat % 5 = j ∧ j < 5 := ⟨_, rfl, Nat.mod_lt _ (by decide)⟩
  have hvm : vb % 5 = j := by omega
  have hvt : vb.tmod 5 = j := by rw [Int.tmod_eq_emod_of_nonneg hv0]; exact hvm
  obtain ⟨K, hK⟩ : ∃ K, 2 + (kd % 18446744073709551616) % 10 = K := ⟨_, rfl⟩
  have hKb : 2 ≤ K ∧ K ≤ 11 := by omega
  have hkt : (kd % 18446744073709551616).tmod 10 = K - 2 := by rw [Int.tmod_eq_emod_of_nonneg (by omega)]; omega
  have hcut := verb_cut j hj5
  obtain ⟨bs, hbs⟩ : ∃ bs : Nat, baseN j = bs := ⟨_, rfl⟩
  have hbs2 : 2 ≤ bs ∧ bs ≤ 16 := by obtain ⟨_, _, _, h1, h2, _⟩ := verb_base j hj5; omega
  have hK2 : 2 + (K - 2) = K := by omega
  have hbj : ∀ h, ([Value.int .u64 10, .int .u64 2, .int .u64 8, .int .u64 16, .int .u64 16] : List Value)[j]'h = .int .u64 bs := fun h => by rw [← hbs]; exact base_at j hj5 h
  obtain ⟨wid, hwid⟩ : ∃ wid, max (-1000) (min wd 1000) = wid := ⟨_, rfl⟩
  have hwb : -1000 ≤ wid ∧ wid ≤ 1000 := by omega
  have RB := hid (fun W => rbuild_whole (deK K bits) W hKb (deK_b K bits hb0 hb1) (by show (0 : Nat) ≤ _; decide) (by show (0 : Nat) ≤ _; decide) (by show (decide (K = 0) || typedB ⟨#[]⟩) = true; rw [show typedB ⟨#[]⟩ = true by decide]; simp))
  have HT := hid hT
  have e1 : IntKind.u64.wrap kd = kd % 18446744073709551616 := rfl
  clear hT hj hK
  go_enter Tryz.func5, Tryz.ntmps5
  go_upto_region 1 with fail
  go_quiet (fail)
  go_wp2_with fail
  clear hbj hcut hkt hK2 e1 hvt
  have d0 : NmI0 w (w.heap.size + 1 + 1) K bits _ := NmI0.mk' w K bits (.cells #[.int .i64 kd, .int .u64 bits, .int .i64 wd, .int .u64 vb] 45) (.cells #[.int .u64 10, .int .u64 2, .int .u64 8, .int .u64 16, .int .u64 16] 26) nq
  obtain ⟨W1, hW1⟩ : ∃ W1, ((((w.alloc (.cells #[.int .i64 kd, .int .u64 bits, .int .i64 wd, .int .u64 vb] 45)).drewN nq).alloc (.cells #[.int .u64 10, .int .u64 2, .int .u64 8, .int .u64 16, .int .u64 16] 26)).alloc (.cells #[.int .i64 K, .string ⟨#[]⟩, .int .u64 bits, .int .u64 0, .string ⟨#[]⟩, .slice none 0 0, .slice none 0 0, .int .i64 0] 29)) = W1 := ⟨_, rfl⟩
  obtain ⟨D, hD⟩ : ∃ D, w.heap.size + 1 + 1 = D := ⟨_, rfl⟩
  rw [hD] at d0
  have d1 : NmI0 w D K bits W1 := hW1 ▸ d0
  rw [hW1, hD]
  have D1 := hid d1
  clear d0 d1 hW1 hD
  refine (RB.out _).mono ?_
  rintro e W2 ⟨rfl, hb⟩
  have D2 := hid (show NmI0 w D K bits W2 from ⟨D1.out.low.trans (hb.mono D1.out.low.size), D1.out.d.below hb D1.out.d.lt⟩)
  clear hb
  go_wp2_with fail
  have i0 : NmI w D W2.heap.size K bits (W2.alloc (.cells (deV (inW (deK K bits))) 29)) := ⟨D2.out.low.alloc D2.out.low.size _, D2.out.d.alloc _, Blk.new _ _ _⟩
  obtain ⟨W3, hW3⟩ : ∃ W3, World.alloc W2 (.cells #[.int .i64 K, .string ⟨#[]⟩, .int .u64 (numB K bits), .int .u64 0, .string ⟨#[]⟩, slV sl0, slV sl0, .int .i64 0] 29) = W3 := ⟨_, rfl⟩
  obtain ⟨X, hX⟩ : ∃ X, W2.heap.size = X := ⟨_, rfl⟩
  rw [hX] at i0
  have i1 : NmI w D X K bits W3 := hW3 ▸ i0
  rw [hW3, hX]
  have I0 := hid i1
  clear i0 i1 hW3 hX
  have ix : ∀ (f : Nat) (W : World), f < 3 → (Instr.index 49 (.agg #[.string ⟨#[]⟩, .string ⟨#[48]⟩, .string ⟨#[43]⟩]) (.int .i64 f)).run Tryz.prog W = .ok (.string (flagS f)) W := flag_at
  have IX := hid ix
  clear ix
  go_loopw [56] (fun iv wr => ∃ (f : Nat), iv = .int .i64 f ∧ f ≤ 3 ∧ Hid (NmI w D X K bits wr)) (fun iv _ => 3 - (intOf iv).toNat)
  case atStart => exact ⟨0, rfl, by decide, I0⟩
  case round =>
    obtain ⟨f, rfl, hf3, hI⟩ := hrel
    by_cases hf : f < 3
    · have ixf := fun W => IX.out f W hf
      obtain ⟨t, ⟨ht1, ht2, ht3⟩, hpr⟩ := nprint_any f j hf hj5 wid K bits hKb hb0 hb1 hwb.1 hwb.2
      rw [hbs] at ht3
      have PR := hid hpr
      clear hpr
      go_upto_region 11 with fail
      have hfs := flagS_size f
      obtain ⟨F1, hF1⟩ : ∃ F1, flagS f = F1 := ⟨_, rfl⟩
      have hfm := fmt_sum f j
      rw [hF1] at hfs hfm ⊢
      obtain ⟨A1, hA1⟩ : ∃ A1, (⟨#[37]⟩ : ByteArray) ++ F1 = A1 := ⟨_, rfl⟩
      have s1 : A1.size = 1 + F1.size := by rw [← hA1, ByteArray.size_append]; rfl
      obtain ⟨A2, hA2⟩ : ∃ A2, A1 ++ (⟨#[42]⟩ : ByteArray) = A2 := ⟨_, rfl⟩
      have s2 : A2.size = A1.size + 1 := by rw [← hA2, ByteArray.size_append]; rfl
      obtain ⟨A3, hA3⟩ : ∃ A3, A2 ++ verbS j = A3 := ⟨_, rfl⟩
      rw [hA1, hA2, hA3] at hfm
      have z1 : ¬ 9223372036854775807 < 1 + F1.size := by omega
      have z2 : ¬ 9223372036854775807 < A1.size + 1 := by omega
      have z3 : ¬ 9223372036854775807 < A2.size + 1 := by omega
      rw [← hfm] at PR
      have NU := hid (fun W => num_any wid W)
      have HFM := hid (And.intro s1 s2)
      clear hfs s1 s2 hF1 hfm
      refine wp_region_held_drew (S := fun w1 => Below wr.heap.size wr w1) (by kernel_rfl) ((Below.refl _ _).drew) (fun h0 => ?_)
      generalize World.drew wr = W4 at h0 ⊢
      refine wpAnyH_take (i := 0) (fuel := 10) (v := .string F1) rfl (by kernel_rfl) (by kernel_rfl) (by kernel_rfl) (fun _ _ _ h => h) (Or.inl ⟨by rfl, by intro w1 hw1; go_simp⟩) h0 ?_
      try simp only [Act.put, List.getElem_toArray, List.getElem_cons_zero, List.setIfInBounds_toArray, List.set_cons_zero, List.set_cons_succ]
      refine wpAnyH_take (i := 1) (fuel := 9) (v := .string A1) rfl (by kernel_rfl) (by kernel_rfl) (by kernel_rfl) (fun _ _ _ h => h) (Or.inl ⟨by rfl, by intro w1 hw1; go_simp⟩) h0 ?_
      try simp only [Act.put, List.getElem_toArray, List.getElem_cons_zero, List.getElem_cons_succ, List.setIfInBounds_toArray, List.set_cons_zero, List.set_cons_succ]
      refine wpAnyH_take (i := 2) (fuel := 8) (v := .string A2) rfl (by kernel_rfl) (by kernel_rfl) (by kernel_rfl) (fun _ _ _ h => h) (Or.inl ⟨by rfl, by intro w1 hw1; go_simp⟩) h0 ?_
      try simp only [Act.put, List.getElem_toArray, List.getElem_cons_zero, List.getElem_cons_succ, List.setIfInBounds_toArray, List.set_cons_zero, List.set_cons_succ]
      refine wpAnyH_take (i := 3) (fuel := 7) (v := .string (verbS j)) rfl (by kernel_rfl) (by kernel_rfl) (by kernel_rfl) (fun _ _ _ h => h) (Or.inl ⟨by rfl, by intro w1 hw1; go_simp⟩) h0 ?_
      try simp only [Act.put, List.getElem_toArray, List.getElem_cons_zero, List.getElem_cons_succ, List.setIfInBounds_toArray, List.set_cons_zero, List.set_cons_succ]
      refine wpAnyH_take (i := 4) (fuel := 6) (v := .string A3) rfl (by kernel_rfl) (by kernel_rfl) (by kernel_rfl) (fun _ _ _ h => h) (Or.inl ⟨by rfl, by intro w1 hw1; go_simp⟩) h0 ?_
      try simp only [Act.put, List.getElem_toArray, List.getElem_cons_zero, List.getElem_cons_succ, List.setIfInBounds_toArray, List.set_cons_zero, List.set_cons_succ]
      refine wpAnyH_take (i := 5) (fuel := 5) (v := .int .i64 wid) rfl (by kernel_rfl) (by kernel_rfl) (by kernel_rfl) (fun _ _ _ h => h) (Or.inl ⟨by rfl, by intro w1 hw1; go_simp⟩) h0 ?_
      try simp only [Act.put, List.getElem_toArray, List.getElem_cons_zero, List.getElem_cons_succ, List.setIfInBounds_toArray, List.set_cons_zero, List.set_cons_succ]
      refine wpAnyH_take (i := 7) (fuel := 4) (v := _) rfl (by kernel_rfl) (by kernel_rfl) (by kernel_rfl) (fun _ _ _ h => h) (yieldsIf_load_mid (by rfl) 29 (.tmp 9) rfl D 0 rfl (deV (deK K bits)).toList _ (fun w1 h1 => fun q v hv => by rw [Nat.zero_add, (hI.out.d.below h1 hI.out.d.lt).cell]; simpa using hv) Tryz.underlying29 rfl desc_size) h0 ?_
      try simp only [Act.put, List.getElem_toArray, List.getElem_cons_zero, List.getElem_cons_succ, List.setIfInBounds_toArray, List.set_cons_zero, List.set_cons_succ]
      refine wpAnyH_ready (fuel := 3) (rs := [6]) (by kernel_rfl) (by simp) ?_
      refine AllReadyH.cons rfl (fun K' hK' => ?_) AllReadyH.nil
      rw [if_pos (by rfl)]
      go_wp2_with fail
      refine (NU.out _).mono ?_
      rintro e W5 ⟨rfl, hb⟩
      have h1 : Below wr.heap.size wr W5 := h0.trans (hb.mono h0.size)
      clear hb
      refine hK'.out _ _ h1 (fun _ => ?_)
      clear hK'
      try simp only [Act.put, List.getElem_toArray, List.getElem_cons_zero, List.getElem_cons_succ, List.setIfInBounds_toArray, List.set_cons_zero, List.set_cons_succ]
      refine wpAnyH_ready (fuel := 2) (rs := [8]) (by kernel_rfl) (by simp) ?_
      refine AllReadyH.cons rfl (fun K' hK' => ?_) AllReadyH.nil
      rw [if_pos (by rfl)]
      go_wp2_with fail
      have aa := Blk.new W5 #[.int .i64 6, .string ⟨#[]⟩, .int .u64 (wid % 18446744073709551616), .int .u64 0, .string ⟨#[]⟩, slV sl0, slV sl0, .int .i64 0, .int .i64 K, .string ⟨#[]⟩, .int .u64 bits, .int .u64 0, .string ⟨#[]⟩, slV sl0, slV sl0, .int .i64 0] 29
      have h2 := h1.alloc h1.size (.cells #[.int .i64 6, .string ⟨#[]⟩, .int .u64 (wid % 18446744073709551616), .int .u64 0, .string ⟨#[]⟩, slV sl0, slV sl0, .int .i64 0, .int .i64 K, .string ⟨#[]⟩, .int .u64 bits, .int .u64 0, .string ⟨#[]⟩, slV sl0, slV sl0, .int .i64 0] 29)
      obtain ⟨W6, hW6⟩ : ∃ W6, World.alloc W5 (.cells #[.int .i64 6, .string ⟨#[]⟩, .int .u64 (wid % 18446744073709551616), .int .u64 0, .string ⟨#[]⟩, slV sl0, slV sl0, .int .i64 0, .int .i64 K, .string ⟨#[]⟩, .int .u64 bits, .int .u64 0, .string ⟨#[]⟩, slV sl0, slV sl0, .int .i64 0] 29) = W6 := ⟨_, rfl⟩
      obtain ⟨g, hg⟩ : ∃ g, W5.heap.size = g := ⟨_, rfl⟩
      rw [hW6] at aa h2 ⊢
      rw [hg] at aa ⊢
      have AA : ArgsAt W6 ⟨some ⟨g, 0, none⟩, 2, 2⟩ [deN wid, deK K bits] := argsAt_row [deN wid, deK K bits] aa rfl rfl
      have PR := hid (PR.out _ W6 (HT.out.below (hI.out.low.trans (h2.mono hI.out.low.size))) AA (by show (2 : Nat) ≤ 2; decide))
      clear aa AA hW6 hg
      refine hK'.out _ _ h2 (fun _ => ?_)
      clear hK'
      try simp only [Act.put, List.getElem_toArray, List.getElem_cons_zero, List.getElem_cons_succ, List.setIfInBounds_toArray, List.set_cons_zero, List.set_cons_succ]
      refine wpAnyH_ready (fuel := 1) (rs := [9]) (by kernel_rfl) (by simp) ?_
      refine AllReadyH.cons rfl (fun K' hK' => ?_) AllReadyH.nil
      rw [if_pos (by rfl)]
      go_wp2_with fail
      refine PR.out.mono ?_
      rintro e W7 ⟨rfl, hb⟩
      have h3 : Below wr.heap.size wr W7 := h2.trans (hb.mono h2.size)
      clear hb
      refine hK'.out _ _ h3 (fun _ => ?_)
      clear hK'
      try simp only [Act.put, List.getElem_toArray, List.getElem_cons_zero, List.getElem_cons_succ, List.setIfInBounds_toArray, List.set_cons_zero, List.set_cons_succ]
      refine wpAnyH_take (i := 10) (fuel := 0) (v := .string t) rfl (by kernel_rfl) (by kernel_rfl) (by kernel_rfl) (fun _ _ _ h => h) (Or.inl ⟨by rfl, by intro w1 hw1; go_simp⟩) h3 ?_
      try simp only [Act.put, List.getElem_toArray, List.getElem_cons_zero, List.getElem_cons_succ, List.setIfInBounds_toArray, List.set_cons_zero, List.set_cons_succ]
      refine wpAnyH_done (by kernel_rfl) ?_ _
      have I7 := hid (hI.out.kept h3)
      clear h0 h1 h2 h3 z1 z2 z3 ixf
      have dl : decide ((t.size : Int) < max wid (-wid)) = false := decide_eq_false (by omega)
      have hcv := fun W => Lib.run_convert_string_bytes (P := Tryz.prog) W 9 50 5 t Tryz.underlying9 Tryz.underlying50 Tryz.underlying5
      have hbw := below_bytesW W7 5 t
      have hcl := hid (Lib.bytesWorld_cell W7 5 t)
      have HR := hid ht3
      clear ht3
      go_wp2_with fail
      obtain ⟨W8, hW8⟩ : ∃ W8, Lib.bytesWorld W7 5 t = W8 := ⟨_, rfl⟩
      rw [hW8] at hbw hcl ⊢
      have I8 := hid (I7.out.kept hbw)
      obtain ⟨N, hN⟩ : ∃ N : Int, (nAbs K bits : Int) = N := ⟨_, rfl⟩
      obtain ⟨G, hG⟩ : ∃ G, nNeg K bits = G := ⟨_, rfl⟩
      have hsame := num_same K bits hb0 hb1
      rw [hN, hG] at hsame
      have hR := HR.out
      rw [hN, hG] at hR
      have HS := hid hsame
      have R0 := hid hR
      clear hcv hbw hW8 hN hG hsame hR dl HR
      go_loopw [15, 16, 17, 79] (fun nv gv sv iv wr2 => ∃ (n : Int) (ng sm : Bool) (i : Nat), nv = .int .u64 n ∧ gv = .bool ng ∧ sv = .bool sm ∧ iv = .int .i64 i ∧ i ≤ t.size ∧ 0 ≤ n ∧ n ≤ 18446744073709551615 ∧ wr2 = W8 ∧ Hid (rd bs (t.data.toList.drop i) n ng sm = some (N, G, true))) (fun _ _ _ iv _ => t.size - (intOf iv).toNat)
      case atStart => exact ⟨0, false, false, 0, rfl, rfl, rfl, rfl, Nat.zero_le _, by decide, by decide, rfl, R0⟩
      case round =>
        obtain ⟨n, ng, sm, i, rfl, rfl, rfl, rfl, hi, hn0, hn1, rfl, hk⟩ := hrel
        by_cases hp : i < t.size
        · have hlen : i < t.data.toList.length := by rw [← Utf.size_eq]; exact hp
          have hci := hcl.out i hp
          have hst := hk.out
          rw [drop_get hlen, rd] at hst
          obtain ⟨c8, hc8⟩ : ∃ c8, t.data.toList.getD i 0 = c8 := ⟨_, rfl⟩
          rw [hc8] at hst hci
          obtain ⟨c, hc⟩ : ∃ c : Int, (c8.toNat : Int) = c := ⟨_, rfl⟩
          rw [hc] at hci
          by_cases h45 : c = 45
          · rw [if_pos (by omega)] at hst
            have HST := hid hst
            clear hst hc hc8
            subst h45
            go_wp2_with fail
            go_roundw
            case rel => exact ⟨n, true, sm, i + 1, rfl, rfl, rfl, by go_num, hp, hn0, hn1, trivial, HST⟩
            case measure => simp [intOf]; omega
          rw [if_neg (by omega)] at hst
          by_cases h32 : c = 32
          · rw [if_pos (by omega)] at hst
            have HST := hid hst
            clear hst hc hc8
            subst h32
            go_wp2_with fail
            go_roundw
            case rel => exact ⟨n, ng, sm, i + 1, rfl, rfl, rfl, by go_num, hp, hn0, hn1, trivial, HST⟩
            case measure => simp [intOf]; omega
          by_cases h43 : c = 43
          · rw [if_pos (by omega)] at hst
            have HST := hid hst
            clear hst hc hc8
            subst h43
            go_wp2_with fail
            go_roundw
            case rel => exact ⟨n, ng, sm, i + 1, rfl, rfl, rfl, by go_num, hp, hn0, hn1, trivial, HST⟩
            case measure => simp [intOf]; omega
          rw [if_neg (by omega)] at hst
          have g45 : (c == 45) = false := by simpa using h45
          have g32 : (c == 32) = false := by simpa using h32
          have g43 : (c == 43) = false := by simpa using h43
          by_cases hdig : IP.digV c8 < bs
          · rw [if_pos (by omega)] at hst
            have hca := digV_cases c8 bs hbs2.2 hdig
            rw [hc] at hca
            rcases hca with ⟨hlo, hhi, hdv⟩ | ⟨hlo, hhi, hdv⟩ | ⟨hlo, hhi, hdv⟩
            · obtain ⟨q, hq⟩ : ∃ q, (n * bs + (IP.digV c8 : Int)) % 18446744073709551616 = q := ⟨_, rfl⟩
              rw [hq] at hst
              have hqb : 0 ≤ q ∧ q ≤ 18446744073709551615 := by omega
              have hdl : decide ((bs : Int) ≤ c - 48) = false := decide_eq_false (by omega)
              have hww : IntKind.u64.wrap (IntKind.u64.wrap (n * bs) + (c - 48)) = q := by
                rw [← hq, hdv, IntKind.wrap_u64, IntKind.wrap_u64, Int.emod_add_emod]
                try (congr 1 <;> omega)
              have HST := hid hst
              clear hst hq hdv hdig hc hc8
              go_wp2_with fail
              go_roundw
              case rel => exact ⟨q, ng, true, i + 1, rfl, rfl, rfl, by go_num, hp, hqb.1, hqb.2, trivial, HST⟩
              case measure => simp [intOf]; omega
            · obtain ⟨q, hq⟩ : ∃ q, (n * bs + (IP.digV c8 : Int)) % 18446744073709551616 = q := ⟨_, rfl⟩
              rw [hq] at hst
              have hqb : 0 ≤ q ∧ q ≤ 18446744073709551615 := by omega
              have hdl : decide ((bs : Int) ≤ c - 97 + 10) = false := decide_eq_false (by omega)
              have hww : IntKind.u64.wrap (IntKind.u64.wrap (n * bs) + (c - 97 + 10)) = q := by
                rw [← hq, hdv, IntKind.wrap_u64, IntKind.wrap_u64, Int.emod_add_emod]
                try (congr 1 <;> omega)
              have HST := hid hst
              clear hst hq hdv hdig hc hc8
              go_wp2_with fail
              go_roundw
              case rel => exact ⟨q, ng, true, i + 1, rfl, rfl, rfl, by go_num, hp, hqb.1, hqb.2, trivial, HST⟩
              case measure => simp [intOf]; omega
            · obtain ⟨q, hq⟩ : ∃ q, (n * bs + (IP.digV c8 : Int)) % 18446744073709551616 = q := ⟨_, rfl⟩
              rw [hq] at hst
              have hqb : 0 ≤ q ∧ q ≤ 18446744073709551615 := by omega
              have hdl : decide ((bs : Int) ≤ c - 65 + 10) = false := decide_eq_false (by omega)
              have hww : IntKind.u64.wrap (IntKind.u64.wrap (n * bs) + (c - 65 + 10)) = q := by
                rw [← hq, hdv, IntKind.wrap_u64, IntKind.wrap_u64, Int.emod_add_emod]
                try (congr 1 <;> omega)
              have HST := hid hst
              clear hst hq hdv hdig hc hc8
              go_wp2_with fail
              go_roundw
              case rel => exact ⟨q, ng, true, i + 1, rfl, rfl, rfl, by go_num, hp, hqb.1, hqb.2, trivial, HST⟩
              case measure => simp [intOf]; omega
          · rw [if_neg (by omega)] at hst
            cases hst
        · have e : t.data.toList.drop i = [] := List.drop_eq_nil_of_le (by rw [← Utf.size_eq]; omega)
          have hst := hk.out
          rw [e, rd] at hst
          simp only [Option.some.injEq, Prod.mk.injEq] at hst
          obtain ⟨rfl, rfl, rfl⟩ := hst
          have x2 := I8.out.x.cell 2
          obtain ⟨NB, hNB⟩ : ∃ NB, numB K bits = NB := ⟨_, rfl⟩
          have hS := HS.out
          rw [hNB] at hS
          have x2' : (#[Value.int .i64 K, .string ⟨#[]⟩, .int .u64 (numB K bits), .int .u64 0, .string ⟨#[]⟩, slV sl0, slV sl0, .int .i64 0] : Array Value)[2]? = some (.int .u64 NB) := by rw [hNB]; rfl
          have x3 := x2.trans x2'
          have hnn : (NB != NB) = false := by simp
          clear x2 x2' hNB hk hcl e
          cases ng
          · rw [if_neg (by decide)] at hS
            subst hS
            go_wp2_with fail
            go_roundw
            case rel => exact ⟨f + 1, by go_num, by omega, I8⟩
            case measure => simp [intOf]; omega
          · rw [if_pos rfl] at hS
            have hw : IntKind.u64.wrap (-n) = NB := by rw [IntKind.wrap_u64]; exact hS
            clear hS
            go_wp2_with fail
            go_roundw
            case rel => exact ⟨f + 1, by go_num, by omega, I8⟩
            case measure => simp [intOf]; omega
    · go_wp2_with fail
      refine (LV.out _ (HT.out.below hI.out.low)).mono ?_
      rintro e W9 ⟨rfl, hb⟩
      have HL := hid (hI.out.low.trans (hb.mono hI.out.low.size))
      clear hb
      go_wp2_with fail
      go_ret
      exact ⟨rfl, HL.out⟩
end Go.Proofs.YtdjhmanccoekjaaGreatDoor
end

section
namespace Go.Proofs.YtdjhmanccoekjaaGreatDoor
open Go.ChangeShapes Go.WideShapes Go.ChangeAt Go.RowKit Go.Lib Go.Proofs

theorem numbT : ∃ f0 f1 f2 f3 : Field, Tryz.prog.underlying 45 = some (.struct #[f0, f1, f2, f3]) ∧
    (f0.type = 3 ∧ f1.type = 26 ∧ f2.type = 3 ∧ f3.type = 43) ∧
    (f0.offset = 0 ∧ f1.offset = 1 ∧ f2.offset = 2 ∧ f3.offset = 3) :=
  ⟨_, _, _, _, Tryz.underlying45, ⟨rfl, rfl, rfl, rfl⟩, ⟨rfl, rfl, rfl, rfl⟩⟩
theorem numbC : Tryz.prog.cellsOf 45 = 4 := by kernel_rfl
theorem numbI : Tryz.prog.cellsOf 3 = 1 := by kernel_rfl
theorem numbQ : Tryz.prog.cellsOf 26 = 1 := by kernel_rfl
theorem numbU : Tryz.prog.cellsOf 43 = 1 := by kernel_rfl

set_option maxRecDepth 100000 in
theorem open_numb {H : Type} {enc : TypeId × Value → H} {w : World} {base : Nat} {spare : Nat → Bool} {held : Bool} {r : Reach} {b0 : Nat} {v : Value} {d : DataW H} {p : List MemPlace}
    (hv : Value.okWide Tryz.prog w r b0 45 v) (h : DataW.Trod enc Tryz.prog w base spare held 45 v d p) :
    ∃ kd bits wd vb : Int, v = .agg #[.int .i64 kd, .int .u64 bits, .int .i64 wd, .int .u64 vb] ∧ (-9223372036854775808 ≤ kd ∧ kd ≤ 9223372036854775807) ∧ (0 ≤ bits ∧ bits ≤ 18446744073709551615) ∧ (-9223372036854775808 ≤ wd ∧ wd ≤ 9223372036854775807) ∧ (0 ≤ vb ∧ vb ≤ 18446744073709551615) := by
  obtain ⟨f0, f1, f2, f3, hs, ⟨t0, t1, t2, t3⟩, ⟨o0, o1, o2, o3⟩⟩ := numbT
  obtain ⟨cs, rfl, hsz⟩ := okWide_struct hs hv
  rw [numbC] at hsz
  obtain ⟨l⟩ := cs
  match l, hsz with
  | [c0, c1, c2, c3], _ =>
    obtain ⟨fuel, hf⟩ := h
    obtain ⟨xs, n, _, _, _, hlen, hg⟩ := DataW.trod_struct hs hf
    match xs, hlen with
    | [y0, y1, y2, y3], _ =>
      have g0 := hg 0 f0 rfl; have g1 := hg 1 f1 rfl; have g2 := hg 2 f2 rfl; have g3 := hg 3 f3 rfl
      rw [o0, t0, numbI] at g0; rw [o1, t1, numbQ] at g1; rw [o2, t2, numbI] at g2; rw [o3, t3, numbU] at g3
      obtain ⟨kd, e0, _, w0⟩ := DataW.trod_int Tryz.underlying3 (g0.trans (show _ = some y0 from rfl))
      obtain ⟨bits, e1, _, w1⟩ := DataW.trod_int Tryz.underlying26 (g1.trans (show _ = some y1 from rfl))
      obtain ⟨wd, e2, _, w2⟩ := DataW.trod_int Tryz.underlying3 (g2.trans (show _ = some y2 from rfl))
      obtain ⟨vb, e3, _, w3⟩ := DataW.trod_int Tryz.underlying43 (g3.trans (show _ = some y3 from rfl))
      simp [Value.cells] at e0 e1 e2 e3
      subst e0 e1 e2 e3
      exact ⟨kd, bits, wd, vb, rfl, by simpa [Lit.wf, IntKind.min, IntKind.max, IntKind.signed, IntKind.bits] using w0, by simpa [Lit.wf, IntKind.min, IntKind.max, IntKind.signed, IntKind.bits] using w1, by simpa [Lit.wf, IntKind.min, IntKind.max, IntKind.signed, IntKind.bits] using w2, by simpa [Lit.wf, IntKind.min, IntKind.max, IntKind.signed, IntKind.bits] using w3⟩
end Go.Proofs.YtdjhmanccoekjaaGreatDoor
end
