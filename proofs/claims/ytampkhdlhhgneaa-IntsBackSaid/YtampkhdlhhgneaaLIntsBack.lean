/-
  The law IntsBack, walked.
-/
import Derived.Test.YtampkhdlhhgneaaLIntsZeros
import Derived.Test.YtampkhdlhhgneaaQE
namespace Go.Proofs.Ytampkhdlhhgneaa
open Go.RowKit Go.Proofs

/-- The bases and their verbs. -/
theorem back_verbs (k : Int) (h0 : 0 ≤ k) : ∃ (j : Nat) (c b : Int), k.tmod 5 = j ∧ j < 5 ∧ bt ⟨#[100, 98, 111, 120, 88]⟩ (((j : Int)).toNat % 5) = c ∧ (b = 10 ∨ b = 2 ∨ b = 8 ∨ b = 16) ∧
    ((c = 100 ∧ b.toNat = 10) ∨ (c = 98 ∧ b.toNat = 2) ∨ (c = 111 ∧ b.toNat = 8) ∨ (c = 120 ∧ b.toNat = 16) ∨ (c = 88 ∧ b.toNat = 16)) ∧ ((j = 0 ∧ b = 10) ∨ (j = 1 ∧ b = 2) ∨ (j = 2 ∧ b = 8) ∨ (j = 3 ∧ b = 16) ∨ (j = 4 ∧ b = 16)) := by
  have hm : k.tmod 5 = ((k.toNat % 5 : Nat) : Int) := by
    rw [Int.tmod_eq_emod_of_nonneg h0]
    omega
  have h : k.toNat % 5 < 5 := Nat.mod_lt _ (by decide)
  generalize k.toNat % 5 = j at hm h
  match j, h with
  | 0, _ => exact ⟨0, 100, 10, hm, by decide, rfl, by decide, by decide, by decide⟩
  | 1, _ => exact ⟨1, 98, 2, hm, by decide, rfl, by decide, by decide, by decide⟩
  | 2, _ => exact ⟨2, 111, 8, hm, by decide, rfl, by decide, by decide, by decide⟩
  | 3, _ => exact ⟨3, 120, 16, hm, by decide, rfl, by decide, by decide, by decide⟩
  | 4, _ => exact ⟨4, 88, 16, hm, by decide, rfl, by decide, by decide, by decide⟩

set_option maxRecDepth 100000 in
set_option maxHeartbeats 4000000 in
theorem intsBack_law (v k : Int) (w : World) (_hT : Tabs w) (h0 : -9223372036854775808 ≤ v) (h1 : v ≤ 9223372036854775807) (hk0 : 0 ≤ k) (_hk1 : k ≤ 18446744073709551615) :
    Calls Try.prog 8 #[.int .i64 v, .int .u64 k] w fun e w' => e = .returned (.bool true) ∧ Below w.heap.size w w' := by
  have LV := hid (fun W => lives_any W)
  obtain ⟨j, c, b, hj, hj5, hc, hb4, hcb, hjb⟩ := back_verbs k hk0
  obtain ⟨g, e1, e2⟩ := back_facts v c b.toNat hcb
  obtain ⟨u, hu⟩ : ∃ u : Int, (bitsI v : Int) = u := ⟨_, rfl⟩
  have hwr := wrapu v
  rw [hu] at hwr
  have hub := bits_lt v
  rw [hu] at hub
  have hu0 : 0 ≤ u := by omega
  have hun : bitsI v = u.toNat := by omega
  have hb2 : 2 ≤ b.toNat ∧ b.toNat ≤ 16 := by omega
  have VB := hid (fun W => verb_any false false false false false (-1) (-1) 0 (j : Int) ⟨#[100, 98, 111, 120, 88]⟩ c W (by omega) (by omega) (by decide) (by decide) hc)
  have SA := hid (fun W => signed_any v false false false false false (-1) (-1) c W h0 h1 (by omega) (by omega))
  have SB := hid (fun W => unsigned_any u false false false false false (-1) (-1) c W hu0 hub (by omega) (by omega))
  have DG := hid (fun W => idigits_any u b W hu0 hub)
  rw [e1] at SA
  rw [hun] at e2
  rw [e2] at SB
  simp only [tupS] at SA SB
  have hval : ∀ (G : Bool) (m : Nat), IP.valB b.toNat 0 (⟨(IP.dgb b.toNat G m).toArray⟩ : ByteArray).data.toList = m := fun G m => IP.valB_dgb b.toNat G hb2.1 hb2.2 m
  have hdig : ∀ (G : Bool) (m : Nat), ∀ x ∈ (⟨(IP.dgb b.toNat G m).toArray⟩ : ByteArray).data.toList, IP.digV x < b.toNat := fun G m => IP.digs_dgb b.toNat G hb2.1 hb2.2 m
  have hsz : ∀ (G : Bool) (m : Nat), m < 18446744073709551616 → 0 < (⟨(IP.dgb b.toNat G m).toArray⟩ : ByteArray).size ∧ (⟨(IP.dgb b.toNat G m).toArray⟩ : ByteArray).size ≤ 64 := by
    intro G m hm
    rw [nl]
    exact ⟨IP.dgb_pos _ _ _, IP.dgb_len64 _ _ hb2.1 _ hm⟩
  have hds : digS u.toNat b = ⟨(IP.dgb b.toNat false u.toNat).toArray⟩ := by
    unfold digS
    rw [if_pos (by omega)]
  rw [hds] at DG
  have R2 := hid (fun W => read_any ⟨(IP.dgb b.toNat g u.toNat).toArray⟩ b u W hb4 (hsz g u.toNat (by omega)).1 (by have := (hsz g u.toNat (by omega)).2; omega) (hdig g _) (by rw [hval]; omega) hub)
  have R3 := hid (fun W => read0_any ⟨(IP.dgb b.toNat false u.toNat).toArray⟩ b u W hb4 (hsz false u.toNat (by omega)).1 (by have := (hsz false u.toNat (by omega)).2; omega) (hdig false _) (by rw [hval]; omega) hub)
  have R1 := hid (fun W => read_any ⟨(IP.dgb b.toNat g v.natAbs).toArray⟩ b (v.natAbs : Int) W hb4 (hsz g v.natAbs (by omega)).1 (by have := (hsz g v.natAbs (by omega)).2; omega) (hdig g _) (by rw [hval]) (by omega))
  have hDs := (hsz g v.natAbs (by omega))
  obtain ⟨D, hD⟩ : ∃ D : ByteArray, ⟨(IP.dgb b.toNat g v.natAbs).toArray⟩ = D := ⟨_, rfl⟩
  obtain ⟨E, hE⟩ : ∃ E : ByteArray, ⟨(IP.dgb b.toNat g u.toNat).toArray⟩ = E := ⟨_, rfl⟩
  obtain ⟨X, hX⟩ : ∃ X : ByteArray, ⟨(IP.dgb b.toNat false u.toNat).toArray⟩ = X := ⟨_, rfl⟩
  rw [hE] at SB R2
  rw [hX] at DG R3
  rw [hD] at R1 hDs
  obtain ⟨hDs0, hDs1⟩ := hDs
  obtain ⟨m, hm⟩ : ∃ m : Int, (v.natAbs : Int) = m := ⟨_, rfl⟩
  rw [hm] at R1
  have hb16 : b ≤ 16 := by omega
  have hb0 : 0 ≤ b := by omega
  have HJ := hid hjb
  have HG := hid (IP.digs_dgb b.toNat g hb2.1 hb2.2 v.natAbs)
  clear e1 e2 hval hdig hsz hds hE hX hcb hb4 hc hb2 hun
  by_cases hv : v < 0
  · obtain ⟨A, hA⟩ : ∃ A : ByteArray, ⟨((if v < 0 then [45] else []) ++ IP.dgb b.toNat g v.natAbs).toArray⟩ = A := ⟨_, rfl⟩
    rw [hA] at SA
    rw [if_pos hv, app_l, hD] at hA
    have hAs : A.size = 1 + D.size := by rw [← hA, ByteArray.size_append]; rfl
    have hA0 := bt_at A 0 (by omega)
    have hA1 : bt A 0 = 45 := by rw [← hA]; unfold bt; simp
    rw [hA1] at hA0
    have hAe : (A.toList == []) = false := by
      have := isEmpty_of_pos (show 0 < A.size by omega)
      rw [List.isEmpty_eq_false_iff] at this
      exact beq_eq_false_iff_ne.2 this
    have hAx : A.extract 1 A.size = D := by
      have hz := hAs
      rw [← hA] at hz ⊢
      refine bytes_ext ?_
      rw [Lib.extract_data, ByteArray.data_append, Array.toList_append, hz]
      show ((45 :: D.data.toList).drop 1).take _ = D.data.toList
      rw [List.drop_succ_cons, List.drop_zero]
      exact List.take_of_length_le (by rw [← Utf.size_eq]; omega)
    have hwm : IntKind.u64.wrap (-m) = u := by
      rw [wrapu, ← hu, ← hm]
      unfold bitsI
      omega
    have hAx2 : A.extract 1 (1 + D.size) = D := by rw [← hAs]; exact hAx
    clear hA1 hA hD hm hu
    go_enter Try.func8, Try.ntmps8
    go_upto_region 1 with fail
    go_cut [5] (fun v5 wn => v5 = .int .u64 b ∧ Hid (Below w.heap.size w wn))
    case first =>
      rcases HJ.out with ⟨rfl, rfl⟩ | ⟨rfl, rfl⟩ | ⟨rfl, rfl⟩ | ⟨rfl, rfl⟩ | ⟨rfl, rfl⟩
      all_goals
        go_wp2_with fail
        go_meet
        exact ⟨rfl, hid ((Below.refl _ _).alloc (Nat.le_refl _) _)⟩
    case rest =>
      obtain ⟨rfl, BC⟩ := hcut
      go_wp2_with fail
      refine (VB.out _).mono ?_
      rintro e w1 ⟨rfl, hb⟩
      have B0 := hid (bx_new (BC.out.trans (hb.mono BC.out.size)) (sp8 false false false false false (-1) (-1) c))
      clear hb
      go_wp2_with fail
      refine (SA.out _).mono ?_
      rintro e w2 ⟨rfl, hb⟩
      have B1 := hid (B0.out.kept hb)
      clear hb
      obtain ⟨s0, s1, s2, s3, s4, s5, s6, s7⟩ := Bx.cells B1.out
      go_wp2_with fail
      refine (SB.out _).mono ?_
      rintro e w3 ⟨rfl, hb⟩
      have B2 := hid (B1.out.kept hb)
      clear hb s0 s1 s2 s3 s4 s5 s6 s7
      go_wp2_with fail
      refine (R1.out _).mono ?_
      rintro e w4 ⟨rfl, rfl⟩
      go_wp2_with fail
      refine (R2.out _).mono ?_
      rintro e w5 ⟨rfl, rfl⟩
      go_wp2_with fail
      refine (DG.out _).mono ?_
      rintro e w6 ⟨rfl, hb⟩
      have B3 := hid (B2.out.kept hb)
      clear hb
      go_wp2_with fail
      refine (R3.out _).mono ?_
      rintro e w7 ⟨rfl, rfl⟩
      go_wp2_with fail
      refine (LV.out _).mono ?_
      rintro e w8 ⟨rfl, hb⟩
      have B4 := hid (B3.out.kept hb)
      clear hb
      go_wp2_with fail
      go_ret
      exact ⟨rfl, B4.out.below⟩
  · obtain ⟨A, hA⟩ : ∃ A : ByteArray, ⟨((if v < 0 then [45] else []) ++ IP.dgb b.toNat g v.natAbs).toArray⟩ = A := ⟨_, rfl⟩
    rw [hA] at SA
    rw [if_neg hv, List.nil_append, hD] at hA
    subst hA
    have hDl : D.data.toList = IP.dgb b.toNat g v.natAbs := by rw [← hD]
    have hA0 := bt_at D 0 (by omega)
    have hA1 : ¬ bt D 0 = 45 := by
      have hne : 0 < D.data.toList.length := by rw [← Utf.size_eq]; exact hDs0
      unfold bt
      rw [List.getElem?_eq_getElem hne]
      intro h45
      have := HG.out (D.data.toList[0]) (by rw [← hDl]; exact List.getElem_mem hne)
      unfold IP.digV at this
      simp only [Option.getD_some] at h45
      rw [show (D.data.toList[0]).toNat = 45 by omega] at this
      simp at this
      omega
    obtain ⟨q, hq⟩ : ∃ q, bt D 0 = q := ⟨_, rfl⟩
    rw [hq] at hA0 hA1
    have hAq : (q == 45) = false := beq_eq_false_iff_ne.2 hA1
    have hAe : (D.toList == []) = false := by
      have := isEmpty_of_pos hDs0
      rw [List.isEmpty_eq_false_iff] at this
      exact beq_eq_false_iff_ne.2 this
    have hmu : m = u := by
      rw [← hu, ← hm]
      unfold bitsI
      omega
    subst hmu
    clear hA1 hD hm hu hq hDl
    go_enter Try.func8, Try.ntmps8
    go_upto_region 1 with fail
    go_cut [5] (fun v5 wn => v5 = .int .u64 b ∧ Hid (Below w.heap.size w wn))
    case first =>
      rcases HJ.out with ⟨rfl, rfl⟩ | ⟨rfl, rfl⟩ | ⟨rfl, rfl⟩ | ⟨rfl, rfl⟩ | ⟨rfl, rfl⟩
      all_goals
        go_wp2_with fail
        go_meet
        exact ⟨rfl, hid ((Below.refl _ _).alloc (Nat.le_refl _) _)⟩
    case rest =>
      obtain ⟨rfl, BC⟩ := hcut
      go_wp2_with fail
      refine (VB.out _).mono ?_
      rintro e w1 ⟨rfl, hb⟩
      have B0 := hid (bx_new (BC.out.trans (hb.mono BC.out.size)) (sp8 false false false false false (-1) (-1) c))
      clear hb
      go_wp2_with fail
      refine (SA.out _).mono ?_
      rintro e w2 ⟨rfl, hb⟩
      have B1 := hid (B0.out.kept hb)
      clear hb
      obtain ⟨s0, s1, s2, s3, s4, s5, s6, s7⟩ := Bx.cells B1.out
      go_wp2_with fail
      refine (SB.out _).mono ?_
      rintro e w3 ⟨rfl, hb⟩
      have B2 := hid (B1.out.kept hb)
      clear hb s0 s1 s2 s3 s4 s5 s6 s7
      go_wp2_with fail
      refine (R1.out _).mono ?_
      rintro e w4 ⟨rfl, rfl⟩
      go_wp2_with fail
      refine (R2.out _).mono ?_
      rintro e w5 ⟨rfl, rfl⟩
      go_wp2_with fail
      refine (DG.out _).mono ?_
      rintro e w6 ⟨rfl, hb⟩
      have B3 := hid (B2.out.kept hb)
      clear hb
      go_wp2_with fail
      refine (R3.out _).mono ?_
      rintro e w7 ⟨rfl, rfl⟩
      go_wp2_with fail
      refine (LV.out _).mono ?_
      rintro e w8 ⟨rfl, hb⟩
      have B4 := hid (B3.out.kept hb)
      clear hb
      go_wp2_with fail
      go_ret
      refine ⟨?_, B4.out.below⟩
      show Ending.returned (Value.bool (!decide (v < 0))) = _
      rw [decide_eq_false (show ¬ v < 0 by omega)]
      rfl
end Go.Proofs.Ytampkhdlhhgneaa
