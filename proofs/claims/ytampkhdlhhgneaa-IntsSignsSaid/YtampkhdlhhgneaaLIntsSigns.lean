/-
  The law IntsSigns, walked.
-/
import Derived.Test.YtampkhdlhhgneaaLIntsZeros
namespace Go.Proofs.Ytampkhdlhhgneaa
open Go.RowKit Go.Proofs

theorem signs_verbs (k : Nat) : ∃ c : Int, bt ⟨#[100, 98, 111, 79, 120, 88, 118]⟩ (k % 7) = c ∧ (c = 100 ∨ c = 98 ∨ c = 111 ∨ c = 79 ∨ c = 120 ∨ c = 88 ∨ c = 118) := by
  refine ⟨_, rfl, ?_⟩
  have h : k % 7 < 7 := Nat.mod_lt _ (by decide)
  generalize k % 7 = j at h ⊢
  match j, h with
  | 0, _ => exact Or.inl rfl
  | 1, _ => exact Or.inr (Or.inl rfl)
  | 2, _ => exact Or.inr (Or.inr (Or.inl rfl))
  | 3, _ => exact Or.inr (Or.inr (Or.inr (Or.inl rfl)))
  | 4, _ => exact Or.inr (Or.inr (Or.inr (Or.inr (Or.inl rfl))))
  | 5, _ => exact Or.inr (Or.inr (Or.inr (Or.inr (Or.inr (Or.inl rfl)))))
  | 6, _ => exact Or.inr (Or.inr (Or.inr (Or.inr (Or.inr (Or.inr rfl)))))

set_option maxRecDepth 100000 in
set_option maxHeartbeats 2000000 in
theorem intsSigns_law (v k : Int) (w : World) (_hT : Tabs w) (h0 : -9223372036854775808 ≤ v) (h1 : v ≤ 9223372036854775807) (hk0 : 0 ≤ k) (hk1 : k ≤ 18446744073709551615) :
    Calls Try.prog 9 #[.int .i64 v, .int .u64 k] w fun e w' => e = .returned (.bool true) ∧ Below w.heap.size w w' := by
  have LV := hid (fun W => lives_any W)
  obtain ⟨c, hc, hcv⟩ := signs_verbs k.toNat
  obtain ⟨T, hT0, hT1, hneg, hpos⟩ := signs_facts v c h0 h1 hcv
  have VB := hid (fun W => verb_any false false false false false (-1) (-1) 0 k ⟨#[100, 98, 111, 79, 120, 88, 118]⟩ c W hk0 hk1 (by decide) (by decide) hc)
  have SA := hid (fun W => signed_any v false false false false false (-1) (-1) c W h0 h1 (by omega) (by omega))
  have SB := hid (fun W => signed_any v true false false false false (-1) (-1) c W h0 h1 (by omega) (by omega))
  have SC := hid (fun W => signed_any v false false false true false (-1) (-1) c W h0 h1 (by omega) (by omega))
  clear hc hcv
  by_cases hv : v < 0
  · obtain ⟨e1, e2, e3⟩ := hneg hv
    obtain ⟨A, hA⟩ : ∃ A, (⟨#[45]⟩ : ByteArray) ++ T = A := ⟨_, rfl⟩
    have hAs : 1 < A.size := by rw [← hA, ByteArray.size_append]; show 1 < 1 + T.size; omega
    have hA1 : A.size ≤ 4000 := by rw [← hA, ByteArray.size_append]; show 1 + T.size ≤ 4000; omega
    have hb0 := bt_at A 0 (by omega)
    have hb1 : bt A 0 = 45 := by rw [← hA]; unfold bt; simp
    rw [hb1] at hb0
    rw [hA] at e1 e2 e3
    rw [e1] at SA
    rw [e2] at SB
    rw [e3] at SC
    simp only [tupS] at SA SB SC
    clear e1 e2 e3 hneg hpos hA hb1 hT0 hT1
    go_enter Try.func9, Try.ntmps9
    go_wp2_with fail
    refine (VB.out _).mono ?_
    rintro e w1 ⟨rfl, hb⟩
    have B0 := hid (bx_new hb (sp8 false false false false false (-1) (-1) c))
    have hle := hb.size
    clear hb
    go_wp2_with fail
    refine (SA.out _).mono ?_
    rintro e w2 ⟨rfl, hb⟩
    have B1 := hid (B0.out.kept hb)
    clear hb
    obtain ⟨H, hH⟩ : ∃ H, w1.heap.size = H := ⟨_, rfl⟩
    rw [hH] at B1 hle ⊢
    clear hH B0
    obtain ⟨s0, s1, s2, s3, s4, s5, s6, s7⟩ := B1.out.cells
    have f0 := B1.out.frozen 0
    go_wp2_with fail
    refine (SB.out _).mono ?_
    rintro e w3 ⟨rfl, hb⟩
    have B2 := hid ((B1.out.set hle 0 (.bool true)).kept hb)
    clear hb s0 s1 s2 s3 s4 s5 s6 s7 f0
    obtain ⟨s0, s1, s2, s3, s4, s5, s6, s7⟩ := Bx.cells B2.out
    have f0 := B2.out.frozen 0
    have f3 := B2.out.frozen 3
    go_wp2_with fail
    refine (SC.out _).mono ?_
    rintro e w4 ⟨rfl, hb⟩
    have B3 := hid (((B2.out.set hle 0 (.bool false)).set hle 3 (.bool true)).kept hb)
    clear hb s0 s1 s2 s3 s4 s5 s6 s7 f0 f3
    go_wp2_with fail
    refine (LV.out _).mono ?_
    rintro e w5 ⟨rfl, hb⟩
    have B4 := hid (B3.out.kept hb)
    clear hb
    go_wp2_with fail
    go_ret
    exact ⟨rfl, B4.out.below⟩
  · obtain ⟨e1, e2, e3⟩ := hpos (by omega)
    obtain ⟨A, hA⟩ : ∃ A, (⟨#[43]⟩ : ByteArray) ++ T = A := ⟨_, rfl⟩
    obtain ⟨B, hB⟩ : ∃ B, (⟨#[32]⟩ : ByteArray) ++ T = B := ⟨_, rfl⟩
    rw [hA] at e2
    rw [hB] at e3
    rw [e1] at SA
    rw [e2] at SB
    rw [e3] at SC
    simp only [tupS] at SA SB SC
    clear e1 e2 e3 hneg hpos
    go_enter Try.func9, Try.ntmps9
    go_wp2_with fail
    refine (VB.out _).mono ?_
    rintro e w1 ⟨rfl, hb⟩
    have B0 := hid (bx_new hb (sp8 false false false false false (-1) (-1) c))
    have hle := hb.size
    clear hb
    go_wp2_with fail
    refine (SA.out _).mono ?_
    rintro e w2 ⟨rfl, hb⟩
    have B1 := hid (B0.out.kept hb)
    clear hb
    obtain ⟨H, hH⟩ : ∃ H, w1.heap.size = H := ⟨_, rfl⟩
    rw [hH] at B1 hle ⊢
    clear hH B0
    obtain ⟨s0, s1, s2, s3, s4, s5, s6, s7⟩ := B1.out.cells
    have f0 := B1.out.frozen 0
    go_wp2_with fail
    refine (SB.out _).mono ?_
    rintro e w3 ⟨rfl, hb⟩
    have B2 := hid ((B1.out.set hle 0 (.bool true)).kept hb)
    clear hb s0 s1 s2 s3 s4 s5 s6 s7 f0
    obtain ⟨s0, s1, s2, s3, s4, s5, s6, s7⟩ := Bx.cells B2.out
    have f0 := B2.out.frozen 0
    have f3 := B2.out.frozen 3
    go_wp2_with fail
    refine (SC.out _).mono ?_
    rintro e w4 ⟨rfl, hb⟩
    have B3 := hid (((B2.out.set hle 0 (.bool false)).set hle 3 (.bool true)).kept hb)
    clear hb s0 s1 s2 s3 s4 s5 s6 s7 f0 f3
    go_wp2_with fail
    refine (LV.out _).mono ?_
    rintro e w5 ⟨rfl, hb⟩
    have B4 := hid (B3.out.kept hb)
    clear hb
    go_wp2_with fail
    go_ret
    exact ⟨rfl, B4.out.below⟩
end Go.Proofs.Ytampkhdlhhgneaa
