/-
  The law IntsChars, walked.
-/
import Derived.Test.YtampkhdlhhgneaaQL
import Derived.Test.YtampkhdlhhgneaaQC
namespace Go.Proofs.Ytampkhdlhhgneaa
open Go.RowKit Go.Proofs

theorem chars_verbs (k : Nat) : ∃ c : Int, bt ⟨#[99, 113, 85]⟩ (k % 3) = c ∧ (c = 99 ∨ c = 113 ∨ c = 85) := by
  refine ⟨_, rfl, ?_⟩
  have h : k % 3 < 3 := Nat.mod_lt _ (by decide)
  generalize k % 3 = j at h ⊢
  match j, h with
  | 0, _ => exact Or.inl rfl
  | 1, _ => exact Or.inr (Or.inl rfl)
  | 2, _ => exact Or.inr (Or.inr rfl)
theorem chars_facts (v : Int) (pl mi sh sp ze : Bool) (wid prec verb : Int) (hv : verb = 99 ∨ verb = 113 ∨ verb = 85) : ∃ s, signedS v pl mi sh sp ze wid prec verb = some s ∧ unsignedS (bitsI v) pl mi sh sp ze wid prec verb = some s := by
  rcases hv with rfl | rfl | rfl
  · exact ⟨_, rfl, rfl⟩
  · exact ⟨_, rfl, rfl⟩
  · exact ⟨_, rfl, rfl⟩

set_option maxRecDepth 100000 in
set_option maxHeartbeats 2000000 in
theorem intsChars_law (v : Int) (pl mi sh sp ze : Bool) (wid prec verb : Int) (k : Int) (w : World) (_hT : Tabs w) (h0 : -9223372036854775808 ≤ v) (h1 : v ≤ 9223372036854775807) (hw0 : -9223372036854775808 ≤ wid) (hw1 : wid ≤ 9223372036854775807) (_hp0 : -9223372036854775808 ≤ prec) (_hp1 : prec ≤ 9223372036854775807) (_hr0 : -2147483648 ≤ verb) (_hr1 : verb ≤ 2147483647) (hk0 : 0 ≤ k) (hk1 : k ≤ 18446744073709551615) :
    Calls Try.prog 6 #[.int .i64 v, .agg #[.bool pl, .bool mi, .bool sh, .bool sp, .bool ze, .int .i64 wid, .int .i64 prec, .int .i32 verb], .int .u64 k] w fun e w' => e = .returned (.bool true) ∧ Below w.heap.size w w' := by
  have LV := hid (fun W => lives_any W)
  obtain ⟨c, hc, hcv⟩ := chars_verbs k.toNat
  obtain ⟨s, e1, e2⟩ := chars_facts v pl mi sh sp ze wid prec c hcv
  obtain ⟨u, hu⟩ : ∃ u : Int, (bitsI v : Int) = u := ⟨_, rfl⟩
  have hwr := wrapu v
  rw [hu] at hwr
  have hub := bits_lt v
  rw [hu] at hub
  have hu0 : 0 ≤ u := by omega
  have hun : bitsI v = u.toNat := by omega
  have VB := hid (fun W => verb_any pl mi sh sp ze wid prec verb k ⟨#[99, 113, 85]⟩ c W hk0 hk1 (by decide) (by decide) hc)
  have SA := hid (fun W => signed_any v pl mi sh sp ze wid prec c W h0 h1 hw0 hw1)
  have SB := hid (fun W => rsigned_any v pl mi sh sp ze wid prec c W h0 h1 hw0 hw1)
  have SC := hid (fun W => unsigned_any u pl mi sh sp ze wid prec c W hu0 hub hw0 hw1)
  rw [hun] at e2
  rw [e1] at SA SB
  rw [e2] at SC
  simp only [tupS] at SA SB SC
  clear e1 e2 hc hcv hun hu
  have B0 := hid (bx_start w (sp8 pl mi sh sp ze wid prec verb))
  go_enter Try.func6, Try.ntmps6
  go_wp2_with fail
  refine (VB.out _).mono ?_
  rintro e w1 ⟨rfl, hb⟩
  have B1 := hid (B0.out.kept hb)
  clear hb
  obtain ⟨s0, s1, s2, s3, s4, s5, s6, s7⟩ := B1.out.cells
  have sf : ∀ i, w1.frozen? ⟨w.heap.size, i, none⟩ = false := B1.out.frozen
  go_wp2_with fail
  refine (SA.out _).mono ?_
  rintro e w2 ⟨rfl, hb⟩
  have le := Nat.le_refl w.heap.size
  have B2' : Bx w w.heap.size (sp8 pl mi sh sp ze wid prec c) w2 := ((((((((B1.out.set le 0 (.bool pl)).set le 1 (.bool mi)).set le 2 (.bool sh)).set le 3 (.bool sp)).set le 4 (.bool ze)).set le 5 (.int .i64 wid)).set le 6 (.int .i64 prec)).set le 7 (.int .i32 c)).kept hb
  have B2 := hid B2'
  clear hb s0 s1 s2 s3 s4 s5 s6 s7 sf le B2'
  obtain ⟨s0, s1, s2, s3, s4, s5, s6, s7⟩ := B2.out.cells
  go_wp2_with fail
  refine (SB.out _).mono ?_
  rintro e w3 ⟨rfl, hb⟩
  have B3 := hid (B2.out.kept hb)
  clear hb s0 s1 s2 s3 s4 s5 s6 s7
  obtain ⟨s0, s1, s2, s3, s4, s5, s6, s7⟩ := B3.out.cells
  go_wp2_with fail
  refine (SC.out _).mono ?_
  rintro e w4 ⟨rfl, hb⟩
  have B4 := hid (B3.out.kept hb)
  clear hb
  go_wp2_with fail
  refine (LV.out _).mono ?_
  rintro e w5 ⟨rfl, hb⟩
  have B5 := hid (B4.out.kept hb)
  clear hb
  go_wp2_with fail
  go_ret
  exact ⟨rfl, B5.out.below⟩
end Go.Proofs.Ytampkhdlhhgneaa
