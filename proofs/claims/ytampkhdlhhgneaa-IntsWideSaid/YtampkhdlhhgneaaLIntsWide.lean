/-
  The law IntsWide, walked.
-/
import Derived.Test.YtampkhdlhhgneaaQD
namespace Go.Proofs.Ytampkhdlhhgneaa
open Go.RowKit Go.Proofs

set_option maxRecDepth 100000 in
set_option maxHeartbeats 2000000 in
theorem intsWide_law (v : Int) (pl mi sh sp ze : Bool) (wid prec verb : Int) (w : World) (_hT : Tabs w) (h0 : -9223372036854775808 ≤ v) (h1 : v ≤ 9223372036854775807) (hw0 : -9223372036854775808 ≤ wid) (hw1 : wid ≤ 9223372036854775807) (_hp0 : -9223372036854775808 ≤ prec) (_hp1 : prec ≤ 9223372036854775807) (_hr0 : -2147483648 ≤ verb) (_hr1 : verb ≤ 2147483647) :
    Calls Try.prog 7 #[.int .i64 v, .agg #[.bool pl, .bool mi, .bool sh, .bool sp, .bool ze, .int .i64 wid, .int .i64 prec, .int .i32 verb]] w fun e w' => e = .returned (.bool true) ∧ Below w.heap.size w w' := by
  have LV := hid (fun W => lives_any W)
  obtain ⟨u, hu⟩ : ∃ u : Int, (bitsI v : Int) = u := ⟨_, rfl⟩
  have hwr := wrapu v
  rw [hu] at hwr
  have hub := bits_lt v
  rw [hu] at hub
  have hu0 : 0 ≤ u := by omega
  have SG := hid (fun W => signed_any v pl mi sh sp ze wid prec verb W h0 h1 hw0 hw1)
  have US := hid (fun W => unsigned_any u pl mi sh sp ze wid prec verb W hu0 hub hw0 hw1)
  have B0 := hid (bx_start w (sp8 pl mi sh sp ze wid prec verb))
  have f1 := wide_facts (decide (v < 0)) false v.natAbs (bitsI v) pl mi sh sp ze wid prec verb (by omega) (by omega)
  have f2 := wide_facts false true u.toNat u.toNat pl mi sh sp ze wid prec verb (by omega) (by omega)
  have f3 := write_none (decide (v < 0)) false v.natAbs (bitsI v) pl mi sh sp ze wid prec verb false u.toNat u.toNat true
  rcases f1 with e1 | ⟨s1, e1, z1, c1⟩
  · have e2 := f3.1 e1
    have e1' : signedS v pl mi sh sp ze wid prec verb = none := e1
    have e2' : unsignedS u.toNat pl mi sh sp ze wid prec verb = none := e2
    rw [e1'] at SG
    rw [e2'] at US
    simp only [tupS] at SG US
    clear e1 e2 e1' e2' f2 f3
    go_enter Try.func7, Try.ntmps7
    go_wp2_with fail
    refine (SG.out _).mono ?_
    rintro e w1 ⟨rfl, hb⟩
    have B1 := hid (B0.out.kept hb)
    clear hb
    obtain ⟨s0, s1, s2, s3, s4, s5, s6, s7⟩ := B1.out.cells
    go_wp2_with fail
    refine (US.out _).mono ?_
    rintro e w2 ⟨rfl, hb⟩
    have B2 := hid (B1.out.kept hb)
    clear hb
    go_wp2_with fail
    refine (LV.out _).mono ?_
    rintro e w3 ⟨rfl, hb⟩
    have B3 := hid (B2.out.kept hb)
    clear hb
    go_wp2_with fail
    go_ret
    exact ⟨rfl, B3.out.below⟩
  · rcases f2 with e2 | ⟨s2, e2, z2, c2⟩
    · rw [f3.2 e2] at e1
      cases e1
    have e1' : signedS v pl mi sh sp ze wid prec verb = some s1 := e1
    have e2' : unsignedS u.toNat pl mi sh sp ze wid prec verb = some s2 := e2
    rw [e1'] at SG
    rw [e2'] at US
    simp only [tupS] at SG US
    have CA := hid (fun W => count_any s1 W (by omega))
    have CB := hid (fun W => count_any s2 W (by omega))
    obtain ⟨k1, hk1⟩ : ∃ k : Int, (Utf.count s1.data.toList : Int) = k := ⟨_, rfl⟩
    obtain ⟨k2, hk2⟩ : ∃ k : Int, (Utf.count s2.data.toList : Int) = k := ⟨_, rfl⟩
    rw [hk1] at CA c1
    rw [hk2] at CB c2
    clear e1 e2 e1' e2' f3 hk1 hk2
    have m1 := hid c1
    have m2 := hid c2
    clear c1 c2
    go_enter Try.func7, Try.ntmps7
    go_wp2_with fail
    refine (SG.out _).mono ?_
    rintro e w1 ⟨rfl, hb⟩
    have B1 := hid (B0.out.kept hb)
    clear hb
    obtain ⟨s0, s1, s2, s3, s4, s5, s6, s7⟩ := B1.out.cells
    go_wp2_with fail
    refine (US.out _).mono ?_
    rintro e w2 ⟨rfl, hb⟩
    have B2 := hid (B1.out.kept hb)
    clear hb s0 s1 s2 s3 s4 s5 s6 s7
    obtain ⟨s0, s1, s2, s3, s4, s5, s6, s7⟩ := B2.out.cells
    rcases Int.le_total wid 1000 with hle | hle
    · have g1 : wid ≤ k1 := by have := m1.out; omega
      have g2 : wid ≤ k2 := by have := m2.out; omega
      clear m1 m2
      go_wp2_with fail
      refine (CA.out _).mono ?_
      rintro e w3 ⟨rfl, hb⟩
      have B3 := hid (B2.out.kept hb)
      clear hb
      go_wp2_with fail
      refine (CB.out _).mono ?_
      rintro e w4 ⟨rfl, hb⟩
      have B4 := hid (B3.out.kept hb)
      clear hb
      go_wp2_with fail
      refine (LV.out _).mono ?_
      rintro e w5 ⟨rfl, hb⟩
      have B5 := hid (B4.out.kept hb)
      clear hb
      go_wp2_with fail
      go_ret
      exact ⟨rfl, B5.out.below⟩
    · have g1 : 1000 ≤ k1 := by have := m1.out; omega
      have g2 : 1000 ≤ k2 := by have := m2.out; omega
      clear m1 m2
      go_wp2_with fail
      refine (CA.out _).mono ?_
      rintro e w3 ⟨rfl, hb⟩
      have B3 := hid (B2.out.kept hb)
      clear hb
      go_wp2_with fail
      refine (CB.out _).mono ?_
      rintro e w4 ⟨rfl, hb⟩
      have B4 := hid (B3.out.kept hb)
      clear hb
      go_wp2_with fail
      refine (LV.out _).mono ?_
      rintro e w5 ⟨rfl, hb⟩
      have B5 := hid (B4.out.kept hb)
      clear hb
      go_wp2_with fail
      go_ret
      exact ⟨rfl, B5.out.below⟩
end Go.Proofs.Ytampkhdlhhgneaa
