/-
  The law IntsAlike, walked.
-/
import Derived.Test.YtampkhdlhhgneaaQB
namespace Go.Proofs.Ytampkhdlhhgneaa
open Go.RowKit Go.Proofs

set_option maxRecDepth 100000 in
set_option maxHeartbeats 2000000 in
theorem intsAlike_law (v : Int) (pl mi sh sp ze : Bool) (wid prec verb : Int) (w : World) (_hT : Tabs w) (h0 : -9223372036854775808 ≤ v) (h1 : v ≤ 9223372036854775807) (hw0 : -9223372036854775808 ≤ wid) (hw1 : wid ≤ 9223372036854775807) (_hp0 : -9223372036854775808 ≤ prec) (_hp1 : prec ≤ 9223372036854775807) (_hr0 : -2147483648 ≤ verb) (_hr1 : verb ≤ 2147483647) :
    Calls Try.prog 10 #[.int .i64 v, .agg #[.bool pl, .bool mi, .bool sh, .bool sp, .bool ze, .int .i64 wid, .int .i64 prec, .int .i32 verb]] w fun e w' => e = .returned (.bool true) ∧ Below w.heap.size w w' := by
  have LV := hid (fun W => lives_any W)
  have B0 := hid (bx_start w (sp8 pl mi sh sp ze wid prec verb))
  by_cases hc : (verb = 118 ∧ sh = true) ∨ v < 0
  · rcases (show (verb = 118 ∧ sh = true) ∨ (verb = 118 ∧ sh = false ∧ v < 0) ∨ ((verb == 118) = false ∧ v < 0) by
      rcases hc with h | h
      · exact Or.inl h
      · by_cases hv : verb = 118
        · cases sh
          · exact Or.inr (Or.inl ⟨hv, rfl, h⟩)
          · exact Or.inl ⟨hv, rfl⟩
        · exact Or.inr (Or.inr ⟨beq_eq_false_iff_ne.2 hv, h⟩)) with ⟨q1, q2⟩ | ⟨q1, q2, q3⟩ | ⟨q1, q3⟩
    · subst q1
      subst q2
      clear hc
      go_enter Try.func10, Try.ntmps10
      go_wp2_with fail
      refine (LV.out _).mono ?_
      rintro e w1 ⟨rfl, hb⟩
      have B1 := hid (B0.out.kept hb)
      clear hb
      go_wp2_with fail
      go_ret
      exact ⟨rfl, B1.out.below⟩
    · subst q1
      subst q2
      clear hc
      go_enter Try.func10, Try.ntmps10
      go_wp2_with fail
      refine (LV.out _).mono ?_
      rintro e w1 ⟨rfl, hb⟩
      have B1 := hid (B0.out.kept hb)
      clear hb
      go_wp2_with fail
      go_ret
      exact ⟨rfl, B1.out.below⟩
    · clear hc
      go_enter Try.func10, Try.ntmps10
      go_wp2_with fail
      refine (LV.out _).mono ?_
      rintro e w1 ⟨rfl, hb⟩
      have B1 := hid (B0.out.kept hb)
      clear hb
      go_wp2_with fail
      go_ret
      exact ⟨rfl, B1.out.below⟩
  · have hv0 : 0 ≤ v := by omega
    have SG := hid (fun W => signed_any v pl mi sh sp ze wid prec verb W h0 h1 hw0 hw1)
    have US := hid (fun W => unsigned_any v pl mi sh sp ze wid prec verb W hv0 (by omega) hw0 hw1)
    have hu : IntKind.u64.wrap v = v := by
      rw [wrapu, bits_pos hv0 h1]
    have heq : unsignedS v.toNat pl mi sh sp ze wid prec verb = signedS v pl mi sh sp ze wid prec verb := by
      unfold unsignedS signedS
      rw [write_uns _ _ _ _ _ _ _ _ _ (fun h => hc (Or.inl h)), decide_eq_false (show ¬ v < 0 by omega), show v.toNat = v.natAbs by omega, show bitsI v = v.natAbs by have := bits_pos hv0 h1; omega]
    rw [heq] at US
    clear heq
    obtain ⟨R, hR⟩ : ∃ R, signedS v pl mi sh sp ze wid prec verb = R := ⟨_, rfl⟩
    rw [hR] at SG US
    clear hR
    have hvn : ¬ v < 0 := by omega
    have fin : Calls Try.prog 10 #[.int .i64 v, .agg #[.bool pl, .bool mi, .bool sh, .bool sp, .bool ze, .int .i64 wid, .int .i64 prec, .int .i32 verb]] w fun e w' => e = .returned (.bool true) ∧ Below w.heap.size w w' := by
      rcases (show (verb = 118 ∧ sh = false) ∨ ((verb == 118) = false) by
        by_cases hv : verb = 118
        · cases sh
          · exact Or.inl ⟨hv, rfl⟩
          · exact absurd (Or.inl ⟨hv, rfl⟩) hc
        · exact Or.inr (beq_eq_false_iff_ne.2 hv)) with ⟨q1, q2⟩ | q1
      · subst q1
        subst q2
        clear hc
        cases R
        all_goals
          simp only [tupS] at SG US
          go_enter Try.func10, Try.ntmps10
          go_wp2_with fail
          refine (SG.out _).mono ?_
          rintro e w1 ⟨rfl, hb⟩
          have B1 := hid (B0.out.kept hb)
          clear hb
          obtain ⟨s0, s1, s2, s3, s4, s5, s6, s7⟩ := B1.out.cells
          go_wp2_with fail
          refine (US.out _).mono ?_
          rintro e w2 ⟨rfl, hb⟩
          have B2 := hid (B1.out.kept hb)
          clear hb
          go_wp2_with fail
          refine (LV.out _).mono ?_
          rintro e w3 ⟨rfl, hb⟩
          have B3 := hid (B2.out.kept hb)
          clear hb
          go_wp2_with fail
          go_ret
          exact ⟨rfl, B3.out.below⟩
      · clear hc
        cases R
        all_goals
          simp only [tupS] at SG US
          go_enter Try.func10, Try.ntmps10
          go_wp2_with fail
          refine (SG.out _).mono ?_
          rintro e w1 ⟨rfl, hb⟩
          have B1 := hid (B0.out.kept hb)
          clear hb
          obtain ⟨s0, s1, s2, s3, s4, s5, s6, s7⟩ := B1.out.cells
          go_wp2_with fail
          refine (US.out _).mono ?_
          rintro e w2 ⟨rfl, hb⟩
          have B2 := hid (B1.out.kept hb)
          clear hb
          go_wp2_with fail
          refine (LV.out _).mono ?_
          rintro e w3 ⟨rfl, hb⟩
          have B3 := hid (B2.out.kept hb)
          clear hb
          go_wp2_with fail
          go_ret
          exact ⟨rfl, B3.out.below⟩
    exact fin
end Go.Proofs.Ytampkhdlhhgneaa
