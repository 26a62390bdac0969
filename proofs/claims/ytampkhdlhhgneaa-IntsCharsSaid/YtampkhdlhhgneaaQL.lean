/-
  Walks of layer 3: the document's numbers with a sign, and without.
-/
import Derived.Test.YtampkhdlhhgneaaQK
namespace Go.Proofs.Ytampkhdlhhgneaa
open Go.RowKit Go.Proofs

theorem rwrite_any (neg : Bool) (n bits : Int) (pl mi sh sp ze : Bool) (wid prec verb : Int) (w : World) (h0 : 0 ≤ n) (h1 : n ≤ 18446744073709551615) (hb0 : 0 ≤ bits) (hb1 : bits ≤ 18446744073709551615) (hw0 : -9223372036854775808 ≤ wid) (hw1 : wid ≤ 9223372036854775807) :
    Calls Try.prog 28 #[.bool neg, .int .u64 n, .int .u64 bits, .agg #[.bool pl, .bool mi, .bool sh, .bool sp, .bool ze, .int .i64 wid, .int .i64 prec, .int .i32 verb]] w fun e w' => e = .returned (tupS (writeS neg false n.toNat bits.toNat pl mi sh sp ze wid prec verb)) ∧ Below w.heap.size w w' := by
  by_cases e100 : verb = 100
  · subst e100
    have h := rwrite_base neg n bits pl mi sh sp ze wid prec 100 10 ⟨#[]⟩ false w h0 h1 (by decide) rfl (by decide) rfl rfl rfl hw0 hw1
    exact h.mono fun e W ⟨he, hb⟩ => ⟨by rw [he]; cases sh <;> rfl, hb⟩
  by_cases e118 : verb = 118
  · subst e118
    have h := rwrite_base neg n bits pl mi sh sp ze wid prec 118 10 ⟨#[]⟩ false w h0 h1 (by decide) rfl (by decide) rfl rfl rfl hw0 hw1
    exact h.mono fun e W ⟨he, hb⟩ => ⟨by rw [he]; cases sh <;> rfl, hb⟩
  by_cases e98 : verb = 98
  · subst e98
    have h := rwrite_base neg n bits pl mi sh sp ze wid prec 98 2 ⟨#[48, 98]⟩ false w h0 h1 (by decide) rfl (by decide) rfl rfl rfl hw0 hw1
    exact h.mono fun e W ⟨he, hb⟩ => ⟨by rw [he]; cases sh <;> rfl, hb⟩
  by_cases e111 : verb = 111
  · subst e111
    have h := rwrite_base neg n bits pl mi sh sp ze wid prec 111 8 ⟨#[48]⟩ false w h0 h1 (by decide) rfl (by decide) rfl rfl rfl hw0 hw1
    exact h.mono fun e W ⟨he, hb⟩ => ⟨by rw [he]; cases sh <;> rfl, hb⟩
  by_cases e79 : verb = 79
  · subst e79
    have h := rwrite_base neg n bits pl mi sh sp ze wid prec 79 8 ⟨#[48, 111]⟩ true w h0 h1 (by decide) rfl (by decide) rfl rfl rfl hw0 hw1
    exact h.mono fun e W ⟨he, hb⟩ => ⟨by rw [he]; cases sh <;> rfl, hb⟩
  by_cases e120 : verb = 120
  · subst e120
    have h := rwrite_base neg n bits pl mi sh sp ze wid prec 120 16 ⟨#[48, 120]⟩ false w h0 h1 (by decide) rfl (by decide) rfl rfl rfl hw0 hw1
    exact h.mono fun e W ⟨he, hb⟩ => ⟨by rw [he]; cases sh <;> rfl, hb⟩
  by_cases e88 : verb = 88
  · subst e88
    have h := rwrite_base neg n bits pl mi sh sp ze wid prec 88 16 ⟨#[48, 88]⟩ false w h0 h1 (by decide) rfl (by decide) rfl rfl rfl hw0 hw1
    exact h.mono fun e W ⟨he, hb⟩ => ⟨by rw [he]; cases sh <;> rfl, hb⟩
  by_cases e99 : verb = 99
  · subst e99
    exact rwrite_c neg n bits pl mi sh sp ze wid prec w hb0 hb1 hw0 hw1
  by_cases e113 : verb = 113
  · subst e113
    exact rwrite_q neg n bits pl mi sh sp ze wid prec w hb0 hb1 hw0 hw1
  by_cases e85 : verb = 85
  · subst e85
    exact rwrite_U neg n bits pl mi sh sp ze wid prec w hb0 hb1 hw0 hw1
  exact rwrite_no neg n bits pl mi sh sp ze wid prec verb w ⟨e118, e100, e98, e111, e79, e120, e88, e99, e113, e85⟩

set_option maxRecDepth 100000 in
set_option maxHeartbeats 2000000 in
theorem rsigned_at (v m u : Int) (neg : Bool) (pl mi sh sp ze : Bool) (wid prec verb : Int) (R : Value) (w : World) (hneg : decide (v < 0) = neg) (hm : (v.natAbs : Int) = m) (hwr : IntKind.u64.wrap v = u) (hR : ∃ s ok, R = .tuple #[.string s, .bool ok]) (h0 : -9223372036854775808 ≤ v) (h1 : v ≤ 9223372036854775807)
    (WR : ∀ W, Calls Try.prog 28 #[.bool neg, .int .u64 m, .int .u64 u, .agg #[.bool pl, .bool mi, .bool sh, .bool sp, .bool ze, .int .i64 wid, .int .i64 prec, .int .i32 verb]] W fun e w' => e = .returned R ∧ Below W.heap.size W w') :
    Calls Try.prog 17 #[.int .i64 v, .agg #[.bool pl, .bool mi, .bool sh, .bool sp, .bool ze, .int .i64 wid, .int .i64 prec, .int .i32 verb]] w fun e w' => e = .returned R ∧ Below w.heap.size w w' := by
  obtain ⟨s, ok, rfl⟩ := hR
  have MG := hid (fun W => mag_any v W h0 h1)
  rw [hm] at MG
  clear hm
  have S0 := hid (bx_start w (sp8 pl mi sh sp ze wid prec verb))
  have WRR := hid WR
  clear WR
  have key : (v < 0 ∧ neg = true) ∨ (¬ v < 0 ∧ neg = false) := by
    rw [← hneg]
    by_cases h : v < 0
    · exact Or.inl ⟨h, decide_eq_true h⟩
    · exact Or.inr ⟨h, decide_eq_false h⟩
  clear hneg
  rcases key with ⟨hv, rfl⟩ | ⟨hv, rfl⟩
  all_goals
    go_enter Try.func17, Try.ntmps17
    go_upto_region 1 with fail
    obtain ⟨W0, hW0⟩ : ∃ W0, w.alloc (.cells (sp8 pl mi sh sp ze wid prec verb) 27) = W0 := ⟨_, rfl⟩
    obtain ⟨H, hH⟩ : ∃ H, w.heap.size = H := ⟨_, rfl⟩
    have HH := hid hH
    rw [hW0] at S0 ⊢
    rw [hH] at S0 ⊢
    clear hW0 hH
    obtain ⟨s0, s1, s2, s3, s4, s5, s6, s7⟩ := S0.out.cells
    have sd := S0.out.drew
    have MGC := hid (bxQ (w := w) (H := H) (C := sp8 pl mi sh sp ze wid prec verb) MG.out)
    have WRC := hid (bxC (w := w) (H := H) (C := sp8 pl mi sh sp ze wid prec verb) WRR.out)
    clear MG WRR
    go_region_held3 (fun w' => (w'.cell? ⟨H, 0, none⟩ = some (.bool pl) ∧ w'.cell? ⟨H, 1, none⟩ = some (.bool mi) ∧ w'.cell? ⟨H, 2, none⟩ = some (.bool sh) ∧ w'.cell? ⟨H, 3, none⟩ = some (.bool sp) ∧ w'.cell? ⟨H, 4, none⟩ = some (.bool ze) ∧ w'.cell? ⟨H, 5, none⟩ = some (.int .i64 wid) ∧ w'.cell? ⟨H, 6, none⟩ = some (.int .i64 prec) ∧ w'.cell? ⟨H, 7, none⟩ = some (.int .i32 verb)) ∧ Bx w H (sp8 pl mi sh sp ze wid prec verb) w') (exact Bx.cellsS (by assumption))
      ((first
        | ((with_reducible refine (MGC.out _ (by assumption)).mono ?_); rintro e Wa ⟨rfl, sA⟩)
        | ((with_reducible refine (WRC.out _ (by assumption)).mono ?_); rintro e Wc ⟨rfl, sW⟩)))
    go_wp2_with fail
    go_ret2
    exact ⟨rfl, sW.below⟩
theorem tupS_form (R : Option ByteArray) : ∃ s ok, tupS R = .tuple #[.string s, .bool ok] := by
  cases R with
  | none => exact ⟨_, _, rfl⟩
  | some s => exact ⟨_, _, rfl⟩
theorem rsigned_any (v : Int) (pl mi sh sp ze : Bool) (wid prec verb : Int) (w : World) (h0 : -9223372036854775808 ≤ v) (h1 : v ≤ 9223372036854775807) (hw0 : -9223372036854775808 ≤ wid) (hw1 : wid ≤ 9223372036854775807) :
    Calls Try.prog 17 #[.int .i64 v, .agg #[.bool pl, .bool mi, .bool sh, .bool sp, .bool ze, .int .i64 wid, .int .i64 prec, .int .i32 verb]] w fun e w' => e = .returned (tupS (signedS v pl mi sh sp ze wid prec verb)) ∧ Below w.heap.size w w' := by
  have hb := bits_lt v
  refine rsigned_at v (v.natAbs : Int) (bitsI v : Int) (decide (v < 0)) pl mi sh sp ze wid prec verb _ w rfl rfl (wrapu v) (tupS_form _) h0 h1 (fun W => ?_)
  have h := rwrite_any (decide (v < 0)) (v.natAbs : Int) (bitsI v : Int) pl mi sh sp ze wid prec verb W (by omega) (by omega) (by omega) hb hw0 hw1
  exact h

set_option maxRecDepth 100000 in
set_option maxHeartbeats 2000000 in
theorem runsigned_any (n : Int) (pl mi sh sp ze : Bool) (wid prec verb : Int) (w : World) (h0 : 0 ≤ n) (h1 : n ≤ 18446744073709551615) (hw0 : -9223372036854775808 ≤ wid) (hw1 : wid ≤ 9223372036854775807) :
    Calls Try.prog 19 #[.int .u64 n, .agg #[.bool pl, .bool mi, .bool sh, .bool sp, .bool ze, .int .i64 wid, .int .i64 prec, .int .i32 verb]] w fun e w' => e = .returned (tupS (unsignedS n.toNat pl mi sh sp ze wid prec verb)) ∧ Below w.heap.size w w' := by
  have key : (verb = 118 ∧ sh = true) ∨ (verb = 118 ∧ sh = false) ∨ (verb == 118) = false := by
    by_cases h : verb = 118
    · cases sh
      · exact Or.inr (Or.inl ⟨h, rfl⟩)
      · exact Or.inl ⟨h, rfl⟩
    · exact Or.inr (Or.inr (beq_eq_false_iff_ne.2 h))
  rcases key with ⟨q1, q2⟩ | ⟨q1, q2⟩ | q1
  · subst q1
    subst q2
    have WR := hid (fun W => rwrite_any false n n pl mi true sp ze wid prec 120 W h0 h1 h0 h1 hw0 hw1)
    have hfin : writeS false false n.toNat n.toNat pl mi true sp ze wid prec 120 = unsignedS n.toNat pl mi true sp ze wid prec 118 := rfl
    rw [hfin] at WR
    clear hfin
    obtain ⟨s, ok, hR⟩ := tupS_form (unsignedS n.toNat pl mi true sp ze wid prec 118)
    rw [hR] at WR ⊢
    clear hR
    have B0 := hid ((Below.refl w.heap.size w).alloc (Nat.le_refl _) (.cells (sp8 pl mi true sp ze wid prec 120) 27))
    go_enter Try.func19, Try.ntmps19
    go_wp2_with fail
    refine (WR.out _).mono ?_
    rintro e w1 ⟨rfl, hb⟩
    have HB := hid (B0.out.trans (hb.mono B0.out.size))
    clear hb
    go_wp2_with fail
    go_ret2
    exact ⟨rfl, HB.out⟩
  · subst q1
    subst q2
    have WR := hid (fun W => rwrite_any false n n pl mi false sp ze wid prec 118 W h0 h1 h0 h1 hw0 hw1)
    have hfin : writeS false false n.toNat n.toNat pl mi false sp ze wid prec 118 = unsignedS n.toNat pl mi false sp ze wid prec 118 := (write_uns n.toNat pl mi false sp ze wid prec 118 (by simp)).symm
    rw [hfin] at WR
    clear hfin
    obtain ⟨s, ok, hR⟩ := tupS_form (unsignedS n.toNat pl mi false sp ze wid prec 118)
    rw [hR] at WR ⊢
    clear hR
    have B0 := hid ((Below.refl w.heap.size w).alloc (Nat.le_refl _) (.cells (sp8 pl mi false sp ze wid prec 118) 27))
    go_enter Try.func19, Try.ntmps19
    go_wp2_with fail
    refine (WR.out _).mono ?_
    rintro e w1 ⟨rfl, hb⟩
    have HB := hid (B0.out.trans (hb.mono B0.out.size))
    clear hb
    go_wp2_with fail
    go_ret2
    exact ⟨rfl, HB.out⟩
  · have WR := hid (fun W => rwrite_any false n n pl mi sh sp ze wid prec verb W h0 h1 h0 h1 hw0 hw1)
    have hfin : writeS false false n.toNat n.toNat pl mi sh sp ze wid prec verb = unsignedS n.toNat pl mi sh sp ze wid prec verb := (write_uns n.toNat pl mi sh sp ze wid prec verb (fun h => by rw [h.1] at q1; cases q1)).symm
    rw [hfin] at WR
    clear hfin
    obtain ⟨s, ok, hR⟩ := tupS_form (unsignedS n.toNat pl mi sh sp ze wid prec verb)
    rw [hR] at WR ⊢
    clear hR
    have B0 := hid ((Below.refl w.heap.size w).alloc (Nat.le_refl _) (.cells (sp8 pl mi sh sp ze wid prec verb) 27))
    go_enter Try.func19, Try.ntmps19
    go_wp2_with fail
    refine (WR.out _).mono ?_
    rintro e w1 ⟨rfl, hb⟩
    have HB := hid (B0.out.trans (hb.mono B0.out.size))
    clear hb
    go_wp2_with fail
    go_ret2
    exact ⟨rfl, HB.out⟩
end Go.Proofs.Ytampkhdlhhgneaa
