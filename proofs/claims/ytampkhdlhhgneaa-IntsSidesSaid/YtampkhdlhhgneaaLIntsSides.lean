/-
  The law IntsSides, walked.
-/
import Derived.Test.YtampkhdlhhgneaaQC
namespace Go.Proofs.Ytampkhdlhhgneaa
open Go.RowKit Go.Proofs

set_option maxRecDepth 100000 in
set_option maxHeartbeats 2000000 in
theorem intsSides_law (v : Int) (pl mi sh sp ze : Bool) (wid prec verb : Int) (w : World) (_hT : Tabs w) (h0 : -9223372036854775808 ≤ v) (h1 : v ≤ 9223372036854775807) (hw0 : -9223372036854775808 ≤ wid) (hw1 : wid ≤ 9223372036854775807) (_hp0 : -9223372036854775808 ≤ prec) (_hp1 : prec ≤ 9223372036854775807) (_hr0 : -2147483648 ≤ verb) (_hr1 : verb ≤ 2147483647) :
    Calls Try.prog 12 #[.int .i64 v, .agg #[.bool pl, .bool mi, .bool sh, .bool sp, .bool ze, .int .i64 wid, .int .i64 prec, .int .i32 verb]] w fun e w' => e = .returned (.bool true) ∧ Below w.heap.size w w' := by
  have LV := hid (fun W => lives_any W)
  obtain ⟨t, F, ok, ha, hb, hc, hF, hFs, hts⟩ := sides_facts v pl sh sp wid prec verb h0 h1
  have SA := hid (fun W => signed_any v pl true sh sp false wid prec verb W h0 h1 hw0 hw1)
  have SB := hid (fun W => signed_any v pl false sh sp false wid prec verb W h0 h1 hw0 hw1)
  have SC := hid (fun W => signed_any v pl false sh sp false (-1) prec verb W h0 h1 (by decide) (by decide))
  have FI := hid (fun W => fill_any 32 ((t.size : Int) + (F.size : Int) - (t.size : Int)) W (by omega) (by omega))
  rw [show fillS 32 ((t.size : Int) + (F.size : Int) - (t.size : Int)) = F by rw [show (t.size : Int) + (F.size : Int) - (t.size : Int) = F.size by omega]; exact hF] at FI
  rw [ha] at SA
  rw [hb] at SB
  rw [hc] at SC
  obtain ⟨A, hA⟩ : ∃ A, t ++ F = A := ⟨_, rfl⟩
  obtain ⟨B, hB⟩ : ∃ B, F ++ t = B := ⟨_, rfl⟩
  rw [hA] at SA
  rw [hB] at SB
  have hAs : (A.size : Int) = (t.size : Int) + (F.size : Int) := by rw [← hA, ByteArray.size_append]; omega
  have hBs : (B.size : Int) = (A.size : Int) := by rw [← hA, ← hB, ByteArray.size_append, ByteArray.size_append]; omega
  clear ha hb hc hF
  have B0 := hid (bx_start w (sp8 pl true sh sp false wid prec verb))
  go_enter Try.func12, Try.ntmps12
  go_wp2_with fail
  refine (SA.out _).mono ?_
  rintro e w1 ⟨rfl, hb⟩
  have B1 := hid (B0.out.kept hb)
  clear hb
  obtain ⟨s0, s1, s2, s3, s4, s5, s6, s7⟩ := B1.out.cells
  have sf := B1.out.frozen 1
  go_wp2_with fail
  refine (SB.out _).mono ?_
  rintro e w2 ⟨rfl, hb⟩
  have B2 := hid ((B1.out.set (Nat.le_refl _) 1 (.bool false)).kept hb)
  clear hb s0 s1 s2 s3 s4 s5 s6 s7 sf
  obtain ⟨s0, s1, s2, s3, s4, s5, s6, s7⟩ := Bx.cells B2.out
  have sf := B2.out.frozen 5
  go_wp2_with fail
  refine (SC.out _).mono ?_
  rintro e w3 ⟨rfl, hb⟩
  have B3 := hid ((B2.out.set (Nat.le_refl _) 5 (.int .i64 (-1))).kept hb)
  clear hb s0 s1 s2 s3 s4 s5 s6 s7 sf
  cases ok
  all_goals
    go_wp2_with fail
    refine (FI.out _).mono ?_
    rintro e w4 ⟨rfl, hb⟩
    have B4 := hid (B3.out.kept hb)
    clear hb
    go_wp2_with fail
    refine (FI.out _).mono ?_
    rintro e w5 ⟨rfl, hb⟩
    have B5 := hid (B4.out.kept hb)
    clear hb
    go_wp2_with fail
    refine (LV.out _).mono ?_
    rintro e w6 ⟨rfl, hb⟩
    have B6 := hid (B5.out.kept hb)
    clear hb
    go_wp2_with fail
    go_ret
    exact ⟨rfl, B6.out.below⟩
end Go.Proofs.Ytampkhdlhhgneaa
