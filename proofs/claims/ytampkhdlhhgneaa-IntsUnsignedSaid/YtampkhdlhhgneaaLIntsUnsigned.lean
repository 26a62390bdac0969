/-
  The law IntsUnsigned, walked.
-/
import Derived.Test.YtampkhdlhhgneaaQL
namespace Go.Proofs.Ytampkhdlhhgneaa
open Go.RowKit Go.Proofs

set_option maxRecDepth 100000 in
set_option maxHeartbeats 2000000 in
theorem intsUnsigned_law (v : Int) (pl mi sh sp ze : Bool) (wid prec verb : Int) (w : World) (_hT : Tabs w) (h0 : 0 ≤ v) (h1 : v ≤ 18446744073709551615) (hw0 : -9223372036854775808 ≤ wid) (hw1 : wid ≤ 9223372036854775807) (_hp0 : -9223372036854775808 ≤ prec) (_hp1 : prec ≤ 9223372036854775807) (_hr0 : -2147483648 ≤ verb) (_hr1 : verb ≤ 2147483647) :
    Calls Try.prog 5 #[.int .u64 v, .agg #[.bool pl, .bool mi, .bool sh, .bool sp, .bool ze, .int .i64 wid, .int .i64 prec, .int .i32 verb]] w fun e w' => e = .returned (.bool true) ∧ Below w.heap.size w w' := by
  have LV := hid (fun W => lives_any W)
  have SA := hid (fun W => unsigned_any v pl mi sh sp ze wid prec verb W h0 h1 hw0 hw1)
  have SB := hid (fun W => runsigned_any v pl mi sh sp ze wid prec verb W h0 h1 hw0 hw1)
  obtain ⟨s, ok, hR⟩ := tupS_form (unsignedS v.toNat pl mi sh sp ze wid prec verb)
  rw [hR] at SA SB
  clear hR
  have B0 := hid (bx_start w (sp8 pl mi sh sp ze wid prec verb))
  cases ok
  all_goals
    go_enter Try.func5, Try.ntmps5
    go_wp2_with fail
    refine (SA.out _).mono ?_
    rintro e w1 ⟨rfl, hb⟩
    have B1 := hid (B0.out.kept hb)
    clear hb
    obtain ⟨s0, s1, s2, s3, s4, s5, s6, s7⟩ := B1.out.cells
    go_wp2_with fail
    refine (SB.out _).mono ?_
    rintro e w2 ⟨rfl, hb⟩
    have B2 := hid (B1.out.kept hb)
    clear hb
    go_wp2_with fail
    refine (LV.out _).mono ?_
    rintro e w3 ⟨rfl, hb⟩
    have B3 := hid (B2.out.kept hb)
    clear hb
    go_wp2_with fail
    go_ret
    exact ⟨rfl, B3.out.below⟩
end Go.Proofs.Ytampkhdlhhgneaa
