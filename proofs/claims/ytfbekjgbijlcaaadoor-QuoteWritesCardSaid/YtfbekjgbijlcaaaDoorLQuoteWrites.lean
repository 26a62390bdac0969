/-
  The law QuoteWrites, walked.
-/
import Derived.Test.YtfbekjgbijlcaaaDoorLV2
import Derived.Test.YtfbekjgbijlcaaaDoorQTy
namespace Go.Proofs.YtfbekjgbijlcaaaDoor
open Go.RowKit Go.Proofs

set_option maxRecDepth 100000 in
set_option maxHeartbeats 1000000 in
theorem quoteWrites_law (s : ByteArray) (pl mi sh sp ze : Bool) (wid prec verb : Int) (w : World) (hT : Tabs w) (hs : s.size ≤ 140737488355328) (hw0 : -9223372036854775808 ≤ wid) (hw1 : wid ≤ 9223372036854775807) (hp0 : -9223372036854775808 ≤ prec) (hp1 : prec ≤ 9223372036854775807) (_hr0 : -2147483648 ≤ verb) (_hr1 : verb ≤ 2147483647) :
    Calls Tryd.prog 5 #[.string s, .agg #[.bool pl, .bool mi, .bool sh, .bool sp, .bool ze, .int .i64 wid, .int .i64 prec, .int .i32 verb]] w fun e w' => e = .returned (.bool true) ∧ Below w.heap.size w w' := by
  have T0 := hid (tx_start w hT (sp8 pl mi sh sp ze wid prec verb))
  have LV := hid (Tx.lift (w := w) (H := w.heap.size) pl mi sh sp ze wid prec verb (fun W hT => lives_any W hT))
  have hz := lcut_size s
  have CU0 := fun W => lcut_any s W hs
  obtain ⟨c, hc⟩ : ∃ c, s.extract 0 1000 = c := ⟨_, rfl⟩
  rw [hc] at CU0 hz
  have CU := hid CU0
  have TA := hid (Tx.lift (w := w) (H := w.heap.size) pl mi sh sp ze wid prec verb (fun W hT => text_any c pl mi sh sp ze wid prec verb W hT (by omega) hw0 hw1 hp0 hp1))
  have TB := hid (Tx.lift (w := w) (H := w.heap.size) pl mi sh sp ze wid prec verb (fun W hT => reftext_any c pl mi sh sp ze wid prec verb W hT (by omega) hw0 hw1 hp0 hp1))
  obtain ⟨r, hr⟩ : ∃ r, textS pl mi sh sp ze wid prec verb c = r := ⟨_, rfl⟩
  rw [hr] at TA TB
  obtain ⟨c0, c1, c2, c3, c4', c5, c6, c7⟩ := blk_cells _ _ _ _ _ _ _ _ T0.out.blk
  clear hc hr hT CU0
  cases r with
  | none =>
    simp only [tupB] at TA TB
    go_enter Tryd.func5, Tryd.ntmps5
    go_wp2_with fail
    refine (CU.out _).mono ?_
    rintro e w0 ⟨rfl, rfl⟩
    go_wp2_with fail
    refine (TA.out _ T0.out).mono ?_
    rintro e w1 ⟨rfl, st1, k0, k1, k2, k3, k4, k5, k6, k7⟩
    have ST1 := hid st1
    clear st1
    go_wp2_with fail
    refine (TB.out _ ST1.out).mono ?_
    rintro e w2 ⟨rfl, st2, _⟩
    have ST2 := hid st2
    clear st2
    go_wp2_with fail
    refine (LV.out _ ST2.out).mono ?_
    rintro e w3 ⟨rfl, st3, _⟩
    have ST3 := hid st3
    clear st3
    go_wp2_with fail
    go_ret
    exact ⟨rfl, ST3.out.below⟩
  | some t =>
    simp only [tupB] at TA TB
    go_enter Tryd.func5, Tryd.ntmps5
    go_wp2_with fail
    refine (CU.out _).mono ?_
    rintro e w0 ⟨rfl, rfl⟩
    go_wp2_with fail
    refine (TA.out _ T0.out).mono ?_
    rintro e w1 ⟨rfl, st1, k0, k1, k2, k3, k4, k5, k6, k7⟩
    have ST1 := hid st1
    clear st1
    go_wp2_with fail
    refine (TB.out _ ST1.out).mono ?_
    rintro e w2 ⟨rfl, st2, _⟩
    have ST2 := hid st2
    clear st2
    go_wp2_with fail
    refine (LV.out _ ST2.out).mono ?_
    rintro e w3 ⟨rfl, st3, _⟩
    have ST3 := hid st3
    clear st3
    go_wp2_with fail
    go_ret
    exact ⟨rfl, ST3.out.below⟩
end Go.Proofs.YtfbekjgbijlcaaaDoor
