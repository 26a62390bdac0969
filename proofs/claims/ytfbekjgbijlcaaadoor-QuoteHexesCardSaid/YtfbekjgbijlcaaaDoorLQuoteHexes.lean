/-
  The law QuoteHexes, walked.
-/
import Derived.Test.YtfbekjgbijlcaaaDoorLV2
import Derived.Test.YtfbekjgbijlcaaaDoorQH3
namespace Go.Proofs.YtfbekjgbijlcaaaDoor
open Go.RowKit Go.Proofs

set_option maxRecDepth 100000 in
set_option maxHeartbeats 2000000 in
theorem quoteHexes_law (s : ByteArray) (pl mi sh sp ze : Bool) (wid prec verb : Int) (w : World) (hT : Tabs w) (hs : s.size ≤ 140737488355328) (hw0 : -9223372036854775808 ≤ wid) (hw1 : wid ≤ 9223372036854775807) (_hp0 : -9223372036854775808 ≤ prec) (_hp1 : prec ≤ 9223372036854775807) (_hr0 : -2147483648 ≤ verb) (_hr1 : verb ≤ 2147483647) :
    Calls Tryd.prog 4 #[.string s, .agg #[.bool pl, .bool mi, .bool sh, .bool sp, .bool ze, .int .i64 wid, .int .i64 prec, .int .i32 verb]] w fun e w' => e = .returned (.bool true) ∧ Below w.heap.size w w' := by
  have T0 := hid (tx_start w hT (sp8 pl mi sh sp ze wid prec verb))
  have LV := hid (Tx.lift (w := w) (H := w.heap.size) pl mi sh sp ze wid prec verb (fun W hT => lives_any W hT))
  have hz := lcut_size s
  have CU0 := fun W => lcut_any s W hs
  obtain ⟨c, hc⟩ : ∃ c, s.extract 0 1000 = c := ⟨_, rfl⟩
  rw [hc] at CU0 hz
  have CU := hid CU0
  have TA0 := fun W => hex_any c pl mi sh sp ze wid prec verb W (by omega) hw0 hw1
  have TB0 := fun W => refhex_any c pl mi sh sp ze wid prec verb W (by omega) hw0 hw1
  obtain ⟨r, hr⟩ : ∃ r, padS (⟨(IP.hexS sh sp prec verb c.data.toList).toArray⟩ : ByteArray) mi ze wid = r := ⟨_, rfl⟩
  rw [hr] at TA0 TB0
  have TA := hid (Tx.lift (w := w) (H := w.heap.size) pl mi sh sp ze wid prec verb (fun W _ => TA0 W))
  have TB := hid (Tx.lift (w := w) (H := w.heap.size) pl mi sh sp ze wid prec verb (fun W _ => TB0 W))
  obtain ⟨c0, c1, c2, c3, c4', c5, c6, c7⟩ := blk_cells _ _ _ _ _ _ _ _ T0.out.blk
  clear hc hr hT CU0 TA0 TB0
  go_enter Tryd.func4, Tryd.ntmps4
  go_upto_region 2 with fail
  go_wp2_with fail
  refine (CU.out _).mono ?_
  rintro e w0 ⟨rfl, rfl⟩
  go_upto_region 2 with fail
  obtain ⟨W0, hW0⟩ : ∃ W0, w.alloc (.cells (sp8 pl mi sh sp ze wid prec verb) 28) = W0 := ⟨_, rfl⟩
  rw [hW0] at T0 c0 c1 c2 c3 c4' c5 c6 c7 ⊢
  clear hW0
  have st0 := T0.out.drew
  go_region_with (first | (go_at_call 15; refine (TA.out _ (by assumption)).mono ?_; rintro e w9 ⟨rfl, st, k0, k1, k2, k3, k4, k5, k6, k7⟩) | (go_at_call 16; refine (TB.out _ (by assumption)).mono ?_; rintro e w9 ⟨rfl, st, k0, k1, k2, k3, k4, k5, k6, k7⟩) | (go_at_call 14; refine (LV.out _ (by assumption)).mono ?_; rintro e w9 ⟨rfl, st, k0, k1, k2, k3, k4, k5, k6, k7⟩))
  all_goals
    have ST := hid st
    clear st
    go_wp2_with fail
    go_ret
    exact ⟨rfl, ST.out.below⟩
end Go.Proofs.YtfbekjgbijlcaaaDoor
