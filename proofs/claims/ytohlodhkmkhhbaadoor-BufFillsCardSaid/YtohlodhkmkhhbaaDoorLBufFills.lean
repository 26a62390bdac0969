/-
  The law BufFills, walked.
-/
import Derived.Test.YtohlodhkmkhhbaaDoorB7
namespace Go.Proofs.YtohlodhkmkhhbaaDoor
open Go.RowKit Go.Proofs

theorem bufFills_law (c n : Int) (w : World) (hT : Tabs w) (_hc0 : 0 ≤ c) (_hc1 : c ≤ 255) (hn0 : -9223372036854775808 ≤ n) (hn1 : n ≤ 9223372036854775807) :
    Calls Tryd.prog 5 #[.int .u8 c, .int .i64 n] w fun e w' => e = .returned (.bool true) ∧ Below w.heap.size w w' := by
  have HT := hid hT
  clear hT
  have hA := fun W => fill_any c n W hn0 hn1
  have hB := fun W => reffill_any c n W hn0 hn1
  obtain ⟨r, hr⟩ : ∃ r, fillS c n = r := ⟨_, rfl⟩
  rw [hr] at hA hB
  have HA := hid hA
  have HB := hid hB
  clear hA hB hr
  go_enter Tryd.func5, Tryd.ntmps5
  go_wp2_with fail
  refine (HA.out _).mono ?_
  rintro e w1 ⟨rfl, hb1⟩
  go_wp2_with fail
  refine (HB.out _).mono ?_
  rintro e w2 ⟨rfl, hb2⟩
  have hb12 := hb1.trans (hb2.mono hb1.size)
  clear hb1 hb2
  go_wp2_with fail
  refine (lives_any _ (HT.out.below hb12)).mono ?_
  rintro e w3 ⟨rfl, hb3⟩
  go_wp2_with fail
  go_ret
  exact ⟨rfl, hb12.trans (hb3.mono hb12.size)⟩
end Go.Proofs.YtohlodhkmkhhbaaDoor
