/-
  The law QuoteChars, walked.
-/
import Derived.Test.YtfbekjgbijlcaaaDoorLV2
import Derived.Test.YtfbekjgbijlcaaaDoorRC
namespace Go.Proofs.YtfbekjgbijlcaaaDoor
open Go.RowKit Go.Proofs

set_option maxRecDepth 100000 in
set_option maxHeartbeats 1000000 in
theorem quoteChars_law (c : Int) (ascii : Bool) (w : World) (hT : Tabs w) (hc0 : -2147483648 ≤ c) (hc1 : c ≤ 2147483647) :
    Calls Tryd.prog 9 #[.int .i32 c, .bool ascii] w fun e w' => e = .returned (.bool true) ∧ Below w.heap.size w w' := by
  have LV := hid (fun W hT => lives_any W hT)
  have CA := hid (fun W => char_any c ascii W hc0 hc1)
  have CB := hid (fun W => rchar_any c ascii W hc0 hc1)
  obtain ⟨T, hTT⟩ : ∃ T : ByteArray, (⟨(IP.charL c ascii).toArray⟩ : ByteArray) = T := ⟨_, rfl⟩
  rw [hTT] at CA CB
  have HT := hid hT
  clear hTT hT
  go_enter Tryd.func9, Tryd.ntmps9
  go_wp2_with fail
  refine (CA.out _).mono ?_
  rintro e w1 ⟨rfl, b1⟩
  have B1 := hid b1
  clear b1
  go_wp2_with fail
  refine (CB.out _).mono ?_
  rintro e w2 ⟨rfl, b2⟩
  have B2 := hid (B1.out.trans (b2.mono B1.out.size))
  clear b2
  go_wp2_with fail
  refine (LV.out _ (HT.out.below B2.out)).mono ?_
  rintro e w3 ⟨rfl, b3⟩
  have B3 := hid (B2.out.trans (b3.mono B2.out.size))
  clear b3
  go_wp2_with fail
  go_ret
  exact ⟨rfl, B3.out⟩
end Go.Proofs.YtfbekjgbijlcaaaDoor
