/-
  The law QuoteReads, walked.
-/
import Derived.Test.YtfbekjgbijlcaaaDoorLV2
import Derived.Test.YtfbekjgbijlcaaaDoorQY
namespace Go.Proofs.YtfbekjgbijlcaaaDoor
open Go.RowKit Go.Proofs

set_option maxRecDepth 100000 in
set_option maxHeartbeats 1000000 in
theorem quoteReads_law (s : ByteArray) (w : World) (hT : Tabs w) (hs : s.size ≤ 140737488355328) :
    Calls Tryd.prog 3 #[.string s] w fun e w' => e = .returned (.bool true) ∧ Below w.heap.size w w' := by
  have LV := hid (fun W hT => lives_any W hT)
  have CU := hid (lcut_any s w hs)
  have hz := lcut_size s
  obtain ⟨c, hc⟩ : ∃ c, s.extract 0 1000 = c := ⟨_, rfl⟩
  rw [hc] at CU hz
  have UA := hid (fun W hT => unquote_any c W hT (by omega))
  have UB := hid (fun W => refunquote_any c W (by omega))
  rw [IP.unq_eq c4 c4_small] at UA
  obtain ⟨r, hr⟩ : ∃ r, IP.unqR c.data.toList = r := ⟨_, rfl⟩
  rw [hr] at UA UB
  have HT := hid hT
  clear hc hr hT
  cases r with
  | none =>
    simp only [uqT] at UA UB
    go_enter Tryd.func3, Tryd.ntmps3
    go_wp2_with fail
    refine CU.out.mono ?_
    rintro e w0 ⟨rfl, rfl⟩
    go_wp2_with fail
    refine (UA.out _ HT.out).mono ?_
    rintro e w1 ⟨rfl, b1⟩
    have B1 := hid b1
    clear b1
    go_wp2_with fail
    refine (UB.out _).mono ?_
    rintro e w2 ⟨rfl, b2⟩
    have B2 := hid (B1.out.trans (b2.mono B1.out.size))
    clear b2
    go_wp2_with fail
    refine (LV.out _ (HT.out.below B2.out)).mono ?_
    rintro e w3 ⟨rfl, b3⟩
    have B3 := hid (B2.out.trans (b3.mono B2.out.size))
    clear b3
    go_wp2_with fail
    go_ret
    exact ⟨rfl, B3.out⟩
  | some t =>
    simp only [uqT] at UA UB
    obtain ⟨T, hTT⟩ : ∃ T : ByteArray, (⟨t.toArray⟩ : ByteArray) = T := ⟨_, rfl⟩
    rw [hTT] at UA UB
    clear hTT
    go_enter Tryd.func3, Tryd.ntmps3
    go_wp2_with fail
    refine CU.out.mono ?_
    rintro e w0 ⟨rfl, rfl⟩
    go_wp2_with fail
    refine (UA.out _ HT.out).mono ?_
    rintro e w1 ⟨rfl, b1⟩
    have B1 := hid b1
    clear b1
    go_wp2_with fail
    refine (UB.out _).mono ?_
    rintro e w2 ⟨rfl, b2⟩
    have B2 := hid (B1.out.trans (b2.mono B1.out.size))
    clear b2
    go_wp2_with fail
    refine (LV.out _ (HT.out.below B2.out)).mono ?_
    rintro e w3 ⟨rfl, b3⟩
    have B3 := hid (B2.out.trans (b3.mono B2.out.size))
    clear b3
    go_wp2_with fail
    go_ret
    exact ⟨rfl, B3.out⟩
end Go.Proofs.YtfbekjgbijlcaaaDoor
