/-
  The law BufDecodes, walked.
-/
import Derived.Test.YtohlodhkmkhhbaaDoorB7
namespace Go.Proofs.YtohlodhkmkhhbaaDoor
open Go.RowKit Go.Proofs

theorem bufDecodes_law (s : ByteArray) (w : World) (hT : Tabs w) (hs : s.size ≤ 140737488355328) :
    Calls Tryd.prog 4 #[.string s] w fun e w' => e = .returned (.bool true) ∧ Below w.heap.size w w' := by
  have HT := hid hT
  clear hT
  have hA := fun W hW => decode_any s W hW
  have hB := fun W => refdecode_any s W hs
  unfold Dec3 at hB
  obtain ⟨R, hR⟩ : ∃ R : Int, ((dec0 s.data.toList).1 : Int) = R := ⟨_, rfl⟩
  obtain ⟨K, hK⟩ : ∃ K : Int, ((dec0 s.data.toList).2 : Int) = K := ⟨_, rfl⟩
  obtain ⟨b, hb⟩ : ∃ b : Bool, decide (Utf.Broken s.data.toList) = b := ⟨_, rfl⟩
  rw [hR, hK] at hA hB
  rw [hb] at hB
  have HA := hid hA
  have HB := hid hB
  clear hA hB hR hK hb
  go_enter Tryd.func4, Tryd.ntmps4
  go_wp2_with fail
  refine (HA.out _ HT.out).mono ?_
  rintro e w1 ⟨rfl, hb1⟩
  go_wp2_with fail
  refine (HB.out _).mono ?_
  rintro e w2 ⟨rfl, hb2⟩
  have hb12 := hb1.trans (hb2.mono hb1.size)
  clear hb1 hb2
  go_wp2_with fail
  refine (lives_any _ (HT.out.below hb12)).mono ?_
  rintro e w3 ⟨rfl, hb3⟩
  go_wp2_with fail
  go_ret
  exact ⟨rfl, hb12.trans (hb3.mono hb12.size)⟩
end Go.Proofs.YtohlodhkmkhhbaaDoor
