/-
  The law BadExtras, walked.
-/
import Derived.Test.YteifnddblnaepaaDoorD7
namespace Go.Proofs.YteifnddblnaepaaDoor
open Go.RowKit Go.Proofs

theorem fewL_len (xs : List ByteArray) : (fewL xs).length ≤ 40 := by unfold fewL; rw [List.length_map, List.length_take]; omega
theorem fewL_size (xs : List ByteArray) : ∀ x ∈ fewL xs, x.size ≤ 1000 := by
  intro x hx
  unfold fewL at hx
  obtain ⟨y, _, rfl⟩ := List.mem_map.1 hx
  exact lcut_size y
set_option maxRecDepth 100000 in
set_option maxHeartbeats 2000000 in
theorem badExtras_law (xs : List ByteArray) (va : Value) (ys : List ByteArray) (vb : Value) (w : World) (hT : TM w) (hA : SLo w va xs) (lx : xs.length ≤ 9223372036854775807) (hB : SLo w vb ys) (ly : ys.length ≤ 9223372036854775807) :
    Calls Tryd.prog 3 #[va, vb] w fun e w' => e = .returned (.bool true) ∧ Below w.heap.size w w' := by
  have LV := hid (fun W hT => lives_any W hT)
  have FA := hid (fun W h => fewO_any xs va W h lx)
  have FB := hid (fun W h => fewO_any ys vb W h ly)
  have XA := hid (fun W v v' h h' => extra_any (fewL xs) (fewL ys) v v' W h h' (fewL_len _) (fewL_len _) (fewL_size _) (fewL_size _))
  have XB := hid (fun W v v' h h' => refextra_any (fewL xs) (fewL ys) v v' W h h' (fewL_len _) (fewL_len _) (fewL_size _) (fewL_size _))
  obtain ⟨r, hr⟩ : ∃ r, insS ⟨#[]⟩ (extraJ (fewL xs) (fewL ys)) = r := ⟨_, rfl⟩
  rw [hr] at XA XB
  have HT := hid hT
  have HA := hid hA
  have HB := hid hB
  clear hr hT hA hB
  go_enter Tryd.func3, Tryd.ntmps3
  go_wp2_with fail
  refine (FA.out _ HA.out).mono ?_
  rintro e w1 ⟨v1, rfl, s1, b1⟩
  have B1 := hid b1
  have S1 := hid s1
  clear b1 s1
  go_wp2_with fail
  refine (FB.out _ (HB.out.below B1.out)).mono ?_
  rintro e w2 ⟨v2, rfl, s2, b2⟩
  have B2 := hid (B1.out.trans (b2.mono B1.out.size))
  have S2 := hid (And.intro (S1.out.below b2) s2)
  clear b2 s2 S1
  go_wp2_with fail
  refine (XA.out _ _ _ S2.out.1 S2.out.2).mono ?_
  rintro e w3 ⟨rfl, b3⟩
  have B3 := hid (B2.out.trans (b3.mono B2.out.size))
  clear b3 S2
  go_wp2_with fail
  refine (FA.out _ (HA.out.below B3.out)).mono ?_
  rintro e w4 ⟨v4, rfl, s4, b4⟩
  have B4 := hid (B3.out.trans (b4.mono B3.out.size))
  have S4 := hid s4
  clear b4 s4
  go_wp2_with fail
  refine (FB.out _ (HB.out.below B4.out)).mono ?_
  rintro e w5 ⟨v5, rfl, s5, b5⟩
  have B5 := hid (B4.out.trans (b5.mono B4.out.size))
  have S5 := hid (And.intro (S4.out.below b5) s5)
  clear b5 s5 S4
  go_wp2_with fail
  refine (XB.out _ _ _ S5.out.1 S5.out.2).mono ?_
  rintro e w6 ⟨rfl, b6⟩
  have B6 := hid (B5.out.trans (b6.mono B5.out.size))
  clear b6 S5
  go_wp2_with fail
  refine (LV.out _ (HT.out.below B6.out)).mono ?_
  rintro e w7 ⟨rfl, b7⟩
  have B7 := hid (B6.out.trans (b7.mono B6.out.size))
  clear b7
  go_wp2_with fail
  go_ret
  exact ⟨rfl, B7.out⟩
end Go.Proofs.YteifnddblnaepaaDoor
