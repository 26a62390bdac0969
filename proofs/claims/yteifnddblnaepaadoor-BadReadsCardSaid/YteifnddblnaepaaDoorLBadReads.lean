/-
  The law BadReads, walked.
-/
import Derived.Test.YteifnddblnaepaaDoorD11
import Derived.Test.YteifnddblnaepaaDoorD12
import Derived.Test.YteifnddblnaepaaDoorD13
namespace Go.Proofs.YteifnddblnaepaaDoor
open Go.RowKit Go.Proofs

theorem refread_any (s : ByteArray) (w : World) (hs : s.size ≤ 100000) :
    Calls Tryd.prog 15 #[.string s] w fun e w' => e = .returned (readV s.data.toList) ∧ Below w.heap.size w w' := by
  unfold readV
  rw [readB_eq]
  by_cases h4 : s.size < 4
  · exact refread_short s w hs (Or.inl h4)
  · cases h1 : Lib.hasPrefix s.data.toList [37, 33] with
    | false => exact refread_short s w hs (Or.inr (Or.inl h1))
    | true =>
      by_cases h2 : bt s (s.size - 1) = 41
      · by_cases h3 : bt s 2 = 40
        · by_cases h5 : bt s 3 = 40
          · exact refread_two s w hs (by omega) h1 h2 h3 h5
          · exact refread_bare s w hs (by omega) h1 h2 h3 h5
        · exact refread_one s w hs (by omega) h1 h2 h3
      · exact refread_short s w hs (Or.inr (Or.inr h2))

set_option maxRecDepth 100000 in
set_option maxHeartbeats 1000000 in
theorem badReads_law (s : ByteArray) (w : World) (hT : TM w) (_hs : s.size ≤ 140737488355328) :
    Calls Tryd.prog 4 #[.string s] w fun e w' => e = .returned (.bool true) ∧ Below w.heap.size w w' := by
  have LV := hid (fun W hT => lives_any W hT)
  have CA := hid (lcut_any s w)
  have za := lcut_size s
  obtain ⟨a, ha⟩ : ∃ a, s.extract 0 1000 = a := ⟨_, rfl⟩
  rw [ha] at CA za
  have RA := hid (fun W hT => read_any a W hT (by omega))
  have RB := hid (fun W => refread_any a W (by omega))
  obtain ⟨k, c, t, hr⟩ : ∃ k c t, readV a.data.toList = .tuple #[.int .i64 k, .int .i32 c, .string t] := ⟨_, _, _, rfl⟩
  rw [hr] at RA RB
  have HT := hid hT
  clear ha hr hT
  go_enter Tryd.func4, Tryd.ntmps4
  go_wp2_with fail
  refine CA.out.mono ?_
  rintro e w' ⟨rfl, hw⟩
  subst hw
  go_wp2_with fail
  refine (RA.out _ HT.out).mono ?_
  rintro e w1 ⟨rfl, b1⟩
  have B1 := hid b1
  clear b1
  go_wp2_with fail
  refine (RB.out _).mono ?_
  rintro e w2 ⟨rfl, b2⟩
  have B2 := hid (B1.out.trans (b2.mono B1.out.size))
  clear b2
  go_wp2_with fail
  refine (LV.out _ (HT.out.below B2.out)).mono ?_
  rintro e w3 ⟨rfl, b3⟩
  have B3 := hid (B2.out.trans (b3.mono B2.out.size))
  clear b3
  go_wp2_with fail
  go_ret
  exact ⟨rfl, B3.out⟩
end Go.Proofs.YteifnddblnaepaaDoor
