/-
  The law BadVerbs, walked.
-/
import Derived.Test.YteifnddblnaepaaDoorD6
namespace Go.Proofs.YteifnddblnaepaaDoor
open Go.RowKit Go.Proofs

set_option maxRecDepth 100000 in
set_option maxHeartbeats 2000000 in
theorem badVerbs_law (c : Int) (s t : ByteArray) (w : World) (hT : TM w) (h0 : -2147483648 ≤ c) (h1 : c ≤ 2147483647) (_hs : s.size ≤ 140737488355328) (_ht : t.size ≤ 140737488355328) :
    Calls Tryd.prog 7 #[.int .i32 c, .string s, .string t] w fun e w' => e = .returned (.bool true) ∧ Below w.heap.size w w' := by
  have LV := hid (fun W hT => lives_any W hT)
  have CA := hid (lcut_any s w)
  have CB := hid (lcut_any t w)
  have za := lcut_size s
  have zb := lcut_size t
  obtain ⟨a, ha⟩ : ∃ a, s.extract 0 1000 = a := ⟨_, rfl⟩
  obtain ⟨b, hb⟩ : ∃ b, t.extract 0 1000 = b := ⟨_, rfl⟩
  rw [ha] at CA za
  rw [hb] at CB zb
  clear ha hb
  have V0 := hid (fun W => verb_any c a b W (by omega) (by omega))
  have V1 := hid (fun W => refverb_any c h0 h1 a b W (by omega) (by omega))
  have N0 := hid (fun W => nil_any c W)
  have N1 := hid (fun W => refnil_any c h0 h1 W)
  have M0 := hid (fun W => missing_any c W)
  have M1 := hid (fun W => refmissing_any c h0 h1 W)
  have I0 := hid (fun W => index_any c W)
  have I1 := hid (fun W => refindex_any c h0 h1 W)
  have P0 := hid (fun W => panic_any c a b W (by omega) (by omega))
  have P1 := hid (fun W => refpanic_any c h0 h1 a b W (by omega) (by omega))
  obtain ⟨r0, hr0⟩ : ∃ r, insS (Utf8.encode c) ((a ++ (⟨#[61]⟩ : ByteArray)) ++ b) = r := ⟨_, rfl⟩
  rw [hr0] at V0 V1
  obtain ⟨r1, hr1⟩ : ∃ r, insS (Utf8.encode c) (⟨#[60, 110, 105, 108, 62]⟩ : ByteArray) = r := ⟨_, rfl⟩
  rw [hr1] at N0 N1
  obtain ⟨r2, hr2⟩ : ∃ r, insS (Utf8.encode c) (⟨#[77, 73, 83, 83, 73, 78, 71]⟩ : ByteArray) = r := ⟨_, rfl⟩
  rw [hr2] at M0 M1
  obtain ⟨r3, hr3⟩ : ∃ r, insS (Utf8.encode c) (⟨#[66, 65, 68, 73, 78, 68, 69, 88]⟩ : ByteArray) = r := ⟨_, rfl⟩
  rw [hr3] at I0 I1
  obtain ⟨r4, hr4⟩ : ∃ r, insS (Utf8.encode c) ((((⟨#[80, 65, 78, 73, 67, 61]⟩ : ByteArray) ++ a) ++ (⟨#[32, 109, 101, 116, 104, 111, 100, 58, 32]⟩ : ByteArray)) ++ b) = r := ⟨_, rfl⟩
  rw [hr4] at P0 P1
  have HT := hid hT
  clear hr0 hr1 hr2 hr3 hr4 hT
  go_enter Tryd.func7, Tryd.ntmps7
  go_wp2_with fail
  refine CA.out.mono ?_
  rintro e w' ⟨rfl, hw⟩
  subst hw
  go_wp2_with fail
  refine CB.out.mono ?_
  rintro e w' ⟨rfl, hw⟩
  subst hw
  go_wp2_with fail
  refine (V0.out _).mono ?_
  rintro e w1 ⟨rfl, b1⟩
  have B1 := hid (b1)
  clear b1
  go_wp2_with fail
  refine (V1.out _).mono ?_
  rintro e w2 ⟨rfl, b2⟩
  have B2 := hid (B1.out.trans (b2.mono B1.out.size))
  clear b2
  go_wp2_with fail
  refine (N0.out _).mono ?_
  rintro e w3 ⟨rfl, b3⟩
  have B3 := hid (B2.out.trans (b3.mono B2.out.size))
  clear b3
  go_wp2_with fail
  refine (N1.out _).mono ?_
  rintro e w4 ⟨rfl, b4⟩
  have B4 := hid (B3.out.trans (b4.mono B3.out.size))
  clear b4
  go_wp2_with fail
  refine (M0.out _).mono ?_
  rintro e w5 ⟨rfl, b5⟩
  have B5 := hid (B4.out.trans (b5.mono B4.out.size))
  clear b5
  go_wp2_with fail
  refine (M1.out _).mono ?_
  rintro e w6 ⟨rfl, b6⟩
  have B6 := hid (B5.out.trans (b6.mono B5.out.size))
  clear b6
  go_wp2_with fail
  refine (I0.out _).mono ?_
  rintro e w7 ⟨rfl, b7⟩
  have B7 := hid (B6.out.trans (b7.mono B6.out.size))
  clear b7
  go_wp2_with fail
  refine (I1.out _).mono ?_
  rintro e w8 ⟨rfl, b8⟩
  have B8 := hid (B7.out.trans (b8.mono B7.out.size))
  clear b8
  go_wp2_with fail
  refine (P0.out _).mono ?_
  rintro e w9 ⟨rfl, b9⟩
  have B9 := hid (B8.out.trans (b9.mono B8.out.size))
  clear b9
  go_wp2_with fail
  refine (P1.out _).mono ?_
  rintro e w10 ⟨rfl, b10⟩
  have B10 := hid (B9.out.trans (b10.mono B9.out.size))
  clear b10
  go_wp2_with fail
  refine (LV.out _ (HT.out.below B10.out)).mono ?_
  rintro e w11 ⟨rfl, b11⟩
  have B11 := hid (B10.out.trans (b11.mono B10.out.size))
  clear b11
  go_wp2_with fail
  go_ret
  exact ⟨rfl, B11.out⟩
end Go.Proofs.YteifnddblnaepaaDoor
