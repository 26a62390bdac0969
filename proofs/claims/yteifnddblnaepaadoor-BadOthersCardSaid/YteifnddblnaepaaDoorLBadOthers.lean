/-
  The law BadOthers, walked.
-/
import Derived.Test.YteifnddblnaepaaDoorD8
namespace Go.Proofs.YteifnddblnaepaaDoor
open Go.RowKit Go.Proofs

set_option maxRecDepth 100000 in
set_option maxHeartbeats 2000000 in
theorem badOthers_law (c : Int) (s : ByteArray) (n : Int) (w : World) (hT : TM w) (_h0 : -2147483648 ≤ c) (_h1 : c ≤ 2147483647) (_hs : s.size ≤ 140737488355328) (hn0 : -9223372036854775808 ≤ n) (hn1 : n ≤ 9223372036854775807) :
    Calls Tryd.prog 5 #[.int .i32 c, .string s, .int .i64 n] w fun e w' => e = .returned (.bool true) ∧ Below w.heap.size w w' := by
  have LV := hid (fun W hT => lives_any W hT)
  have CA := hid (lcut_any s w)
  have za := lcut_size s
  obtain ⟨a, ha⟩ : ∃ a, s.extract 0 1000 = a := ⟨_, rfl⟩
  rw [ha] at CA za
  clear ha
  have VE := hid (fun W => verb_any c ⟨#[84]⟩ a W (by decide) (by omega))
  obtain ⟨S, hS⟩ : ∃ S, insS (Utf8.encode c) (((⟨#[84]⟩ : ByteArray) ++ (⟨#[61]⟩ : ByteArray)) ++ a) = S := ⟨_, rfl⟩
  have hSz : 1 ≤ S.size ∧ S.size ≤ 2000 := by
    rw [← hS]
    unfold insS
    simp only [ByteArray.size_append]
    have e1 : (⟨#[37, 33]⟩ : ByteArray).size = 2 := rfl
    have e2 : (⟨#[40]⟩ : ByteArray).size = 1 := rfl
    have e3 : (⟨#[41]⟩ : ByteArray).size = 1 := rfl
    have e4 : (⟨#[84]⟩ : ByteArray).size = 1 := rfl
    have e5 : (⟨#[61]⟩ : ByteArray).size = 1 := rfl
    have e6 := enc_size c
    omega
  rw [hS] at VE
  obtain ⟨z1, z2⟩ := hSz
  obtain ⟨m, hm⟩ : ∃ m : Nat, max 0 (min n ((S.size : Int) - 1)) = (m : Int) := ⟨(max 0 (min n ((S.size : Int) - 1))).toNat, by omega⟩
  have hm1 : m < S.size := by omega
  have RX := hid (fun W hT => read_any ((⟨#[120]⟩ : ByteArray) ++ S) W hT (by rw [ByteArray.size_append]; have e1 : (⟨#[120]⟩ : ByteArray).size = 1 := rfl; omega))
  have e0 : readV ((⟨#[120]⟩ : ByteArray) ++ S).data.toList = .tuple #[.int .i64 0, .int .i32 0, .string ⟨#[]⟩] := by
    rw [show ((⟨#[120]⟩ : ByteArray) ++ S).data.toList = 120 :: S.data.toList by simp]
    exact readV_x _
  rw [e0] at RX
  obtain ⟨T, hTT⟩ : ∃ T, S.extract 0 m = T := ⟨_, rfl⟩
  have hTz : T.size ≤ 2000 := by rw [← hTT, ByteArray.size_extract]; omega
  have RT := hid (fun W hT => read_any T W hT (by omega))
  have HT := hid hT
  have hcase : (readV T.data.toList = .tuple #[.int .i64 0, .int .i32 0, .string ⟨#[]⟩]) ∨ (0 < m ∧ bt S (m - 1) = 41 ∧ ∃ k d r, k ≠ 0 ∧ readV T.data.toList = .tuple #[.int .i64 k, .int .i32 d, .string r]) := by
    by_cases h : (readA T.data.toList).1 = 0
    · exact Or.inl (readV_none _ h)
    · obtain ⟨t, ht⟩ := readA_end _ h
      rw [← hTT] at ht
      have hl := bt_last m ht (by omega)
      exact Or.inr ⟨hl.1, hl.2, _, _, _, h, rfl⟩
  clear hS e0 hT
  rcases hcase with hV | ⟨hp, hq, k, d, r, hk, hV⟩
  · rw [hV] at RT
    clear hV
    go_enter Tryd.func5, Tryd.ntmps5
    go_wp2_with fail
    refine CA.out.mono ?_
    rintro e w' ⟨rfl, hw⟩
    subst hw
    go_wp2_with fail
    refine (VE.out _).mono ?_
    rintro e w1 ⟨rfl, b1⟩
    have B1 := hid b1
    clear b1
    go_wp2_with fail
    refine (RX.out _ (HT.out.below B1.out)).mono ?_
    rintro e w2 ⟨rfl, b2⟩
    have B2 := hid (B1.out.trans (b2.mono B1.out.size))
    clear b2
    go_wp2_with fail
    refine (RT.out _ (HT.out.below B2.out)).mono ?_
    rintro e w3 ⟨rfl, b3⟩
    have B3 := hid (B2.out.trans (b3.mono B2.out.size))
    clear b3
    go_wp2_with fail
    refine (LV.out _ (HT.out.below B3.out)).mono ?_
    rintro e w4 ⟨rfl, b4⟩
    have B4 := hid (B3.out.trans (b4.mono B3.out.size))
    clear b4
    go_wp2_with fail
    go_ret
    exact ⟨rfl, B4.out⟩
  · rw [hV] at RT
    have k1 : (k != 0) = true := by simpa using hk
    have k2 : (k == 0) = false := by simpa using hk
    obtain ⟨p, hp1⟩ : ∃ p, m = p + 1 := ⟨m - 1, by omega⟩
    have hsub : (m : Int) - 1 = (p : Int) := by omega
    have hpS : p < S.size := by omega
    have E0 := bt_at S p hpS
    rw [show m - 1 = p by omega] at hq
    rw [hq] at E0
    have hge : 1 ≤ (m : Int) := by omega
    clear hV hq hp hp1 hk
    go_enter Tryd.func5, Tryd.ntmps5
    go_wp2_with fail
    refine CA.out.mono ?_
    rintro e w' ⟨rfl, hw⟩
    subst hw
    go_wp2_with fail
    refine (VE.out _).mono ?_
    rintro e w1 ⟨rfl, b1⟩
    have B1 := hid b1
    clear b1
    go_wp2_with fail
    refine (RX.out _ (HT.out.below B1.out)).mono ?_
    rintro e w2 ⟨rfl, b2⟩
    have B2 := hid (B1.out.trans (b2.mono B1.out.size))
    clear b2
    go_wp2_with fail
    refine (RT.out _ (HT.out.below B2.out)).mono ?_
    rintro e w3 ⟨rfl, b3⟩
    have B3 := hid (B2.out.trans (b3.mono B2.out.size))
    clear b3
    go_wp2_with fail
    refine (LV.out _ (HT.out.below B3.out)).mono ?_
    rintro e w4 ⟨rfl, b4⟩
    have B4 := hid (B3.out.trans (b4.mono B3.out.size))
    clear b4
    go_wp2_with fail
    go_ret
    exact ⟨rfl, B4.out⟩
end Go.Proofs.YteifnddblnaepaaDoor
