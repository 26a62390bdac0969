/-
  Walks of layer 10: the program's Read.
-/
import Derived.Test.YteifnddblnaepaaDoorD2
namespace Go.Proofs.YteifnddblnaepaaDoor
open Go.RowKit Go.Proofs

/-- What 'Read' answers: which text, its verb, its inside. -/
def readA (l : List UInt8) : Int × Int × List UInt8 :=
  if Lib.hasPrefix l [37, 33] = true then
    if Lib.hasPrefix (l.drop 2) [40] = true ∧ Lib.hasPrefix (Lib.trimPrefix (l.drop 2) [40]) [40] = false then
      if Lib.hasSuffix (Lib.trimPrefix (l.drop 2) [40]) [41] = true ∧ bareP (Lib.trimSuffix (Lib.trimPrefix (l.drop 2) [40]) [41]) ≠ 0 then
        (bareP (Lib.trimSuffix (Lib.trimPrefix (l.drop 2) [40]) [41]), 0, Lib.trimSuffix (Lib.trimPrefix (l.drop 2) [40]) [41])
      else (0, 0, [])
    else if (dec0 (l.drop 2)).2 = 0 ∨ ((dec0 (l.drop 2)).1 = 65533 ∧ (dec0 (l.drop 2)).2 = 1) then (0, 0, [])
    else if Lib.hasPrefix ((l.drop 2).drop (dec0 (l.drop 2)).2) [40] = true ∧ Lib.hasSuffix (Lib.trimPrefix ((l.drop 2).drop (dec0 (l.drop 2)).2) [40]) [41] = true
        ∧ verbedP (Lib.trimSuffix (Lib.trimPrefix ((l.drop 2).drop (dec0 (l.drop 2)).2) [40]) [41]) ≠ 0 then
      (verbedP (Lib.trimSuffix (Lib.trimPrefix ((l.drop 2).drop (dec0 (l.drop 2)).2) [40]) [41]), ((dec0 (l.drop 2)).1 : Int), Lib.trimSuffix (Lib.trimPrefix ((l.drop 2).drop (dec0 (l.drop 2)).2) [40]) [41])
    else (0, 0, [])
  else (0, 0, [])
def tup3 (r : Int × Int × List UInt8) : Value := .tuple #[.int .i64 r.1, .int .i32 r.2.1, .string ⟨r.2.2.toArray⟩]
def readV (l : List UInt8) : Value := tup3 (readA l)
theorem trimP_le (l p : List UInt8) : (Lib.trimPrefix l p).length ≤ l.length := by
  unfold Lib.trimPrefix
  split <;> simp
theorem trimS_le (l p : List UInt8) : (Lib.trimSuffix l p).length ≤ l.length := by
  unfold Lib.trimSuffix
  split <;> simp <;> omega
/-- The head of a text cut off. -/
theorem cutp (s p : ByteArray) : ∃ R : ByteArray, R.data.toList = Lib.trimPrefix s.data.toList p.data.toList ∧ R.size ≤ s.size ∧
    Hid (∀ W, Calls Tryd.prog 32 #[.string s, .string p] W fun e w' => e = .returned (.tuple #[.string R, .bool (Lib.hasPrefix s.data.toList p.data.toList)]) ∧ w' = W) :=
  ⟨⟨(Lib.trimPrefix s.data.toList p.data.toList).toArray⟩, by simp, by rw [Utf.size_eq, Utf.size_eq]; exact trimP_le _ _, hid fun W => Tryd.strings_CutPrefix s p W⟩
theorem cuts (s p : ByteArray) (hs : s.size ≤ 100000) : ∃ R : ByteArray, R.data.toList = Lib.trimSuffix s.data.toList p.data.toList ∧ R.size ≤ s.size ∧
    Hid (∀ W, Calls Tryd.prog 34 #[.string s, .string p] W fun e w' => e = .returned (.tuple #[.string R, .bool (Lib.hasSuffix s.data.toList p.data.toList)]) ∧ w' = W) :=
  ⟨⟨(Lib.trimSuffix s.data.toList p.data.toList).toArray⟩, by simp, by rw [Utf.size_eq, Utf.size_eq]; exact trimS_le _ _, hid fun W => Tryd.strings_CutSuffix s p W (by omega)⟩
theorem drop_bytes (s : ByteArray) (k : Nat) : (s.extract k s.size).data.toList = s.data.toList.drop k := by
  rw [Lib.extract_data, Utf.size_eq, List.take_of_length_le]
  simp
theorem dec0_lt (l : List UInt8) : (dec0 l).2 ≤ l.length := by
  unfold dec0
  by_cases h : l = []
  · rw [if_pos h]; exact Nat.zero_le _
  · rw [if_neg h]
    have := Utf.dec_le l h
    omega
theorem bare_lt (l : List UInt8) : 0 ≤ bareP l ∧ bareP l ≤ 10 := by
  unfold bareP
  repeat' split
  all_goals omega
theorem verbed_lt (l : List UInt8) : 0 ≤ verbedP l ∧ verbedP l ≤ 5 := by
  unfold verbedP
  repeat' split
  all_goals omega

set_option maxRecDepth 100000 in
set_option maxHeartbeats 4000000 in
theorem read_any (s : ByteArray) (w : World) (hT : TM w) (hs : s.size ≤ 100000) :
    Calls Tryd.prog 14 #[.string s] w fun e w' => e = .returned (readV s.data.toList) ∧ Below w.heap.size w w' := by
  obtain ⟨R, hR, zR, CP⟩ := cutp s ⟨#[37, 33]⟩
  obtain ⟨I, hI, zI, CI⟩ := cutp R ⟨#[40]⟩
  obtain ⟨J, hJ, zJ, CJ⟩ := cuts I ⟨#[41]⟩ (by omega)
  have HP := hid (fun W => Tryd.strings_HasPrefix I ⟨#[40]⟩ W)
  have BA := hid (fun W => bare_any J W)
  have hn := dec0_lt R.data.toList
  have DE := hid (fun W hT => decode_any R W hT)
  obtain ⟨r, hr⟩ : ∃ r, readV s.data.toList = r := ⟨_, rfl⟩
  rw [hr]
  unfold readV readA at hr
  have E1 : ∀ l : List UInt8, Lib.hasPrefix l (⟨#[37, 33]⟩ : ByteArray).data.toList = Lib.hasPrefix l [37, 33] := fun _ => rfl
  have E2 : ∀ l : List UInt8, Lib.hasPrefix l (⟨#[40]⟩ : ByteArray).data.toList = Lib.hasPrefix l [40] := fun _ => rfl
  have E3 : ∀ l : List UInt8, Lib.hasSuffix l (⟨#[41]⟩ : ByteArray).data.toList = Lib.hasSuffix l [41] := fun _ => rfl
  rw [E1] at CP
  rw [E2] at CI HP
  rw [E3] at CJ
  obtain ⟨b1, h1⟩ : ∃ b, Lib.hasPrefix s.data.toList [37, 33] = b := ⟨_, rfl⟩
  rw [h1] at CP hr
  cases b1 with
  | false =>
    rw [if_neg (by simp)] at hr
    subst hr
    clear hR zR CI hI zI CJ hJ zJ HP BA hn DE E1 E2 E3 h1 hT
    go_enter Tryd.func14, Tryd.ntmps14
    go_wp2_with fail
    refine (CP.out _).mono ?_
    rintro e w' ⟨rfl, hw⟩
    subst hw
    go_wp2_with fail
    go_ret3
    exact ⟨rfl, Below.refl _ _⟩
  | true =>
    rw [if_pos rfl] at hr
    have hR2 : s.data.toList.drop 2 = R.data.toList := by
      rw [hR]
      show _ = Lib.trimPrefix s.data.toList [37, 33]
      unfold Lib.trimPrefix
      rw [if_pos h1]
      rfl
    have hI2 : Lib.trimPrefix R.data.toList [40] = I.data.toList := hI.symm
    have hJ2 : Lib.trimSuffix I.data.toList [41] = J.data.toList := hJ.symm
    rw [hR2, hI2, hJ2] at hr
    clear hR hI hJ hR2 hI2 hJ2 h1
    obtain ⟨b2, h2⟩ : ∃ b, Lib.hasPrefix R.data.toList [40] = b := ⟨_, rfl⟩
    obtain ⟨b3, h3⟩ : ∃ b, Lib.hasPrefix I.data.toList [40] = b := ⟨_, rfl⟩
    rw [h2] at CI hr
    rw [h3] at HP hr
    by_cases hc : b2 = true ∧ b3 = false
    · rw [if_pos hc] at hr
      obtain ⟨rfl, rfl⟩ := hc
      clear h2 h3 DE hn
      obtain ⟨b4, h4⟩ : ∃ b, Lib.hasSuffix I.data.toList [41] = b := ⟨_, rfl⟩
      have hk := bare_lt J.data.toList
      obtain ⟨k, hkk⟩ : ∃ k, bareP J.data.toList = k := ⟨_, rfl⟩
      rw [h4] at CJ hr
      rw [hkk] at BA hk hr
      clear h4 hkk
      have hJJ : (⟨J.data.toList.toArray⟩ : ByteArray) = J := Lib.mk_data J
      cases b4 with
      | false =>
        rw [if_neg (by simp)] at hr
        subst hr
        clear hJJ E1 E2 E3
        go_enter Tryd.func14, Tryd.ntmps14
        go_wp2_with fail
        refine (CP.out _).mono ?_
        rintro e w' ⟨rfl, hw⟩
        subst hw
        go_wp2_with fail
        refine (CI.out _).mono ?_
        rintro e w' ⟨rfl, hw⟩
        subst hw
        go_wp2_with fail
        refine (HP.out _).mono ?_
        rintro e w' ⟨rfl, hw⟩
        subst hw
        go_wp2_with fail
        refine (CJ.out _).mono ?_
        rintro e w' ⟨rfl, hw⟩
        subst hw
        go_wp2_with fail
        refine (BA.out _).mono ?_
        rintro e w' ⟨rfl, hw⟩
        subst hw
        go_wp2_with fail
        go_ret3
        exact ⟨rfl, Below.refl _ _⟩
      | true =>
        by_cases h0 : k = 0
        · rw [if_neg (by simp [h0])] at hr
          subst hr
          subst h0
          clear hJJ E1 E2 E3
          go_enter Tryd.func14, Tryd.ntmps14
          go_wp2_with fail
          refine (CP.out _).mono ?_
          rintro e w' ⟨rfl, hw⟩
          subst hw
          go_wp2_with fail
          refine (CI.out _).mono ?_
          rintro e w' ⟨rfl, hw⟩
          subst hw
          go_wp2_with fail
          refine (HP.out _).mono ?_
          rintro e w' ⟨rfl, hw⟩
          subst hw
          go_wp2_with fail
          refine (CJ.out _).mono ?_
          rintro e w' ⟨rfl, hw⟩
          subst hw
          go_wp2_with fail
          refine (BA.out _).mono ?_
          rintro e w' ⟨rfl, hw⟩
          subst hw
          go_wp2_with fail
          go_ret3
          exact ⟨rfl, Below.refl _ _⟩
        · rw [if_pos ⟨rfl, h0⟩] at hr
          have hr2 : r = .tuple #[.int .i64 k, .int .i32 0, .string J] := by rw [← hr]; unfold tup3; rw [hJJ]
          subst hr2
          have hk1 : (k != 0) = true := by simpa using h0
          have hk2 : (k == 0) = false := by simpa using h0
          clear hr hJJ E1 E2 E3
          go_enter Tryd.func14, Tryd.ntmps14
          go_wp2_with fail
          refine (CP.out _).mono ?_
          rintro e w' ⟨rfl, hw⟩
          subst hw
          go_wp2_with fail
          refine (CI.out _).mono ?_
          rintro e w' ⟨rfl, hw⟩
          subst hw
          go_wp2_with fail
          refine (HP.out _).mono ?_
          rintro e w' ⟨rfl, hw⟩
          subst hw
          go_wp2_with fail
          refine (CJ.out _).mono ?_
          rintro e w' ⟨rfl, hw⟩
          subst hw
          go_wp2_with fail
          refine (BA.out _).mono ?_
          rintro e w' ⟨rfl, hw⟩
          subst hw
          go_wp2_with fail
          go_ret3
          exact ⟨rfl, Below.refl _ _⟩
    · rw [if_neg hc] at hr
      clear h2 h3 CJ BA zJ
      obtain ⟨c, hcc⟩ : ∃ c, (dec0 R.data.toList).1 = c := ⟨_, rfl⟩
      obtain ⟨n, hnn⟩ : ∃ n, (dec0 R.data.toList).2 = n := ⟨_, rfl⟩
      rw [hcc, hnn] at DE hr
      rw [hnn, ← Utf.size_eq] at hn
      clear hcc hnn
      have hX := drop_bytes R n
      have hXz : (R.extract n R.size).size ≤ R.size := by rw [ByteArray.size_extract]; omega
      obtain ⟨X, hXX⟩ : ∃ X, R.extract n R.size = X := ⟨_, rfl⟩
      rw [hXX] at hX hXz
      obtain ⟨I2, hI2, zI2, CK⟩ := cutp X ⟨#[40]⟩
      obtain ⟨J2, hJ2, zJ2, CL⟩ := cuts I2 ⟨#[41]⟩ (by omega)
      have VB := hid (fun W hM => verbed_any J2 W hM (by omega))
      rw [E2] at CK
      rw [E3] at CL
      have hI3 : Lib.trimPrefix X.data.toList [40] = I2.data.toList := hI2.symm
      have hJ3 : Lib.trimSuffix I2.data.toList [41] = J2.data.toList := hJ2.symm
      rw [← hX, hI3, hJ3] at hr
      have hJJ : (⟨J2.data.toList.toArray⟩ : ByteArray) = J2 := Lib.mk_data J2
      obtain ⟨b5, h5⟩ : ∃ b, Lib.hasPrefix X.data.toList [40] = b := ⟨_, rfl⟩
      obtain ⟨b6, h6⟩ : ∃ b, Lib.hasSuffix I2.data.toList [41] = b := ⟨_, rfl⟩
      have hk := verbed_lt J2.data.toList
      obtain ⟨k, hkk⟩ : ∃ k, verbedP J2.data.toList = k := ⟨_, rfl⟩
      rw [h5] at CK hr
      rw [h6] at CL hr
      rw [hkk] at VB hk hr
      have HT := hid hT
      clear h5 h6 hkk hI2 hJ2 hI3 hJ3 hX E1 E2 E3 zI2 zJ2 zI hT
      have hgo : ∀ r', (if n = 0 ∨ c = 65533 ∧ n = 1 then (0, 0, []) else if b5 = true ∧ b6 = true ∧ k ≠ 0 then (k, (c : Int), J2.data.toList) else (0, 0, [])) = r' → tup3 r' = r := fun r' h => by rw [← h]; exact hr
      clear hr
      have hbad : n = 0 ∨ (c = 65533 ∧ n = 1) ∨ (¬ n = 0 ∧ c = 65533 ∧ ¬ n = 1) ∨ (¬ n = 0 ∧ ¬ c = 65533) := by omega
      have hb2 : b2 = false ∨ (b2 = true ∧ b3 = true) := by
        cases b2 <;> cases b3 <;> simp at hc ⊢
      clear hc
      rcases hbad with h | ⟨h, h'⟩ | ⟨h, h', h''⟩ | ⟨h, h'⟩
      · subst h
        have hr2 := hgo _ (if_pos (Or.inl rfl))
        subst hr2
        clear hgo
        rcases hb2 with rfl | ⟨rfl, rfl⟩
        · go_enter Tryd.func14, Tryd.ntmps14
          go_wp2_with fail
          refine (CP.out _).mono ?_
          rintro e w' ⟨rfl, hw⟩
          subst hw
          go_wp2_with fail
          refine (CI.out _).mono ?_
          rintro e w' ⟨rfl, hw⟩
          subst hw
          go_wp2_with fail
          refine (DE.out _ HT.out.1).mono ?_
          rintro e w1 ⟨rfl, hb⟩
          have HB := hid hb
          clear hb
          go_wp2_with fail
          go_ret3
          exact ⟨rfl, HB.out⟩
        · go_enter Tryd.func14, Tryd.ntmps14
          go_wp2_with fail
          refine (CP.out _).mono ?_
          rintro e w' ⟨rfl, hw⟩
          subst hw
          go_wp2_with fail
          refine (CI.out _).mono ?_
          rintro e w' ⟨rfl, hw⟩
          subst hw
          go_wp2_with fail
          refine (HP.out _).mono ?_
          rintro e w' ⟨rfl, hw⟩
          subst hw
          go_wp2_with fail
          refine (DE.out _ HT.out.1).mono ?_
          rintro e w1 ⟨rfl, hb⟩
          have HB := hid hb
          clear hb
          go_wp2_with fail
          go_ret3
          exact ⟨rfl, HB.out⟩
      · subst h
        subst h'
        have hr2 := hgo _ (if_pos (Or.inr ⟨rfl, rfl⟩))
        subst hr2
        clear hgo
        rcases hb2 with rfl | ⟨rfl, rfl⟩
        · go_enter Tryd.func14, Tryd.ntmps14
          go_wp2_with fail
          refine (CP.out _).mono ?_
          rintro e w' ⟨rfl, hw⟩
          subst hw
          go_wp2_with fail
          refine (CI.out _).mono ?_
          rintro e w' ⟨rfl, hw⟩
          subst hw
          go_wp2_with fail
          refine (DE.out _ HT.out.1).mono ?_
          rintro e w1 ⟨rfl, hb⟩
          have HB := hid hb
          clear hb
          go_wp2_with fail
          go_ret3
          exact ⟨rfl, HB.out⟩
        · go_enter Tryd.func14, Tryd.ntmps14
          go_wp2_with fail
          refine (CP.out _).mono ?_
          rintro e w' ⟨rfl, hw⟩
          subst hw
          go_wp2_with fail
          refine (CI.out _).mono ?_
          rintro e w' ⟨rfl, hw⟩
          subst hw
          go_wp2_with fail
          refine (HP.out _).mono ?_
          rintro e w' ⟨rfl, hw⟩
          subst hw
          go_wp2_with fail
          refine (DE.out _ HT.out.1).mono ?_
          rintro e w1 ⟨rfl, hb⟩
          have HB := hid hb
          clear hb
          go_wp2_with fail
          go_ret3
          exact ⟨rfl, HB.out⟩
      · have hno : ¬ (n = 0 ∨ c = 65533 ∧ n = 1) := by omega
        have c0 : ((c : Int) == 65533) = true := by rw [h']; rfl
        have n0 : ((n : Int) == 0) = false := by rw [beq_eq_false_iff_ne]; omega
        have n1 : ((n : Int) == 1) = false := by rw [beq_eq_false_iff_ne]; omega
        clear h'
        rw [if_neg hno] at hgo
        cases b5 with
        | false =>
          have hr2 := hgo _ (if_neg (by simp))
          subst hr2
          clear hgo
          rcases hb2 with rfl | ⟨rfl, rfl⟩
          · go_enter Tryd.func14, Tryd.ntmps14
            go_wp2_with fail
            refine (CP.out _).mono ?_
            rintro e w' ⟨rfl, hw⟩
            subst hw
            go_wp2_with fail
            refine (CI.out _).mono ?_
            rintro e w' ⟨rfl, hw⟩
            subst hw
            go_wp2_with fail
            refine (DE.out _ HT.out.1).mono ?_
            rintro e w1 ⟨rfl, hb⟩
            have HB := hid hb
            clear hb
            go_wp2_with fail
            refine (CK.out _).mono ?_
            rintro e w' ⟨rfl, hw⟩
            subst hw
            go_wp2_with fail
            refine (CL.out _).mono ?_
            rintro e w' ⟨rfl, hw⟩
            subst hw
            go_wp2_with fail
            refine (VB.out _ (HT.out.below HB.out).2).mono ?_
            rintro e w' ⟨rfl, hw⟩
            subst hw
            go_wp2_with fail
            go_ret3
            exact ⟨rfl, HB.out⟩
          · go_enter Tryd.func14, Tryd.ntmps14
            go_wp2_with fail
            refine (CP.out _).mono ?_
            rintro e w' ⟨rfl, hw⟩
            subst hw
            go_wp2_with fail
            refine (CI.out _).mono ?_
            rintro e w' ⟨rfl, hw⟩
            subst hw
            go_wp2_with fail
            refine (HP.out _).mono ?_
            rintro e w' ⟨rfl, hw⟩
            subst hw
            go_wp2_with fail
            refine (DE.out _ HT.out.1).mono ?_
            rintro e w1 ⟨rfl, hb⟩
            have HB := hid hb
            clear hb
            go_wp2_with fail
            refine (CK.out _).mono ?_
            rintro e w' ⟨rfl, hw⟩
            subst hw
            go_wp2_with fail
            refine (CL.out _).mono ?_
            rintro e w' ⟨rfl, hw⟩
            subst hw
            go_wp2_with fail
            refine (VB.out _ (HT.out.below HB.out).2).mono ?_
            rintro e w' ⟨rfl, hw⟩
            subst hw
            go_wp2_with fail
            go_ret3
            exact ⟨rfl, HB.out⟩
        | true =>
          cases b6 with
          | false =>
            have hr2 := hgo _ (if_neg (by simp))
            subst hr2
            clear hgo
            rcases hb2 with rfl | ⟨rfl, rfl⟩
            · go_enter Tryd.func14, Tryd.ntmps14
              go_wp2_with fail
              refine (CP.out _).mono ?_
              rintro e w' ⟨rfl, hw⟩
              subst hw
              go_wp2_with fail
              refine (CI.out _).mono ?_
              rintro e w' ⟨rfl, hw⟩
              subst hw
              go_wp2_with fail
              refine (DE.out _ HT.out.1).mono ?_
              rintro e w1 ⟨rfl, hb⟩
              have HB := hid hb
              clear hb
              go_wp2_with fail
              refine (CK.out _).mono ?_
              rintro e w' ⟨rfl, hw⟩
              subst hw
              go_wp2_with fail
              refine (CL.out _).mono ?_
              rintro e w' ⟨rfl, hw⟩
              subst hw
              go_wp2_with fail
              refine (VB.out _ (HT.out.below HB.out).2).mono ?_
              rintro e w' ⟨rfl, hw⟩
              subst hw
              go_wp2_with fail
              go_ret3
              exact ⟨rfl, HB.out⟩
            · go_enter Tryd.func14, Tryd.ntmps14
              go_wp2_with fail
              refine (CP.out _).mono ?_
              rintro e w' ⟨rfl, hw⟩
              subst hw
              go_wp2_with fail
              refine (CI.out _).mono ?_
              rintro e w' ⟨rfl, hw⟩
              subst hw
              go_wp2_with fail
              refine (HP.out _).mono ?_
              rintro e w' ⟨rfl, hw⟩
              subst hw
              go_wp2_with fail
              refine (DE.out _ HT.out.1).mono ?_
              rintro e w1 ⟨rfl, hb⟩
              have HB := hid hb
              clear hb
              go_wp2_with fail
              refine (CK.out _).mono ?_
              rintro e w' ⟨rfl, hw⟩
              subst hw
              go_wp2_with fail
              refine (CL.out _).mono ?_
              rintro e w' ⟨rfl, hw⟩
              subst hw
              go_wp2_with fail
              refine (VB.out _ (HT.out.below HB.out).2).mono ?_
              rintro e w' ⟨rfl, hw⟩
              subst hw
              go_wp2_with fail
              go_ret3
              exact ⟨rfl, HB.out⟩
          | true =>
            by_cases h0 : k = 0
            · have hr2 := hgo _ (if_neg (by simp [h0]))
              subst hr2
              subst h0
              clear hgo
              rcases hb2 with rfl | ⟨rfl, rfl⟩
              · go_enter Tryd.func14, Tryd.ntmps14
                go_wp2_with fail
                refine (CP.out _).mono ?_
                rintro e w' ⟨rfl, hw⟩
                subst hw
                go_wp2_with fail
                refine (CI.out _).mono ?_
                rintro e w' ⟨rfl, hw⟩
                subst hw
                go_wp2_with fail
                refine (DE.out _ HT.out.1).mono ?_
                rintro e w1 ⟨rfl, hb⟩
                have HB := hid hb
                clear hb
                go_wp2_with fail
                refine (CK.out _).mono ?_
                rintro e w' ⟨rfl, hw⟩
                subst hw
                go_wp2_with fail
                refine (CL.out _).mono ?_
                rintro e w' ⟨rfl, hw⟩
                subst hw
                go_wp2_with fail
                refine (VB.out _ (HT.out.below HB.out).2).mono ?_
                rintro e w' ⟨rfl, hw⟩
                subst hw
                go_wp2_with fail
                go_ret3
                exact ⟨rfl, HB.out⟩
              · go_enter Tryd.func14, Tryd.ntmps14
                go_wp2_with fail
                refine (CP.out _).mono ?_
                rintro e w' ⟨rfl, hw⟩
                subst hw
                go_wp2_with fail
                refine (CI.out _).mono ?_
                rintro e w' ⟨rfl, hw⟩
                subst hw
                go_wp2_with fail
                refine (HP.out _).mono ?_
                rintro e w' ⟨rfl, hw⟩
                subst hw
                go_wp2_with fail
                refine (DE.out _ HT.out.1).mono ?_
                rintro e w1 ⟨rfl, hb⟩
                have HB := hid hb
                clear hb
                go_wp2_with fail
                refine (CK.out _).mono ?_
                rintro e w' ⟨rfl, hw⟩
                subst hw
                go_wp2_with fail
                refine (CL.out _).mono ?_
                rintro e w' ⟨rfl, hw⟩
                subst hw
                go_wp2_with fail
                refine (VB.out _ (HT.out.below HB.out).2).mono ?_
                rintro e w' ⟨rfl, hw⟩
                subst hw
                go_wp2_with fail
                go_ret3
                exact ⟨rfl, HB.out⟩
            · have hr2 := hgo _ (if_pos ⟨rfl, rfl, h0⟩)
              unfold tup3 at hr2
              simp only [hJJ] at hr2
              subst hr2
              have hk1 : (k != 0) = true := by simpa using h0
              have hk2 : (k == 0) = false := by simpa using h0
              clear hgo
              rcases hb2 with rfl | ⟨rfl, rfl⟩
              · go_enter Tryd.func14, Tryd.ntmps14
                go_wp2_with fail
                refine (CP.out _).mono ?_
                rintro e w' ⟨rfl, hw⟩
                subst hw
                go_wp2_with fail
                refine (CI.out _).mono ?_
                rintro e w' ⟨rfl, hw⟩
                subst hw
                go_wp2_with fail
                refine (DE.out _ HT.out.1).mono ?_
                rintro e w1 ⟨rfl, hb⟩
                have HB := hid hb
                clear hb
                go_wp2_with fail
                refine (CK.out _).mono ?_
                rintro e w' ⟨rfl, hw⟩
                subst hw
                go_wp2_with fail
                refine (CL.out _).mono ?_
                rintro e w' ⟨rfl, hw⟩
                subst hw
                go_wp2_with fail
                refine (VB.out _ (HT.out.below HB.out).2).mono ?_
                rintro e w' ⟨rfl, hw⟩
                subst hw
                go_wp2_with fail
                go_ret3
                exact ⟨rfl, HB.out⟩
              · go_enter Tryd.func14, Tryd.ntmps14
                go_wp2_with fail
                refine (CP.out _).mono ?_
                rintro e w' ⟨rfl, hw⟩
                subst hw
                go_wp2_with fail
                refine (CI.out _).mono ?_
                rintro e w' ⟨rfl, hw⟩
                subst hw
                go_wp2_with fail
                refine (HP.out _).mono ?_
                rintro e w' ⟨rfl, hw⟩
                subst hw
                go_wp2_with fail
                refine (DE.out _ HT.out.1).mono ?_
                rintro e w1 ⟨rfl, hb⟩
                have HB := hid hb
                clear hb
                go_wp2_with fail
                refine (CK.out _).mono ?_
                rintro e w' ⟨rfl, hw⟩
                subst hw
                go_wp2_with fail
                refine (CL.out _).mono ?_
                rintro e w' ⟨rfl, hw⟩
                subst hw
                go_wp2_with fail
                refine (VB.out _ (HT.out.below HB.out).2).mono ?_
                rintro e w' ⟨rfl, hw⟩
                subst hw
                go_wp2_with fail
                go_ret3
                exact ⟨rfl, HB.out⟩
      · have hno : ¬ (n = 0 ∨ c = 65533 ∧ n = 1) := by omega
        have n0 : ((n : Int) == 0) = false := by rw [beq_eq_false_iff_ne]; omega
        have c0 : ((c : Int) == 65533) = false := by rw [beq_eq_false_iff_ne]; omega
        rw [if_neg hno] at hgo
        cases b5 with
        | false =>
          have hr2 := hgo _ (if_neg (by simp))
          subst hr2
          clear hgo
          rcases hb2 with rfl | ⟨rfl, rfl⟩
          · go_enter Tryd.func14, Tryd.ntmps14
            go_wp2_with fail
            refine (CP.out _).mono ?_
            rintro e w' ⟨rfl, hw⟩
            subst hw
            go_wp2_with fail
            refine (CI.out _).mono ?_
            rintro e w' ⟨rfl, hw⟩
            subst hw
            go_wp2_with fail
            refine (DE.out _ HT.out.1).mono ?_
            rintro e w1 ⟨rfl, hb⟩
            have HB := hid hb
            clear hb
            go_wp2_with fail
            refine (CK.out _).mono ?_
            rintro e w' ⟨rfl, hw⟩
            subst hw
            go_wp2_with fail
            refine (CL.out _).mono ?_
            rintro e w' ⟨rfl, hw⟩
            subst hw
            go_wp2_with fail
            refine (VB.out _ (HT.out.below HB.out).2).mono ?_
            rintro e w' ⟨rfl, hw⟩
            subst hw
            go_wp2_with fail
            go_ret3
            exact ⟨rfl, HB.out⟩
          · go_enter Tryd.func14, Tryd.ntmps14
            go_wp2_with fail
            refine (CP.out _).mono ?_
            rintro e w' ⟨rfl, hw⟩
            subst hw
            go_wp2_with fail
            refine (CI.out _).mono ?_
            rintro e w' ⟨rfl, hw⟩
            subst hw
            go_wp2_with fail
            refine (HP.out _).mono ?_
            rintro e w' ⟨rfl, hw⟩
            subst hw
            go_wp2_with fail
            refine (DE.out _ HT.out.1).mono ?_
            rintro e w1 ⟨rfl, hb⟩
            have HB := hid hb
            clear hb
            go_wp2_with fail
            refine (CK.out _).mono ?_
            rintro e w' ⟨rfl, hw⟩
            subst hw
            go_wp2_with fail
            refine (CL.out _).mono ?_
            rintro e w' ⟨rfl, hw⟩
            subst hw
            go_wp2_with fail
            refine (VB.out _ (HT.out.below HB.out).2).mono ?_
            rintro e w' ⟨rfl, hw⟩
            subst hw
            go_wp2_with fail
            go_ret3
            exact ⟨rfl, HB.out⟩
        | true =>
          cases b6 with
          | false =>
            have hr2 := hgo _ (if_neg (by simp))
            subst hr2
            clear hgo
            rcases hb2 with rfl | ⟨rfl, rfl⟩
            · go_enter Tryd.func14, Tryd.ntmps14
              go_wp2_with fail
              refine (CP.out _).mono ?_
              rintro e w' ⟨rfl, hw⟩
              subst hw
              go_wp2_with fail
              refine (CI.out _).mono ?_
              rintro e w' ⟨rfl, hw⟩
              subst hw
              go_wp2_with fail
              refine (DE.out _ HT.out.1).mono ?_
              rintro e w1 ⟨rfl, hb⟩
              have HB := hid hb
              clear hb
              go_wp2_with fail
              refine (CK.out _).mono ?_
              rintro e w' ⟨rfl, hw⟩
              subst hw
              go_wp2_with fail
              refine (CL.out _).mono ?_
              rintro e w' ⟨rfl, hw⟩
              subst hw
              go_wp2_with fail
              refine (VB.out _ (HT.out.below HB.out).2).mono ?_
              rintro e w' ⟨rfl, hw⟩
              subst hw
              go_wp2_with fail
              go_ret3
              exact ⟨rfl, HB.out⟩
            · go_enter Tryd.func14, Tryd.ntmps14
              go_wp2_with fail
              refine (CP.out _).mono ?_
              rintro e w' ⟨rfl, hw⟩
              subst hw
              go_wp2_with fail
              refine (CI.out _).mono ?_
              rintro e w' ⟨rfl, hw⟩
              subst hw
              go_wp2_with fail
              refine (HP.out _).mono ?_
              rintro e w' ⟨rfl, hw⟩
              subst hw
              go_wp2_with fail
              refine (DE.out _ HT.out.1).mono ?_
              rintro e w1 ⟨rfl, hb⟩
              have HB := hid hb
              clear hb
              go_wp2_with fail
              refine (CK.out _).mono ?_
              rintro e w' ⟨rfl, hw⟩
              subst hw
              go_wp2_with fail
              refine (CL.out _).mono ?_
              rintro e w' ⟨rfl, hw⟩
              subst hw
              go_wp2_with fail
              refine (VB.out _ (HT.out.below HB.out).2).mono ?_
              rintro e w' ⟨rfl, hw⟩
              subst hw
              go_wp2_with fail
              go_ret3
              exact ⟨rfl, HB.out⟩
          | true =>
            by_cases h0 : k = 0
            · have hr2 := hgo _ (if_neg (by simp [h0]))
              subst hr2
              subst h0
              clear hgo
              rcases hb2 with rfl | ⟨rfl, rfl⟩
              · go_enter Tryd.func14, Tryd.ntmps14
                go_wp2_with fail
                refine (CP.out _).mono ?_
                rintro e w' ⟨rfl, hw⟩
                subst hw
                go_wp2_with fail
                refine (CI.out _).mono ?_
                rintro e w' ⟨rfl, hw⟩
                subst hw
                go_wp2_with fail
                refine (DE.out _ HT.out.1).mono ?_
                rintro e w1 ⟨rfl, hb⟩
                have HB := hid hb
                clear hb
                go_wp2_with fail
                refine (CK.out _).mono ?_
                rintro e w' ⟨rfl, hw⟩
                subst hw
                go_wp2_with fail
                refine (CL.out _).mono ?_
                rintro e w' ⟨rfl, hw⟩
                subst hw
                go_wp2_with fail
                refine (VB.out _ (HT.out.below HB.out).2).mono ?_
                rintro e w' ⟨rfl, hw⟩
                subst hw
                go_wp2_with fail
                go_ret3
                exact ⟨rfl, HB.out⟩
              · go_enter Tryd.func14, Tryd.ntmps14
                go_wp2_with fail
                refine (CP.out _).mono ?_
                rintro e w' ⟨rfl, hw⟩
                subst hw
                go_wp2_with fail
                refine (CI.out _).mono ?_
                rintro e w' ⟨rfl, hw⟩
                subst hw
                go_wp2_with fail
                refine (HP.out _).mono ?_
                rintro e w' ⟨rfl, hw⟩
                subst hw
                go_wp2_with fail
                refine (DE.out _ HT.out.1).mono ?_
                rintro e w1 ⟨rfl, hb⟩
                have HB := hid hb
                clear hb
                go_wp2_with fail
                refine (CK.out _).mono ?_
                rintro e w' ⟨rfl, hw⟩
                subst hw
                go_wp2_with fail
                refine (CL.out _).mono ?_
                rintro e w' ⟨rfl, hw⟩
                subst hw
                go_wp2_with fail
                refine (VB.out _ (HT.out.below HB.out).2).mono ?_
                rintro e w' ⟨rfl, hw⟩
                subst hw
                go_wp2_with fail
                go_ret3
                exact ⟨rfl, HB.out⟩
            · have hr2 := hgo _ (if_pos ⟨rfl, rfl, h0⟩)
              unfold tup3 at hr2
              simp only [hJJ] at hr2
              subst hr2
              have hk1 : (k != 0) = true := by simpa using h0
              have hk2 : (k == 0) = false := by simpa using h0
              clear hgo
              rcases hb2 with rfl | ⟨rfl, rfl⟩
              · go_enter Tryd.func14, Tryd.ntmps14
                go_wp2_with fail
                refine (CP.out _).mono ?_
                rintro e w' ⟨rfl, hw⟩
                subst hw
                go_wp2_with fail
                refine (CI.out _).mono ?_
                rintro e w' ⟨rfl, hw⟩
                subst hw
                go_wp2_with fail
                refine (DE.out _ HT.out.1).mono ?_
                rintro e w1 ⟨rfl, hb⟩
                have HB := hid hb
                clear hb
                go_wp2_with fail
                refine (CK.out _).mono ?_
                rintro e w' ⟨rfl, hw⟩
                subst hw
                go_wp2_with fail
                refine (CL.out _).mono ?_
                rintro e w' ⟨rfl, hw⟩
                subst hw
                go_wp2_with fail
                refine (VB.out _ (HT.out.below HB.out).2).mono ?_
                rintro e w' ⟨rfl, hw⟩
                subst hw
                go_wp2_with fail
                go_ret3
                exact ⟨rfl, HB.out⟩
              · go_enter Tryd.func14, Tryd.ntmps14
                go_wp2_with fail
                refine (CP.out _).mono ?_
                rintro e w' ⟨rfl, hw⟩
                subst hw
                go_wp2_with fail
                refine (CI.out _).mono ?_
                rintro e w' ⟨rfl, hw⟩
                subst hw
                go_wp2_with fail
                refine (HP.out _).mono ?_
                rintro e w' ⟨rfl, hw⟩
                subst hw
                go_wp2_with fail
                refine (DE.out _ HT.out.1).mono ?_
                rintro e w1 ⟨rfl, hb⟩
                have HB := hid hb
                clear hb
                go_wp2_with fail
                refine (CK.out _).mono ?_
                rintro e w' ⟨rfl, hw⟩
                subst hw
                go_wp2_with fail
                refine (CL.out _).mono ?_
                rintro e w' ⟨rfl, hw⟩
                subst hw
                go_wp2_with fail
                refine (VB.out _ (HT.out.below HB.out).2).mono ?_
                rintro e w' ⟨rfl, hw⟩
                subst hw
                go_wp2_with fail
                go_ret3
                exact ⟨rfl, HB.out⟩
end Go.Proofs.YteifnddblnaepaaDoor
