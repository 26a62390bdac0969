/-
  Walks of layer 3: the document's number to a base.
-/
import Derived.Test.YtampkhdlhhgneaaQI
import Derived.Deep.DeepCutAuto
namespace Go.Proofs.Ytampkhdlhhgneaa
open Go.RowKit Go.Proofs

def dropSeqW : Nat → Code → Code
  | 0, c => c
  | k + 1, .seq _ b => dropSeqW k b
  | _, c => c
noncomputable def wtail (k : Nat) : Code := dropSeqW k (Try.f28.body.getD .skip)

theorem fin_body (neg : Bool) (n b : Nat) (g : Bool) (M D1 M2 S D2 : ByteArray) (pl mi sp ze : Bool) (wid prec P : Int) (hP : IP.limI prec = P) (hz : ¬ (n = 0 ∧ P = 0)) (hD1 : D1.data.toList = IP.zerosTo P (IP.dgb b g n)) (hM2 : M2.data.toList = IP.markL M.data.toList D1.data.toList) (hS : S.data.toList = IP.signL neg pl sp)
    (hD2 : D2.data.toList = if ze = true ∧ mi = false ∧ P < 0 then IP.zerosTo (IP.limI wid - S.size - M2.size) D1.data.toList else D1.data.toList) :
    S ++ M2 ++ D2 = ⟨(IP.bodyL neg n b g M.data.toList pl mi sp ze wid prec).toArray⟩ := by
  refine bytes_ext ?_
  simp only [ByteArray.data_append, Array.toList_append]
  unfold IP.bodyL
  rw [hP, if_neg hz]
  show _ = (if ze = true ∧ mi = false ∧ P < 0 then _ else _)
  rw [hD2, Utf.size_eq S, Utf.size_eq M2, hM2, hS, hD1]
  split <;> rfl

set_option maxRecDepth 1000000 in
set_option maxHeartbeats 4000000 in
theorem wtail12 (neg : Bool) (n b : Nat) (g : Bool) (M D1 M2 : ByteArray) (pl mi sh sp ze : Bool) (wid prec verb : Int) (P : Int) (w W : World) (H : Nat) (B1 : Hid (Bx w H (sp8 pl mi sh sp ze wid prec verb) W)) (HP : Hid (IP.limI prec = P)) (hnz : ¬ (n = 0 ∧ P = 0)) (HD1 : Hid (D1.data.toList = IP.zerosTo P (IP.dgb b g n))) (hD1s : D1.size ≤ 1064) (HM2 : Hid (M2.data.toList = IP.markL M.data.toList D1.data.toList)) (hM2s : M2.size ≤ 10) (hw0 : -9223372036854775808 ≤ wid) (hw1 : wid ≤ 9223372036854775807)
    (z1 z2 z3 z4 z5 z6 z8 z9 z10 z11 z12 z14 z18 z19 z20 z21 z22 z23 z24 z25 z26 z27 z28 z29 z30 z31 z32 z33 z34 z35 z36 z37 z38 z39 z40 z41 z42 z43 z44 z45 z46 z47 z48 z49 z50 z51 z52 z53 z54 z55 z56 z57 z58 z59 z60 z61 z62 z63 z64 z65 z66 z67 z68 z69 z70 z71 z72 z73 z74 z75 z76 z77 z78 z79 z80 z81 z82 z83 z84 z85 z86 z87 z88 z89 z90 z91 z92 z93 z94 z95 z96 z97 z98 z99 z100 z101 z102 z103 z104 z105 z106 z107 z108 z109 z110 z111 z112 z113 z114 z115 z116 z117 z118 z119 z120 z121 z122 z123 z124 z125 z126 z127 z128 z129 z130 z131 z132 z133 z134 z135 z136 z137 z138 z139 z140 z141 z142 z143 z144 z145 z146 z147 z148 z149 z150 : Value) :
    Code.wp Try.prog (wtail 12) (bodyPost Try.prog Try.f28 (fun e w' => e = .returned (tupS (some (padS ⟨(IP.bodyL neg n b g M.data.toList pl mi sp ze wid prec).toArray⟩ mi false wid))) ∧ Below w.heap.size w w')) ⟨#[.bool neg, z1, z2, z3, z4, z5, z6, .pointer (some ⟨H, 0, none⟩), z8, z9, z10, z11, z12, .string M2, z14, .string D1, .int .i64 P, .string ⟨#[]⟩, z18, z19, z20, z21, z22, z23, z24, z25, z26, z27, z28, z29, z30, z31, z32, z33, z34, z35, z36, z37, z38, z39, z40, z41, z42, z43, z44, z45, z46, z47, z48, z49, z50, z51, z52, z53, z54, z55, z56, z57, z58, z59, z60, z61, z62, z63, z64, z65, z66, z67, z68, z69, z70, z71, z72, z73, z74, z75, z76, z77, z78, z79, z80, z81, z82, z83, z84, z85, z86, z87, z88, z89, z90, z91, z92, z93, z94, z95, z96, z97, z98, z99, z100, z101, z102, z103, z104, z105, z106, z107, z108, z109, z110, z111, z112, z113, z114, z115, z116, z117, z118, z119, z120, z121, z122, z123, z124, z125, z126, z127, z128, z129, z130, z131, z132, z133, z134, z135, z136, z137, z138, z139, z140, z141, z142, z143, z144, z145, z146, z147, z148, z149, z150], []⟩ W := by
  conv => arg 2; whnf
  obtain ⟨V, hVV⟩ : ∃ V, IP.limI wid = V := ⟨_, rfl⟩
  have hV : -1 ≤ V ∧ V ≤ 1000 := by rw [← hVV]; unfold IP.limI; omega
  have WW := hid (fun W => width_any wid W)
  rw [width_lim, hVV] at WW
  obtain ⟨hV0, hV1⟩ := hV
  have HV := hid hVV
  clear hVV
  obtain ⟨s0, s1, s2, s3, s4, s5, s6, s7⟩ := B1.out.cells
  obtain ⟨S1, hS1⟩ : ∃ S1 : ByteArray, (if sp then ⟨#[32]⟩ else ⟨#[]⟩) = S1 := ⟨_, rfl⟩
  obtain ⟨S2, hS2⟩ : ∃ S2 : ByteArray, (if pl then ⟨#[43]⟩ else S1) = S2 := ⟨_, rfl⟩
  obtain ⟨S, hS⟩ : ∃ S : ByteArray, (if neg then ⟨#[45]⟩ else S2) = S := ⟨_, rfl⟩
  have HS1 := hid hS1
  have HS2 := hid hS2
  have HS := hid hS
  have hSl : S.data.toList = IP.signL neg pl sp := by
    rw [← hS, ← hS2, ← hS1]
    cases neg <;> cases pl <;> cases sp <;> rfl
  have hSs : S.size ≤ 1 := by rw [Utf.size_eq, hSl]; exact IP.signL_len neg pl sp
  have HSL := hid hSl
  clear hS1 hS2 hS hSl
  go_upto_if 118 with fail
  go_cut [17] (fun v17 wn => v17 = .string S1 ∧ W = wn)
  case first =>
    cases sp
    · have e := HS1.out.symm
      subst e
      go_wp2_with fail
      go_meet
      exact ⟨rfl, rfl⟩
    · have e := HS1.out.symm
      subst e
      go_wp2_with fail
      go_meet
      exact ⟨rfl, rfl⟩
  case rest =>
    obtain ⟨rfl, rfl⟩ := hcut
    go_upto_if 120 with fail
    go_cut [17] (fun v17 wn => v17 = .string S2 ∧ W = wn)
    case first =>
      cases pl
      · have e := HS2.out.symm
        subst e
        go_wp2_with fail
        go_meet
        exact ⟨rfl, rfl⟩
      · have e := HS2.out.symm
        subst e
        go_wp2_with fail
        go_meet
        exact ⟨rfl, rfl⟩
    case rest =>
      obtain ⟨rfl, rfl⟩ := hcut
      go_upto_if 121 with fail
      go_cut [17] (fun v17 wn => v17 = .string S ∧ W = wn)
      case first =>
        cases neg
        · have e := HS.out.symm
          subst e
          go_wp2_with fail
          go_meet
          exact ⟨rfl, rfl⟩
        · have e := HS.out.symm
          subst e
          go_wp2_with fail
          go_meet
          exact ⟨rfl, rfl⟩
      case rest =>
        obtain ⟨rfl, rfl⟩ := hcut
        obtain ⟨zt, hzt⟩ : ∃ zt : Bool, decide (ze = true ∧ mi = false ∧ P < 0) = zt := ⟨_, rfl⟩
        have HZT := hid hzt
        clear hzt
        go_upto_region 35 with fail
        go_cut [132] (fun v132 wn => v132 = .bool zt ∧ W = wn)
        case first =>
          have ez := HZT.out.symm
          cases ze
          · simp at ez
            subst ez
            go_wp2_with fail
            go_meet
            exact ⟨rfl, rfl⟩
          · cases mi
            · simp at ez
              subst ez
              go_wp2_with fail
              go_meet
              exact ⟨rfl, rfl⟩
            · simp at ez
              subst ez
              go_wp2_with fail
              go_meet
              exact ⟨rfl, rfl⟩
        case rest =>
          obtain ⟨rfl, rfl⟩ := hcut
          obtain ⟨D2, hD2⟩ : ∃ D2 : ByteArray, (if zt then ⟨(IP.zerosTo (V - S.size - M2.size) D1.data.toList).toArray⟩ else D1) = D2 := ⟨_, rfl⟩
          have hzl2 := IP.zerosTo_len (V - S.size - M2.size) D1.data.toList
          have hD2s : D2.size ≤ 2100 := by
            rw [← hD2]
            split
            · show (IP.zerosTo (V - S.size - M2.size) D1.data.toList).toArray.size ≤ _
              rw [List.size_toArray, hzl2, ← Utf.size_eq]
              omega
            · omega
          have ZB := hid (fun W => zeros_any D1 (V - S.size - M2.size) W (by omega) (by omega) (by omega))
          have HD2 := hid hD2
          have hres : S ++ M2 ++ D2 = ⟨(IP.bodyL neg n b g M.data.toList pl mi sp ze wid prec).toArray⟩ := by
            refine fin_body neg n b g M D1 M2 S D2 pl mi sp ze wid prec P HP.out hnz HD1.out HM2.out HSL.out ?_
            rw [← HD2.out, HV.out]
            have ez := HZT.out
            cases zt
            · have h9 := of_decide_eq_false ez
              rw [if_neg h9]
              rfl
            · have h9 := of_decide_eq_true ez
              rw [if_pos h9]
              rfl
          clear hD2 hzl2
          go_upto_if 132 with fail
          go_cut [15] (fun v15 wn => v15 = .string D2 ∧ W = wn)
          case first =>
            cases zt
            · have e := HD2.out.symm
              simp only [Bool.false_eq_true, if_false] at e
              subst e
              go_wp2_with fail
              go_meet
              exact ⟨rfl, rfl⟩
            · have e := HD2.out
              simp only [if_true] at e
              rw [e] at ZB
              clear e
              go_wp2_with fail
              refine (WW.out _).mono ?_
              rintro e w3 ⟨rfl, rfl⟩
              go_wp2_with fail
              refine (ZB.out _).mono ?_
              rintro e w4 ⟨rfl, rfl⟩
              go_wp2_with fail
              go_meet
              exact ⟨rfl, rfl⟩
          case rest =>
            obtain ⟨rfl, rfl⟩ := hcut
            have hTs : (S ++ M2 ++ D2).size ≤ 3000 := by rw [ByteArray.size_append, ByteArray.size_append]; omega
            have PD := hid (fun W => rpadplain_any (S ++ M2 ++ D2) pl mi sh sp ze wid prec verb W (by omega) hw0 hw1)
            have HRES := hid hres
            clear hres
            go_wp2_with fail
            refine (PD.out _).mono ?_
            rintro e w5 ⟨rfl, hb⟩
            have B2 := hid (B1.out.kept hb)
            clear hb
            go_wp2_with fail
            go_ret2
            refine ⟨?_, B2.out.below⟩
            rw [← HRES.out]
            rfl
end Go.Proofs.Ytampkhdlhhgneaa
