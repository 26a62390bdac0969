/-
  Walks of layer 3: the document's number to a base.
-/
import Derived.Test.YtampkhdlhhgneaaQJ2
namespace Go.Proofs.Ytampkhdlhhgneaa
open Go.RowKit Go.Proofs

set_option maxRecDepth 100000 in
set_option maxHeartbeats 4000000 in
/-- The document's number by a verb that has a base. -/
theorem rwrite_base (neg : Bool) (n bits : Int) (pl mi sh sp ze : Bool) (wid prec verb : Int) (b : Int) (m : ByteArray) (al : Bool) (w : World) (h0 : 0 ≤ n) (h1 : n ≤ 18446744073709551615) (hb4 : b = 2 ∨ b = 8 ∨ b = 10 ∨ b = 16) (hbas : basT verb = (b, m, al)) (hms : m.size ≤ 10)
    (c99 : (verb == 99) = false) (c113 : (verb == 113) = false) (c85 : (verb == 85) = false) (hw0 : -9223372036854775808 ≤ wid) (hw1 : wid ≤ 9223372036854775807) :
    Calls Try.prog 28 #[.bool neg, .int .u64 n, .int .u64 bits, .agg #[.bool pl, .bool mi, .bool sh, .bool sp, .bool ze, .int .i64 wid, .int .i64 prec, .int .i32 verb]] w fun e w' => e = .returned (tupS (some (padS ⟨(IP.bodyL neg n.toNat b.toNat (decide (verb = 88)) (if al || sh then m else ⟨#[]⟩).data.toList pl mi sp ze wid prec).toArray⟩ mi false wid))) ∧ Below w.heap.size w w' := by
  have hb2 : 2 ≤ b := by omega
  have hb16 : b ≤ 16 := by omega
  have hb0 : (b == 0) = false := beq_eq_false_iff_ne.2 (by omega)
  have BS := hid (fun W => bases_any verb W)
  rw [hbas] at BS
  have DG := hid (fun W => rdigits_in n b W h0 h1 hb4)
  obtain ⟨P, hP⟩ : ∃ P, IP.limI prec = P := ⟨_, rfl⟩
  have hPb : -1 ≤ P ∧ P ≤ 1000 := by rw [← hP]; unfold IP.limI; omega
  obtain ⟨hPb0, hPb1⟩ := hPb
  have WP := hid (fun W => width_any prec W)
  have WW := hid (fun W => width_any wid W)
  rw [width_lim, hP] at WP
  rw [width_lim] at WW
  have hV : -1 ≤ IP.limI wid ∧ IP.limI wid ≤ 1000 := by unfold IP.limI; omega
  obtain ⟨V, hVV⟩ : ∃ V, IP.limI wid = V := ⟨_, rfl⟩
  rw [hVV] at WW hV
  obtain ⟨hV0, hV1⟩ := hV
  obtain ⟨D0, hD0⟩ : ∃ D0 : ByteArray, ⟨(IP.dgb b.toNat false n.toNat).toArray⟩ = D0 := ⟨_, rfl⟩
  rw [hD0] at DG
  have hd0l := IP.dgb_len64 b.toNat false (by omega) n.toNat (by omega)
  have hD0s : D0.size ≤ 64 := by rw [← hD0]; simpa [ByteArray.size] using hd0l
  have GR := hid (fun W => great_any D0 W (by omega))
  obtain ⟨g, hg⟩ : ∃ g : Bool, decide (verb = 88) = g := ⟨_, rfl⟩
  rw [hg]
  obtain ⟨D, hD⟩ : ∃ D : ByteArray, ⟨(IP.dgb b.toNat g n.toNat).toArray⟩ = D := ⟨_, rfl⟩
  have hdl := IP.dgb_len64 b.toNat g (by omega) n.toNat (by omega)
  have hdp := IP.dgb_pos b.toNat n.toNat g
  have hDs : D.size ≤ 64 := by rw [← hD]; simpa [ByteArray.size] using hdl
  have hDp : 1 ≤ D.size := by rw [← hD]; simpa [ByteArray.size] using hdp
  have hDl : D.data.toList = IP.dgb b.toNat g n.toNat := by rw [← hD]
  have hgd : (g = true → (⟨(D0.data.toList.map greatB).toArray⟩ : ByteArray) = D) ∧ (g = false → D0 = D) := by
    refine ⟨fun e => ?_, fun e => ?_⟩
    · subst e
      rw [← hD, ← hD0]
      exact bytes_ext (by simpa using great_dgb b.toNat (by omega) (by omega) n.toNat)
    · subst e
      rw [← hD, ← hD0]
  have HGD := hid hgd
  have HDL := hid hDl
  have HP := hid hP
  have HV := hid hVV
  have HG := hid hg
  obtain ⟨M, hM⟩ : ∃ M : ByteArray, (if al || sh then m else ⟨#[]⟩) = M := ⟨_, rfl⟩
  rw [hM]
  have HM := hid hM
  have hMs : M.size ≤ 10 := by
    rw [← hM]
    split
    · exact hms
    · decide
  clear hgd hD hD0 hdl hdp hd0l hDl hP hVV hg hM hb4 hbas
  have B0 := hid (bx_start w (sp8 pl mi sh sp ze wid prec verb))
  go_enter Try.func28, Try.ntmps28
  go_wp2_with fail
  refine (BS.out _).mono ?_
  rintro e w0 ⟨rfl, rfl⟩
  obtain ⟨W0, hW0⟩ : ∃ W0, w.alloc (.cells (sp8 pl mi sh sp ze wid prec verb) 27) = W0 := ⟨_, rfl⟩
  obtain ⟨H, hH⟩ : ∃ H, w.heap.size = H := ⟨_, rfl⟩
  have HH := hid hH
  rw [hW0] at B0 ⊢
  rw [hH] at B0 ⊢
  clear hW0 hH
  obtain ⟨s0, s1, s2, s3, s4, s5, s6, s7⟩ := B0.out.cells
  go_upto_region 17 with fail
  go_cut [87] (fun v87 wn => v87 = .bool (!al && !sh) ∧ W0 = wn)
  case first =>
    cases al
    · cases sh
      · go_wp2_with fail
        go_meet
        exact ⟨rfl, rfl⟩
      · go_wp2_with fail
        go_meet
        exact ⟨rfl, rfl⟩
    · go_wp2_with fail
      go_meet
      exact ⟨rfl, rfl⟩
  case rest =>
    obtain ⟨rfl, rfl⟩ := hcut
    go_upto_if 87 with fail
    go_cut [13] (fun v13 wn => v13 = .string M ∧ W0 = wn)
    case first =>
      cases al
      · cases sh
        · have hm : M = ⟨#[]⟩ := HM.out.symm
          subst hm
          go_wp2_with fail
          go_meet
          exact ⟨rfl, rfl⟩
        · have hm : M = m := HM.out.symm
          subst hm
          go_wp2_with fail
          go_meet
          exact ⟨rfl, rfl⟩
      · have hm : M = m := HM.out.symm
        subst hm
        cases sh
        · go_wp2_with fail
          go_meet
          exact ⟨rfl, rfl⟩
        · go_wp2_with fail
          go_meet
          exact ⟨rfl, rfl⟩
    case rest =>
      obtain ⟨rfl, rfl⟩ := hcut
      go_wp2_with fail
      refine (DG.out _).mono ?_
      rintro e w1 ⟨rfl, rfl⟩
      go_upto_region 20 with fail
      go_cut [93] (fun v93 wn => v93 = .bool g ∧ W0 = wn)
      case first =>
        rcases (show (verb = 88 ∧ g = true) ∨ ((verb == 88) = false ∧ g = false) by
          by_cases h : verb = 88
          · exact Or.inl ⟨h, by rw [← HG.out]; exact decide_eq_true h⟩
          · exact Or.inr ⟨beq_eq_false_iff_ne.2 h, by rw [← HG.out]; exact decide_eq_false h⟩) with ⟨hv, hgg⟩ | ⟨hv, hgg⟩
        · subst hv
          subst hgg
          go_wp2_with fail
          go_meet
          exact ⟨rfl, rfl⟩
        · subst hgg
          go_wp2_with fail
          go_meet
          exact ⟨rfl, rfl⟩
      case rest =>
        obtain ⟨rfl, rfl⟩ := hcut
        go_upto_if 93 with fail
        go_cut [15] (fun v15 wn => v15 = .string D ∧ Hid (Bx w H (sp8 pl mi sh sp ze wid prec verb) wn))
        case first =>
          cases g
          · have hdd := HGD.out.2 rfl
            subst hdd
            go_wp2_with fail
            go_meet
            exact ⟨rfl, B0⟩
          · have hdd := HGD.out.1 rfl
            rw [hdd] at GR
            clear hdd
            go_wp2_with fail
            refine (GR.out _).mono ?_
            rintro e w1 ⟨rfl, hb⟩
            have B1 := hid (B0.out.kept hb)
            clear hb
            go_wp2_with fail
            go_meet
            exact ⟨rfl, B1⟩
        case rest =>
          obtain ⟨rfl, B1⟩ := hcut
          clear s0 s1 s2 s3 s4 s5 s6 s7 B0
          obtain ⟨s0, s1, s2, s3, s4, s5, s6, s7⟩ := B1.out.cells
          go_wp2_with fail
          refine (WP.out _).mono ?_
          rintro e w1 ⟨rfl, rfl⟩
          obtain ⟨zz, hzz⟩ : ∃ zz : Bool, decide (n = 0 ∧ P = 0) = zz := ⟨_, rfl⟩
          have HZ := hid hzz
          clear hzz
          obtain ⟨W1, hW1⟩ : ∃ W1, wc = W1 := ⟨_, rfl⟩
          rw [hW1] at B1 s0 s1 s2 s3 s4 s5 s6 s7 ⊢
          clear hW1
          go_upto_region 23 with fail
          go_cut [104] (fun v104 wn => v104 = .bool zz ∧ W1 = wn)
          case first =>
            rcases (show (n = 0 ∧ P = 0 ∧ zz = true) ∨ ((n == 0) = false ∧ P = 0 ∧ zz = false) ∨ ((P == 0) = false ∧ zz = false) by
              rw [← HZ.out]
              by_cases c : P = 0
              · by_cases a : n = 0
                · exact Or.inl ⟨a, c, decide_eq_true ⟨a, c⟩⟩
                · exact Or.inr (Or.inl ⟨beq_eq_false_iff_ne.2 a, c, decide_eq_false fun h => a h.1⟩)
              · exact Or.inr (Or.inr ⟨beq_eq_false_iff_ne.2 c, decide_eq_false fun h => c h.2⟩)) with ⟨q1, q2, q3⟩ | ⟨q1, q2, q3⟩ | ⟨q2, q3⟩
            · subst q1
              subst q2
              subst q3
              go_wp2_with fail
              go_meet
              exact ⟨rfl, rfl⟩
            · subst q2
              subst q3
              go_wp2_with fail
              go_meet
              exact ⟨rfl, rfl⟩
            · subst q3
              go_wp2_with fail
              go_meet
              exact ⟨rfl, rfl⟩
          case rest =>
            obtain ⟨rfl, rfl⟩ := hcut
            cases zz
            · have hnz : ¬ (n.toNat = 0 ∧ P = 0) := fun h => by
                have := of_decide_eq_false HZ.out
                exact this ⟨by omega, h.2⟩
              have ZA := hid (fun W => zeros_any D P W (by omega) (by omega) (by omega))
              have hzl := IP.zerosTo_len P D.data.toList
              obtain ⟨D1, hD1⟩ : ∃ D1 : ByteArray, ⟨(IP.zerosTo P D.data.toList).toArray⟩ = D1 := ⟨_, rfl⟩
              rw [hD1] at ZA
              have hD1l : D1.data.toList = IP.zerosTo P D.data.toList := by rw [← hD1]
              have hD1s : D1.size ≤ 1064 := by rw [Utf.size_eq, hD1l, hzl, ← Utf.size_eq]; omega
              have hD1p : 0 < D1.size := by rw [Utf.size_eq, hD1l, hzl, ← Utf.size_eq]; omega
              have HD1 := hid hD1l
              clear hD1 hD1l hzl
              go_upto_region 25 with fail
              rename_i hK
              have HK := hid hK
              clear hK
              go_wp2_with fail
              refine (ZA.out _).mono ?_
              rintro e w2 ⟨rfl, rfl⟩
              go_wp2_with fail
              refine HK.out _ _ ?_
              exact wtail10 neg n.toNat b.toNat g M D1 pl mi sh sp ze wid prec verb P w W1 H B1 HP hnz (hid (by rw [HD1.out, HDL.out])) hD1s hD1p hMs hw0 hw1 _ _ _ _ _ _ _ _ _ _ _ _ _ _ _ _ _ _ _ _ _ _ _ _ _ _ _ _ _ _ _ _ _ _ _ _ _ _ _ _ _ _ _ _ _ _ _ _ _ _ _ _ _ _ _ _ _ _ _ _ _ _ _ _ _ _ _ _ _ _ _ _ _ _ _ _ _ _ _ _ _ _ _ _ _ _ _ _ _ _ _ _ _ _ _ _ _ _ _ _ _ _ _ _ _ _ _ _ _ _ _ _ _ _ _ _ _ _ _ _ _ _ _ _ _ _ _ _ _ _ _ _ _ _ _ _ _ _ _ _ _ _ _ _ _ _
            · have hq := of_decide_eq_true HZ.out
              have PD := hid (fun W => rpadplain_any ⟨#[]⟩ pl mi sh sp ze wid prec verb W (by decide) hw0 hw1)
              have hres : IP.bodyL neg n.toNat b.toNat g M.data.toList pl mi sp ze wid prec = [] := by
                unfold IP.bodyL
                rw [if_pos ⟨by omega, by rw [HP.out]; exact hq.2⟩]
              have HRES := hid hres
              clear hres hq
              go_wp2_with fail
              refine (PD.out _).mono ?_
              rintro e w5 ⟨rfl, hb⟩
              have B2 := hid (B1.out.kept hb)
              clear hb
              go_wp2_with fail
              go_ret2
              refine ⟨?_, B2.out.below⟩
              rw [HRES.out]
              rfl
end Go.Proofs.Ytampkhdlhhgneaa
