/-
  Walks of layer 3: a number to a base.
-/
import Derived.Test.YtampkhdlhhgneaaQ4
import Derived.Deep.DeepCutAuto
namespace Go.Proofs.Ytampkhdlhhgneaa
open Go.RowKit Go.Proofs

abbrev whole (neg : Bool) (n bits : Int) (uns : Bool) : Value := .agg #[.bool neg, .int .u64 n, .int .u64 bits, .bool uns]
theorem fill_str (k : Int) (hk : k ≤ 1000) : (fillS 48 k).data.toList = List.replicate k.toNat 48 := by
  show fillL 48 k = _
  unfold fillL
  rw [show min k 1000 = k by omega]
  rfl
/-- Noughts ahead of a text. -/
theorem fill_zeros (k : Int) (D : ByteArray) (hk : k ≤ 1000) : fillS 48 (k - D.size) ++ D = ⟨(IP.zerosTo k D.data.toList).toArray⟩ := by
  refine bytes_ext ?_
  rw [ByteArray.data_append, Array.toList_append, fill_str _ (by omega)]
  show _ = IP.zerosTo k D.data.toList
  unfold IP.zerosTo
  rw [Utf.size_eq]

/-- The two boxes of a number under way and its spec, kept. -/
structure Bs (w : World) (H1 H2 : Nat) (C1 C2 : Array Value) (W : World) : Prop where
  b1 : Blk W H1 C1 47
  b2 : Blk W H2 C2 27
  below : Below w.heap.size w W
theorem Bs.kept {w W W' : World} {H1 H2 : Nat} {C1 C2 : Array Value} (h : Bs w H1 H2 C1 C2 W) (hb : Below W.heap.size W W') : Bs w H1 H2 C1 C2 W' :=
  ⟨h.b1.below hb h.b1.lt, h.b2.below hb h.b2.lt, h.below.trans (hb.mono h.below.size)⟩
abbrev wh4 (neg : Bool) (n bits : Int) (uns : Bool) : Array Value := #[.bool neg, .int .u64 n, .int .u64 bits, .bool uns]
abbrev sp8 (pl mi sh sp ze : Bool) (wid prec verb : Int) : Array Value := #[.bool pl, .bool mi, .bool sh, .bool sp, .bool ze, .int .i64 wid, .int .i64 prec, .int .i32 verb]
theorem Bs.cells {w W : World} {H1 H2 : Nat} {neg uns : Bool} {n bits : Int} {pl mi sh sp ze : Bool} {wid prec verb : Int} (h : Bs w H1 H2 (wh4 neg n bits uns) (sp8 pl mi sh sp ze wid prec verb) W) :
    W.cell? ⟨H1, 0, none⟩ = some (.bool neg) ∧ W.cell? ⟨H1, 1, none⟩ = some (.int .u64 n) ∧ W.cell? ⟨H1, 2, none⟩ = some (.int .u64 bits) ∧ W.cell? ⟨H1, 3, none⟩ = some (.bool uns) ∧
    W.cell? ⟨H2, 0, none⟩ = some (.bool pl) ∧ W.cell? ⟨H2, 1, none⟩ = some (.bool mi) ∧ W.cell? ⟨H2, 2, none⟩ = some (.bool sh) ∧ W.cell? ⟨H2, 3, none⟩ = some (.bool sp) ∧ W.cell? ⟨H2, 4, none⟩ = some (.bool ze) ∧ W.cell? ⟨H2, 5, none⟩ = some (.int .i64 wid) ∧ W.cell? ⟨H2, 6, none⟩ = some (.int .i64 prec) ∧ W.cell? ⟨H2, 7, none⟩ = some (.int .i32 verb) ∧ W.frozen? ⟨H2, 4, none⟩ = false :=
  ⟨h.b1.cell 0, h.b1.cell 1, h.b1.cell 2, h.b1.cell 3, h.b2.cell 0, h.b2.cell 1, h.b2.cell 2, h.b2.cell 3, h.b2.cell 4, h.b2.cell 5, h.b2.cell 6, h.b2.cell 7, h.b2.frozen 4⟩
theorem bs_start (w : World) (C1 C2 : Array Value) : Bs w w.heap.size (w.heap.size + 1) C1 C2 ((w.alloc (.cells C1 47)).alloc (.cells C2 27)) := by
  refine ⟨(Blk.new w C1 _).alloc _, ?_, ((Below.refl _ _).alloc (Nat.le_refl _) _).alloc (by simp) _⟩
  have := Blk.new (w.alloc (.cells C1 47)) C2 27
  simpa using this

set_option maxRecDepth 100000 in
set_option maxHeartbeats 2000000 in
theorem based_any (neg uns : Bool) (n bits : Int) (pl mi sh sp ze : Bool) (wid prec verb : Int) (b : Int) (mark : ByteArray) (w : World) (h0 : 0 ≤ n) (h1 : n ≤ 18446744073709551615) (hb2 : 2 ≤ b) (hb16 : b ≤ 16) (hm : mark.size ≤ 10) (hmk : mark = ⟨#[48]⟩ ∨ ((mark.toList == [48]) = false ∧ ¬ mark.data.toList = [48]))
    (hw0 : -9223372036854775808 ≤ wid) (hw1 : wid ≤ 9223372036854775807) :
    Calls Try.prog 31 #[whole neg n bits uns, .agg #[.bool pl, .bool mi, .bool sh, .bool sp, .bool ze, .int .i64 wid, .int .i64 prec, .int .i32 verb], .int .u64 b, .string mark] w fun e w' =>
      e = .returned (.string (padS ⟨(IP.bodyL neg n.toNat b.toNat (decide (verb = 88)) mark.data.toList pl mi sp ze wid prec).toArray⟩ mi false wid)) ∧ Below w.heap.size w w' := by
  obtain ⟨P, hP⟩ : ∃ P, IP.limI prec = P := ⟨_, rfl⟩
  have hPb : -1 ≤ P ∧ P ≤ 1000 := by rw [← hP]; unfold IP.limI; omega
  obtain ⟨hPb0, hPb1⟩ := hPb
  have LP := hid (fun W => limit_any prec W)
  rw [hP] at LP
  obtain ⟨g, hg⟩ : ∃ g : Bool, decide (verb = 88) = g := ⟨_, rfl⟩
  rw [hg]
  have DG := hid (fun W => digits_any n b g W h0 h1 hb2 hb16)
  have hdl := IP.dgb_len64 b.toNat g (by omega) n.toNat (by omega)
  have hdp := IP.dgb_pos b.toNat n.toNat g
  obtain ⟨D, hD⟩ : ∃ D : ByteArray, ⟨(IP.dgb b.toNat g n.toNat).toArray⟩ = D := ⟨_, rfl⟩
  rw [hD] at DG
  have hDs : D.size ≤ 64 := by rw [← hD]; simpa [ByteArray.size] using hdl
  have hDp : 1 ≤ D.size := by rw [← hD]; simpa [ByteArray.size] using hdp
  have HD := hid (And.intro hD (And.intro hP hg))
  clear hD hP hdl hdp
  have S0 := hid (bs_start w (wh4 neg n bits uns) (sp8 pl mi sh sp ze wid prec verb))
  go_enter Try.func31, Try.ntmps31
  go_upto_if 15 with fail
  obtain ⟨W0, hW0⟩ : ∃ W0, (w.alloc (.cells (wh4 neg n bits uns) 47)).alloc (.cells (sp8 pl mi sh sp ze wid prec verb) 27) = W0 := ⟨_, rfl⟩
  obtain ⟨H, hH⟩ : ∃ H, w.heap.size = H := ⟨_, rfl⟩
  have HH := hid hH
  rw [hW0] at S0 ⊢
  rw [hH] at S0 ⊢
  clear hW0 hH
  go_cut [9] (fun v9 wc => v9 = .string (signsS g) ∧ wc = W0)
  case first =>
    rcases (show (verb = 88 ∧ g = true) ∨ ((verb == 88) = false ∧ g = false) by
      by_cases h : verb = 88
      · exact Or.inl ⟨h, by rw [← HD.out.2.2]; exact decide_eq_true h⟩
      · exact Or.inr ⟨beq_eq_false_iff_ne.2 h, by rw [← HD.out.2.2]; exact decide_eq_false h⟩) with ⟨hv, hgg⟩ | ⟨hv, hgg⟩
    · subst hv
      subst hgg
      go_wp2_with fail
      go_meet
      exact ⟨rfl, rfl⟩
    · subst hgg
      go_wp2_with fail
      go_meet
      exact ⟨rfl, rfl⟩
  case rest =>
    obtain ⟨rfl, rfl⟩ := hcut
    obtain ⟨c0, c1, c2, c3, s0, s1, s2, s3, s4, s5, s6, s7, sf⟩ := S0.out.cells
    go_wp2_with fail
    refine (LP.out _).mono ?_
    rintro e w' ⟨rfl, rfl⟩
    go_wp2_with fail
    refine (DG.out _).mono ?_
    rintro e w1 ⟨rfl, hb1⟩
    have S1 := hid (S0.out.kept hb1)
    clear hb1 c0 c1 c2 c3 s0 s1 s2 s3 s4 s5 s6 s7 sf
    obtain ⟨c0, c1, c2, c3, s0, s1, s2, s3, s4, s5, s6, s7, sf⟩ := S1.out.cells
    obtain ⟨zz, hzz⟩ : ∃ zz : Bool, decide (n = 0 ∧ P = 0) = zz := ⟨_, rfl⟩
    have HZ := hid hzz
    clear hzz
    go_upto_region 6 with fail
    go_cut [30] (fun v30 wc => v30 = .bool zz ∧ wc = w1)
    case first =>
      rcases (show (n = 0 ∧ P = 0 ∧ zz = true) ∨ (n = 0 ∧ (P == 0) = false ∧ zz = false) ∨ ((n == 0) = false ∧ zz = false) by
        rw [← HZ.out]
        by_cases a : n = 0
        · by_cases c : P = 0
          · exact Or.inl ⟨a, c, decide_eq_true ⟨a, c⟩⟩
          · exact Or.inr (Or.inl ⟨a, beq_eq_false_iff_ne.2 c, decide_eq_false fun h => c h.2⟩)
        · exact Or.inr (Or.inr ⟨beq_eq_false_iff_ne.2 a, decide_eq_false fun h => a h.1⟩)) with ⟨q1, q2, q3⟩ | ⟨q1, q2, q3⟩ | ⟨q2, q3⟩
      · subst q1
        subst q2
        subst q3
        go_wp2_with fail
        go_meet
        exact ⟨rfl, rfl⟩
      · subst q1
        subst q3
        go_wp2_with fail
        go_meet
        exact ⟨rfl, rfl⟩
      · subst q3
        go_wp2_with fail
        go_meet
        exact ⟨rfl, rfl⟩
    case rest =>
      obtain ⟨rfl, rfl⟩ := hcut
      cases zz
      · have hnz : ¬ (n.toNat = 0 ∧ IP.limI prec = 0) := fun h => by
          have := of_decide_eq_false HZ.out
          rw [HD.out.2.1] at h
          exact this ⟨by omega, h.2⟩
        have FI := hid (fun W => fill_any 48 (P - D.size) W (by omega) (by omega))
        obtain ⟨D1, hD1⟩ : ∃ D1, fillS 48 (P - D.size) ++ D = D1 := ⟨_, rfl⟩
        have hz1 := fillS_size 48 (P - D.size)
        have hD1s : D1.size ≤ 1064 := by rw [← hD1, ByteArray.size_append]; omega
        have hD1p : 0 < D1.size := by rw [← hD1, ByteArray.size_append]; omega
        have hD1l : D1.data.toList = IP.zerosTo P D.data.toList := by rw [← hD1, fill_zeros P D hPb1]
        have HD1 := hid (And.intro hD1 hD1l)
        have hD1e : D1.toList.isEmpty = false := isEmpty_of_pos hD1p
        clear hD1 hD1l
        go_wp2_with fail
        refine (FI.out _).mono ?_
        rintro e w2 ⟨rfl, hb2⟩
        have S2 := hid (S1.out.kept hb2)
        clear hb2 c0 c1 c2 c3 s0 s1 s2 s3 s4 s5 s6 s7 sf
        obtain ⟨c0, c1, c2, c3, s0, s1, s2, s3, s4, s5, s6, s7, sf⟩ := S2.out.cells
        go_upto_region 9 with fail
        rw [HD1.out.1]
        obtain ⟨S, hS⟩ : ∃ S : ByteArray, (⟨(IP.signL neg pl sp).toArray⟩ : ByteArray) = S := ⟨_, rfl⟩
        have hSs : S.size ≤ 1 := by rw [← hS]; simpa [ByteArray.size] using IP.signL_len neg pl sp
        have HS := hid hS
        clear hS
        go_upto_block 0 with fail
        go_cut [12] (fun v12 wn => v12 = .string S ∧ wn = w2)
        case first =>
          cases neg
          · cases pl
            · cases sp
              · have hs : S = ⟨#[]⟩ := HS.out.symm
                subst hs
                go_wp2_with fail
                go_meet
                exact ⟨rfl, rfl⟩
              · have hs : S = ⟨#[32]⟩ := HS.out.symm
                subst hs
                go_wp2_with fail
                go_meet
                exact ⟨rfl, rfl⟩
            · have hs : S = ⟨#[43]⟩ := HS.out.symm
              subst hs
              go_wp2_with fail
              go_meet
              exact ⟨rfl, rfl⟩
          · have hs : S = ⟨#[45]⟩ := HS.out.symm
            subst hs
            go_wp2_with fail
            go_meet
            exact ⟨rfl, rfl⟩
        case rest =>
          obtain ⟨rfl, rfl⟩ := hcut
          obtain ⟨hp, hhp⟩ : ∃ hp, Lib.hasPrefix D1.data.toList [48] = hp := ⟨_, rfl⟩
          have PF := hid (fun W => Try.strings_HasPrefix D1 ⟨#[48]⟩ W)
          have ePF : (⟨#[48]⟩ : ByteArray).data.toList = [48] := rfl
          rw [ePF, hhp] at PF
          obtain ⟨mk, hmk2⟩ : ∃ mk : Bool, (decide (mark.data.toList = [48]) && hp) = mk := ⟨_, rfl⟩
          have HM := hid (And.intro hmk2 hhp)
          clear hmk2 hhp ePF
          go_upto_region 16 with fail
          go_cut [52] (fun v52 w4 => v52 = .bool mk ∧ w4 = wc)
          case first =>
            rcases hmk with rfl | ⟨hmk, hmn⟩
            · have hmk : mk = hp := by rw [← HM.out.1]; rfl
              subst hmk
              go_wp2_with fail
              refine (PF.out _).mono ?_
              rintro e w' ⟨rfl, rfl⟩
              go_wp2_with fail
              go_meet
              exact ⟨rfl, rfl⟩
            · have hmk : mk = false := by rw [← HM.out.1, decide_eq_false hmn]; rfl
              subst hmk
              go_wp2_with fail
              go_meet
              exact ⟨rfl, rfl⟩
          case rest =>
            obtain ⟨rfl, rfl⟩ := hcut
            obtain ⟨M, hM⟩ : ∃ M : ByteArray, (if mk then ⟨#[]⟩ else mark) = M := ⟨_, rfl⟩
            have hMs : M.size ≤ 10 := by rw [← hM]; cases mk; exact hm; exact Nat.zero_le _
            have hMl : M.data.toList = IP.markL mark.data.toList D1.data.toList := by
              rw [← hM, ← HM.out.1, ← HM.out.2]
              unfold IP.markL Lib.hasPrefix
              by_cases e : mark.data.toList = [48]
              · rw [e]
                cases hd : D1.data.toList with
                | nil => simp [e]
                | cons x r =>
                  by_cases ex : x = 48
                  · subst ex; simp
                  · simp [Ne.symm ex, ex, e]
              · simp [e]
            obtain ⟨zf, hzf⟩ : ∃ zf : Bool, (ze && !mi && decide (P < 0)) = zf := ⟨_, rfl⟩
            have HMM := hid (And.intro hM (And.intro hMl hzf))
            clear hM hMl hzf
            go_upto_if 52 with fail
            go_cut [3] (fun v3 w5 => v3 = .string M ∧ w5 = wc)
            case first =>
              cases mk
              · have e : M = mark := HMM.out.1.symm
                subst e
                go_wp2_with fail
                go_meet
                exact ⟨rfl, rfl⟩
              · have e : M = ⟨#[]⟩ := HMM.out.1.symm
                subst e
                go_wp2_with fail
                go_meet
                exact ⟨rfl, rfl⟩
            case rest =>
              obtain ⟨rfl, rfl⟩ := hcut
              go_upto_region 20 with fail
              go_cut [65] (fun v65 w6 => v65 = .bool zf ∧ w6 = wc)
              case first =>
                rcases (show (ze = false ∧ zf = false) ∨ (ze = true ∧ mi = true ∧ zf = false) ∨ (ze = true ∧ mi = false ∧ ¬ P < 0 ∧ zf = false) ∨ (ze = true ∧ mi = false ∧ P < 0 ∧ zf = true) by
                  rw [← HMM.out.2.2]
                  cases ze <;> cases mi <;> simp <;> omega) with ⟨rfl, rfl⟩ | ⟨rfl, rfl, rfl⟩ | ⟨rfl, rfl, hlt, rfl⟩ | ⟨rfl, rfl, hlt, rfl⟩
                all_goals
                  go_wp2_with fail
                  go_meet
                  exact ⟨rfl, rfl⟩
              case rest =>
                obtain ⟨rfl, rfl⟩ := hcut
                obtain ⟨D2, hD2⟩ : ∃ D2 : ByteArray, (if zf then fillS 48 (IP.limI wid - S.size - M.size - D1.size) ++ D1 else D1) = D2 := ⟨_, rfl⟩
                have LW := hid (fun W => limit_any wid W)
                obtain ⟨WL, hWL⟩ : ∃ WL, IP.limI wid = WL := ⟨_, rfl⟩
                have hWb : -1 ≤ WL ∧ WL ≤ 1000 := by rw [← hWL]; unfold IP.limI; omega
                obtain ⟨hWb0, hWb1⟩ := hWb
                rw [hWL] at LW hD2
                have hD2s : D2.size ≤ 2064 := by
                  have hq := fillS_size 48 (WL - S.size - M.size - D1.size)
                  rw [← hD2]
                  cases zf
                  · show D1.size ≤ 2064; omega
                  · show (_ ++ D1).size ≤ 2064
                    rw [ByteArray.size_append]; omega
                have FW := hid (fun W => fill_any 48 (WL - S.size - M.size - D1.size) W (by omega) (by omega))
                have HD2 := hid (And.intro hD2 hWL)
                clear hD2 hWL
                have BODY : Hid ((S ++ M ++ D2).data.toList = IP.bodyL neg n.toNat b.toNat g mark.data.toList pl mi sp ze wid prec) := by
                  have hDD : D.data.toList = IP.dgb b.toNat g n.toNat := by rw [← HD.out.1]
                  have hSS : S.data.toList = IP.signL neg pl sp := by rw [← HS.out]
                  have hSl : (S.size : Int) = (IP.signL neg pl sp).length := by rw [Utf.size_eq, hSS]
                  have hMl : (M.size : Int) = (IP.markL mark.data.toList D1.data.toList).length := by rw [Utf.size_eq, HMM.out.2.1]
                  unfold Hid IP.bodyL
                  rw [if_neg hnz, HD.out.2.1]
                  dsimp only
                  rw [← hDD, ← HD1.out.2, HD2.out.2]
                  have hz2 := HMM.out.2.2
                  have hd2 := HD2.out.1
                  simp only [ByteArray.data_append, Array.toList_append, hSS, HMM.out.2.1]
                  cases zf
                  · rw [if_neg (by
                      intro h
                      rw [h.1, h.2.1, decide_eq_true h.2.2] at hz2
                      cases hz2)]
                    rw [← hd2]; rfl
                  · have hc : ze = true ∧ mi = false ∧ P < 0 := by
                      cases ze <;> cases mi <;> simp at hz2
                      exact ⟨rfl, rfl, hz2⟩
                    rw [if_pos hc, ← hd2]
                    show _ ++ (fillS 48 (WL - S.size - M.size - D1.size) ++ D1).data.toList = _
                    have hf := fill_zeros (WL - S.size - M.size) D1 (by omega)
                    rw [hf, hSl, hMl]
                have hA1 : (S ++ M ++ D2).size ≤ 100000 := by rw [ByteArray.size_append, ByteArray.size_append]; omega
                go_upto_if 65 with fail
                go_cut [11] (fun v11 w7 => v11 = .string D2 ∧ Hid (Bs w H (H + 1) (wh4 neg n bits uns) (sp8 pl mi sh sp ze wid prec verb) w7))
                case first =>
                  cases zf
                  · have e : D2 = D1 := HD2.out.1.symm
                    subst e
                    go_wp2_with fail
                    go_meet
                    exact ⟨rfl, S2.out⟩
                  · have e : fillS 48 (WL - S.size - M.size - D1.size) ++ D1 = D2 := HD2.out.1
                    have hfz := fillS_size 48 (WL - S.size - M.size - D1.size)
                    go_wp2_with fail
                    refine (LW.out _).mono ?_
                    rintro e w' ⟨rfl, rfl⟩
                    go_wp2_with fail
                    refine (FW.out _).mono ?_
                    rintro e w8 ⟨rfl, hb8⟩
                    have S8 := hid (S2.out.kept hb8)
                    clear hb8
                    go_wp2_with fail
                    go_meet
                    exact ⟨by rw [HD2.out.1.symm], S8.out⟩
                case rest =>
                  obtain ⟨rfl, S9⟩ := hcut
                  clear c0 c1 c2 c3 s0 s1 s2 s3 s4 s5 s6 s7 sf
                  obtain ⟨_, _, _, _, s0, s1, s2, s3, s4, s5, s6, s7, sf⟩ := S9.out.cells
                  have PAD := hid (fun W => pad_any (S ++ M ++ D2) pl mi sh sp false wid prec verb W (by omega) hw0 hw1)
                  have hsm : S.size + M.size ≤ 11 := by omega
                  have BF := hid (S9.out.below.setCell (p := ⟨H + 1, 4, none⟩) (by rw [HH.out]; exact Nat.le_succ _) (.bool false))
                  go_wp2_with fail
                  refine (PAD.out _).mono ?_
                  rintro e w9 ⟨rfl, hb9⟩
                  have hfin : (⟨(IP.bodyL neg n.toNat b.toNat g mark.data.toList pl mi sp ze wid prec).toArray⟩ : ByteArray) = S ++ M ++ D2 := bytes_ext (by rw [BODY.out])
                  have HFIN := hid hfin
                  have HB9 := hid hb9
                  clear hfin hb9
                  go_wp2_with fail
                  go_ret
                  exact ⟨by rw [HFIN.out]; rfl, BF.out.trans (HB9.out.mono BF.out.size)⟩
      · obtain ⟨rfl, rfl⟩ := of_decide_eq_true HZ.out
        have hbody : IP.bodyL neg (0 : Int).toNat b.toNat g mark.data.toList pl mi sp ze wid prec = [] := by
          unfold IP.bodyL
          rw [if_pos ⟨rfl, HD.out.2.1⟩]
        have HBODY := hid hbody
        have F0 : fillS 48 0 = ⟨#[]⟩ := rfl
        have FI := hid (fun W => fill_any 48 0 W (by decide) (by decide))
        rw [F0] at FI
        have hEE : ((⟨#[]⟩ : ByteArray) ++ (⟨#[]⟩ : ByteArray)) = ⟨#[]⟩ := rfl
        clear hbody F0
        go_wp2_with fail
        refine (FI.out _).mono ?_
        rintro e w2 ⟨rfl, hb2⟩
        have S2 := hid (S1.out.kept hb2)
        clear hb2 c0 c1 c2 c3 s0 s1 s2 s3 s4 s5 s6 s7 sf
        obtain ⟨c0, c1, c2, c3, s0, s1, s2, s3, s4, s5, s6, s7, sf⟩ := S2.out.cells
        go_upto_block 0 with fail
        go_cut [12] (fun v12 wn => (∃ S : ByteArray, v12 = .string S ∧ S.size ≤ 1) ∧ wn = w2)
        case first =>
          cases neg
          · cases pl
            · cases sp
              · go_wp2_with fail
                go_meet
                exact ⟨⟨_, rfl, by decide⟩, rfl⟩
              · go_wp2_with fail
                go_meet
                exact ⟨⟨_, rfl, by decide⟩, rfl⟩
            · go_wp2_with fail
              go_meet
              exact ⟨⟨_, rfl, by decide⟩, rfl⟩
          · go_wp2_with fail
            go_meet
            exact ⟨⟨_, rfl, by decide⟩, rfl⟩
        case rest =>
          obtain ⟨⟨S, rfl, hSs⟩, rfl⟩ := hcut
          have PF := hid (fun W => Try.strings_HasPrefix ⟨#[]⟩ ⟨#[48]⟩ W)
          have ePF : Lib.hasPrefix (⟨#[]⟩ : ByteArray).data.toList (⟨#[48]⟩ : ByteArray).data.toList = false := rfl
          rw [ePF] at PF
          clear ePF
          go_upto_region 16 with fail
          go_cut [52] (fun v52 wn => v52 = .bool false ∧ wn = wc)
          case first =>
            rcases hmk with rfl | ⟨hmk, hmn⟩
            · go_wp2_with fail
              refine (PF.out _).mono ?_
              rintro e w' ⟨rfl, rfl⟩
              go_wp2_with fail
              go_meet
              exact ⟨rfl, rfl⟩
            · go_wp2_with fail
              go_meet
              exact ⟨rfl, rfl⟩
          case rest =>
            obtain ⟨rfl, rfl⟩ := hcut
            go_upto_region 20 with fail
            go_cut [65] (fun v65 wn => v65 = .bool false ∧ wn = wc)
            case first =>
              cases ze <;> cases mi
              all_goals
                go_wp2_with fail
                go_meet
                exact ⟨rfl, rfl⟩
            case rest =>
              obtain ⟨rfl, rfl⟩ := hcut
              have PAD := hid (fun W => pad_any (⟨#[]⟩ : ByteArray) pl mi sh sp false wid prec verb W (by decide) hw0 hw1)
              have BF := hid (S2.out.below.setCell (p := ⟨H + 1, 4, none⟩) (by rw [HH.out]; exact Nat.le_succ _) (.bool false))
              go_wp2_with fail
              refine (PAD.out _).mono ?_
              rintro e w9 ⟨rfl, hb9⟩
              have HB9 := hid hb9
              clear hb9
              go_wp2_with fail
              go_ret
              exact ⟨by rw [HBODY.out]; rfl, BF.out.trans (HB9.out.mono BF.out.size)⟩
end Go.Proofs.Ytampkhdlhhgneaa
