/-
  Walks of layer 9: the document's directive.
-/
import Derived.Test.YtmfhoindfhmncaaDoorS8
namespace Go.Proofs.YtmfhoindfhmncaaDoor
open Go.RowKit Go.Proofs

set_option maxRecDepth 100000 in
set_option maxHeartbeats 1000000 in
theorem sdirective_any (s : ByteArray) (w : World) (hs : s.size ≤ 100000) :
    Calls Tryd.prog 20 #[.string s] w fun e w' => ∃ (text : ByteArray) (n : Nat), e = .returned (.tuple #[.agg (pcV (PP.dirL s.data.toList).1 text), .int .i64 n]) ∧
      text.data.toList = (PP.dirL s.data.toList).1.text ∧ n ≤ s.size ∧ s.data.toList.drop n = (PP.dirL s.data.toList).2 ∧ Below w.heap.size w w' := by
  obtain ⟨Q, hQ⟩ : ∃ Q, w.heap.size = Q := ⟨_, rfl⟩
  have q0 : Blk (w.alloc (.cells pc0 34)) Q pc0 34 := hQ ▸ Blk.new w _ _
  have p0 : Blk ((w.alloc (.cells pc0 34)).alloc (.cells pc0 34)) (Q + 1) pc0 34 := by
    have := Blk.new (w.alloc (.cells pc0 34)) pc0 34
    rwa [show (w.alloc (.cells pc0 34)).heap.size = Q + 1 by simp [hQ]] at this
  go_enter Tryd.func20, Tryd.ntmps20
  go_upto_region 1 with fail
  refine wp_region_list ?_
  refine wpList_buildTo rfl 34 _ rfl (some 16) rfl (pc0.setIfInBounds 0 (.int .i64 2)) (by kernel_rfl) ?_
  refine wpList_plain rfl fun K hK => ?_
  have HK := hid hK
  clear hK
  go_wp2_with fail
  refine HK.out _ _ ?_
  clear HK
  refine wpList_store_rowTo rfl 34 _ _ rfl rfl (Q + 1) (pc0.setIfInBounds 0 (.int .i64 2)) rfl rfl 34 pc0 p0 rpiece_size rfl (by kernel_rfl) ?_
  refine wpList_nil ?_
  have S0 : SD w (((w.alloc (.cells pc0 34)).alloc (.cells pc0 34)).setRow (Q + 1) (pc0.setIfInBounds 0 (.int .i64 2))) Q (Q + 1) (pc0.setIfInBounds 0 (.int .i64 2)) :=
    ⟨below_setRow (((Below.refl w.heap.size w).alloc (Nat.le_refl _) _).alloc (by simp) _) (Q + 1) (by omega) _, p0.setRow _, (q0.alloc _).row_far (by omega) _, by omega, by omega⟩
  obtain ⟨W0, hW0⟩ : ∃ W0, ((w.alloc (.cells pc0 34)).alloc (.cells pc0 34)).setRow (Q + 1) (pc0.setIfInBounds 0 (.int .i64 2)) = W0 := ⟨_, rfl⟩
  rw [hW0] at S0 ⊢
  obtain ⟨P, hP⟩ : ∃ P, Q + 1 = P := ⟨_, rfl⟩
  rw [hP] at S0 ⊢
  have hp7 : W0.cell? ⟨P, 7, none⟩ = some (.int .i64 0) := S0.p.cell 7
  have hp8 : W0.cell? ⟨P, 8, none⟩ = some (.int .i64 0) := S0.p.cell 8
  have hpf : ∀ i, W0.frozen? ⟨P, i, none⟩ = false := S0.p.frozen
  have S1 := hid (show SD w ((W0.setCell ⟨P, 7, none⟩ (.int .i64 (-1))).setCell ⟨P, 8, none⟩ (.int .i64 (-1))) Q P (pcs 2 ⟨#[]⟩ rfl0 0 rnm0 rnm0 rix0) from (S0.set_ 7 (.int .i64 (-1))).set_ 8 (.int .i64 (-1)))
  clear q0 p0 hW0 hP hQ S0
  have H0 := hid (show PP.flL rfl0 s.data.toList = PP.flL rfl0 (s.data.toList.drop 0) from rfl)
  go_upto_block 0 with fail
  go_cut [7] (fun iv wn => ∃ (i : Nat) (f : PP.Fl), iv = .int .i64 i ∧ i ≤ s.size ∧ PP.flL rfl0 s.data.toList = (f, s.data.toList.drop i) ∧ SD w wn Q P (pcs 2 ⟨#[]⟩ f 0 rnm0 rnm0 rix0))
  case first =>
    go_wp2_with fail
    go_loopw [7] (fun iv wr => ∃ (i : Nat) (f : PP.Fl), iv = .int .i64 i ∧ i ≤ s.size ∧ Hid (PP.flL rfl0 s.data.toList = PP.flL f (s.data.toList.drop i) ∧ SD w wr Q P (pcs 2 ⟨#[]⟩ f 0 rnm0 rnm0 rix0))) (fun iv _ => s.size - (intOf iv).toNat)
    case atStart => exact ⟨0, rfl0, rfl, Nat.zero_le _, H0.out, S1.out⟩
    case round =>
      obtain ⟨i, f, rfl, hi, hI⟩ := hrel
      by_cases hlt : i < s.size
      · have E0 := bt_at s i hlt
        have hst := fl_step s i f hlt
        obtain ⟨c, hc⟩ : ∃ c, bt s i = c := ⟨_, rfl⟩
        rw [hc] at E0 hst
        obtain ⟨p2, p3, p4, p5, p6⟩ := hI.out.2.cells
        have hpf : ∀ i, wr.frozen? ⟨P, i, none⟩ = false := hI.out.2.p.frozen
        have HST := hid hst
        clear hst hc
        by_cases h0 : c = 43
        · subst h0
          have N := hid (And.intro (hI.out.1.trans (HST.out.1 rfl)) (show SD w (wr.setCell ⟨P, 2, none⟩ (.bool true)) Q P (pcs 2 ⟨#[]⟩ { f with pl := true } 0 rnm0 rnm0 rix0) from hI.out.2.set_ 2 (.bool true)))
          go_wp2_with fail
          go_roundw
          case rel => exact ⟨i + 1, _, by go_num, by omega, N.out⟩
          case measure => simp [intOf]; omega
        by_cases h1 : c = 45
        · subst h1
          have N := hid (And.intro (hI.out.1.trans (HST.out.2.1 rfl)) (show SD w (wr.setCell ⟨P, 3, none⟩ (.bool true)) Q P (pcs 2 ⟨#[]⟩ { f with mi := true } 0 rnm0 rnm0 rix0) from hI.out.2.set_ 3 (.bool true)))
          go_wp2_with fail
          go_roundw
          case rel => exact ⟨i + 1, _, by go_num, by omega, N.out⟩
          case measure => simp [intOf]; omega
        by_cases h2 : c = 35
        · subst h2
          have N := hid (And.intro (hI.out.1.trans (HST.out.2.2.1 rfl)) (show SD w (wr.setCell ⟨P, 4, none⟩ (.bool true)) Q P (pcs 2 ⟨#[]⟩ { f with sh := true } 0 rnm0 rnm0 rix0) from hI.out.2.set_ 4 (.bool true)))
          go_wp2_with fail
          go_roundw
          case rel => exact ⟨i + 1, _, by go_num, by omega, N.out⟩
          case measure => simp [intOf]; omega
        by_cases h3 : c = 32
        · subst h3
          have N := hid (And.intro (hI.out.1.trans (HST.out.2.2.2.1 rfl)) (show SD w (wr.setCell ⟨P, 5, none⟩ (.bool true)) Q P (pcs 2 ⟨#[]⟩ { f with sp := true } 0 rnm0 rnm0 rix0) from hI.out.2.set_ 5 (.bool true)))
          go_wp2_with fail
          go_roundw
          case rel => exact ⟨i + 1, _, by go_num, by omega, N.out⟩
          case measure => simp [intOf]; omega
        by_cases h4 : c = 48
        · subst h4
          have N := hid (And.intro (hI.out.1.trans (HST.out.2.2.2.2.1 rfl)) (show SD w (wr.setCell ⟨P, 6, none⟩ (.bool true)) Q P (pcs 2 ⟨#[]⟩ { f with ze := true } 0 rnm0 rnm0 rix0) from hI.out.2.set_ 6 (.bool true)))
          go_wp2_with fail
          go_roundw
          case rel => exact ⟨i + 1, _, by go_num, by omega, N.out⟩
          case measure => simp [intOf]; omega
        have hfin := hI.out.1.trans (HST.out.2.2.2.2.2 ⟨h0, h1, h2, h3, h4⟩)
        have FIN := hid (And.intro hfin hI.out.2)
        have g0 : (c == 43) = false := by simpa using h0
        have g1 : (c == 45) = false := by simpa using h1
        have g2 : (c == 35) = false := by simpa using h2
        have g3 : (c == 32) = false := by simpa using h3
        have g4 : (c == 48) = false := by simpa using h4
        clear hfin p2 p3 p4 p5 p6 hpf h0 h1 h2 h3 h4
        go_wp2_with fail
        go_meet
        exact ⟨i, f, rfl, hi, FIN.out.1, FIN.out.2⟩
      · have hfin : PP.flL rfl0 s.data.toList = (f, s.data.toList.drop i) := by
          have h1 := hI.out.1
          rw [List.drop_eq_nil_of_le (by rw [← Utf.size_eq]; omega)] at h1 ⊢
          rw [h1]
          rfl
        have FIN := hid (And.intro hfin hI.out.2)
        clear hfin
        go_wp2_with fail
        go_meet
        exact ⟨i, f, rfl, hi, FIN.out.1, FIN.out.2⟩
  case rest =>
    obtain ⟨i0, f0, rfl, hi0, hF0, hS0⟩ := hcut
    have F0 := hid hF0
    have S2 := hid hS0
    clear hF0 hS0 H0 S1
    have IX := hid (fun W => sindex_any s i0 W (by omega) hi0)
    go_wp2_with fail
    refine (IX.out _).mono ?_
    rintro e W1 ⟨x1, j1, rfl, hx1, hj0, hj1, b1⟩
    have S3 := hid (S2.out.calm b1)
    have X1 := hid hx1
    obtain ⟨th1, hth1⟩ : ∃ b : Bool, decide (x1.k ≠ 0) = b := ⟨_, rfl⟩
    rw [hth1]
    have TH1 := hid hth1
    clear hx1 b1 hth1 IX S2
    go_upto_block 3 with fail
    obtain ⟨X, hX⟩ : ∃ X, W1.heap.size = X := ⟨_, rfl⟩
    have S4 := hid (show SW w (W1.alloc (.cells #[.int .i64 x1.k, .int .i64 x1.n] 30)) Q P X (pcs 2 ⟨#[]⟩ f0 0 rnm0 rnm0 rix0) x1 from SW.start S3.out x1 hX)
    obtain ⟨W2, hW2⟩ : ∃ W2, W1.alloc (.cells #[.int .i64 x1.k, .int .i64 x1.n] 30) = W2 := ⟨_, rfl⟩
    rw [hW2] at S4 ⊢
    rw [hX]
    have IS := hid (fun W => sis_any s j1 42 W (by omega) hj1)
    clear S3 hW2 hX
    go_cut [6, 7, 10] (fun v6 v7 v10 wn => ∃ (nm : PP.Nm) (wr th : Bool) (i1 : Nat) (a1 : PP.Ix), v6 = .bool wr ∧ v7 = .int .i64 i1 ∧ v10 = .bool th ∧ i1 ≤ s.size ∧ SW w wn Q P X (pcs 2 ⟨#[]⟩ f0 0 nm rnm0 rix0) x1 ∧
      PP.nmL x1 false (s.data.toList.drop j1) = (nm, a1, s.data.toList.drop i1) ∧ PP.argOf (PP.put1 [] th x1) wr = a1 ∧ (wr = true → th = true) ∧ (th = true → x1.k ≠ 0))
    case first =>
      have hx0 : W2.cell? ⟨X, 0, none⟩ = some (.int .i64 x1.k) := S4.out.x.cell 0
      have hx1 : W2.cell? ⟨X, 1, none⟩ = some (.int .i64 x1.n) := S4.out.x.cell 1
      have hp10 : W2.cell? ⟨P, 10, none⟩ = some (.int .i64 0) := S4.out.d.p.cell 10
      have hp11 : W2.cell? ⟨P, 11, none⟩ = some (.int .i64 0) := S4.out.d.p.cell 11
      have hp12 : W2.cell? ⟨P, 12, none⟩ = some (.int .i64 0) := S4.out.d.p.cell 12
      have hp13 : W2.cell? ⟨P, 13, none⟩ = some (.int .i64 0) := S4.out.d.p.cell 13
      have hpf : ∀ i, W2.frozen? ⟨P, i, none⟩ = false := S4.out.d.p.frozen
      cases hst : isAt s j1 42
      · rw [hst] at IS
        have DG := hid (fun W => sdigit_any s j1 W (by omega) hj1)
        have hA := arg_first X1.out TH1.out
        have hth := TH1.out
        cases hdg : dgAt s j1
        · rw [hdg] at DG
          have R := hid (And.intro (nm_no s j1 x1 hst (Or.inl hdg)) hA.1)
          have HTH := hid (show th1 = true → x1.k ≠ 0 from fun h => of_decide_eq_true (hth.trans h))
          clear hA hth hst hdg
          go_wp2_with fail
          refine (IS.out _).mono ?_
          rintro e w' ⟨rfl, hw⟩
          subst hw
          go_wp2_with fail
          refine (DG.out _).mono ?_
          rintro e w' ⟨rfl, hw⟩
          subst hw
          go_wp2_with fail
          go_meet
          exact ⟨rnm0, false, th1, j1, x1, rfl, rfl, rfl, hj1, S4.out, R.out.1, R.out.2, (fun h => by cases h), HTH.out⟩
        · rw [hdg] at DG
          have hj1s : j1 < s.size := (of_decide_eq_true hdg).1
          have E0 := bt_at s j1 hj1s
          by_cases h48 : bt s j1 = 48
          · have R := hid (And.intro (nm_no s j1 x1 hst (Or.inr h48)) hA.1)
            have HTH := hid (show th1 = true → x1.k ≠ 0 from fun h => of_decide_eq_true (hth.trans h))
            rw [h48] at E0
            clear hA hth hst hdg h48
            go_wp2_with fail
            refine (IS.out _).mono ?_
            rintro e w' ⟨rfl, hw⟩
            subst hw
            go_wp2_with fail
            refine (DG.out _).mono ?_
            rintro e w' ⟨rfl, hw⟩
            subst hw
            go_wp2_with fail
            go_meet
            exact ⟨rnm0, false, th1, j1, x1, rfl, rfl, rfl, hj1, S4.out, R.out.1, R.out.2, (fun h => by cases h), HTH.out⟩
          · have R := hid (And.intro (nm_dig s j1 x1 hst hdg h48) hA.2)
            have HTH := hid (show th1 = true → x1.k ≠ 0 from fun h => of_decide_eq_true (hth.trans h))
            obtain ⟨c, hc⟩ : ∃ c, bt s j1 = c := ⟨_, rfl⟩
            rw [hc] at E0 h48
            have c1 : (c == 48) = false := by simpa using h48
            have c2 : (c != 48) = true := by simpa using h48
            have RU := hid (fun W => srun_any s j1 W (by omega) hj1)
            have hle := dg_le s j1 hj1
            obtain ⟨N, hN⟩ : ∃ N, j1 + (PP.dg (s.data.toList.drop j1)).length = N := ⟨_, rfl⟩
            have hDl := dg_is s j1 N hN
            have hjN : j1 ≤ N := by omega
            rw [hN] at RU hle
            obtain ⟨D, hD⟩ : ∃ D, s.extract j1 N = D := ⟨_, rfl⟩
            rw [hD] at hDl
            have hDz : D.size ≤ 100000 := by rw [← hD, ByteArray.size_extract]; omega
            have VA := hid (fun W => svalue_any D 1000 W (by omega) (by omega) (by omega) (dg_bytes _ D hDl))
            rw [hDl] at VA
            have R2 := hid (show PP.nmL x1 false (s.data.toList.drop j1) = (⟨1, PP.valL 1000 0 (PP.dg (s.data.toList.drop j1)), ⟨0, 0⟩⟩, PP.spoil x1, s.data.toList.drop N) by rw [← hN]; exact R.out.1)
            obtain ⟨vv, hvv⟩ : ∃ v, PP.valL 1000 0 (PP.dg (s.data.toList.drop j1)) = v := ⟨_, rfl⟩
            rw [hvv] at VA R2
            clear hA hth hst hdg h48 hc hN hDl hvv
            go_wp2_with fail
            refine (IS.out _).mono ?_
            rintro e w' ⟨rfl, hw⟩
            subst hw
            go_wp2_with fail
            refine (DG.out _).mono ?_
            rintro e w' ⟨rfl, hw⟩
            subst hw
            go_wp2_with fail
            refine (RU.out _).mono ?_
            rintro e w' ⟨rfl, hw⟩
            subst hw
            go_wp2_with fail
            refine (VA.out _).mono ?_
            rintro e w' ⟨rfl, hw⟩
            subst hw
            go_wp2_with fail
            go_meet
            exact ⟨⟨1, vv, ⟨0, 0⟩⟩, th1, th1, N, PP.spoil x1, rfl, rfl, rfl, hle, (((S4.out.set_ 10 (.int .i64 1)).set_ 11 (.int .i64 vv)).set_ 12 (.int .i64 0)).set_ 13 (.int .i64 0), R2.out, R.out.2, id, HTH.out⟩
      · rw [hst] at IS
        have R := hid (nm_star s j1 x1 false hst)
        have hj2 : j1 < s.size := (of_decide_eq_true hst).1
        clear hst
        go_wp2_with fail
        refine (IS.out _).mono ?_
        rintro e w' ⟨rfl, hw⟩
        subst hw
        go_wp2_with fail
        go_meet
        exact ⟨⟨2, 0, x1⟩, false, false, j1 + 1, ⟨0, 0⟩, rfl, by go_num, rfl, hj2, (((S4.out.set_ 10 (.int .i64 2)).set_ 11 (.int .i64 0)).set_ 12 (.int .i64 x1.k)).set_ 13 (.int .i64 x1.n), R.out, rfl, (fun h => by cases h), (fun h => by cases h)⟩
    case rest =>
      obtain ⟨nm1, wr1, th, i1, a1, rfl, rfl, rfl, hi1, hS, hnm, hA1, hwr, hth⟩ := hcut
      have S5 := hid hS
      have N1 := hid (And.intro hnm (And.intro hA1 (And.intro hwr hth)))
      clear hS hnm hA1 hwr hth S4 IS
      go_upto_if 119 with fail
      rename_i hK
      have HK := hid hK
      clear hK
      go_cut [5] (fun v5 wn => wn.ownsRow (X + 1) 30 2 v5 (PP.put1 [] th x1).length (ixCells (PP.put1 [] th x1)) ∧ SW w wn Q P X (pcs 2 ⟨#[]⟩ f0 0 nm1 rnm0 rix0) x1)
      case first =>
        cases th
        · go_wp2_with fail
          go_meet
          exact ⟨World.ownsRow_nil _ _ _ _, S5.out⟩
        · have hx0 : wc.cell? ⟨X, 0, none⟩ = some (.int .i64 x1.k) := S5.out.x.cell 0
          have hx1 : wc.cell? ⟨X, 1, none⟩ = some (.int .i64 x1.n) := S5.out.x.cell 1
          go_upto_region 31 with fail
          refine wp_region_list ?_
          iterate 2
            refine wpList_plain rfl fun K hK => ?_
            have HK := hid hK
            clear hK
            go_wp2_with fail
            refine HK.out _ _ ?_
            clear HK
          refine wpList_ix rfl rfl (.tmp 121) (.tmp 120) 122 rfl rfl rfl x1 rfl (X + 1) (.slice none 0 0) 0 [] _ rfl rfl rfl (World.ownsRow_nil _ _ _ _) S5.out.x.lt (by decide) ?_
          intro v9 w9 ho9 hb9
          have R9 := hid (And.intro ho9 (S5.out.calmB hb9))
          clear ho9 hb9 hx0 hx1
          go_wp2_with fail
          go_meet
          exact R9.out
      case rest =>
        obtain ⟨ho, hsw⟩ := hcut
        refine HK.out _ _ ?_
        refine rtailP _ s w wc Q P X f0 nm1 x1 th wr1 _ i1 hsw ho N1.out.2.2.2 N1.out.2.2.1 hs hi1 ?_ _ _ _ _ _ _ _ _ _ _ _ _ _ _ _ _ _ _ _ _ _ _ _ _ _ _ _ _ _ _ _ _ _ _ _ _ _ _ _ _ _ _ _ _ _ _ _ _ _ _ _ _ _ _ _ _ _ _ _ _ _ _ _ _ _ _ _ _ _ _ _ _ _ _ _ _ _ _ _ _ _ _ _ _ _ _ _ _ _ _ _ _ _ _ _ _ _ _ _ _ _ _ _ _ _ _ _ _ _ _ _ _ _ _ _ _ _ _ _ _ _ _ _ _ _ _ _ _ _ _ _ _ _ _ _ _ _ _ _ _ _ _ _ _ _ _ _ _ _ _ _ _ _ _ _ _ _ _ _ _ _ _ _ _ _ _ _ _ _ _ _ _ _ _ _ _ _ _ _ _ _ _ _ _ _ _ _ _ _ _ _ _ _ _ _ _ _ _ _ _ _ _ _ _ _ _ _ _ _ _ _ _ _ _ _ _ _ _ _
        intro np L wq i2 y j k vb n text W' h1 h2 h3 h4 h5 h6 h7
        rw [N1.out.2.1] at h1
        have hD : PP.dirL s.data.toList = if s.data.toList.drop j = [] then (⟨2, 37 :: s.data.toList, f0, -1, -1, 0, nm1, np, PP.andI (PP.argOf L wq) y⟩, [])
            else (⟨1, 37 :: s.data.toList.take (s.data.toList.length - ((s.data.toList.drop j).drop (Utf.decL (s.data.toList.drop j)).2).length), f0, -1, -1, (Utf.decL (s.data.toList.drop j)).1, nm1, np, PP.andI (PP.argOf L wq) y⟩, (s.data.toList.drop j).drop (Utf.decL (s.data.toList.drop j)).2) := by
          have hF := F0.out
          unfold PP.dirL
          simp only [hF, X1.out, N1.out.1, h1, h3]
        rw [PP.argOf_put h2 rfl]
        rcases h5 with ⟨e0, rfl, rfl, er⟩ | ⟨e0, rfl, rfl, er⟩
        · rw [if_pos e0] at hD
          refine ⟨text, n, by rw [hD], ?_, h4, by rw [hD, er], h7⟩
          rw [hD, h6]
          have : s.data.toList.length ≤ n := by
            have := congrArg List.length er
            rw [List.length_drop, List.length_nil] at this
            omega
          rw [List.take_of_length_le this]
        · rw [if_neg e0] at hD
          refine ⟨text, n, by rw [hD], ?_, h4, by rw [hD, er], h7⟩
          rw [hD, h6]
          have h8 : n ≤ s.data.toList.length := by rw [← Utf.size_eq]; exact h4
          simp only [← er, List.length_drop]
          rw [show s.data.toList.length - (s.data.toList.length - n) = n by omega]
end Go.Proofs.YtmfhoindfhmncaaDoor
