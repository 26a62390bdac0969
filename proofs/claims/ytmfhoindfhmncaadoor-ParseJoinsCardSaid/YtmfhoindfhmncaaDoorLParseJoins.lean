/-
  The law ParseJoins, walked.
-/
import Derived.Test.YtmfhoindfhmncaaDoorJ1
import Derived.Test.YtmfhoindfhmncaaDoorPD
import Derived.Deep.DeepCutAuto
namespace Go.Proofs.YtmfhoindfhmncaaDoor
open Go.RowKit Go.Proofs

set_option maxRecDepth 100000 in
set_option maxHeartbeats 1500000 in
theorem parseJoins_law (s t : ByteArray) (w : World) (hT : Tabs w) (hs : s.size ≤ 140737488355328) (ht : t.size ≤ 140737488355328) :
    Calls Tryd.prog 5 #[.string s, .string t] w fun e w' => e = .returned (.bool true) ∧ Below w.heap.size w w' := by
  have LV := hid (fun W hT => lives_any W hT)
  have CA := hid (fun W => cut_any s W hs)
  have CB := hid (fun W => cut_any t W ht)
  obtain ⟨a, ha⟩ : ∃ c, s.extract 0 2000 = c := ⟨_, rfl⟩
  obtain ⟨b, hb⟩ : ∃ c, t.extract 0 2000 = c := ⟨_, rfl⟩
  have za : a.size ≤ 2000 := by rw [← ha, ByteArray.size_extract]; omega
  have zb : b.size ≤ 2000 := by rw [← hb, ByteArray.size_extract]; omega
  rw [ha] at CA
  rw [hb] at CB
  clear ha hb
  obtain ⟨A, hA⟩ : ∃ A : ByteArray, a ++ (⟨#[100]⟩ : ByteArray) = A := ⟨_, rfl⟩
  have hAl : A.data.toList = a.data.toList ++ [PP.cD] := by rw [← hA]; simp
  have zA : A.size ≤ 2001 := by rw [← hA, ByteArray.size_append]; have e : (⟨#[100]⟩ : ByteArray).size = 1 := rfl; omega
  obtain ⟨F, hF⟩ : ∃ F, A ++ b = F := ⟨_, rfl⟩
  have zF : F.size ≤ 4001 := by rw [← hF, ByteArray.size_append]; omega
  have hJ := joins2 a.data.toList b.data.toList
  rw [← hAl, show A.data.toList ++ b.data.toList = F.data.toList by rw [← hF]; simp] at hJ
  have PA := hid (fun W hT => parse_any A W (by omega) hT)
  have PB := hid (fun W hT => parse_any b W (by omega) hT)
  have PF := hid (fun W hT => parse_any F W (by omega) hT)
  have l1 := PP.parseL_length A.data.toList
  have l2 := PP.parseL_length b.data.toList
  have tx1 := PP.parseL_texts A.data.toList
  have tx2 := PP.parseL_texts b.data.toList
  rw [← Utf.size_eq] at l1 l2
  have zt : (PP.textsL (PP.parseL A.data.toList ++ PP.parseL b.data.toList)).length ≤ 4001 := by
    rw [texts_app, List.length_append, tx1, tx2, ← Utf.size_eq, ← Utf.size_eq]; omega
  obtain ⟨L1, hL1⟩ : ∃ L, PP.parseL A.data.toList = L := ⟨_, rfl⟩
  obtain ⟨L2, hL2⟩ : ∃ L, PP.parseL b.data.toList = L := ⟨_, rfl⟩
  obtain ⟨M, hM⟩ : ∃ M, PP.parseL F.data.toList = M := ⟨_, rfl⟩
  rw [hL1] at PA l1 hJ zt
  rw [hL2] at PB l2 hJ zt
  rw [hM] at PF hJ
  have HJ := hid hJ
  have HZ := hid zt
  have HT := hid hT
  clear hJ hM hL1 hL2 hAl zt tx1 tx2 hT
  go_enter Tryd.func5, Tryd.ntmps5
  go_wp2_with fail
  refine (CA.out _).mono ?_
  rintro e w0 ⟨rfl, hw⟩
  rw [hw]
  clear hw w0
  go_wp2_with fail
  refine (CB.out _).mono ?_
  rintro e w0 ⟨rfl, hw⟩
  rw [hw]
  clear hw w0
  go_upto_region 2 with fail
  try rw [hA]
  go_cut [5] (fun v wn => wn.ownsRow w.heap.size 40 20 v (L1 ++ L2).length (cellsL (L1 ++ L2)) ∧ Below w.heap.size w wn)
  case first =>
    refine wp_region_list ?_
    refine wpList_plain rfl fun K hK => ?_
    have HK := hid hK
    clear hK
    go_wp2_with fail
    refine HK.out _ _ ?_
    clear HK
    refine wpList_plain rfl fun K hK => ?_
    have HK := hid hK
    clear hK
    go_wp2_with fail
    refine (PA.out _ HT.out).mono ?_
    rintro e w1 ⟨v1, rfl, o1, b1⟩
    have O1 := hid o1
    have B1 := hid b1
    clear o1 b1
    refine HK.out _ _ ?_
    clear HK
    refine wpList_plain rfl fun K hK => ?_
    have HK := hid hK
    clear hK
    go_wp2_with fail
    refine HK.out _ _ ?_
    clear HK
    refine wpList_plain rfl fun K hK => ?_
    have HK := hid hK
    clear hK
    go_wp2_with fail
    refine (PB.out _ (HT.out.below B1.out)).mono ?_
    rintro e w2 ⟨v2, rfl, o2, b2⟩
    have O2 := hid (And.intro (own_below O1.out b2) o2)
    have B2 := hid (B1.out.trans (b2.mono B1.out.size))
    clear o2 b2
    refine HK.out _ _ ?_
    clear HK
    refine wpList_join rfl (.tmp 18) (.tmp 20) rfl w.heap.size _ _ _ rfl O2.out.1 _ _ _ _ rfl O2.out.2 (cellsL_oneCell _) B2.out.size (by omega) ?_
    intro v3 w3 ho3 hb3
    rw [← cellsL_append, ← List.length_append] at ho3
    have R3 := hid (And.intro ho3 (B2.out.trans hb3))
    clear ho3 hb3
    go_wp2_with fail
    go_meet
    exact R3.out
  case rest =>
    obtain ⟨ol, bl⟩ := hcut
    obtain ⟨L, hL⟩ : ∃ L, L1 ++ L2 = L := ⟨_, rfl⟩
    have hLl : L.length ≤ 5000 := by rw [← hL, List.length_append]; omega
    rw [hL] at ol HJ HZ
    have OL := hid ol
    have BL := hid bl
    clear ol bl hL
    go_wp2_with fail
    try rw [hF]
    refine (PF.out _ (HT.out.below BL.out)).mono ?_
    rintro e w4 ⟨v4, rfl, o4, b4⟩
    have OL4 := own_below OL.out b4
    have BL4 := hid (BL.out.trans (b4.mono BL.out.size))
    obtain ⟨Al, capl, rfl, hcl⟩ := own_full OL4
    obtain ⟨Am, capm, rfl, hcm⟩ := own_full o4
    obtain ⟨N, hN⟩ : ∃ N, L.length = N := ⟨_, rfl⟩
    rw [hN] at hLl ⊢
    have HN := hid hN
    have HCL := hid hcl
    have HCM := hid hcm
    have MW := hid (show wc.heap.size ≤ w4.heap.size from b4.size)
    have HT4 := hid (HT.out.below BL4.out)
    have H0 := hid (show JnI w4 w4 (.slice none 0 0) [] from ⟨World.ownsRow_nil _ _ _ _, Below.refl _ _⟩)
    clear hcl hcm o4 b4 OL4 hN OL BL PA PB PF CA CB
    go_wp2_with fail
    go_loopw [7, 28] (fun nv iv wr => ∃ i : Nat, iv = .int .i64 i ∧ i ≤ N ∧ Hid (JnI w4 wr nv ((L.take i).foldl PP.push []))) (fun _ iv _ => N - (intOf iv).toNat)
    case atStart => exact ⟨0, rfl, Nat.zero_le _, H0.out⟩
    case round =>
      obtain ⟨i, rfl, hi, hI⟩ := hrel
      by_cases hlt : i < N
      · obtain ⟨p, hp⟩ : ∃ p, L[i]? = some p := ⟨_, List.getElem?_eq_getElem (by rw [HN.out]; exact hlt)⟩
        obtain ⟨X, hX⟩ : ∃ X, txt p.text = X := ⟨_, rfl⟩
        obtain ⟨gl, rfl, hg0, hgl, hpc⟩ := HCL.out (by intro e; rw [e] at hp; simp at hp)
        have HPk := hid (fun j v hv => (hI.out.below.cell (p := ⟨gl, i * 20 + j, none⟩) hgl).trans (hpc i p hp j v hv))
        rw [hX] at HPk
        have hst := fold_take hp
        have hDl : ((L.take i).foldl PP.push []).length ≤ 5000 := by
          have := fold_len (L.take i) []
          rw [List.length_take, List.length_nil] at this
          omega
        have hDt := fun q hq => take_text (L := L) (i := i) (q := q) hq
        obtain ⟨D, hD⟩ : ∃ D, (L.take i).foldl PP.push [] = D := ⟨_, rfl⟩
        rw [hD] at hI hst hDl hDt
        have hXz : X.size ≤ 4001 := by
          have := text_le (List.mem_of_getElem? hp)
          have h2 := HZ.out
          rw [← hX, Utf.size_eq]
          show p.text.length ≤ _
          omega
        have HX := hid (And.intro hp (And.intro hX hst))
        have HDT := hid hDt
        obtain ⟨An, capn, rfl, hcn⟩ := own_full hI.out.own
        have HCN := hid hcn
        clear hp hX hst hD hpc hg0 hgl hDt hcn
        go_upto_region 7 with fail
        refine wp_region_list ?_
        refine wpList_plain rfl fun K hK => ?_
        have HK := hid hK
        clear hK
        go_wp2_with fail
        refine HK.out _ _ ?_
        clear HK
        refine wpList_load_mid rfl 40 (.tmp 30) rfl gl (i * 20) rfl (pcV p X).toList _ (fun j v hv => HPk.out j v (by simpa using hv)) Tryd.underlying40 rfl piece_size ?_
        refine wpList_plain rfl fun K hK => ?_
        have HK := hid hK
        clear hK
        go_wp2_with fail
        refine HK.out _ _ ?_
        clear HK
        have hG := Blk.new wr pc0 40
        refine wpList_store_rowTo rfl 40 _ _ rfl rfl wr.heap.size (pcV p X) rfl rfl 40 pc0 hG piece_size rfl (pcV_one _ _) ?_
        have hG2 := hG.setRow (pcV p X)
        have b3 : Below wr.heap.size wr ((wr.alloc (.cells pc0 40)).setRow wr.heap.size (pcV p X)) := below_setRow ((Below.refl _ _).alloc (Nat.le_refl _) _) wr.heap.size (Nat.le_refl _) (pcV p X)
        obtain ⟨W2, hW2⟩ : ∃ W2, (wr.alloc (.cells pc0 40)).setRow wr.heap.size (pcV p X) = W2 := ⟨_, rfl⟩
        rw [hW2] at hG2 b3 ⊢
        obtain ⟨G, hGG⟩ : ∃ G, wr.heap.size = G := ⟨_, rfl⟩
        rw [hGG] at hG2 ⊢
        have c0 : W2.cell? ⟨G, 0, none⟩ = some (.int .i64 p.k) := hG2.cell 0
        have c1 : W2.cell? ⟨G, 1, none⟩ = some (.string X) := hG2.cell 1
        have GG := hid hG2
        have O2 := hid (own_below hI.out.own b3)
        have L2 := hid (hI.out.below.trans (b3.mono hI.out.below.size))
        refine wpList_nil ?_
        by_cases hD0 : D = []
        · have HPU : Hid (PP.push D p = D ++ [p]) := by rw [hD0]; exact rfl
          have hl0 : D.length = 0 := by rw [hD0]; rfl
          rw [hl0] at O2 ⊢
          clear hG hG2 hW2 hGG b3 HCN hD0
          go_upto_region 11 with fail
          refine wp_region_list ?_
          refine wpList_plain rfl fun K hK => ?_
          have HK := hid hK
          clear hK
          go_wp2_with fail
          refine HK.out _ _ ?_
          clear HK
          refine wpList_load_mid rfl 40 (.tmp 9) rfl G 0 rfl (pcV p X).toList _ (fun j v hv => by rw [Nat.zero_add, GG.out.cell]; simpa using hv) Tryd.underlying40 rfl piece_size ?_
          refine wpList_push rfl rfl (.tmp 61) (.tmp 60) 62 rfl rfl rfl (pcV p X) rfl rfl (pcV_one _ _) (by kernel_rfl) w4.heap.size (.slice An 0 capn) (0) (cellsL D) _ rfl rfl rfl O2.out L2.out.size (by omega) ?_
          intro v9 w9 ho9 hb9
          have N9 := hid (show JnI w4 w9 v9 (PP.push D p) from ⟨by rw [HPU.out, List.length_append, List.length_singleton, hl0, cellsL_append, cellsL_one, HX.out.2.1]; exact ho9, L2.out.trans hb9⟩)
          clear ho9 hb9
          go_wp2_with fail
          go_roundw
          case rel => exact ⟨i + 1, by go_num, by omega, by unfold Hid; rw [HX.out.2.2]; exact N9.out⟩
          case measure => simp [intOf]; omega
        · obtain ⟨A', q, hA'⟩ := list_snoc D hD0
          obtain ⟨gn, rfl, hgn0, hgn, hpn⟩ := HCN.out hD0
          obtain ⟨TQ, hTQ⟩ : ∃ T, txt q.text = T := ⟨_, rfl⟩
          have hq : D[A'.length]? = some q := by rw [hA']; exact snoc_at A' q
          have n0 : W2.cell? ⟨gn, A'.length * 20, none⟩ = some (.int .i64 q.k) := (b3.cell (p := ⟨gn, A'.length * 20, none⟩) hgn).trans (hpn _ q hq 0 _ rfl)
          have n1 : W2.cell? ⟨gn, A'.length * 20 + 1, none⟩ = some (.string TQ) := (b3.cell (p := ⟨gn, A'.length * 20 + 1, none⟩) hgn).trans (by rw [← hTQ]; exact hpn _ q hq 1 _ rfl)
          have hTz : TQ.size ≤ 4001 := by
            have := HDT.out q (by rw [hA']; simp)
            have h2 := HZ.out
            rw [← hTQ, Utf.size_eq]
            show q.text.length ≤ _
            omega
          have hlD : D.length = A'.length + 1 := by rw [hA']; simp
          obtain ⟨m, hm⟩ : ∃ m, A'.length = m := ⟨_, rfl⟩
          rw [hm] at n0 n1 hlD
          have hm5 : m ≤ 5000 := by omega
          have HA' := hid (And.intro hA' (And.intro hm hTQ))
          rw [hlD] at O2 ⊢
          by_cases hk : q.k = 0 ∧ p.k = 0
          · have q1 : ¬ 9223372036854775807 < TQ.size + X.size := by omega
            obtain ⟨k1, k2⟩ := hk
            rw [k1] at n0
            rw [k2] at c0
            have fz : W2.frozen? ⟨gn, m * 20 + 1, none⟩ = false := by
              obtain ⟨g', cap', cur, e1, _, _, _, _, hbl, _⟩ := own_blk O2.out (Nat.succ_pos m)
              simp only [Value.slice.injEq, Option.some.injEq, Addr.mk.injEq, and_true, true_and] at e1
              rw [e1.1]
              exact hbl.frozen _
            have HKK := hid (And.intro k1 k2)
            have HG0 := hid hgn0
            clear hG hG2 hW2 hGG b3 hA' hm hTQ hq hlD hpn hgn k1 k2 hgn0 hD0
            go_upto_region 10 with fail
            go_region
            all_goals
              have N9 : Hid (JnI w4 (W2.drew.setCell ⟨gn, m * 20 + 1, none⟩ (.string (TQ ++ X))) (.slice (some ⟨gn, 0, none⟩) (m + 1) capn) (PP.push D p)) := by
                have hpu : PP.push D p = A' ++ [{ q with text := q.text ++ p.text }] := by rw [HA'.out.1, PP.push_app, if_pos HKK.out]
                have htx : txt (q.text ++ p.text) = TQ ++ X := by
                  rw [← HA'.out.2.2, ← HX.out.2.1]
                  exact bytes_ext (by simp)
                have ho := own_set (World.ownsRow.drew O2.out) (m * 20 + 1) (.string (TQ ++ X))
                refine ⟨?_, (L2.out.drew).setCell HG0.out _⟩
                have e1 : (PP.push D p).length = m + 1 := by rw [hpu, List.length_append, HA'.out.2.1]; rfl
                have e2 : cellsL (PP.push D p) = (cellsL D).set (m * 20 + 1) (.string (TQ ++ X)) := by
                  rw [hpu, cells_grow, htx, HA'.out.2.1, ← HA'.out.1]
                rw [e1, e2]
                exact ho
              clear n0 n1 c0 c1 fz q1
              go_wp2_with fail
              go_roundw
              case rel => exact ⟨i + 1, by go_num, by omega, by unfold Hid; rw [HX.out.2.2]; exact N9.out⟩
              case measure => simp [intOf]; omega
          · have HPU : Hid (PP.push D p = D ++ [p]) := by
              rw [HA'.out.1, Hid, PP.push_app, if_neg hk]
            by_cases k1 : q.k = 0
            · have k2 : ¬ p.k = 0 := fun h => hk ⟨k1, h⟩
              have k3 : (p.k == 0) = false := by simpa using k2
              rw [k1] at n0
              clear hG hG2 hW2 hGG b3 hA' hm hTQ hq hpn hgn k1 k2 hgn0 hD0 hk
              go_upto_region 11 with fail
              refine wp_region_list ?_
              refine wpList_plain rfl fun K hK => ?_
              have HK := hid hK
              clear hK
              go_wp2_with fail
              refine HK.out _ _ ?_
              clear HK
              refine wpList_load_mid rfl 40 (.tmp 9) rfl G 0 rfl (pcV p X).toList _ (fun j v hv => by rw [Nat.zero_add, GG.out.cell]; simpa using hv) Tryd.underlying40 rfl piece_size ?_
              refine wpList_push rfl rfl (.tmp 61) (.tmp 60) 62 rfl rfl rfl (pcV p X) rfl rfl (pcV_one _ _) (by kernel_rfl) w4.heap.size (.slice (some ⟨gn, 0, none⟩) (m + 1) capn) (m + 1) (cellsL D) _ rfl rfl rfl O2.out L2.out.size (by omega) ?_
              intro v9 w9 ho9 hb9
              have N9 := hid (show JnI w4 w9 v9 (PP.push D p) from ⟨by rw [HPU.out, List.length_append, List.length_singleton, hlD, cellsL_append, cellsL_one, HX.out.2.1]; exact ho9, L2.out.trans hb9⟩)
              clear ho9 hb9
              go_wp2_with fail
              go_roundw
              case rel => exact ⟨i + 1, by go_num, by omega, by unfold Hid; rw [HX.out.2.2]; exact N9.out⟩
              case measure => simp [intOf]; omega
            · have k3 : (q.k == 0) = false := by simpa using k1
              clear hG hG2 hW2 hGG b3 hA' hm hTQ hq hpn hgn k1 hgn0 hD0 hk
              go_upto_region 11 with fail
              refine wp_region_list ?_
              refine wpList_plain rfl fun K hK => ?_
              have HK := hid hK
              clear hK
              go_wp2_with fail
              refine HK.out _ _ ?_
              clear HK
              refine wpList_load_mid rfl 40 (.tmp 9) rfl G 0 rfl (pcV p X).toList _ (fun j v hv => by rw [Nat.zero_add, GG.out.cell]; simpa using hv) Tryd.underlying40 rfl piece_size ?_
              refine wpList_push rfl rfl (.tmp 61) (.tmp 60) 62 rfl rfl rfl (pcV p X) rfl rfl (pcV_one _ _) (by kernel_rfl) w4.heap.size (.slice (some ⟨gn, 0, none⟩) (m + 1) capn) (m + 1) (cellsL D) _ rfl rfl rfl O2.out L2.out.size (by omega) ?_
              intro v9 w9 ho9 hb9
              have N9 := hid (show JnI w4 w9 v9 (PP.push D p) from ⟨by rw [HPU.out, List.length_append, List.length_singleton, hlD, cellsL_append, cellsL_one, HX.out.2.1]; exact ho9, L2.out.trans hb9⟩)
              clear ho9 hb9
              go_wp2_with fail
              go_roundw
              case rel => exact ⟨i + 1, by go_num, by omega, by unfold Hid; rw [HX.out.2.2]; exact N9.out⟩
              case measure => simp [intOf]; omega
      · have hiN : i = N := by omega
        have own := hI.out.own
        rw [List.take_of_length_le (by rw [HN.out]; omega), HJ.out] at own
        obtain ⟨An, capn, rfl, hcn⟩ := own_full own
        have HCN := hid hcn
        have BW := hid hI.out.below
        obtain ⟨R, hR⟩ : ∃ R, M.length = R := ⟨_, rfl⟩
        have hR5 : R ≤ 5000 := by
          have := fold_len L []
          rw [HJ.out, HN.out, hR, List.length_nil] at this
          omega
        rw [hR]
        have HRR := hid hR
        obtain ⟨W5, rfl⟩ : ∃ W5, W5 = wr := ⟨_, rfl⟩
        subst hiN
        clear own hcn hR hI hlt hi
        go_wp2_with fail
        go_loopw [72] (fun iv wr => ∃ j : Nat, iv = .int .i64 j ∧ j ≤ R ∧ Hid (Below W5.heap.size W5 wr)) (fun iv _ => R - (intOf iv).toNat)
        case atStart => exact ⟨0, rfl, Nat.zero_le _, Below.refl _ _⟩
        case round =>
          obtain ⟨j, rfl, hj, hI⟩ := hrel
          by_cases hjR : j < R
          · obtain ⟨p, hp⟩ : ∃ p, M[j]? = some p := ⟨_, List.getElem?_eq_getElem (by rw [HRR.out]; exact hjR)⟩
            obtain ⟨X, hX⟩ : ∃ X, txt p.text = X := ⟨_, rfl⟩
            have hne : M ≠ [] := by intro e; rw [e] at hp; simp at hp
            obtain ⟨gm, rfl, hm0, hgm, hpm⟩ := HCM.out hne
            obtain ⟨gn, rfl, hn0, hgn, hpn⟩ := HCN.out hne
            have HPM := hid (fun k v hv => (hI.out.cell (p := ⟨gm, j * 20 + k, none⟩) (Nat.lt_of_lt_of_le hgm BW.out.size)).trans ((BW.out.cell (p := ⟨gm, j * 20 + k, none⟩) hgm).trans (hpm j p hp k v hv)))
            have HPN := hid (fun k v hv => (hI.out.cell (p := ⟨gn, j * 20 + k, none⟩) hgn).trans (hpn j p hp k v hv))
            rw [hX] at HPM HPN
            clear hp hX hne hm0 hgm hpm hn0 hgn hpn
            go_upto_region 18 with fail
            refine wp_region_still_lit (by kernel_rfl) (by kernel_rfl) ?_
            still_step
            still_step
            still_step
            refine wpStill_wantLoad (by rfl) 40 (.tmp 77) rfl gm (j * 20) rfl (pcV p X) _ (fun k v hv => HPM.out k v (by simpa using hv)) Tryd.underlying40 rfl piece_size ?_
            still_step
            still_step
            still_step
            refine wpStill_wantLoad (by rfl) 40 (.tmp 81) rfl gn (j * 20) rfl (pcV p X) _ (fun k v hv => HPN.out k v (by simpa using hv)) Tryd.underlying40 rfl piece_size ?_
            refine wpStill_wantNeq (by rfl) 40 (.tmp 78) (.tmp 82) _ rfl (pcV p X) (pcV p X) rfl rfl guard_piece true (eq_piece p X _) ?_
            refine wpStill_nil ?_
            have N := hid (hI.out.drew)
            go_wp2_with fail
            go_roundw
            case rel => exact ⟨j + 1, by go_num, by omega, N.out⟩
            case measure => simp [intOf]; omega
          · have BZ := hid (BL4.out.trans ((BW.out.trans (hI.out.mono BW.out.size)).mono BL4.out.size))
            go_wp2_with fail
            refine (LV.out _ (HT.out.below BZ.out)).mono ?_
            rintro e w9 ⟨rfl, b9⟩
            have B9 := hid (BZ.out.trans (b9.mono BZ.out.size))
            clear b9
            go_wp2_with fail
            go_ret
            exact ⟨rfl, B9.out⟩
end Go.Proofs.YtmfhoindfhmncaaDoor
