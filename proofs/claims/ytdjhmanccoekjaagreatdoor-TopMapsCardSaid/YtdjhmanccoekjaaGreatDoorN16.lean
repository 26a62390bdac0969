/-
  Texts of this claim, joined: VG, VH, TO.
-/
import Derived.Conc.LoneSelect
import Derived.Test.YtdjhmanccoekjaaGreatDoorN15
import Derived.Test.YtdjhmanccoekjaaGreatDoorN14

section
namespace Go.Proofs.YtdjhmanccoekjaaGreatDoor
open Go.RowKit Go.Proofs

set_option maxRecDepth 100000 in
set_option maxHeartbeats 8000000 in
theorem great_map (d : De) (nm : List ByteArray) (pa : List DT) (w : World) (hD : DtAt w (.mk d nm pa)) (hk21 : d.k = 21) (hlen : pa.length ≤ 100) (hev : pa.length % 2 = 0) (hkey : ∀ (j : Nat) x, pa[2 * j]? = some x → keyB x.de.k = true) (SO : SortsE (pa.length / 2))
    (IH : ∀ x ∈ pa, ∀ W, DtAt W x → Below w.heap.size w W → Calls Tryz.prog 97 #[.agg (deV x.de)] W (MadeR W (madeT x))) :
    Calls Tryz.prog 129 #[.agg (deV d), .agg #[.int .i64 d.k, .string d.ty, .int .i64 d.hk]] w (MadeR w (match madeL pa with | none => none | some l => greatT d nm pa l)) := by
  have PA0 := hid hD
  obtain ⟨hAn, hA⟩ := hD.args
  have HA := hid hA
  have HD := hid hD.each
  obtain ⟨n, hn⟩ : ∃ n, pa.length = n := ⟨_, rfl⟩
  have HN := hid hn
  rw [hn] at hlen hev SO
  have hAm : d.pa.n = n := by rw [hAn, List.length_map, hn]
  have MA := hid IH
  obtain ⟨k, ty, b, im, t, ⟨An, nn, capn⟩, ⟨Aa, na, capa⟩, hk⟩ := d
  simp only at *
  subst hAm
  subst hk21
  have HEV := hid hev
  have HKEY := hid hkey
  have SO := hid SO
  clear hev hkey
  obtain ⟨R, hRR⟩ : ∃ R, (match madeL pa with | none => none | some l => greatT ⟨21, ty, b, im, t, ⟨An, nn, capn⟩, ⟨Aa, na, capa⟩, hk⟩ nm pa l) = R := ⟨_, rfl⟩
  have HRR := hid hRR
  rw [hRR]
  clear hD hA hAn hn IH hRR
  have I0 := hid (GrI.start w ⟨21, ty, b, im, t, ⟨An, nn, capn⟩, ⟨Aa, na, capa⟩, hk⟩ pa)
  show Calls Tryz.prog _ #[.agg #[.int .i64 21, .string ty, .int .u64 b, .int .u64 im, .string t, .slice An nn capn, .slice Aa na capa, .int .i64 hk], .agg #[.int .i64 21, .string ty, .int .i64 hk]] w _
  obtain ⟨D, hDD⟩ : ∃ D : De, D = ⟨21, ty, b, im, t, ⟨An, nn, capn⟩, ⟨Aa, na, capa⟩, hk⟩ := ⟨_, rfl⟩
  rw [← hDD] at I0
  have HDD := hid hDD
  clear hDD
  go_enter Tryz.func129, Tryz.ntmps129
  go_wp2_with fail
  obtain ⟨W0, hW0⟩ : ∃ W0, (w.alloc (.cells (deV D) 29)).alloc (.cells #[.int .i64 D.k, .string D.ty, .int .i64 D.hk] 135) = W0 := ⟨_, rfl⟩
  have hW1 : (w.alloc (.cells #[.int .i64 21, .string ty, .int .u64 b, .int .u64 im, .string t, .slice An nn capn, .slice Aa na capa, .int .i64 hk] 29)).alloc (.cells #[.int .i64 21, .string ty, .int .i64 hk] 135) = W0 := by rw [← hW0, HDD.out]
  rw [hW0] at I0
  rw [hW1]
  clear hW0 hW1
  obtain ⟨B, hB⟩ : ∃ B, w.heap.size = B := ⟨_, rfl⟩
  have HB := hid hB
  rw [show (World.heap w).size = B from hB]
  clear hB
  go_loopw [5, 19] (fun lv iv wr => ∃ (i : Nat) (us : List Value) (ls : List VT), iv = .int .i64 i ∧ i ≤ na ∧ Hid (GrI w D pa wr lv i us ls)) (fun _ iv _ => na - (intOf iv).toNat)
  case atStart => exact ⟨0, [], [], rfl, Nat.zero_le _, I0⟩
  case round =>
    obtain ⟨i, us, ls, rfl, hi, hI⟩ := hrel
    rename_i lv _
    have hIi := hI.out
    obtain ⟨lA, lc, hlv⟩ := sl_form hIi.own
    subst hlv
    by_cases him : i < na
    · obtain ⟨x, hx⟩ : ∃ x, pa[i]? = some x := ⟨_, List.getElem?_eq_getElem (by rw [HN.out]; exact him)⟩
      have hxm : x ∈ pa := List.mem_of_getElem? hx
      have hxd : (pa.map DT.de)[i]? = some x.de := by rw [List.getElem?_map, hx]; rfl
      have hne : pa.map DT.de ≠ [] := by intro e; rw [e] at hxd; simp at hxd
      obtain ⟨g, o, rfl, hg, hc⟩ := HA.out hne
      have HCL := hid (fun (j : Nat) v (hv : (deV x.de)[j]? = some v) => show wr.cell? ⟨g, o + i * 8 + j, none⟩ = some v from (hIi.bel.cell (p := ⟨g, o + i * 8 + j, none⟩) hg).trans (hc i x.de hxd j v hv))
      have MX := hid (MA.out x hxm)
      have DX := hid (HD.out x hxm)
      have HX := hid hx
      have BI := hid hIi.bel
      clear hx hxm hxd hc hg hne hIi
      go_upto_region 4 with fail
      refine wp_region_list ?_
      refine wpList_plain rfl fun K hK => ?_
      have HK := hid hK
      clear hK
      go_wp2_with fail
      refine HK.out _ _ ?_
      clear HK
      refine wpList_load_mid rfl 29 (.tmp 21) rfl g (o + i * 8) rfl (deV x.de).toList _ (fun j v hv => HCL.out j v (by simpa using hv)) Tryz.underlying29 rfl desc_size ?_
      refine wpList_plain rfl fun K hK => ?_
      have HK := hid hK
      clear hK
      go_wp2_with fail
      refine HK.out _ _ ?_
      clear HK
      have hG := Blk.new wr de0 29
      refine wpList_store_rowTo rfl 29 _ _ rfl rfl wr.heap.size (deV x.de) rfl rfl 29 de0 hG desc_size rfl (deV_one _) ?_
      have hG2 := hG.setRow (deV x.de)
      have b3 : Below wr.heap.size wr ((wr.alloc (.cells de0 29)).setRow wr.heap.size (deV x.de)) := below_setRow ((Below.refl _ _).alloc (Nat.le_refl _) _) wr.heap.size (Nat.le_refl _) _
      obtain ⟨W3, hW3⟩ : ∃ W3, (wr.alloc (.cells de0 29)).setRow wr.heap.size (deV x.de) = W3 := ⟨_, rfl⟩
      rw [hW3] at hG2 b3 ⊢
      obtain ⟨G, hGG⟩ : ∃ G, wr.heap.size = G := ⟨_, rfl⟩
      rw [hGG] at hG2 ⊢
      have B3 := hid (BI.out.trans (b3.mono BI.out.size))
      have e0 := hG2.cell 0
      have e1 := hG2.cell 1
      have e2 := hG2.cell 2
      have e3 := hG2.cell 3
      have e4 := hG2.cell 4
      have e5 := hG2.cell 5
      have e6 := hG2.cell 6
      have e7 := hG2.cell 7
      clear hG hG2 hW3 hGG HCL BI
      refine wpList_nil ?_
      have C3 := hid (show Below wr.heap.size wr W3 from b3)
      clear b3
      go_upto_region 5 with fail
      refine wp_region_list ?_
      refine wpList_plain rfl fun K hK => ?_
      have HK := hid hK
      clear hK
      go_wp2_with fail
      refine HK.out _ _ ?_
      clear HK
      refine wpList_plain rfl fun K hK => ?_
      have HK := hid hK
      clear hK
      go_wp2_with fail
      refine HK.out _ _ ?_
      clear HK
      refine wpList_plain rfl fun K hK => ?_
      have HK := hid hK
      clear hK
      go_wp2_with fail
      have M1 := MX.out W3 (DX.out.keep B3.out) B3.out
      obtain ⟨mx, hmx⟩ : ∃ mx, madeT x = mx := ⟨_, rfl⟩
      rw [hmx] at M1
      cases mx
      · refine M1.mono ?_
        rintro e W4 ⟨h4, hee⟩
        simp only at hee
        subst hee
        have hm : madeL pa = none := by
          rw [hI.out.made, drop_cons HX.out, madeL, hmx]
        have F := hid (show MadeR w R (badE 5) W4 from ⟨B3.out.trans (h4.mono B3.out.size), by rw [← HRR.out, hm]⟩)
        clear h4 hm hmx M1
        go_wp2_with fail
        exact ⟨rfl, F.out⟩
      rename_i V
      refine M1.mono ?_
      rintro e W4 ⟨h4, T, y, hee, hV⟩
      subst hee
      have hmadeV := hmx
      refine HK.out _ _ ?_
      clear HK M1 e0 e1 e2 e3 e4 e5 e6 e7
      have K4 := (hI.out.kept C3.out).kept h4
      refine wpList_pushW rfl rfl (.tmp 25) (.tmp 23) 26 rfl rfl rfl (.iface T y) rfl rfl (fill_iface T y) (w.heap.size + 2) (.slice lA i lc) i us _ rfl rfl rfl K4.own (by have := K4.size; omega) (by omega) ?_
      intro v' W5 ho5 hg5 hn5
      have N5 := hid (GrI.step hI.out HX.out hmadeV C3.out h4 hV ho5 hg5 hn5)
      clear K4 ho5 hg5 hn5 hV h4 hmadeV hmx
      refine wpList_plain rfl fun K hK => ?_
      have HK := hid hK
      clear hK
      go_wp2_with fail
      refine HK.out _ _ ?_
      clear HK
      refine wpList_nil ?_
      go_wp2_with fail
      go_roundw
      case rel => exact ⟨i + 1, _, _, by go_num, by omega, N5⟩
      case measure => simp [intOf]; omega
    · obtain rfl : i = na := by omega
      have hmd : madeL pa = some ls := by
        rw [hI.out.made, List.drop_eq_nil_of_le (by rw [HN.out]; exact Nat.le_refl _), madeL]
        simp
      have q0 : Blk wr B (deV D) 29 := HB.out ▸ hI.out.b0
      have q1 : Blk wr (B + 1) #[.int .i64 D.k, .string D.ty, .int .i64 D.hk] 135 := HB.out ▸ hI.out.b1
      have c0 : wr.cell? ⟨B, 0, none⟩ = some (.int .i64 21) := by rw [q0.cell, HDD.out]; rfl
      have c2 : wr.cell? ⟨B, 2, none⟩ = some (.int .u64 b) := by rw [q0.cell, HDD.out]; rfl
      have k0 : wr.cell? ⟨B + 1, 0, none⟩ = some (.int .i64 21) := by rw [q1.cell, HDD.out]; rfl
      have k1 : wr.cell? ⟨B + 1, 1, none⟩ = some (.string ty) := by rw [q1.cell, HDD.out]; rfl
      have k2 : wr.cell? ⟨B + 1, 2, none⟩ = some (.int .i64 hk) := by rw [q1.cell, HDD.out]; rfl
      have HMD := hid hmd
      have hR2 := HRR.out
      rw [hmd] at hR2
      have HR2 := hid hR2
      clear q0 q1 hmd hR2
      have hIs := hI.out.size
      obtain ⟨wl, rfl⟩ : ∃ wl, wl = wr := ⟨_, rfl⟩
      obtain ⟨M, hM⟩ : ∃ M, wl.heap.size = M := ⟨_, rfl⟩
      have J0 : Hid (MpI wl D us ls (.slice lA i lc) M (wl.alloc (.cells #[.int .i64 21, .string ty, .int .i64 hk, .slice none 0 0] 198)) (.slice none 0 0) 0) := hid (by
        have h := MpI.start wl D us ls (.slice lA i lc)
        rw [hM] at h
        rw [show (wl.alloc (.cells #[.int .i64 21, .string ty, .int .i64 hk, .slice none 0 0] 198)) = (wl.alloc (.cells #[.int .i64 D.k, .string D.ty, .int .i64 D.hk, .slice none 0 0] 198)) by rw [HDD.out]]
        exact h)
      have HM := hid hM
      go_wp2_with fail
      obtain ⟨W20, hW20⟩ : ∃ W20, (wl.alloc (.cells #[.int .i64 21, .string ty, .int .i64 hk, .slice none 0 0] 198)) = W20 := ⟨_, rfl⟩
      rw [hW20] at J0 ⊢
      clear hW20 hM c0 c2 k0 k1 k2
      go_loopw [13] (fun iv wr => ∃ (i2 j : Nat) (mv : Value), iv = .int .i64 i2 ∧ i2 ≤ i ∧ Hid (i2 = 2 * j) ∧ Hid (MpI wl D us ls (.slice lA i lc) M wr mv j)) (fun iv _ => i - (intOf iv).toNat)
      case atStart => exact ⟨0, 0, _, rfl, Nat.zero_le _, rfl, J0⟩
      case round =>
        obtain ⟨i2, j, mv, rfl, hi2, hj, hJ⟩ := hrel
        have hJo := hJ.out
        obtain ⟨mA, mc, hmv⟩ := own_formz hJo.own
        subst hmv
        have cm : wr.cell? ⟨M, 3, none⟩ = some (.slice mA j mc) := hJo.blk.cell 3
        by_cases hlt : i2 < i
        · have hlt2 : i2 + 1 < i := by have := HEV.out; have := hj.out; omega
          obtain ⟨u1, hu1⟩ : ∃ u, us[i2]? = some u := ⟨_, List.getElem?_eq_getElem (by rw [hI.out.len]; exact hlt)⟩
          obtain ⟨u2, hu2⟩ : ∃ u, us[i2 + 1]? = some u := ⟨_, List.getElem?_eq_getElem (by rw [hI.out.len]; exact hlt2)⟩
          obtain ⟨V1, hV1⟩ : ∃ u, ls[i2]? = some u := ⟨_, List.getElem?_eq_getElem (by rw [hI.out.lenl]; exact hlt)⟩
          obtain ⟨V2, hV2⟩ : ∃ u, ls[i2 + 1]? = some u := ⟨_, List.getElem?_eq_getElem (by rw [hI.out.lenl]; exact hlt2)⟩
          obtain ⟨T1, y1, hy1⟩ := (hI.out.kids _ _ _ hu1 hV1).iface
          obtain ⟨T2, y2, hy2⟩ := (hI.out.kids _ _ _ hu2 hV2).iface
          subst hy1 hy2
          obtain ⟨g, rfl, hgM, hgc⟩ := own_at hI.out.own (by omega)
          have d1 : wr.cell? ⟨g, i2, none⟩ = some (.iface T1 y1) := (hJo.bel.cell (p := ⟨g, i2, none⟩) (by have := HM.out; show g < M; omega)).trans (hgc i2 _ hu1)
          have d2 : wr.cell? ⟨g, i2 + 1, none⟩ = some (.iface T2 y2) := (hJo.bel.cell (p := ⟨g, i2 + 1, none⟩) (by have := HM.out; show g < M; omega)).trans (hgc (i2 + 1) _ hu2)
          have UU := hid (And.intro (show us[2 * j]? = some (.iface T1 y1) by rw [← hj.out]; exact hu1) (show us[2 * j + 1]? = some (.iface T2 y2) by rw [← hj.out]; exact hu2))
          have hMw := hJo.blk.lt
          have hwp : IntKind.i64.wrap ((i2 : Int) + 1) = (i2 : Int) + 1 := by rw [IntKind.wrap_i64]; omega
          have hz1 : (i2 : Int) + 1 < (i : Int) := by omega
          have hz2 : (0 : Int) ≤ (i2 : Int) + 1 := by omega
          have hz3 : ((i2 : Int) + 1).toNat = i2 + 1 := by omega
          clear hu1 hu2 hV1 hV2 hgc hJo
          go_upto_region 24 with fail
          go_region_law ((refine step_pushE rfl (.tmp 86) (.tmp 97) rfl (M + 1) _ j _ rfl (World.ownsRow.alloc (World.ownsRow.drew hJ.out.own) _) _ T1 T2 y1 y2 rfl (Blk.new _ _ _) (by simp; omega) (by have := hj.out; omega) ?_; intro v3 w3 ho3 hk3; obtain ⟨A3, c3, rfl⟩ := own_formz ho3; have bm := Blk.below (Blk.alloc (show Blk (World.drew wr) M _ _ from hJ.out.blk) _) hk3 (Nat.lt_succ_self M); have cm3 : w3.cell? ⟨M, 3, none⟩ = some (.slice mA j mc) := bm.cell 3; have fm3 : w3.frozen? ⟨M, 3, none⟩ = false := bm.frozen 3))
          all_goals
            have N := hid (MpI.step hJ.out UU.out.1 UU.out.2 hMw ho3 hk3)
            clear ho3 hk3 bm cm3 fm3
            go_wp2_with fail
            go_roundw
            case rel => exact ⟨i2 + 2, j + 1, _, by go_num, by omega, hid (by have := hj.out; omega), N⟩
            case measure => simp [intOf]; omega
        · obtain rfl : i2 = i := by omega
          obtain ⟨kf, kk⟩ := keys_of hI.out HMD.out HKEY.out
          have hjj := hj.out
          obtain ⟨es, q1, q2, q3, q4⟩ := entries_ex j pa us ls (by rw [HN.out]; exact hjj) (by rw [hI.out.len]; exact hjj) (by rw [hI.out.lenl]; exact hjj) kf kk
          have Q := hid (And.intro q1 (And.intro q2 (And.intro q3 q4)))
          have hSO : SortsE j := by have := SO.out; rw [hjj, Nat.mul_div_cancel_left _ (by decide)] at this; exact this
          have hbM : Below w.heap.size w wr := hI.out.bel.trans (hJo.bel.mono (by have := hI.out.bel.size; have := HM.out; omega))
          by_cases hz : j = 0
          · subst hz
            have hR3 : R = some (.node 21 ty hk 0 [] []) := by
              rw [← HR2.out]
              have hes : es = [] := List.eq_nil_of_length_eq_zero Q.out.1
              have he : entriesT pa ls = [] := by rw [← Q.out.2.2.1, hes]; rfl
              have := greatT_map ⟨21, ty, b, im, t, ⟨An, nn, capn⟩, ⟨Aa, i2, capa⟩, hk⟩ nm pa ls rfl [] ⟨by rw [he], List.Pairwise.nil⟩ (by rw [he]; intro x hx; cases hx)
              exact this
            have k0 : wr.cell? ⟨M, 0, none⟩ = some (.int .i64 21) := by rw [hJo.blk.cell, HDD.out]; rfl
            have k1 : wr.cell? ⟨M, 1, none⟩ = some (.string ty) := by rw [hJo.blk.cell, HDD.out]; rfl
            have k2 : wr.cell? ⟨M, 2, none⟩ = some (.int .i64 hk) := by rw [hJo.blk.cell, HDD.out]; rfl
            have SZ := hid (fun W => sort_zero mA mc W)
            have F := hid (And.intro hR3 hbM)
            clear hR3 hbM hSO q1 q2 q3 q4 kf kk hJo
            go_wp2_with fail
            refine (SZ.out _).mono ?_
            rintro e w5 ⟨rfl, hw⟩
            subst hw
            go_wp2_with fail
            refine wp_loop_rounds 1 ?_
            rw [rounds_succ]
            go_wp2_with fail
            go_ret
            refine ⟨F.out.2, ?_⟩
            rw [F.out.1]
            exact ⟨_, _, rfl, map_node0 ty hk mA mc⟩
          · obtain ⟨g2, rfl, hg2, hg2w, hgc, hgf, bcs, hgB⟩ := own_atz hJo.own (by omega)
            have SR := hid (hSO g2 mc es.toArray wr (by simpa using q1) (fun q v hv => hgc q v (by
              have : fl es = us.take (2 * j) := by rw [q2, ← hjj, List.take_of_length_le (by rw [hI.out.len]; exact Nat.le_refl _)]
              rw [← this]
              simpa using hv)) hgf hg2w)
            have hMw := hJo.blk.lt
            clear hSO q1 q2 q3 q4 kf kk hgc hgf
            go_wp2_with fail
            refine SR.out.mono ?_
            rintro e W5 ⟨rfl, d', hs⟩
            have hds : d'.size = j := by have := hs.perm.length_eq; rw [show d'.size = d'.toList.length from rfl, this]; simpa using Q.out.1
            have HS := hid hs
            have hb5 : Blk W5 M #[.int .i64 D.k, .string D.ty, .int .i64 D.hk, .slice (some ⟨g2, 0, none⟩) j mc] 198 := hJo.blk.same (hs.far M hMw (by omega))
            have HB5 := hid hb5
            have hbW : Below w.heap.size w W5 := ⟨hs.os.trans hbM.os, hs.tape.trans hbM.tape, hs.output.trans hbM.output, Nat.le_trans hbM.size hs.size, fun q hq => (hs.far q (by have := hbM.size; omega) (by have := hI.out.bel.size; have := HM.out; omega)).trans (hbM.block q hq)⟩
            have HBW := hid hbW
            have NODE := hid (fun W (hW : Below W5.heap.size W5 W) => (map_node hI.out HM.out hJo.bel (by omega) hg2w hgB Q.out.2.2.2 hs Q.out.1 ty hk (mc := mc)).keep hW)
            have hg25 := Nat.lt_of_lt_of_le hg2w hs.size
            clear SR hs hb5 hbW hJo cm hbM hgB
            have cm : W5.cell? ⟨M, 3, none⟩ = some (.slice (some ⟨g2, 0, none⟩) j mc) := HB5.out.cell 3
            go_wp2_with fail
            obtain ⟨wm, rfl⟩ : ∃ wm, wm = wr := ⟨_, rfl⟩
            go_loopw [14] (fun iv wr => ∃ k : Nat, iv = .int .i64 ((k : Int) + 1) ∧ k + 1 ≤ j ∧ Hid ((∀ q, q < k → cmpE d'[q]! d'[q + 1]! ≠ 0) ∧ Below W5.heap.size W5 wr)) (fun iv _ => j - (intOf iv).toNat)
            case atStart => exact ⟨0, rfl, by omega, fun q hq => absurd hq (Nat.not_lt_zero _), Below.refl _ _⟩
            case round =>
              obtain ⟨k, rfl, hkj, hK3⟩ := hrel
              have hbk := hK3.out.2
              have HB6 := hid (HB5.out.below hbk HB5.out.lt)
              have cm : wr.cell? ⟨M, 3, none⟩ = some (.slice (some ⟨g2, 0, none⟩) j mc) := HB6.out.cell 3
              have HBK := hid hbk
              clear hbk
              by_cases hlt : k + 1 < j
              · have hlt3 : (k : Int) + 1 < (j : Int) := by omega
                have d1 : wr.cell? ⟨g2, k * 2, none⟩ = some (kvV d'[k]!.kv) := (HBK.out.cell (p := ⟨g2, k * 2, none⟩) hg25).trans (HS.out.cells _ _ (fl_key d' k (by omega)))
                have d2 : wr.cell? ⟨g2, (k + 1) * 2, none⟩ = some (kvV d'[k + 1]!.kv) := (HBK.out.cell (p := ⟨g2, (k + 1) * 2, none⟩) hg25).trans (HS.out.cells _ _ (fl_key d' (k + 1) (by omega)))
                have OR := hid (fun W => order_any d'[k]!.kv d'[k + 1]!.kv W d'[k]!.ok d'[k + 1]!.ok)
                obtain ⟨Ta, ya, ha⟩ := kv_iface d'[k]!.kv
                obtain ⟨Tb, yb, hb⟩ := kv_iface d'[k + 1]!.kv
                obtain ⟨c, hc⟩ : ∃ c, cmpK d'[k]!.kv d'[k + 1]!.kv = c := ⟨_, rfl⟩
                rw [ha] at d1 OR
                rw [hb] at d2 OR
                rw [hc] at OR
                have CC := hid (And.intro (show cmpE d'[k]! d'[k + 1]! = c from hc) (And.intro d1 d2))
                have hz1 : (0 : Int) ≤ (k : Int) + 1 := by omega
                have hz2 : (k : Int) < (j : Int) := by omega
                have hz3 : ((k : Int) + 1).toNat = k + 1 := by omega
                have hz4 : IntKind.i64.wrap (k : Int) = (k : Int) := by rw [IntKind.wrap_i64]; omega
                have hz5 : (0 : Int) ≤ (k : Int) := by omega
                clear ha hb hc d1 d2
                by_cases hc0 : c = 0
                · subst hc0
                  have hR3 : R = none := by
                    rw [← HR2.out]
                    refine greatT_twice _ nm pa ls rfl ?_
                    rw [← Q.out.2.2.1]
                    exact sorted_no HS.out (by omega) CC.out.1
                  have F := hid hR3
                  clear hR3
                  go_upto_region 29 with fail
                  refine wp_region_held_drew (S := fun w1 => Below wr.heap.size wr w1) (by kernel_rfl) ((Below.refl _ _).drew) (fun h0 => ?_)
                  have hMr := HB6.out.lt
                  have hgr := Nat.lt_of_lt_of_le hg25 HBK.out.size
                  generalize World.drew wr = W6 at h0 ⊢
                  refine wpAnyH_take (i := 0) (fuel := 15) (v := (.pointer (some ⟨M, 3, none⟩))) rfl (by kernel_rfl) (by kernel_rfl) (by kernel_rfl) (fun _ _ _ h => h) (Or.inl ⟨by rfl, by intro w1 hw1; go_simp⟩) h0 ?_
                  try simp only [Act.put, List.getElem_toArray, List.getElem_cons_zero, List.setIfInBounds_toArray, List.set_cons_zero, List.set_cons_succ]
                  refine wpAnyH_take (i := 1) (fuel := 14) (v := (.slice (some ⟨g2, 0, none⟩) j mc)) rfl (by kernel_rfl) (by kernel_rfl) (by kernel_rfl) (fun _ _ _ h => h) (Or.inl ⟨by rfl, by intro w1 hw1; have hq := (hw1.cell (p := ⟨M, 3, none⟩) hMr).trans cm; go_simp⟩) h0 ?_
                  try simp only [Act.put, List.getElem_toArray, List.getElem_cons_zero, List.getElem_cons_succ, List.setIfInBounds_toArray, List.set_cons_zero, List.set_cons_succ]
                  refine wpAnyH_take (i := 2) (fuel := 13) (v := (.int .i64 ((k : Int) + 1))) rfl (by kernel_rfl) (by kernel_rfl) (by kernel_rfl) (fun _ _ _ h => h) (Or.inl ⟨by rfl, by intro w1 hw1; go_simp⟩) h0 ?_
                  try simp only [Act.put, List.getElem_toArray, List.getElem_cons_zero, List.getElem_cons_succ, List.setIfInBounds_toArray, List.set_cons_zero, List.set_cons_succ]
                  refine wpAnyH_take (i := 3) (fuel := 12) (v := (.int .i64 (k : Int))) rfl (by kernel_rfl) (by kernel_rfl) (by kernel_rfl) (fun _ _ _ h => h) (Or.inl ⟨by rfl, by intro w1 hw1; go_simp⟩) h0 ?_
                  try simp only [Act.put, List.getElem_toArray, List.getElem_cons_zero, List.getElem_cons_succ, List.setIfInBounds_toArray, List.set_cons_zero, List.set_cons_succ]
                  refine wpAnyH_take (i := 4) (fuel := 11) (v := (.pointer (some ⟨g2, k * 2, none⟩))) rfl (by kernel_rfl) (by kernel_rfl) (by kernel_rfl) (fun _ _ _ h => h) (Or.inl ⟨by rfl, by intro w1 hw1; go_simp⟩) h0 ?_
                  try simp only [Act.put, List.getElem_toArray, List.getElem_cons_zero, List.getElem_cons_succ, List.setIfInBounds_toArray, List.set_cons_zero, List.set_cons_succ]
                  refine wpAnyH_take (i := 5) (fuel := 10) (v := (.pointer (some ⟨g2, k * 2, none⟩))) rfl (by kernel_rfl) (by kernel_rfl) (by kernel_rfl) (fun _ _ _ h => h) (Or.inl ⟨by rfl, by intro w1 hw1; go_simp⟩) h0 ?_
                  try simp only [Act.put, List.getElem_toArray, List.getElem_cons_zero, List.getElem_cons_succ, List.setIfInBounds_toArray, List.set_cons_zero, List.set_cons_succ]
                  refine wpAnyH_take (i := 6) (fuel := 9) (v := (.iface Ta ya)) rfl (by kernel_rfl) (by kernel_rfl) (by kernel_rfl) (fun _ _ _ h => h) (Or.inl ⟨by rfl, by intro w1 hw1; have hq := (hw1.cell (p := ⟨g2, k * 2, none⟩) hgr).trans CC.out.2.1; go_simp⟩) h0 ?_
                  try simp only [Act.put, List.getElem_toArray, List.getElem_cons_zero, List.getElem_cons_succ, List.setIfInBounds_toArray, List.set_cons_zero, List.set_cons_succ]
                  refine wpAnyH_take (i := 7) (fuel := 8) (v := (.pointer (some ⟨M, 3, none⟩))) rfl (by kernel_rfl) (by kernel_rfl) (by kernel_rfl) (fun _ _ _ h => h) (Or.inl ⟨by rfl, by intro w1 hw1; go_simp⟩) h0 ?_
                  try simp only [Act.put, List.getElem_toArray, List.getElem_cons_zero, List.getElem_cons_succ, List.setIfInBounds_toArray, List.set_cons_zero, List.set_cons_succ]
                  refine wpAnyH_take (i := 8) (fuel := 7) (v := (.slice (some ⟨g2, 0, none⟩) j mc)) rfl (by kernel_rfl) (by kernel_rfl) (by kernel_rfl) (fun _ _ _ h => h) (Or.inl ⟨by rfl, by intro w1 hw1; have hq := (hw1.cell (p := ⟨M, 3, none⟩) hMr).trans cm; go_simp⟩) h0 ?_
                  try simp only [Act.put, List.getElem_toArray, List.getElem_cons_zero, List.getElem_cons_succ, List.setIfInBounds_toArray, List.set_cons_zero, List.set_cons_succ]
                  refine wpAnyH_take (i := 9) (fuel := 6) (v := (.int .i64 ((k : Int) + 1))) rfl (by kernel_rfl) (by kernel_rfl) (by kernel_rfl) (fun _ _ _ h => h) (Or.inl ⟨by rfl, by intro w1 hw1; go_simp⟩) h0 ?_
                  try simp only [Act.put, List.getElem_toArray, List.getElem_cons_zero, List.getElem_cons_succ, List.setIfInBounds_toArray, List.set_cons_zero, List.set_cons_succ]
                  refine wpAnyH_take (i := 10) (fuel := 5) (v := (.pointer (some ⟨g2, (k + 1) * 2, none⟩))) rfl (by kernel_rfl) (by kernel_rfl) (by kernel_rfl) (fun _ _ _ h => h) (Or.inl ⟨by rfl, by intro w1 hw1; go_simp⟩) h0 ?_
                  try simp only [Act.put, List.getElem_toArray, List.getElem_cons_zero, List.getElem_cons_succ, List.setIfInBounds_toArray, List.set_cons_zero, List.set_cons_succ]
                  refine wpAnyH_take (i := 11) (fuel := 4) (v := (.pointer (some ⟨g2, (k + 1) * 2, none⟩))) rfl (by kernel_rfl) (by kernel_rfl) (by kernel_rfl) (fun _ _ _ h => h) (Or.inl ⟨by rfl, by intro w1 hw1; go_simp⟩) h0 ?_
                  try simp only [Act.put, List.getElem_toArray, List.getElem_cons_zero, List.getElem_cons_succ, List.setIfInBounds_toArray, List.set_cons_zero, List.set_cons_succ]
                  refine wpAnyH_take (i := 12) (fuel := 3) (v := (.iface Tb yb)) rfl (by kernel_rfl) (by kernel_rfl) (by kernel_rfl) (fun _ _ _ h => h) (Or.inl ⟨by rfl, by intro w1 hw1; have hq := (hw1.cell (p := ⟨g2, (k + 1) * 2, none⟩) hgr).trans CC.out.2.2; go_simp⟩) h0 ?_
                  try simp only [Act.put, List.getElem_toArray, List.getElem_cons_zero, List.getElem_cons_succ, List.setIfInBounds_toArray, List.set_cons_zero, List.set_cons_succ]
                  refine wpAnyH_ready (fuel := 2) (rs := [13]) (by kernel_rfl) (by simp) ?_
                  refine AllReadyH.cons rfl (fun K hK => ?_) AllReadyH.nil
                  rw [if_pos (by rfl)]
                  go_wp2_with fail
                  refine (OR.out _).mono ?_
                  rintro e W7 ⟨rfl, g7⟩
                  have h7 := h0.trans (g7.below.mono h0.size)
                  refine hK.out _ _ h7 (fun _ => ?_)
                  clear hK h0 g7
                  have h0 := h7
                  try simp only [Act.put, List.getElem_toArray, List.getElem_cons_zero, List.getElem_cons_succ, List.setIfInBounds_toArray, List.set_cons_zero, List.set_cons_succ]
                  refine wpAnyH_take (i := 14) (fuel := 1) (v := (.bool false)) rfl (by kernel_rfl) (by kernel_rfl) (by kernel_rfl) (fun _ _ _ h => h) (Or.inl ⟨by rfl, by intro w1 hw1; go_simp⟩) h0 ?_
                  try simp only [Act.put, List.getElem_toArray, List.getElem_cons_zero, List.getElem_cons_succ, List.setIfInBounds_toArray, List.set_cons_zero, List.set_cons_succ]
                  refine wpAnyH_ready (fuel := 0) (rs := [15]) (by kernel_rfl) (by simp) ?_
                  refine AllReadyH.cons rfl (fun K hK => ?_) AllReadyH.nil
                  rw [if_pos (by rfl)]
                  go_wp2_with fail
                  refine (must_no 5 _).mono ?_
                  rintro e W8 ⟨rfl, hw⟩
                  subst hw
                  have G := hid (show MadeR w R (badE 5) W7 from ⟨HBW.out.trans ((HBK.out.trans (h0.mono HBK.out.size)).mono HBW.out.size), by rw [F.out]⟩)
                  clear hK
                  go_wp2_with fail
                  exact ⟨rfl, G.out⟩
                · have hcb : (c != 0) = true := by simpa using hc0
                  have HC0 := hid hc0
                  clear hc0
                  go_upto_region 29 with fail
                  refine wp_region_held_drew (S := fun w1 => Below wr.heap.size wr w1) (by kernel_rfl) ((Below.refl _ _).drew) (fun h0 => ?_)
                  have hMr := HB6.out.lt
                  have hgr := Nat.lt_of_lt_of_le hg25 HBK.out.size
                  generalize World.drew wr = W6 at h0 ⊢
                  refine wpAnyH_take (i := 0) (fuel := 15) (v := (.pointer (some ⟨M, 3, none⟩))) rfl (by kernel_rfl) (by kernel_rfl) (by kernel_rfl) (fun _ _ _ h => h) (Or.inl ⟨by rfl, by intro w1 hw1; go_simp⟩) h0 ?_
                  try simp only [Act.put, List.getElem_toArray, List.getElem_cons_zero, List.setIfInBounds_toArray, List.set_cons_zero, List.set_cons_succ]
                  refine wpAnyH_take (i := 1) (fuel := 14) (v := (.slice (some ⟨g2, 0, none⟩) j mc)) rfl (by kernel_rfl) (by kernel_rfl) (by kernel_rfl) (fun _ _ _ h => h) (Or.inl ⟨by rfl, by intro w1 hw1; have hq := (hw1.cell (p := ⟨M, 3, none⟩) hMr).trans cm; go_simp⟩) h0 ?_
                  try simp only [Act.put, List.getElem_toArray, List.getElem_cons_zero, List.getElem_cons_succ, List.setIfInBounds_toArray, List.set_cons_zero, List.set_cons_succ]
                  refine wpAnyH_take (i := 2) (fuel := 13) (v := (.int .i64 ((k : Int) + 1))) rfl (by kernel_rfl) (by kernel_rfl) (by kernel_rfl) (fun _ _ _ h => h) (Or.inl ⟨by rfl, by intro w1 hw1; go_simp⟩) h0 ?_
                  try simp only [Act.put, List.getElem_toArray, List.getElem_cons_zero, List.getElem_cons_succ, List.setIfInBounds_toArray, List.set_cons_zero, List.set_cons_succ]
                  refine wpAnyH_take (i := 3) (fuel := 12) (v := (.int .i64 (k : Int))) rfl (by kernel_rfl) (by kernel_rfl) (by kernel_rfl) (fun _ _ _ h => h) (Or.inl ⟨by rfl, by intro w1 hw1; go_simp⟩) h0 ?_
                  try simp only [Act.put, List.getElem_toArray, List.getElem_cons_zero, List.getElem_cons_succ, List.setIfInBounds_toArray, List.set_cons_zero, List.set_cons_succ]
                  refine wpAnyH_take (i := 4) (fuel := 11) (v := (.pointer (some ⟨g2, k * 2, none⟩))) rfl (by kernel_rfl) (by kernel_rfl) (by kernel_rfl) (fun _ _ _ h => h) (Or.inl ⟨by rfl, by intro w1 hw1; go_simp⟩) h0 ?_
                  try simp only [Act.put, List.getElem_toArray, List.getElem_cons_zero, List.getElem_cons_succ, List.setIfInBounds_toArray, List.set_cons_zero, List.set_cons_succ]
                  refine wpAnyH_take (i := 5) (fuel := 10) (v := (.pointer (some ⟨g2, k * 2, none⟩))) rfl (by kernel_rfl) (by kernel_rfl) (by kernel_rfl) (fun _ _ _ h => h) (Or.inl ⟨by rfl, by intro w1 hw1; go_simp⟩) h0 ?_
                  try simp only [Act.put, List.getElem_toArray, List.getElem_cons_zero, List.getElem_cons_succ, List.setIfInBounds_toArray, List.set_cons_zero, List.set_cons_succ]
                  refine wpAnyH_take (i := 6) (fuel := 9) (v := (.iface Ta ya)) rfl (by kernel_rfl) (by kernel_rfl) (by kernel_rfl) (fun _ _ _ h => h) (Or.inl ⟨by rfl, by intro w1 hw1; have hq := (hw1.cell (p := ⟨g2, k * 2, none⟩) hgr).trans CC.out.2.1; go_simp⟩) h0 ?_
                  try simp only [Act.put, List.getElem_toArray, List.getElem_cons_zero, List.getElem_cons_succ, List.setIfInBounds_toArray, List.set_cons_zero, List.set_cons_succ]
                  refine wpAnyH_take (i := 7) (fuel := 8) (v := (.pointer (some ⟨M, 3, none⟩))) rfl (by kernel_rfl) (by kernel_rfl) (by kernel_rfl) (fun _ _ _ h => h) (Or.inl ⟨by rfl, by intro w1 hw1; go_simp⟩) h0 ?_
                  try simp only [Act.put, List.getElem_toArray, List.getElem_cons_zero, List.getElem_cons_succ, List.setIfInBounds_toArray, List.set_cons_zero, List.set_cons_succ]
                  refine wpAnyH_take (i := 8) (fuel := 7) (v := (.slice (some ⟨g2, 0, none⟩) j mc)) rfl (by kernel_rfl) (by kernel_rfl) (by kernel_rfl) (fun _ _ _ h => h) (Or.inl ⟨by rfl, by intro w1 hw1; have hq := (hw1.cell (p := ⟨M, 3, none⟩) hMr).trans cm; go_simp⟩) h0 ?_
                  try simp only [Act.put, List.getElem_toArray, List.getElem_cons_zero, List.getElem_cons_succ, List.setIfInBounds_toArray, List.set_cons_zero, List.set_cons_succ]
                  refine wpAnyH_take (i := 9) (fuel := 6) (v := (.int .i64 ((k : Int) + 1))) rfl (by kernel_rfl) (by kernel_rfl) (by kernel_rfl) (fun _ _ _ h => h) (Or.inl ⟨by rfl, by intro w1 hw1; go_simp⟩) h0 ?_
                  try simp only [Act.put, List.getElem_toArray, List.getElem_cons_zero, List.getElem_cons_succ, List.setIfInBounds_toArray, List.set_cons_zero, List.set_cons_succ]
                  refine wpAnyH_take (i := 10) (fuel := 5) (v := (.pointer (some ⟨g2, (k + 1) * 2, none⟩))) rfl (by kernel_rfl) (by kernel_rfl) (by kernel_rfl) (fun _ _ _ h => h) (Or.inl ⟨by rfl, by intro w1 hw1; go_simp⟩) h0 ?_
                  try simp only [Act.put, List.getElem_toArray, List.getElem_cons_zero, List.getElem_cons_succ, List.setIfInBounds_toArray, List.set_cons_zero, List.set_cons_succ]
                  refine wpAnyH_take (i := 11) (fuel := 4) (v := (.pointer (some ⟨g2, (k + 1) * 2, none⟩))) rfl (by kernel_rfl) (by kernel_rfl) (by kernel_rfl) (fun _ _ _ h => h) (Or.inl ⟨by rfl, by intro w1 hw1; go_simp⟩) h0 ?_
                  try simp only [Act.put, List.getElem_toArray, List.getElem_cons_zero, List.getElem_cons_succ, List.setIfInBounds_toArray, List.set_cons_zero, List.set_cons_succ]
                  refine wpAnyH_take (i := 12) (fuel := 3) (v := (.iface Tb yb)) rfl (by kernel_rfl) (by kernel_rfl) (by kernel_rfl) (fun _ _ _ h => h) (Or.inl ⟨by rfl, by intro w1 hw1; have hq := (hw1.cell (p := ⟨g2, (k + 1) * 2, none⟩) hgr).trans CC.out.2.2; go_simp⟩) h0 ?_
                  try simp only [Act.put, List.getElem_toArray, List.getElem_cons_zero, List.getElem_cons_succ, List.setIfInBounds_toArray, List.set_cons_zero, List.set_cons_succ]
                  refine wpAnyH_ready (fuel := 2) (rs := [13]) (by kernel_rfl) (by simp) ?_
                  refine AllReadyH.cons rfl (fun K hK => ?_) AllReadyH.nil
                  rw [if_pos (by rfl)]
                  go_wp2_with fail
                  refine (OR.out _).mono ?_
                  rintro e W7 ⟨rfl, g7⟩
                  have h7 := h0.trans (g7.below.mono h0.size)
                  refine hK.out _ _ h7 (fun _ => ?_)
                  clear hK h0 g7
                  have h0 := h7
                  try simp only [Act.put, List.getElem_toArray, List.getElem_cons_zero, List.getElem_cons_succ, List.setIfInBounds_toArray, List.set_cons_zero, List.set_cons_succ]
                  refine wpAnyH_take (i := 14) (fuel := 1) (v := (.bool true)) rfl (by kernel_rfl) (by kernel_rfl) (by kernel_rfl) (fun _ _ _ h => h) (Or.inl ⟨by rfl, by intro w1 hw1; go_simp⟩) h0 ?_
                  try simp only [Act.put, List.getElem_toArray, List.getElem_cons_zero, List.getElem_cons_succ, List.setIfInBounds_toArray, List.set_cons_zero, List.set_cons_succ]
                  refine wpAnyH_ready (fuel := 0) (rs := [15]) (by kernel_rfl) (by simp) ?_
                  refine AllReadyH.cons rfl (fun K hK => ?_) AllReadyH.nil
                  rw [if_pos (by rfl)]
                  go_wp2_with fail
                  refine (must_ok 5 _).mono ?_
                  rintro e W8 ⟨rfl, hw⟩
                  subst hw
                  refine hK.out _ _ h0 (fun _ => ?_)
                  clear hK
                  try simp only [Act.put, List.getElem_toArray, List.getElem_cons_zero, List.getElem_cons_succ, List.setIfInBounds_toArray, List.set_cons_zero, List.set_cons_succ]
                  refine wpAnyH_done (by kernel_rfl) ?_ _
                  have N := hid (show (∀ q, q < k + 1 → cmpE d'[q]! d'[q + 1]! ≠ 0) ∧ Below W5.heap.size W5 W7 from ⟨fun q hq => by
                    by_cases hqk : q < k
                    · exact hK3.out.1 q hqk
                    · obtain rfl : q = k := by omega
                      rw [CC.out.1]
                      exact HC0.out, HBK.out.trans (h0.mono HBK.out.size)⟩)
                  clear h0 h7
                  go_wp2_with fail
                  go_roundw
                  case rel => exact ⟨k + 1, by go_num, by omega, N⟩
                  case measure => simp [intOf]; omega
              · have hkj2 : k + 1 = j := by omega
                have hR3 : R = some (.node 21 ty hk 0 [] (flatT (d'.toList.map enP))) := by
                  rw [← HR2.out]
                  refine greatT_map _ nm pa ls rfl _ ?_ ?_
                  · rw [← Q.out.2.2.1]
                    exact sorted_of HS.out fun q hq => hK3.out.1 q (by omega)
                  · rw [← Q.out.2.2.1]
                    intro x hx
                    obtain ⟨e, _, rfl⟩ := List.mem_map.1 hx
                    exact e.ok
                have k0 : wr.cell? ⟨M, 0, none⟩ = some (.int .i64 21) := by rw [HB6.out.cell, HDD.out]; rfl
                have k1 : wr.cell? ⟨M, 1, none⟩ = some (.string ty) := by rw [HB6.out.cell, HDD.out]; rfl
                have k2 : wr.cell? ⟨M, 2, none⟩ = some (.int .i64 hk) := by rw [HB6.out.cell, HDD.out]; rfl
                have F := hid (And.intro hR3 (And.intro (HBW.out.trans (HBK.out.mono HBW.out.size)) (NODE.out wr HBK.out)))
                clear hR3
                go_wp2_with fail
                go_ret
                refine ⟨F.out.2.1, ?_⟩
                rw [F.out.1]
                exact ⟨_, _, rfl, F.out.2.2⟩
end Go.Proofs.YtdjhmanccoekjaaGreatDoor
end

section
namespace Go.Proofs.YtdjhmanccoekjaaGreatDoor
open Go.RowKit Go.Proofs

set_option maxRecDepth 100000 in
set_option maxHeartbeats 1000000 in
theorem vkey_any (d : De) (w : World) : Calls Tryz.prog 126 #[.agg (deV d)] w fun e w' => e = .returned (.bool (keyB d.k)) ∧ Below w.heap.size w w' := by
  obtain ⟨k, ty, b, im, t, nm, pa, hk⟩ := d
  obtain ⟨r, hr⟩ : ∃ r, keyB k = r := ⟨_, rfl⟩
  show Calls Tryz.prog _ _ w fun e w' => e = .returned (.bool (keyB k)) ∧ _
  unfold keyB at hr ⊢
  by_cases h1 : 1 ≤ k
  · by_cases h2 : k ≤ 11
    · have e : decide (1 ≤ k ∧ k ≤ 11 ∨ k = 16) = true := decide_eq_true (Or.inl ⟨h1, h2⟩)
      rw [e]
      have g1 : decide (k ≥ 1) = true := decide_eq_true h1
      have g2 : decide (1 ≤ k) = true := decide_eq_true h1
      have g3 : decide (k ≤ 11) = true := decide_eq_true h2
      clear e hr
      go_enter Tryz.func126, Tryz.ntmps126
      go_wp2_with fail
      go_ret
      exact ⟨rfl, (Below.refl _ _).alloc (Nat.le_refl _) _⟩
    · have g1 : decide (k ≥ 1) = true := decide_eq_true h1
      have g2 : decide (1 ≤ k) = true := decide_eq_true h1
      have g3 : decide (k ≤ 11) = false := decide_eq_false h2
      have e : decide (1 ≤ k ∧ k ≤ 11 ∨ k = 16) = (k == 16) := by rw [show (k == 16) = decide (k = 16) from rfl]; congr 1; apply propext; omega
      rw [e]
      clear e hr
      go_enter Tryz.func126, Tryz.ntmps126
      go_wp2_with fail
      go_ret
      exact ⟨rfl, (Below.refl _ _).alloc (Nat.le_refl _) _⟩
  · have g1 : decide (k ≥ 1) = false := decide_eq_false h1
    have g2 : decide (1 ≤ k) = false := decide_eq_false h1
    have e : decide (1 ≤ k ∧ k ≤ 11 ∨ k = 16) = (k == 16) := by rw [show (k == 16) = decide (k = 16) from rfl]; congr 1; apply propext; omega
    rw [e]
    clear e hr
    go_enter Tryz.func126, Tryz.ntmps126
    go_wp2_with fail
    go_ret
    exact ⟨rfl, (Below.refl _ _).alloc (Nat.le_refl _) _⟩
/-- The places of keys hold keys. -/
def keysB : List DT → Bool
  | x :: _ :: r => keyB x.de.k && keysB r
  | [x] => keyB x.de.k
  | [] => true
theorem keysB_get : ∀ (pa : List DT), keysB pa = true → ∀ (j : Nat) x, pa[2 * j]? = some x → keyB x.de.k = true
  | [], _, j, x, h => by simp at h
  | [y], hk, j, x, h => by
    cases j with
    | zero => simp at h; subst h; exact hk
    | succ j => rw [List.getElem?_eq_none (by simp; omega)] at h; cases h
  | y :: z :: r, hk, j, x, h => by
    rw [keysB, Bool.and_eq_true] at hk
    cases j with
    | zero => simp at h; subst h; exact hk.1
    | succ j =>
      rw [show 2 * (j + 1) = 2 * j + 1 + 1 by omega, List.getElem?_cons_succ, List.getElem?_cons_succ] at h
      exact keysB_get r hk.2 j x h
theorem keysB_drop (pa : List DT) (i : Nat) (x : DT) (h : pa[i]? = some x) : keysB (pa.drop i) = (keyB x.de.k && keysB (pa.drop (i + 2))) := by
  rw [drop_cons h]
  cases hy : pa[i + 1]? with
  | none =>
    have : pa.length ≤ i + 1 := List.getElem?_eq_none_iff.1 hy
    rw [List.drop_eq_nil_of_le this, List.drop_eq_nil_of_le (by omega)]
    simp [keysB]
  | some y =>
    rw [drop_cons hy]
    rfl
set_option maxRecDepth 100000 in
set_option maxHeartbeats 4000000 in
theorem formed_map (d : De) (nm : List ByteArray) (pa : List DT) (w : World) (hD : DtAt w (.mk d nm pa)) (hk21 : d.k = 21) (hty : typedB d.ty = true) (hts : d.ty.size ≤ 140737488355328) :
    Calls Tryz.prog 96 #[.agg (deV d)] w fun e w' => e = .returned (.bool (keysB pa && decide (pa.length % 2 = 0))) ∧ Below w.heap.size w w' := by
  have TY := hid (fun W => typed_any d.ty W hts)
  rw [hty] at TY
  obtain ⟨hAn, hA⟩ := hD.args
  have HA := hid hA
  have hlz := hD.len
  obtain ⟨n, hn⟩ : ∃ n, pa.length = n := ⟨_, rfl⟩
  have HN := hid hn
  have hAm : d.pa.n = n := by rw [hAn, List.length_map, hn]
  rw [hn] at hlz ⊢
  obtain ⟨k, ty, b, im, t, ⟨An, nn, capn⟩, ⟨Aa, na, capa⟩, hk⟩ := d
  simp only at *
  subst hAm hk21
  obtain ⟨KB, hKK⟩ : ∃ KB, keysB pa = KB := ⟨_, rfl⟩
  rw [hKK]
  have HK0 := hid hKK
  clear hD hA hAn hn hty hts hKK
  show Calls Tryz.prog _ #[.agg #[.int .i64 21, .string ty, .int .u64 b, .int .u64 im, .string t, .slice An nn capn, .slice Aa na capa, .int .i64 hk]] w _
  have B0 := hid ((Below.refl w.heap.size w).alloc (Nat.le_refl _) (.cells #[.int .i64 21, .string ty, .int .u64 b, .int .u64 im, .string t, .slice An nn capn, .slice Aa na capa, .int .i64 hk] 29))
  have A0 := hid (Blk.new w #[.int .i64 21, .string ty, .int .u64 b, .int .u64 im, .string t, .slice An nn capn, .slice Aa na capa, .int .i64 hk] 29)
  go_enter Tryz.func96, Tryz.ntmps96
  go_wp2_with fail
  refine (TY.out _).mono ?_
  rintro e w1 ⟨rfl, hb⟩
  have HB := hid (B0.out.trans (hb.mono B0.out.size))
  have HA1 := hid (A0.out.below hb A0.out.lt)
  obtain ⟨B, hB⟩ : ∃ B, w.heap.size = B := ⟨_, rfl⟩
  rw [hB] at HA1 ⊢
  have c0 : w1.cell? ⟨B, 0, none⟩ = some (.int .i64 21) := HA1.out.cell 0
  clear hb hB B0 A0
  go_wp2_with fail
  have I0 : Hid (keysB (pa.drop 0) = KB) := HK0
  go_loopw [3] (fun iv wr => ∃ i : Nat, iv = .int .i64 i ∧ i ≤ na + 1 ∧ Hid (keysB (pa.drop i) = KB) ∧ Hid (i % 2 = 0) ∧ Hid (Below w1.heap.size w1 wr)) (fun iv _ => na + 2 - (intOf iv).toNat)
  case atStart => exact ⟨0, rfl, Nat.zero_le _, I0, rfl, Below.refl _ _⟩
  case round =>
    obtain ⟨i, rfl, hi, hk1, hev, BI⟩ := hrel
    have HA2 := hid (HA1.out.below BI.out HA1.out.lt)
    have c6 : wr.cell? ⟨B, 6, none⟩ = some (.slice Aa na capa) := HA2.out.cell 6
    by_cases him : i < na
    · obtain ⟨x, hx⟩ : ∃ x, pa[i]? = some x := ⟨_, List.getElem?_eq_getElem (by rw [HN.out]; exact him)⟩
      have hxd : (pa.map DT.de)[i]? = some x.de := by rw [List.getElem?_map, hx]; rfl
      have hne : pa.map DT.de ≠ [] := by intro e; rw [e] at hxd; simp at hxd
      obtain ⟨g, o, rfl, hg, hc⟩ := HA.out hne
      have HCL := hid (fun (j : Nat) v (hv : (deV x.de)[j]? = some v) => show wr.cell? ⟨g, o + i * 8 + j, none⟩ = some v from (((HB.out.trans (BI.out.mono HB.out.size))).cell (p := ⟨g, o + i * 8 + j, none⟩) hg).trans (hc i x.de hxd j v hv))
      have KE := hid (vkey_any x.de wr)
      have hr := hk1.out
      rw [keysB_drop pa i x hx] at hr
      obtain ⟨kb, hkb⟩ : ∃ kb, keyB x.de.k = kb := ⟨_, rfl⟩
      rw [hkb] at KE hr
      have HR := hid hr
      clear hx hxd hne hc hg hkb hr hk1
      go_upto_region 10 with fail
      refine wp_region_list ?_
      iterate 4
        refine wpList_plain rfl fun K hK => ?_
        have HK := hid hK
        clear hK
        go_wp2_with fail
        refine HK.out _ _ ?_
        clear HK
      refine wpList_load_mid rfl 29 (.tmp 42) rfl g (o + i * 8) rfl (deV x.de).toList _ (fun j v hv => HCL.out j v (by simpa using hv)) Tryz.underlying29 rfl desc_size ?_
      refine wpList_plain rfl fun K hK => ?_
      have HK := hid hK
      clear hK
      go_wp2_with fail
      refine KE.out.mono ?_
      rintro e w3 ⟨rfl, hb3⟩
      have B3 := hid (BI.out.trans (hb3.mono BI.out.size))
      clear hb3
      refine HK.out _ _ ?_
      clear HK HCL KE
      cases kb
      · have hKf : KB = false := by have := HR.out; rw [Bool.false_and] at this; exact this.symm
        subst hKf
        refine wpList_plain rfl fun K hK => ?_
        have HK := hid hK
        clear hK
        go_wp2_with fail
        refine HK.out _ _ ?_
        clear HK
        refine wpList_nil ?_
        go_wp2_with fail
        go_ret
        exact ⟨rfl, HB.out.trans (B3.out.mono HB.out.size)⟩
      · have HR3 := hid (show keysB (pa.drop (i + 2)) = KB by have := HR.out; rw [Bool.true_and] at this; exact this)
        refine wpList_plain rfl fun K hK => ?_
        have HK := hid hK
        clear hK
        go_wp2_with fail
        refine HK.out _ _ ?_
        clear HK
        refine wpList_nil ?_
        go_wp2_with fail
        go_roundw
        case rel => exact ⟨i + 2, by go_num, by omega, HR3, hid (by have := hev.out; omega), B3⟩
        case measure => simp [intOf]; omega
    · have hKt : KB = true := by have := hk1.out; rw [List.drop_eq_nil_of_le (by rw [HN.out]; omega)] at this; exact this.symm
      subst hKt
      have hm : (na : Int) % 2 = ((na % 2 : Nat) : Int) := by omega
      have hr : Int.tmod (na : Int) 2 = (na : Int) % 2 := Int.tmod_eq_emod_of_nonneg (by omega)
      have F := hid (HB.out.trans (BI.out.mono HB.out.size))
      have hd : (Int.tmod (na : Int) 2 == 0) = decide (na % 2 = 0) := by rw [hr, hm]; rw [show ((((na % 2 : Nat) : Int)) == 0) = decide (((na % 2 : Nat) : Int) = 0) from rfl]; congr 1; apply propext; omega
      have HDD := hid hd
      clear hd hr hm
      go_wp2_with fail
      go_ret
      refine ⟨?_, F.out⟩
      have := HDD.out
      simp only [Bool.true_and]
      first | rw [← this]; rfl | simp_all
set_option maxRecDepth 100000 in
set_option maxHeartbeats 2000000 in
theorem made_great (d : De) (w : World) (r : Option VT) (h : 18 ≤ d.k ∧ d.k ≤ 22)
    (GR : ∀ W, Below w.heap.size w W → Calls Tryz.prog 129 #[.agg (deV d), .agg #[.int .i64 d.k, .string d.ty, .int .i64 d.hk]] W (MadeR W r)) :
    Calls Tryz.prog 97 #[.agg (deV d)] w (MadeR w r) := by
  obtain ⟨k, ty, b, im, t, nm, pa, hk⟩ := d
  simp only at *
  have B0 := hid (show Below w.heap.size w ((w.alloc (.cells (deV ⟨k, ty, b, im, t, nm, pa, hk⟩) 29)).alloc (.cells #[.int .i64 k, .string ty, .int .i64 hk] 135)) from ((Below.refl _ _).alloc (Nat.le_refl _) _).alloc (by simp) _)
  have G0 := hid (GR _ B0.out)
  have g0 : (k == 0) = false := by simp; omega
  have g1 : (k == 1) = false := by simp; omega
  have g12 : (k == 12) = false := by simp; omega
  have g13 : (k == 13) = false := by simp; omega
  have g14 : (k == 14) = false := by simp; omega
  have g15 : (k == 15) = false := by simp; omega
  have g16 : (k == 16) = false := by simp; omega
  have g17 : (k == 17) = false := by simp; omega
  have q2 : decide (k ≥ 2) = true := decide_eq_true (by omega)
  have q2' : decide (2 ≤ k) = true := decide_eq_true (by omega)
  have q6 : decide (k ≤ 6) = false := decide_eq_false (by omega)
  have q7 : decide (k ≥ 7) = true := decide_eq_true (by omega)
  have q7' : decide (7 ≤ k) = true := decide_eq_true (by omega)
  have q11 : decide (k ≤ 11) = false := decide_eq_false (by omega)
  clear GR h
  go_enter Tryz.func97, Tryz.ntmps97
  go_wp2_with fail
  cases r with
  | none =>
    refine G0.out.mono ?_
    rintro e w1 ⟨hb, hee⟩
    simp only at hee
    subst hee
    have F := hid (B0.out.trans (hb.mono B0.out.size))
    clear hb
    go_wp2_with fail
    exact ⟨rfl, F.out, rfl⟩
  | some V =>
    refine G0.out.mono ?_
    rintro e w1 ⟨hb, T, x, hee, hV⟩
    subst hee
    have F := hid (B0.out.trans (hb.mono B0.out.size))
    have HV := hid (hV.mono (S' := fun b => w.heap.size ≤ b) fun b hbs _ => ⟨Nat.le_trans B0.out.size hbs, rfl⟩)
    clear hb hV
    go_wp2_with fail
    go_ret
    exact ⟨F.out, T, x, rfl, HV.out⟩
set_option maxRecDepth 100000 in
set_option maxHeartbeats 4000000 in
theorem build_ok2 (d : De) (n t k : Int) (M : Value → World → Prop) (w : World)
    (CO : ∀ W, Below w.heap.size w W → Calls Tryz.prog 90 #[.agg (deV d), .int .i64 64] W fun e w' => e = .returned (.tuple #[.int .i64 n, .int .i64 t]) ∧ Below W.heap.size W w') (hn : 0 ≤ n) (ht : t ≤ 1024)
    (DE : ∀ W, Below w.heap.size w W → Calls Tryz.prog 92 #[.agg (deV d)] W fun e w' => e = .returned (.int .i64 k) ∧ Below W.heap.size W w') (hk : k ≤ 8)
    (E2 : ∀ W, Below w.heap.size w W → Calls Tryz.prog 93 #[.agg (deV d), .func (.func 94) #[] #[]] W fun e w' => e = .returned (.tuple #[]) ∧ Below W.heap.size W w')
    (E3 : ∀ W, Below w.heap.size w W → Calls Tryz.prog 93 #[.agg (deV d), .func (.func 95) #[] #[]] W fun e w' => e = .returned (.tuple #[]) ∧ Below W.heap.size W w')
    (MA : ∀ W, Below w.heap.size w W → w.heap.size + 3 ≤ W.heap.size → Calls Tryz.prog 97 #[.agg (deV d)] W fun e w' => ∃ T x, e = .returned (.iface T x) ∧ M (.iface T x) w' ∧ Below W.heap.size W w')
    (FM : ∀ v W (p : Addr) u, M v W → p.block < w.heap.size + 3 → M v (W.setCell p u)) :
    Calls Tryz.prog 65 #[.agg (deV d)] w fun e w' => ∃ T x, e = .returned (.tuple #[.iface T x, .int .i64 0]) ∧ M (.iface T x) w' ∧ Below w.heap.size w w' := by
  have hmf : ∀ (fn : Fn) (first cap : Array Value) (w : World), (Instr.makeFunc fn first cap).run Tryz.prog w = .ok (.func fn first cap) w := fun _ _ _ _ => rfl
  have CO := hid CO
  have DE := hid DE
  have E2 := hid E2
  have E3 := hid E3
  have MA := hid MA
  have FM := hid FM
  have MU := hid (fun e W => must_ok e W)
  have d1 : decide (0 ≤ n) = true := decide_eq_true hn
  have d2 : decide (t ≤ 1024) = true := decide_eq_true ht
  have d3 : decide (k ≤ 8) = true := decide_eq_true hk
  go_enter_defers Tryz.func65, Tryz.ntmps65
  have S0 := hid (Bd.start w d)
  go_wp2_with fail
  obtain ⟨W0, hW0⟩ : ∃ W0, (((w.alloc (.cells (deV d) 29)).alloc (.cells #[.nilIface] 103)).alloc (.cells #[.int .i64 0] 122)) = W0 := ⟨_, rfl⟩
  obtain ⟨B, hB⟩ : ∃ B, w.heap.size = B := ⟨_, rfl⟩
  rw [hW0] at S0 ⊢
  rw [hB]
  have HBB := hid hB
  rw [hB] at S0
  clear hW0 hB
  refine (CO.out _ S0.out.low).mono ?_
  rintro e W1 ⟨rfl, hb⟩
  have S1 := hid (S0.out.kept hb)
  obtain ⟨c0, c1, c2, c3, c4, c5, c6, c7⟩ := S1.out.cells
  clear hb
  go_wp2_with fail
  refine (MU.out _ _).mono ?_
  rintro e W2 ⟨rfl, rfl⟩
  go_wp2_with fail
  refine (DE.out _ S1.out.low).mono ?_
  rintro e W2 ⟨rfl, hb⟩
  have S2 := hid (S1.out.kept hb)
  clear hb c0 c1 c2 c3 c4 c5 c6 c7
  obtain ⟨c0, c1, c2, c3, c4, c5, c6, c7⟩ := S2.out.cells
  go_wp2_with fail
  refine (MU.out _ _).mono ?_
  rintro e W3 ⟨rfl, rfl⟩
  go_wp2_with fail
  refine (E2.out _ S2.out.low).mono ?_
  rintro e W3 ⟨rfl, hb⟩
  have S3 := hid (S2.out.kept hb)
  clear hb c0 c1 c2 c3 c4 c5 c6 c7
  obtain ⟨c0, c1, c2, c3, c4, c5, c6, c7⟩ := S3.out.cells
  go_wp2_with fail
  refine (E3.out _ S3.out.low).mono ?_
  rintro e W4 ⟨rfl, hb⟩
  have S4 := hid (S3.out.kept hb)
  clear hb c0 c1 c2 c3 c4 c5 c6 c7
  obtain ⟨c0, c1, c2, c3, c4, c5, c6, c7⟩ := S4.out.cells
  go_wp2_with fail
  refine (MA.out _ S4.out.low (by have := S4.out.err.lt; have := HBB.out; omega)).mono ?_
  rintro e W5 ⟨T, x, rfl, hm, hb⟩
  have S5 := hid (S4.out.kept hb)
  clear hb c0 c1 c2 c3 c4 c5 c6 c7
  have r0 : W5.cell? ⟨B + 1, 0, none⟩ = some .nilIface := S5.out.res.cell 0
  have rf : W5.frozen? ⟨B + 1, 0, none⟩ = false := S5.out.res.frozen 0
  have hm1 := FM.out (.iface T x) _ ⟨B + 1, 0, none⟩ (.iface T x) hm (by have := HBB.out; show B + 1 < _; omega)
  have e1 : Blk (W5.setCell ⟨B + 1, 0, none⟩ (.iface T x)) (B + 1 + 1) #[.int .i64 0] 122 := S5.out.err.far (by show B + 1 + 1 ≠ B + 1; omega) (.iface T x)
  have v1 : Blk (W5.setCell ⟨B + 1, 0, none⟩ (.iface T x)) (B + 1) #[.iface T x] 103 := S5.out.res.set_ 0 (.iface T x)
  have ec := e1.cell 0
  have ef := e1.frozen 0
  have hm2 := FM.out (.iface T x) _ ⟨B + 1 + 1, 0, none⟩ (.int .i64 0) hm1 (by have := HBB.out; show B + 1 + 1 < _; omega)
  have e2 := e1.set_ 0 (.int .i64 0)
  have v2 : Blk ((W5.setCell ⟨B + 1, 0, none⟩ (.iface T x)).setCell ⟨B + 1 + 1, 0, none⟩ (.int .i64 0)) (B + 1) #[.iface T x] 103 := v1.far (by show B + 1 ≠ B + 1 + 1; omega) _
  have lw := (S5.out.low.setCell (p := ⟨B + 1, 0, none⟩) (by have := HBB.out; show w.heap.size ≤ B + 1; omega) (.iface T x)).setCell (p := ⟨B + 1 + 1, 0, none⟩) (by have := HBB.out; show w.heap.size ≤ B + 1 + 1; omega) (.int .i64 0)
  have N := hid (And.intro hm2 (And.intro e2 (And.intro v2 lw)))
  clear hm hm1 hm2 e1 e2 v1 v2 lw
  go_wp2_with fail
  refine leaves_cons (f := 89) (args := #[.pointer (some ⟨B + 1, 0, none⟩), .pointer (some ⟨B + 1 + 1, 0, none⟩)]) (by simp) (by simp [go_sem]) ?_
  refine (b1_idle ⟨B + 1, 0, none⟩ ⟨B + 1 + 1, 0, none⟩ _).mono ?_
  rintro e u' w'' ⟨rfl, rfl, rfl⟩
  have yr := N.out.2.2.1.cell 0
  have ye := N.out.2.1.cell 0
  simp [Leaves, settle, results, Tryz.results65, go_sem, yr, ye]
  exact ⟨T, x, ⟨rfl, rfl⟩, N.out.1, N.out.2.2.2⟩
end Go.Proofs.YtdjhmanccoekjaaGreatDoor
end

section
namespace Go.Proofs.YtdjhmanccoekjaaGreatDoor
open Go.RowKit Go.Proofs Go.Conc

abbrev madeF : Value := .func (.func 26) #[] #[]
/-- An empty printer. -/
abbrev st0C : Array Value := #[.slice none 0 0, .int .i64 0, .int .i64 0, .slice none 0 0, .slice none 0 0, .int .i64 0, .bool false]
theorem made_any (w : World) : Calls Tryz.prog 26 #[] w fun e w' => e = .returned (.pointer (some ⟨w.heap.size, 0, none⟩)) ∧ w' = w.alloc (.cells st0C 87) := by
  go_enter Tryz.func26, Tryz.ntmps26
  go_wp2_with fail
  go_ret
  exact ⟨rfl, rfl⟩
theorem info_stp : (Tryz.prog.info? 65).map (·.bytes) = some 8 := by kernel_rfl
theorem mk4 (w : World) : (Instr.makeChan 80 (.int .i64 4)).run Tryz.prog w = .ok (.chan (some w.heap.size)) (w.alloc (.chan 4 #[] false 0 0 false)) := by
  have h := info_stp
  cases hi : Tryz.prog.info? 65 with
  | none => rw [hi] at h; cases h
  | some i =>
    rw [hi] at h
    simp only [Option.map_some, Option.some.injEq] at h
    simpa using run_makeChan (P := Tryz.prog) (w := w) Tryz.underlying80 hi .i64 4 (by decide) (by rw [h]; decide)
abbrev freeC (c : Nat) (m : Int) : Array Value := #[.chan (some c), madeF, .int .i64 m]
set_option maxRecDepth 100000 in
theorem fnew_any (w : World) : Calls Tryz.prog 25 #[.int .i64 4, madeF] w fun e w' => e = .returned (.pointer (some ⟨w.heap.size + 1, 0, none⟩)) ∧ w' = (w.alloc (.chan 4 #[] false 0 0 false)).alloc (.cells (freeC w.heap.size 0) 82) := by
  have hne : ∀ W : World, (binOp BinOp.eql 66 madeF .nilFunc).run Tryz.prog W = .ok (.bool false) W := fun _ => by kernel_rfl
  have hmc := mk4
  have hmx : max 0 (min 4 64) = (4 : Int) := by decide
  go_enter Tryz.func25, Tryz.ntmps25
  go_wp2_with fail
  go_ret
  exact ⟨rfl, rfl⟩
theorem run_call_val {P : Program} {a : Act} {w : World} {o : Oper} {f : FuncId} {fn : Func} {t : Tmp} {args : Array Operand} {ats : Array TypeId} (hop : o.op = .call { callee := .value (.tmp t), args, argTypes := ats }) (ht : a.tmps.getD t undef = .func (.func f) #[] #[])
    (hf : P.funcs[f]? = some fn) (hname : (fn.name == "runtime.NumGoroutine") = false) (hb : fn.body.isNone = false) : (execOp a.eval o).run P w = .ok (.enter f (args.map a.eval)) w := by
  have h1 : ¬ fn.name = "runtime.NumGoroutine" := by simpa using hname
  have h2 : ¬ fn.body = none := by cases hx : fn.body <;> simp_all
  have h3 : a.eval (.tmp t) = .func (.func f) #[] #[] := ht
  unfold execOp
  simp [hop, resolve, Deferred.ofValue, invoke, callFunc, hf, h1, h2, h3]
set_option maxRecDepth 100000 in
set_option maxHeartbeats 4000000 in
theorem get_any (q c s r : Nat) (m : Int) (w : World) (hq : Blk w q (freeC c m) 82) (hc : w.heap[c]? = some (.chan 4 #[] false s r false)) (h0 : 0 ≤ m) (h1 : m ≤ 1000000) :
    Calls Tryz.prog 41 #[.pointer (some ⟨q, 0, none⟩)] w fun e w' => e = .returned (.pointer (some ⟨w.heap.size, 0, none⟩)) ∧ w' = (w.setCell ⟨q, 2, none⟩ (.int .i64 (m + 1))).alloc (.cells st0C 87) := by
  refine calls_of_loneTo fun cs => ?_
  have e : Frame.enter Tryz.prog 41 #[.pointer (some ⟨q, 0, none⟩)] .normal = (base 41).at ⟨#[.pointer (some ⟨q, 0, none⟩), undef, undef, undef, undef, undef, undef, undef, undef, undef, undef, undef, undef, undef, undef, undef, undef, undef, undef, undef, undef, undef, undef, undef, undef, undef, undef, undef, undef, undef, undef, undef, undef, undef, undef], []⟩ [.code (Tryz.f41.body.getD .skip)] := by
    simp [Frame.enter, Frame.at, Tryz.func41, base, Tryz.f41]
  rw [e]
  have c0 : w.cell? ⟨q, 0, none⟩ = some (.chan (some c)) := hq.cell 0
  have c1 : w.cell? ⟨q, 1, none⟩ = some madeF := hq.cell 1
  have c2 : w.cell? ⟨q, 2, none⟩ = some (.int .i64 m) := hq.cell 2
  have f2 := hq.frozen 2
  have ne1 : ∀ W : World, (binOp BinOp.eql 80 (.chan (some c)) (.chan none)).run Tryz.prog W = .ok (.bool false) W := fun _ => by kernel_rfl
  refine LoneTo.goes (n := 60) ?_
  simp only [Tryz.f41, Option.getD_some]
  repeat (first | s_c stepG_seq | s_reg | s_op | s_c stepG_region_end)
  s_cond false
  repeat (first | s_c stepG_seq | s_c stepG_block | s_c stepG_skip | s_reg | s_op | s_c stepG_region_end)
  s_stop
  refine LoneTo.step (step_lone_select_default (c := c) (cap := 4) (s := s) (r := r) (tm := false) (z := .pointer none) (w₁ := w)
    (stepG_comm (cases := #[rcase c (.pointer none)]) (blocking := false) (shape := .select) (w' := w) rfl rfl (by decide) (by simp [go_sem, execOp, rcase, Act.eval])) hc) ?_
  rw [Frame.finish_at]
  walk_nrm
  refine LoneTo.goes (n := 60) ?_
  repeat (first | s_c stepG_seq | s_c stepG_block | s_c stepG_skip | s_reg | s_op | s_c stepG_region_end)
  s_cond false
  have hm1 : IntKind.i64.wrap (m + 1) = m + 1 := IntWalk.i64_in _ (by omega)
  have d1 : (w.setCell ⟨q, 2, none⟩ (.int .i64 (m + 1))).cell? ⟨q, 1, none⟩ = some madeF := (hq.set_ 2 _).cell 1
  repeat (first | s_c stepG_seq | s_c stepG_block | s_c stepG_skip | s_c stepG_inBlock | s_reg | s_op | s_c stepG_region_end)
  s_stop
  refine LoneTo.step (step_solo_go rfl (stepG_enter rfl rfl (by decide) (run_call_val (f := 26) (fn := Tryz.f26) rfl rfl Tryz.func26 (by kernel_rfl) rfl))) ?_
  rw [enter_at _ Tryz.func26 rfl]
  refine LoneTo.goes (n := 60) ?_
  walk_nrmf Tryz.f26
  repeat (first | s_c stepG_seq | s_reg | s_op | s_c stepG_region_end)
  s_c stepG_ret'
  s_leave1 Tryz.func26
  repeat (first | s_c stepG_seq | s_reg | s_op | s_c stepG_region_end | s_c stepG_skip | s_c stepG_inBlock | s_c stepG_block)
  s_c stepG_ret'
  s_stop
  refine LoneTo.done ⟨.returned (.pointer (some ⟨w.heap.size, 0, none⟩)), _, rfl, ⟨rfl, rfl⟩, rfl, rfl, rfl, rfl, _, Tryz.func41, by simp [results, Tryz.f41, Frame.at]⟩
set_option maxRecDepth 100000 in
set_option maxHeartbeats 4000000 in
theorem fput_any (q c s r : Nat) (m : Int) (x : Value) (w : World) (hq : Blk w q (freeC c m) 82) (hc : w.heap[c]? = some (.chan 4 #[] false s r false)) :
    Calls Tryz.prog 44 #[.pointer (some ⟨q, 0, none⟩), x] w fun e w' => e = .returned (.bool true) ∧ w' = w.setChan c 4 #[x] false (s + 1) r false := by
  refine calls_of_loneTo fun cs => ?_
  have e : Frame.enter Tryz.prog 44 #[.pointer (some ⟨q, 0, none⟩), x] .normal = (base 44).at ⟨#[.pointer (some ⟨q, 0, none⟩), x, undef, undef, undef, undef, undef, undef, undef, undef, undef, undef, undef, undef, undef], []⟩ [.code (Tryz.f44.body.getD .skip)] := by
    simp [Frame.enter, Frame.at, Tryz.func44, base, Tryz.f44]
  rw [e]
  have c0 : w.cell? ⟨q, 0, none⟩ = some (.chan (some c)) := hq.cell 0
  refine LoneTo.goes (n := 60) ?_
  simp only [Tryz.f44, Option.getD_some]
  repeat (first | s_c stepG_seq | s_reg | s_op | s_c stepG_region_end)
  s_cond false
  repeat (first | s_c stepG_seq | s_c stepG_block | s_c stepG_skip | s_reg | s_op | s_c stepG_region_end)
  s_stop
  refine LoneTo.step (step_lone_select_send_room (c := c) (cap := 4) (buf := #[]) (s := s) (r := r) (tm := false) (z' := .pointer none) (v := x) (w₁ := w)
    (stepG_comm (cases := #[scase c x (.pointer none)]) (blocking := false) (shape := .select) (w' := w) rfl rfl (by decide) (by simp [go_sem, execOp, scase, Act.eval])) hc (by decide)) ?_
  rw [Frame.finish_at]
  walk_nrm
  refine LoneTo.goes (n := 60) ?_
  repeat (first | s_c stepG_seq | s_c stepG_block | s_c stepG_skip | s_reg | s_op | s_c stepG_region_end)
  s_cond true
  repeat (first | s_c stepG_seq | s_reg | s_op | s_c stepG_region_end | s_c stepG_skip | s_c stepG_inBlock | s_c stepG_block)

  s_c stepG_ret'
  s_stop
  refine LoneTo.done ⟨.returned (.bool true), _, rfl, ⟨rfl, rfl⟩, rfl, rfl, rfl, rfl, _, Tryz.func44, by simp [results, Tryz.f44, Frame.at]⟩
end Go.Proofs.YtdjhmanccoekjaaGreatDoor
end
