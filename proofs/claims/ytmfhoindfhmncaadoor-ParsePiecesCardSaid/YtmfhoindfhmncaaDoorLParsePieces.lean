/-
  The law ParsePieces, walked.
-/
import Derived.Test.YtmfhoindfhmncaaDoorSC
import Derived.Test.YtmfhoindfhmncaaDoorPD
import Derived.Test.YtmfhoindfhmncaaDoorPW
namespace Go.Proofs.YtmfhoindfhmncaaDoor
open Go.RowKit Go.Proofs

set_option maxRecDepth 100000 in
set_option maxHeartbeats 2000000 in
theorem parsePieces_law (s : ByteArray) (w : World) (hT : Tabs w) (hs : s.size ≤ 140737488355328) :
    Calls Tryd.prog 3 #[.string s] w fun e w' => e = .returned (.bool true) ∧ Below w.heap.size w w' := by
  have LV := hid (fun W hT => lives_any W hT)
  have CA := hid (fun W => cut_any s W hs)
  have TD := hid (fun p t W => told_any p t W)
  obtain ⟨a, ha⟩ : ∃ c, s.extract 0 2000 = c := ⟨_, rfl⟩
  have za : a.size ≤ 2000 := by rw [← ha, ByteArray.size_extract]; omega
  rw [ha] at CA
  clear ha
  have PA := hid (fun W hT => parse_any a W (by omega) hT)
  have PB := hid (fun W => sparse_any a W (by omega))
  have l1 := PP.parseL_length a.data.toList
  rw [← Utf.size_eq] at l1
  obtain ⟨L, hL⟩ : ∃ L, PP.parseL a.data.toList = L := ⟨_, rfl⟩
  rw [hL] at PA PB l1
  have hl : L.length ≤ 2000 := by omega
  have HT := hid hT
  clear hL l1 hT
  go_enter Tryd.func3, Tryd.ntmps3
  go_wp2_with fail
  refine (CA.out _).mono ?_
  rintro e w0 ⟨rfl, hw⟩
  rw [hw]
  clear hw w0
  go_wp2_with fail
  refine (PA.out _ HT.out).mono ?_
  rintro e w1 ⟨v1, rfl, o1, b1⟩
  have O1 := hid o1
  have B1 := hid b1
  clear o1 b1
  go_wp2_with fail
  refine (PB.out _).mono ?_
  rintro e w2 ⟨v2, rfl, o2, b2⟩
  have O2 := own_calm O1.out b2
  have B2 := hid (B1.out.trans (b2.mono B1.out.size))
  obtain ⟨Al, capl, rfl, hcl⟩ := own_list O2
  obtain ⟨Am, capm, rfl, hcm⟩ := own_list o2
  obtain ⟨N, hN⟩ : ∃ N, L.length = N := ⟨_, rfl⟩
  rw [hN] at hl ⊢
  have HN := hid hN
  have HCL := hid hcl
  have HCM := hid hcm
  clear hcl hcm O2 o2 b2 hN O1 B1 PA PB CA
  go_wp2_with fail
  go_loopw [19] (fun iv wr => ∃ i : Nat, iv = .int .i64 i ∧ i ≤ N ∧ Hid (Below w2.heap.size w2 wr)) (fun iv _ => N - (intOf iv).toNat)
  case atStart => exact ⟨0, rfl, Nat.zero_le _, Below.refl _ _⟩
  case round =>
    obtain ⟨i, rfl, hi, hI⟩ := hrel
    by_cases hlt : i < N
    · obtain ⟨p, hp⟩ : ∃ p, L[i]? = some p := ⟨_, List.getElem?_eq_getElem (by rw [HN.out]; exact hlt)⟩
      obtain ⟨X, hX⟩ : ∃ X, txt p.text = X := ⟨_, rfl⟩
      have hne : L ≠ [] := by intro e; rw [e] at hp; simp at hp
      obtain ⟨gl, rfl, hgl0, hpl⟩ := HCL.out hne
      obtain ⟨gm, rfl, hgm0, hpm⟩ := HCM.out hne
      have hgl : gl < wr.heap.size := Nat.lt_of_lt_of_le hgl0 hI.out.size
      have hgm : gm < wr.heap.size := Nat.lt_of_lt_of_le hgm0 hI.out.size
      have HPL := hid (fun k v hv => (hI.out.cell (p := ⟨gl, i * 20 + k, none⟩) hgl0).trans (hpl i p hp k v hv))
      have HPM := hid (fun k v hv => (hI.out.cell (p := ⟨gm, i * 20 + k, none⟩) hgm0).trans (hpm i p hp k v hv))
      rw [hX] at HPL HPM
      clear hp hX hne hgl0 hgm0 hpl hpm
      go_upto_region 8 with fail
      refine wp_region_held_drew (S := fun w1 => Below wr.heap.size wr w1) (by kernel_rfl) (Below.refl _ _).drew (fun hH => ?_)
      refine wpAnyH_take (i := 0) (fuel := 9) (v := .slice (some ⟨gl, 0, none⟩) N capl) rfl (by kernel_rfl) (by kernel_rfl) (by kernel_rfl) (fun _ _ _ h => h) (Or.inl ⟨by rfl, by intro w1 hw1; go_simp⟩) hH ?_
      simp only [Act.put, List.getElem_toArray, List.getElem_cons_zero, List.setIfInBounds_toArray, List.set_cons_zero, List.set_cons_succ]
      refine wpAnyH_take (i := 1) (fuel := 8) (v := .int .i64 i) rfl (by kernel_rfl) (by kernel_rfl) (by kernel_rfl) (fun _ _ _ h => h) (Or.inl ⟨by rfl, by intro w1 hw1; go_simp⟩) hH ?_
      simp only [Act.put, List.getElem_toArray, List.getElem_cons_zero, List.getElem_cons_succ, List.setIfInBounds_toArray, List.set_cons_zero, List.set_cons_succ]
      refine wpAnyH_take (i := 2) (fuel := 7) (v := .pointer (some ⟨gl, i * 20, none⟩)) rfl (by kernel_rfl) (by kernel_rfl) (by kernel_rfl) (fun _ _ _ h => h) (Or.inl ⟨by rfl, by intro w1 hw1; go_simp⟩) hH ?_
      simp only [Act.put, List.getElem_toArray, List.getElem_cons_zero, List.getElem_cons_succ, List.setIfInBounds_toArray, List.set_cons_zero, List.set_cons_succ]
      refine wpAnyH_take (i := 3) (fuel := 6) (v := _) rfl (by kernel_rfl) (by kernel_rfl) (by kernel_rfl) (fun _ _ _ h => h) (yieldsIf_load_mid (by rfl) 40 (.tmp 24) rfl gl (i * 20) rfl (pcV p X).toList _ (fun w1 h1 => fun j v hv => (Below.cell (p := ⟨gl, i * 20 + j, none⟩) h1 hgl).trans (HPL.out j v (by simpa using hv))) Tryd.underlying40 rfl piece_size) hH ?_
      simp only [Act.put, List.getElem_toArray, List.getElem_cons_zero, List.getElem_cons_succ, List.setIfInBounds_toArray, List.set_cons_zero, List.set_cons_succ]
      refine wpAnyH_take (i := 5) (fuel := 5) (v := .slice (some ⟨gm, 0, none⟩) N capm) rfl (by kernel_rfl) (by kernel_rfl) (by kernel_rfl) (fun _ _ _ h => h) (Or.inl ⟨by rfl, by intro w1 hw1; go_simp⟩) hH ?_
      simp only [Act.put, List.getElem_toArray, List.getElem_cons_zero, List.getElem_cons_succ, List.setIfInBounds_toArray, List.set_cons_zero, List.set_cons_succ]
      refine wpAnyH_take (i := 6) (fuel := 4) (v := .int .i64 i) rfl (by kernel_rfl) (by kernel_rfl) (by kernel_rfl) (fun _ _ _ h => h) (Or.inl ⟨by rfl, by intro w1 hw1; go_simp⟩) hH ?_
      simp only [Act.put, List.getElem_toArray, List.getElem_cons_zero, List.getElem_cons_succ, List.setIfInBounds_toArray, List.set_cons_zero, List.set_cons_succ]
      refine wpAnyH_take (i := 7) (fuel := 3) (v := .pointer (some ⟨gm, i * 20, none⟩)) rfl (by kernel_rfl) (by kernel_rfl) (by kernel_rfl) (fun _ _ _ h => h) (Or.inl ⟨by rfl, by intro w1 hw1; go_simp⟩) hH ?_
      simp only [Act.put, List.getElem_toArray, List.getElem_cons_zero, List.getElem_cons_succ, List.setIfInBounds_toArray, List.set_cons_zero, List.set_cons_succ]
      refine wpAnyH_take (i := 8) (fuel := 2) (v := _) rfl (by kernel_rfl) (by kernel_rfl) (by kernel_rfl) (fun _ _ _ h => h) (yieldsIf_load_mid (by rfl) 34 (.tmp 29) rfl gm (i * 20) rfl (pcV p X).toList _ (fun w1 h1 => fun j v hv => (Below.cell (p := ⟨gm, i * 20 + j, none⟩) h1 hgm).trans (HPM.out j v (by simpa using hv))) Tryd.underlying34 rfl rpiece_size) hH ?_
      simp only [Act.put, List.getElem_toArray, List.getElem_cons_zero, List.getElem_cons_succ, List.setIfInBounds_toArray, List.set_cons_zero, List.set_cons_succ]
      refine wpAnyH_ready (fuel := 1) (rs := [4]) (by kernel_rfl) (by simp) ?_
      refine AllReadyH.cons rfl (fun K hK => ?_) AllReadyH.nil
      rw [if_pos (by rfl)]
      go_wp2_with fail
      refine (TD.out p X _).mono ?_
      rintro e W1 ⟨rfl, hb⟩
      have B3 := hH.trans (hb.mono (by exact Nat.le_refl _))
      refine hK.out _ _ B3 (fun hS1 => ?_)
      try simp only [Act.put, List.getElem_toArray, List.getElem_cons_zero, List.getElem_cons_succ, List.setIfInBounds_toArray, List.set_cons_zero, List.set_cons_succ]
      refine wpAnyH_ready (fuel := 0) (rs := [9]) (by kernel_rfl) (by simp) ?_
      refine AllReadyH.cons rfl (fun K2 hK2 => ?_) AllReadyH.nil
      rw [if_pos (by rfl)]
      refine wp_neqAgg 34 (.tmp 26) (.tmp 30) _ rfl (pcV p X) (pcV p X) rfl rfl rguard_piece true (req_piece p X _) ?_
      refine hK2.out _ _ B3 (fun hS2 => ?_)
      refine wpAnyH_done (by kernel_rfl) ?_ _
      have N := hid (hI.out.trans (B3.mono hI.out.size))
      clear hK hK2 hH hS1 hS2 B3 hb
      go_wp2_with fail
      go_roundw
      case rel => exact ⟨i + 1, by go_num, by omega, N.out⟩
      case measure => simp [intOf]; omega
    · have BZ := hid (B2.out.trans (hI.out.mono B2.out.size))
      go_wp2_with fail
      refine (LV.out _ (HT.out.below BZ.out)).mono ?_
      rintro e w9 ⟨rfl, b9⟩
      have B9 := hid (BZ.out.trans (b9.mono BZ.out.size))
      clear b9
      go_wp2_with fail
      go_ret
      exact ⟨rfl, B9.out⟩
end Go.Proofs.YtmfhoindfhmncaaDoor
