/-
  The law ParseWhole, walked.
-/
import Derived.Test.YtmfhoindfhmncaaDoorPT
import Derived.Test.YtmfhoindfhmncaaDoorPW
import Derived.Test.YtmfhoindfhmncaaDoorPD
namespace Go.Proofs.YtmfhoindfhmncaaDoor
open Go.RowKit Go.Proofs

theorem parsed_len (s : ByteArray) : (PP.parseL s.data.toList).length ≤ s.size := by
  rw [Utf.size_eq]; exact PP.parseL_length _

set_option maxRecDepth 100000 in
set_option maxHeartbeats 4000000 in
theorem parseWhole_law (s : ByteArray) (w : World) (hT : Tabs w) (hs : s.size ≤ 140737488355328) :
    Calls Tryd.prog 9 #[.string s] w fun e w' => e = .returned (.bool true) ∧ Below w.heap.size w w' := by
  have CU := hid (cut_any s w hs)
  obtain ⟨c, hc⟩ : ∃ c, s.extract 0 2000 = c := ⟨_, rfl⟩
  have hcs : c.size ≤ 2000 := by rw [← hc, ByteArray.size_extract]; omega
  rw [hc] at CU
  clear hc
  have LV := hid (fun W hT => lives_any W hT)
  have PA := hid (parse_any c w (by omega) hT)
  have HL := parsed_len c
  have HF := hid (PP.parseL_fits c.data.toList)
  have HX := PP.parseL_texts c.data.toList
  obtain ⟨L, hL⟩ : ∃ L, PP.parseL c.data.toList = L := ⟨_, rfl⟩
  rw [hL] at PA HL HX HF
  have hxl : (PP.textsL L).length ≤ 100000 := by rw [HX, ← Utf.size_eq]; omega
  have htx : txt (textsL L) = c := txt_eq (by rw [← HX]; rfl)
  have HT := hid (And.intro htx hxl)
  clear hL HX htx hxl
  go_enter Tryd.func9, Tryd.ntmps9
  go_wp2_with fail
  refine CU.out.mono ?_
  rintro e w' ⟨rfl, rfl⟩
  go_wp2_with fail
  refine PA.out.mono ?_
  rintro e W1 ⟨v1, rfl, o1, b1⟩
  have HT1 := hid (hT.below b1)
  have BB1 := hid b1
  by_cases hN : 0 < L.length
  · obtain ⟨g, cp, rfl, q1, q2, q3, q4, q5⟩ := own_open o1 hN
    have HP := hid (pcsAt_own q5)
    have TX := hid (fun W (hb : Below W1.heap.size W1 W) => text_any L g cp W (HP.out.below q2 hb) (Nat.lt_of_lt_of_le q2 hb.size) (by omega) HT.out.2)
    obtain ⟨N, hNN⟩ : ∃ N, L.length = N := ⟨_, rfl⟩
    rw [hNN] at TX hN HL q3 ⊢
    have HN := hid hNN
    clear q5 o1 b1 hNN
    go_wp2_with fail
    go_loopw [4, 5, 12] (fun _ _ kv wr => ∃ k : Nat, kv = .int .i64 k ∧ k ≤ N ∧ Hid (Below W1.heap.size W1 wr)) (fun _ _ kv _ => N - (intOf kv).toNat)
    case atStart => exact ⟨0, rfl, Nat.zero_le _, Below.refl _ _⟩
    case round =>
      obtain ⟨k, rfl, hk, hrel⟩ := hrel
      by_cases hkN : k < N
      · obtain ⟨p, hp⟩ : ∃ p, L[k]? = some p := ⟨_, List.getElem?_eq_getElem (by rw [HN.out]; exact hkN)⟩
        obtain ⟨X, hX⟩ : ∃ X, txt p.text = X := ⟨_, rfl⟩
        have HPk := hid (HP.out.below q2 hrel.out k p hp)
        have HG := hid (Nat.lt_of_lt_of_le q2 hrel.out.size)
        have F := HF.out k p hp
        rw [hX] at HPk
        have hXp : 0 < X.size := by rw [← hX]; exact List.length_pos_iff.2 F.ne
        have hXe := isE_pos hXp
        have E0 : p.k ≠ 0 → ((X[0]'hXp).toNat : Int) = 37 := by
          intro h
          obtain ⟨r, hr⟩ := F.pct h
          rw [bt_at X 0 hXp]
          unfold bt
          rw [← hX]
          show (((p.text)[0]?.getD 0).toNat : Int) = 37
          rw [hr]; rfl
        have hprev : ∀ q, 0 < k → L[k - 1]? = some q → p.k = 0 → q.k ≠ 0 := F.lits
        have hlast : p.k = 2 → k + 1 = N := fun h => by rw [← HN.out]; exact F.last h
        have hkind := F.kind
        have HX := hid (And.intro hp hX)
        clear hp hX F
        go_upto_region 5 with fail
        refine wp_region_list ?_
        refine wpList_plain rfl fun K hK => ?_
        have HK := hid hK
        clear hK
        go_wp2_with fail
        refine HK.out _ _ ?_
        clear HK
        refine wpList_plain rfl fun K hK => ?_
        have HK := hid hK
        clear hK
        go_wp2_with fail
        refine HK.out _ _ ?_
        clear HK
        refine wpList_load_mid rfl 40 (.tmp 15) rfl g (k * 20) rfl (pcV p X).toList _ (fun j v hv => HPk.out j v (by simpa using hv)) Tryd.underlying40 rfl piece_size ?_
        refine wpList_plain rfl fun K hK => ?_
        have HK := hid hK
        clear hK
        go_wp2_with fail
        refine HK.out _ _ ?_
        clear HK
        refine wpList_plain rfl fun K hK => ?_
        have HK := hid hK
        clear hK
        go_wp2_with fail
        refine HK.out _ _ ?_
        clear HK
        have hG := Blk.new wr pc0 40
        refine wpList_store_rowTo rfl 40 _ _ rfl rfl wr.heap.size (pcV p X) rfl rfl 40 pc0 hG piece_size rfl (pcV_one _ _) ?_
        have hG2 := hG.setRow (pcV p X)
        have b3 : Below wr.heap.size wr ((wr.alloc (.cells pc0 40)).setRow wr.heap.size (pcV p X)) := below_setRow ((Below.refl _ _).alloc (Nat.le_refl _) _) wr.heap.size (Nat.le_refl _) (pcV p X)
        obtain ⟨W2, hW2⟩ : ∃ W2, (wr.alloc (.cells pc0 40)).setRow wr.heap.size (pcV p X) = W2 := ⟨_, rfl⟩
        rw [hW2] at hG2 b3 ⊢
        obtain ⟨G, hGG⟩ : ∃ G, wr.heap.size = G := ⟨_, rfl⟩
        have hB2 := hrel.out.trans (b3.mono hrel.out.size)
        rw [hGG] at hG2 ⊢
        have BB := hid hB2
        have HPP := hid (HP.out.below q2 hB2)
        obtain ⟨kd, hkd⟩ : ∃ kd, p.k = kd := ⟨_, rfl⟩
        have c1 : W2.cell? ⟨G, 1, none⟩ = some (.string X) := hG2.cell 1
        have c0 : W2.cell? ⟨G, 0, none⟩ = some (.int .i64 kd) := by rw [← hkd]; exact hG2.cell 0
        rw [hkd] at E0 hprev hlast hkind
        have HKD := hid hkd
        clear hG hG2 hW2 hGG b3 hkd hB2
        refine wpList_nil ?_
        rcases hkind with rfl | rfl | rfl
        · clear E0 hlast
          by_cases hk0 : 0 < k
          · obtain ⟨q, hq⟩ : ∃ q, L[k - 1]? = some q := ⟨_, List.getElem?_eq_getElem (by rw [HN.out]; omega)⟩
            have hqk := hprev q hk0 hq rfl
            obtain ⟨qd, hqd⟩ : ∃ qd, q.k = qd := ⟨_, rfl⟩
            have cq : W2.cell? ⟨g, (k - 1) * 20, none⟩ = some (.int .i64 qd) := by rw [← hqd]; exact HPP.out (k - 1) q hq 0 _ rfl
            rw [hqd] at hqk
            clear hprev hq hqd
            go_wp2_with fail
            go_roundw
            case rel => exact ⟨k + 1, by go_num, hkN, BB.out⟩
            case measure => simp [intOf]; omega
          · clear hprev
            go_wp2_with fail
            go_roundw
            case rel => exact ⟨k + 1, by go_num, hkN, BB.out⟩
            case measure => simp [intOf]; omega
        · have E1 := E0 (by decide)
          clear hprev hlast E0
          go_wp2_with fail
          all_goals
            go_roundw
            case rel => exact ⟨k + 1, by go_num, hkN, BB.out⟩
            case measure => simp [intOf]; omega
        · have E1 := E0 (by decide)
          have hl := hlast rfl
          clear hprev hlast E0
          go_wp2_with fail
          all_goals
            go_roundw
            case rel => exact ⟨k + 1, by go_num, hkN, BB.out⟩
            case measure => simp [intOf]; omega
      · have hkN' : k = N := by omega
        subst hkN'
        have hB2 := hrel.out
        have TX2 := hid (TX.out wr hB2)
        rw [HT.out.1] at TX2
        have HT2 := hid (HT1.out.below hB2)
        have BB2 := hid (BB1.out.trans (hB2.mono BB1.out.size))
        clear hB2
        go_wp2_with fail
        refine TX2.out.mono ?_
        rintro e W3 ⟨rfl, b3⟩
        have HT3 := hid (HT2.out.below b3)
        have BB3 := hid (BB2.out.trans (b3.mono BB2.out.size))
        clear b3
        go_wp2_with fail
        refine (LV.out _ HT3.out).mono ?_
        rintro e W4 ⟨rfl, b4⟩
        go_wp2_with fail
        go_ret
        exact ⟨rfl, BB3.out.trans (b4.mono BB3.out.size)⟩
  · have h0 : L = [] := List.eq_nil_of_length_eq_zero (by omega)
    subst h0
    have hv : ∃ A cap, v1 = .slice A 0 cap := by
      rcases o1.2 with h | ⟨g, cap, cur, h1, _⟩
      · exact ⟨none, 0, h.1⟩
      · exact ⟨_, cap, h1⟩
    obtain ⟨A, cap, rfl⟩ := hv
    have TX := hid (text_none A cap W1)
    have h00 : txt [] = c := HT.out.1
    rw [h00] at TX
    clear o1 b1 h00
    go_wp2_with fail
    refine wp_loop_rounds 1 ?_
    rw [rounds_succ]
    go_wp2_with fail
    refine TX.out.mono ?_
    rintro e W3 ⟨rfl, b3⟩
    have HT3 := hid (HT1.out.below b3)
    have BB3 := hid (BB1.out.trans (b3.mono BB1.out.size))
    clear b3
    go_wp2_with fail
    refine (LV.out _ HT3.out).mono ?_
    rintro e W4 ⟨rfl, b4⟩
    go_wp2_with fail
    go_ret
    exact ⟨rfl, BB3.out.trans (b4.mono BB3.out.size)⟩
end Go.Proofs.YtmfhoindfhmncaaDoor
