/-
  The law HooksNames, walked.
-/
import Derived.Test.YtaniahkagmjkoaaDoorHN
namespace Go.Proofs.YtaniahkagmjkoaaDoor
open Go.RowKit Go.Proofs

abbrev vsd : ByteArray := ⟨#[118, 115, 100]⟩
/-- What holds at each round's head. -/
structure NmI (w W : World) (k G pos : Nat) (h : Hk) : Prop where
  it : W.heap[k]? = some (.stringIter vsd pos)
  g : Blk W G (hkV h) 30
  below : Below w.heap.size w W
set_option maxRecDepth 100000 in
set_option maxHeartbeats 2000000 in
theorem hooksNames_law (sl : Sl) (hs : List Hk) (n : Int) (w : World) (hT : Tabs w) (ok : HksOk w sl hs) (h0 : -9223372036854775808 ≤ n) (h1 : n ≤ 9223372036854775807) :
    Calls Tryd.prog 9 #[slV sl, .int .i64 n] w fun e w' => e = .returned (.bool true) ∧ Below w.heap.size w w' := by
  have LV := hid (fun W hT => hlives_any W hT)
  have HT := hid hT
  clear hT
  obtain ⟨A, len, cap⟩ := sl
  obtain ⟨hA, hlc, hcm⟩ := ok
  simp only at hlc hcm
  have hA40 := hid (fun (hl : 40 ≤ len) => hA.take 40 hl cap)
  have HA := hid hA
  have BL := hid (Below.refl w.heap.size w)
  clear hA
  show Calls Tryd.prog _ #[.slice A len cap, .int .i64 n] w _
  go_enter Tryd.func9, Tryd.ntmps9
  go_upto_if 15 with fail
  go_cut [0] (fun tv wn => ∃ (N : Nat) (hq : List Hk), tv = .slice A N cap ∧ N ≤ 40 ∧ Hid (HksAt w ⟨A, N, cap⟩ hq) ∧ w = wn)
  case first =>
    by_cases hl : 40 < len
    · have hl2 : decide ((40 : Int) < (len : Int)) = true := decide_eq_true (by omega)
      go_wp2_with fail
      go_meet
      exact ⟨40, hs.take 40, rfl, Nat.le_refl _, hA40.out (by omega), rfl⟩
    · have hl2 : decide ((40 : Int) < (len : Int)) = false := decide_eq_false (by omega)
      go_wp2_with fail
      go_meet
      exact ⟨len, hs, rfl, by omega, HA.out, rfl⟩
  case rest =>
  obtain ⟨N, hq, rfl, hN, hB, rfl⟩ := hcut
  clear HA hA40 hlc
  have MT := hid (fun W => method_any n W)
  have RM := hid (fun W => rmethod_any n W h0 h1)
  obtain ⟨nm, hnm⟩ : ∃ nm, methodS n = nm := ⟨_, rfl⟩
  rw [hnm] at MT RM
  clear hnm
  by_cases hf : 1 ≤ n ∧ n ≤ N ∧ n ≤ 16
  · obtain ⟨i, hi⟩ : ∃ i : Nat, n = (i : Int) + 1 := ⟨(n - 1).toNat, by omega⟩
    subst hi
    have hiN : i < N := by omega
    have hi16 : i < 16 := by omega
    have hlen : N = hq.length := hB.out.1
    obtain ⟨h, hh⟩ : ∃ h, hq[i]? = some h := ⟨_, List.getElem?_eq_getElem (by omega)⟩
    have GY := hid (fun W (b : Below w.heap.size w W) => get_yes A N cap hq i h W hN (hB.out.below b) hh hi16)
    have RY := hid (fun W (b : Below w.heap.size w W) => rget_yes A N cap hq i h W hN (hB.out.below b) hh hi16)
    have hne : hq ≠ [] := by intro e; rw [e] at hh; simp at hh
    obtain ⟨g, o, e1, hg, hc⟩ := hB.out.2 hne
    obtain rfl : A = some ⟨g, o, none⟩ := e1
    have HC0 := hid (fun (j : Nat) v (hv : (hkV h)[j]? = some v) => hc i h hh j v hv)
    have HG := hid hg
    have WH := hid (fun v W => which_any h v false W)
    have RH := hid (fun v W => rwhich_any h v false W)
    have NF := hid hf
    clear hlen hh hne hc hg hf
    go_upto_region 3 with fail
    refine wp_region_list ?_
    refine wpList_plain rfl fun K hK => ?_
    have HK := hid hK
    clear hK
    go_wp2_with fail
    refine HK.out _ _ ?_
    clear HK
    refine wpList_plain rfl fun K hK => ?_
    have HK := hid hK
    clear hK
    go_wp2_with fail
    refine HK.out _ _ ?_
    clear HK
    refine wpList_plain rfl fun K hK => ?_
    have HK := hid hK
    clear hK
    go_wp2_with fail
    refine (GY.out _ BL.out).mono ?_
    rintro e W1 ⟨rfl, hb⟩
    have BL := hid (BL.out.trans (hb.mono BL.out.size))
    clear hb
    refine HK.out _ _ ?_
    clear HK
    refine wpList_plain rfl fun K hK => ?_
    have HK := hid hK
    clear hK
    go_wp2_with fail
    refine HK.out _ _ ?_
    clear HK
    refine wpList_plain rfl fun K hK => ?_
    have HK := hid hK
    clear hK
    go_wp2_with fail
    refine HK.out _ _ ?_
    clear HK
    refine wpList_plain rfl fun K hK => ?_
    have HK := hid hK
    clear hK
    go_wp2_with fail
    refine HK.out _ _ ?_
    clear HK
    refine wpList_plain rfl fun K hK => ?_
    have HK := hid hK
    clear hK
    go_wp2_with fail
    refine HK.out _ _ ?_
    clear HK
    have hG := Blk.new W1 hk0 30
    refine wpList_store_rowTo rfl 30 _ _ rfl rfl W1.heap.size (hkV h) rfl rfl 30 hk0 hG hook_size rfl (hkV_one _) ?_
    have hG2 := hG.setRow (hkV h)
    have b3 := below_setRow (BL.out.alloc BL.out.size (.cells hk0 30)) W1.heap.size BL.out.size (hkV h)
    obtain ⟨W2, hW2⟩ : ∃ W2, (W1.alloc (.cells hk0 30)).setRow W1.heap.size (hkV h) = W2 := ⟨_, rfl⟩
    rw [hW2] at hG2 b3 ⊢
    obtain ⟨G1, hGG⟩ : ∃ G, W1.heap.size = G := ⟨_, rfl⟩
    rw [hGG] at hG2 ⊢
    have GL := hid hG2
    have BL := hid b3
    clear hG hG2 hW2 hGG b3
    refine wpList_plain rfl fun K hK => ?_
    have HK := hid hK
    clear hK
    go_wp2_with fail
    refine HK.out _ _ ?_
    clear HK
    refine wpList_nil ?_
    go_upto_region 4 with fail
    refine wp_region_list ?_
    refine wpList_plain rfl fun K hK => ?_
    have HK := hid hK
    clear hK
    go_wp2_with fail
    refine HK.out _ _ ?_
    clear HK
    refine wpList_plain rfl fun K hK => ?_
    have HK := hid hK
    clear hK
    go_wp2_with fail
    refine HK.out _ _ ?_
    clear HK
    refine wpList_plain rfl fun K hK => ?_
    have HK := hid hK
    clear hK
    go_wp2_with fail
    refine (RY.out _ BL.out).mono ?_
    rintro e W3 ⟨rfl, hb⟩
    have BL := hid (BL.out.trans (hb.mono BL.out.size))
    clear hb
    refine HK.out _ _ ?_
    clear HK
    refine wpList_plain rfl fun K hK => ?_
    have HK := hid hK
    clear hK
    go_wp2_with fail
    refine HK.out _ _ ?_
    clear HK
    refine wpList_plain rfl fun K hK => ?_
    have HK := hid hK
    clear hK
    go_wp2_with fail
    refine HK.out _ _ ?_
    clear HK
    refine wpList_plain rfl fun K hK => ?_
    have HK := hid hK
    clear hK
    go_wp2_with fail
    refine HK.out _ _ ?_
    clear HK
    refine wpList_plain rfl fun K hK => ?_
    have HK := hid hK
    clear hK
    go_wp2_with fail
    refine HK.out _ _ ?_
    clear HK
    have hG := Blk.new W3 hk0 30
    refine wpList_store_rowTo rfl 30 _ _ rfl rfl W3.heap.size (hkV h) rfl rfl 30 hk0 hG hook_size rfl (hkV_one _) ?_
    have hG2 := hG.setRow (hkV h)
    have b3 := below_setRow (BL.out.alloc BL.out.size (.cells hk0 30)) W3.heap.size BL.out.size (hkV h)
    obtain ⟨W4, hW2⟩ : ∃ W2, (W3.alloc (.cells hk0 30)).setRow W3.heap.size (hkV h) = W2 := ⟨_, rfl⟩
    rw [hW2] at hG2 b3 ⊢
    obtain ⟨G2, hGG⟩ : ∃ G, W3.heap.size = G := ⟨_, rfl⟩
    rw [hGG] at hG2 ⊢
    have GL := hid hG2
    have BL := hid b3
    clear hG hG2 hW2 hGG b3
    refine wpList_plain rfl fun K hK => ?_
    have HK := hid hK
    clear hK
    go_wp2_with fail
    refine HK.out _ _ ?_
    clear HK
    refine wpList_nil ?_
    go_upto_region 5 with fail
    go_wp2_with fail
    refine (MT.out _).mono ?_
    rintro e W8 ⟨rfl, hw⟩
    subst hw
    go_wp2_with fail
    refine (RM.out _).mono ?_
    rintro e W8 ⟨rfl, hb⟩
    have BL := hid (BL.out.trans (hb.mono BL.out.size))
    have GL := hid (GL.out.below hb GL.out.lt)
    clear hb
    go_upto_region 8 with fail
    refine wp_region_list ?_
    refine wpList_plain rfl fun K hK => ?_
    have HK := hid hK
    clear hK
    go_wp2_with fail
    refine HK.out _ _ ?_
    clear HK
    refine wpList_plain rfl fun K hK => ?_
    have HK := hid hK
    clear hK
    go_wp2_with fail
    refine HK.out _ _ ?_
    clear HK
    refine wpList_plain rfl fun K hK => ?_
    have HK := hid hK
    clear hK
    go_wp2_with fail
    refine (GY.out _ BL.out).mono ?_
    rintro e W5 ⟨rfl, hb⟩
    have BL := hid (BL.out.trans (hb.mono BL.out.size))
    clear hb
    refine HK.out _ _ ?_
    clear HK
    refine wpList_plain rfl fun K hK => ?_
    have HK := hid hK
    clear hK
    go_wp2_with fail
    refine HK.out _ _ ?_
    clear HK
    refine wpList_plain rfl fun K hK => ?_
    have HK := hid hK
    clear hK
    go_wp2_with fail
    refine HK.out _ _ ?_
    clear HK
    refine wpList_plain rfl fun K hK => ?_
    have HK := hid hK
    clear hK
    go_wp2_with fail
    refine HK.out _ _ ?_
    clear HK
    refine wpList_plain rfl fun K hK => ?_
    have HK := hid hK
    clear hK
    go_wp2_with fail
    refine HK.out _ _ ?_
    clear HK
    have hG := Blk.new W5 hk0 30
    refine wpList_store_rowTo rfl 30 _ _ rfl rfl W5.heap.size (hkV h) rfl rfl 30 hk0 hG hook_size rfl (hkV_one _) ?_
    have hG2 := hG.setRow (hkV h)
    have b3 := below_setRow (BL.out.alloc BL.out.size (.cells hk0 30)) W5.heap.size BL.out.size (hkV h)
    obtain ⟨W6, hW2⟩ : ∃ W2, (W5.alloc (.cells hk0 30)).setRow W5.heap.size (hkV h) = W2 := ⟨_, rfl⟩
    rw [hW2] at hG2 b3 ⊢
    obtain ⟨G, hGG⟩ : ∃ G, W5.heap.size = G := ⟨_, rfl⟩
    rw [hGG] at hG2 ⊢
    have GL := hid hG2
    have BL := hid b3
    clear hG hG2 hW2 hGG b3
    refine wpList_plain rfl fun K hK => ?_
    have HK := hid hK
    clear hK
    go_wp2_with fail
    refine HK.out _ _ ?_
    clear HK
    refine wpList_nil ?_
    go_wp2_with fail
    obtain ⟨k, hk⟩ : ∃ k, W6.heap.size = k := ⟨_, rfl⟩
    have I0 : Hid (NmI w (W6.iter vsd 0) k G 0 h) := hid ⟨by have := World.iter_heap W6 vsd 0; rw [hk] at this; exact this, GL.out.alloc _, BL.out.alloc BL.out.size _⟩
    have hkw : w.heap.size ≤ k := by have := BL.out.size; omega
    have hGk : G ≠ k := by have := GL.out.lt; omega
    obtain ⟨W7, hW7⟩ : ∃ W7, W6.iter vsd 0 = W7 := ⟨_, rfl⟩
    rw [hW7] at I0 ⊢
    rw [hk]
    clear hW7 hk BL GL
    go_loopw [12] (fun _ wr => ∃ pos : Nat, pos ≤ 3 ∧ Hid (NmI w wr k G pos h)) (fun _ wr => 3 - wr.iterPos k)
    case atStart => exact ⟨0, by decide, I0.out⟩
    case round =>
      obtain ⟨pos, hpos, hI⟩ := hrel
      by_cases hp : pos < 3
      · have hp2 : pos < vsd.size := hp
        have hd : (Utf8.decode vsd pos).2 = 1 := by
          have : ∀ p : Fin 3, (Utf8.decode vsd p.val).2 = 1 := by decide
          exact this ⟨pos, hp⟩
        have hnx : ∀ ty, (Instr.next (.pointer (some ⟨k, 0, none⟩)) true ty).run Tryd.prog wr = _ := fun ty => Lib.run_next_any_at wr k vsd pos ty hI.out.it hp2
        rw [hd] at hnx
        obtain ⟨c, hc⟩ : ∃ c : Int, ((Utf8.decode vsd pos).1 : Int) = c := ⟨_, rfl⟩
        rw [hc] at hnx
        obtain ⟨W2, hW2⟩ : ∃ W2, wr.iterAt k vsd (pos + 1) = W2 := ⟨_, rfl⟩
        rw [hW2] at hnx
        have IT := hid (show W2.heap[k]? = some (.stringIter vsd (pos + 1)) by rw [← hW2]; exact Lib.iterAt_heap _ _ _ _ _ hI.out.it)
        have GL := hid (show Blk W2 G (hkV h) 30 from hI.out.g.same (by rw [← hW2]; exact Lib.iterAt_other _ _ _ _ _ hGk))
        have BL := hid (show Below w.heap.size w W2 by rw [← hW2]; exact Lib.below_iterAt hI.out.below hkw _ _)
        have HC := hid (fun (j : Nat) v (hv : (hkV h)[j]? = some v) => (BL.out.cell (p := ⟨g, o + i * 48 + j, none⟩) HG.out).trans (HC0.out j v hv))
        have hgW : g < W2.heap.size := Nat.lt_of_lt_of_le HG.out BL.out.size
        have hkW : k < W2.heap.size := by
          rcases Nat.lt_or_ge k W2.heap.size with q | q
          · exact q
          · have := IT.out; rw [Array.getElem?_eq_none q] at this; cases this
        have P0 := hid (iterPos_at hI.out.it)
        have hw1 : IntKind.i64.wrap ((i : Int) + 1 - 1) = (i : Int) := by rw [show (i : Int) + 1 - 1 = i by omega]; exact IntWalk.i64_in _ (by omega)
        have hw2 : IntKind.i64.wrap (i : Int) = (i : Int) := IntWalk.i64_in _ (by omega)
        clear hd hc hW2 hI
        go_upto_region 12 with fail
        clear hnx
        refine wp_region_held_drew (S := fun w1 => Below W2.heap.size W2 w1) (by kernel_rfl) ((Below.refl _ _).drew) (fun hH => ?_)
        refine wpAnyH_take (i := 0) (fuel := 10) (v := _) rfl (by kernel_rfl) (by kernel_rfl) (by kernel_rfl) (fun _ _ _ h => h) (yieldsIf_load_mid (by rfl) 30 (.tmp 9) rfl G 0 rfl (hkV h).toList _ (fun w1 h1 => fun j v hv => by rw [Nat.zero_add, (GL.out.below h1 GL.out.lt).cell]; simpa using hv) Tryd.underlying30 rfl hook_size) hH ?_
        simp only [Act.put, List.getElem_toArray, List.getElem_cons_zero, List.setIfInBounds_toArray, List.set_cons_zero, List.set_cons_succ]
        refine wpAnyH_take (i := 1) (fuel := 9) (v := .int .i32 c) rfl (by kernel_rfl) (by kernel_rfl) (by kernel_rfl) (fun _ _ _ h => h) (Or.inl ⟨by rfl, by intro w1 hw1; go_simp⟩) hH ?_
        try simp only [Act.put, List.getElem_toArray, List.getElem_cons_zero, List.getElem_cons_succ, List.setIfInBounds_toArray, List.set_cons_zero, List.set_cons_succ]
        refine wpAnyH_take (i := 3) (fuel := 8) (v := .slice (some ⟨g, o, none⟩) N cap) rfl (by kernel_rfl) (by kernel_rfl) (by kernel_rfl) (fun _ _ _ h => h) (Or.inl ⟨by rfl, by intro w1 hw1; go_simp⟩) hH ?_
        try simp only [Act.put, List.getElem_toArray, List.getElem_cons_zero, List.getElem_cons_succ, List.setIfInBounds_toArray, List.set_cons_zero, List.set_cons_succ]
        refine wpAnyH_take (i := 4) (fuel := 7) (v := .int .i64 ((i : Int) + 1)) rfl (by kernel_rfl) (by kernel_rfl) (by kernel_rfl) (fun _ _ _ h => h) (Or.inl ⟨by rfl, by intro w1 hw1; go_simp⟩) hH ?_
        try simp only [Act.put, List.getElem_toArray, List.getElem_cons_zero, List.getElem_cons_succ, List.setIfInBounds_toArray, List.set_cons_zero, List.set_cons_succ]
        refine wpAnyH_take (i := 5) (fuel := 6) (v := .int .i64 i) rfl (by kernel_rfl) (by kernel_rfl) (by kernel_rfl) (fun _ _ _ h => h) (Or.inl ⟨by rfl, by intro w1 hw1; go_simp⟩) hH ?_
        try simp only [Act.put, List.getElem_toArray, List.getElem_cons_zero, List.getElem_cons_succ, List.setIfInBounds_toArray, List.set_cons_zero, List.set_cons_succ]
        refine wpAnyH_take (i := 6) (fuel := 5) (v := .pointer (some ⟨g, o + i * 48, none⟩)) rfl (by kernel_rfl) (by kernel_rfl) (by kernel_rfl) (fun _ _ _ h => h) (Or.inl ⟨by rfl, by intro w1 hw1; go_simp⟩) hH ?_
        try simp only [Act.put, List.getElem_toArray, List.getElem_cons_zero, List.getElem_cons_succ, List.setIfInBounds_toArray, List.set_cons_zero, List.set_cons_succ]
        refine wpAnyH_take (i := 7) (fuel := 4) (v := _) rfl (by kernel_rfl) (by kernel_rfl) (by kernel_rfl) (fun _ _ _ h => h) (yieldsIf_load_mid (by rfl) 30 (.tmp 57) rfl g (o + i * 48) rfl (hkV h).toList _ (fun w1 h1 => fun j v hv => (Below.cell (p := ⟨g, o + i * 48 + j, none⟩) h1 hgW).trans (HC.out j v (by simpa using hv))) Tryd.underlying30 rfl hook_size) hH ?_
        try simp only [Act.put, List.getElem_toArray, List.getElem_cons_zero, List.getElem_cons_succ, List.setIfInBounds_toArray, List.set_cons_zero, List.set_cons_succ]
        refine wpAnyH_take (i := 8) (fuel := 3) (v := .int .i32 c) rfl (by kernel_rfl) (by kernel_rfl) (by kernel_rfl) (fun _ _ _ h => h) (Or.inl ⟨by rfl, by intro w1 hw1; go_simp⟩) hH ?_
        try simp only [Act.put, List.getElem_toArray, List.getElem_cons_zero, List.getElem_cons_succ, List.setIfInBounds_toArray, List.set_cons_zero, List.set_cons_succ]
        refine wpAnyH_ready (fuel := 2) (rs := [2]) (by kernel_rfl) (by simp) ?_
        refine AllReadyH.cons rfl (fun K hK => ?_) AllReadyH.nil
        rw [if_pos (by rfl)]
        go_wp2_with fail
        refine (WH.out c _).mono ?_
        rintro e W3 ⟨rfl, hb⟩
        have h1 := hH.trans (hb.mono hH.size)
        clear hb
        refine hK.out _ _ h1 (fun _ => ?_)
        clear hK
        try simp only [Act.put, List.getElem_toArray, List.getElem_cons_zero, List.getElem_cons_succ, List.setIfInBounds_toArray, List.set_cons_zero, List.set_cons_succ]
        refine wpAnyH_ready (fuel := 1) (rs := [9]) (by kernel_rfl) (by simp) ?_
        refine AllReadyH.cons rfl (fun K hK => ?_) AllReadyH.nil
        rw [if_pos (by rfl)]
        go_wp2_with fail
        refine (RH.out c _).mono ?_
        rintro e W4 ⟨rfl, hb⟩
        have h2 := h1.trans (hb.mono h1.size)
        clear hb
        refine hK.out _ _ h2 (fun _ => ?_)
        clear hK
        try simp only [Act.put, List.getElem_toArray, List.getElem_cons_zero, List.getElem_cons_succ, List.setIfInBounds_toArray, List.set_cons_zero, List.set_cons_succ]
        refine wpAnyH_take (i := 10) (fuel := 0) (v := .bool false) rfl (by kernel_rfl) (by kernel_rfl) (by kernel_rfl) (fun _ _ _ h => h) (Or.inl ⟨by rfl, by intro w1 hw1; go_simp⟩) h2 ?_
        try simp only [Act.put, List.getElem_toArray, List.getElem_cons_zero, List.getElem_cons_succ, List.setIfInBounds_toArray, List.set_cons_zero, List.set_cons_succ]
        refine wpAnyH_done (by kernel_rfl) ?_ _
        have N : Hid (NmI w W4 k G (pos + 1) h) := hid ⟨(h2.block k hkW).trans IT.out, GL.out.below h2 GL.out.lt, BL.out.trans (h2.mono BL.out.size)⟩
        have P1 := hid (iterPos_at N.out.it)
        clear hH h1 h2 hw1 hw2 hp2
        go_wp2_with fail
        go_roundw
        case rel => exact ⟨pos + 1, by omega, N.out⟩
        case measure => rw [P0.out, P1.out]; omega
      · have hp2 : ¬ pos < vsd.size := hp
        have hnx : ∀ ty, (Instr.next (.pointer (some ⟨k, 0, none⟩)) true ty).run Tryd.prog wr = _ := fun ty => Lib.run_next_end_at wr k vsd pos ty hI.out.it hp2
        have BL := hid hI.out.below
        clear hI hp2
        go_wp2_with fail
        clear hnx
        refine (LV.out _ (HT.out.below BL.out)).mono ?_
        rintro e W9 ⟨rfl, hb⟩
        have BL := hid (BL.out.trans (hb.mono (by exact BL.out.size)))
        clear hb
        go_wp2_with fail
        go_ret
        exact ⟨rfl, BL.out⟩
  · have GN := hid (fun W => get_no A N cap n W hN h0 h1 hf)
    have RN := hid (fun W => rget_no A N cap n W hN h0 h1 hf)
    clear hf
    go_upto_region 3 with fail
    refine wp_region_list ?_
    refine wpList_plain rfl fun K hK => ?_
    have HK := hid hK
    clear hK
    go_wp2_with fail
    refine HK.out _ _ ?_
    clear HK
    refine wpList_plain rfl fun K hK => ?_
    have HK := hid hK
    clear hK
    go_wp2_with fail
    refine HK.out _ _ ?_
    clear HK
    refine wpList_plain rfl fun K hK => ?_
    have HK := hid hK
    clear hK
    go_wp2_with fail
    refine (GN.out _).mono ?_
    rintro e W1 ⟨rfl, hb⟩
    have BL := hid (BL.out.trans (hb.mono BL.out.size))
    clear hb
    refine HK.out _ _ ?_
    clear HK
    refine wpList_plain rfl fun K hK => ?_
    have HK := hid hK
    clear hK
    go_wp2_with fail
    refine HK.out _ _ ?_
    clear HK
    refine wpList_plain rfl fun K hK => ?_
    have HK := hid hK
    clear hK
    go_wp2_with fail
    refine HK.out _ _ ?_
    clear HK
    refine wpList_plain rfl fun K hK => ?_
    have HK := hid hK
    clear hK
    go_wp2_with fail
    refine HK.out _ _ ?_
    clear HK
    refine wpList_plain rfl fun K hK => ?_
    have HK := hid hK
    clear hK
    go_wp2_with fail
    refine HK.out _ _ ?_
    clear HK
    have hG := Blk.new W1 hk0 30
    refine wpList_store_rowTo rfl 30 _ _ rfl rfl W1.heap.size (hkV hkZ0) rfl rfl 30 hk0 hG hook_size rfl (hkV_one _) ?_
    have hG2 := hG.setRow (hkV hkZ0)
    have b3 := below_setRow (BL.out.alloc BL.out.size (.cells hk0 30)) W1.heap.size BL.out.size (hkV hkZ0)
    obtain ⟨W2, hW2⟩ : ∃ W2, (W1.alloc (.cells hk0 30)).setRow W1.heap.size (hkV hkZ0) = W2 := ⟨_, rfl⟩
    rw [hW2] at hG2 b3 ⊢
    obtain ⟨G1, hGG⟩ : ∃ G, W1.heap.size = G := ⟨_, rfl⟩
    rw [hGG] at hG2 ⊢
    have GL := hid hG2
    have BL := hid b3
    clear hG hG2 hW2 hGG b3
    refine wpList_plain rfl fun K hK => ?_
    have HK := hid hK
    clear hK
    go_wp2_with fail
    refine HK.out _ _ ?_
    clear HK
    refine wpList_nil ?_
    go_upto_region 4 with fail
    refine wp_region_list ?_
    refine wpList_plain rfl fun K hK => ?_
    have HK := hid hK
    clear hK
    go_wp2_with fail
    refine HK.out _ _ ?_
    clear HK
    refine wpList_plain rfl fun K hK => ?_
    have HK := hid hK
    clear hK
    go_wp2_with fail
    refine HK.out _ _ ?_
    clear HK
    refine wpList_plain rfl fun K hK => ?_
    have HK := hid hK
    clear hK
    go_wp2_with fail
    refine (RN.out _).mono ?_
    rintro e W3 ⟨rfl, hb⟩
    have BL := hid (BL.out.trans (hb.mono BL.out.size))
    clear hb
    refine HK.out _ _ ?_
    clear HK
    refine wpList_plain rfl fun K hK => ?_
    have HK := hid hK
    clear hK
    go_wp2_with fail
    refine HK.out _ _ ?_
    clear HK
    refine wpList_plain rfl fun K hK => ?_
    have HK := hid hK
    clear hK
    go_wp2_with fail
    refine HK.out _ _ ?_
    clear HK
    refine wpList_plain rfl fun K hK => ?_
    have HK := hid hK
    clear hK
    go_wp2_with fail
    refine HK.out _ _ ?_
    clear HK
    refine wpList_plain rfl fun K hK => ?_
    have HK := hid hK
    clear hK
    go_wp2_with fail
    refine HK.out _ _ ?_
    clear HK
    have hG := Blk.new W3 hk0 30
    refine wpList_store_rowTo rfl 30 _ _ rfl rfl W3.heap.size (hkV hkZ0) rfl rfl 30 hk0 hG hook_size rfl (hkV_one _) ?_
    have hG2 := hG.setRow (hkV hkZ0)
    have b3 := below_setRow (BL.out.alloc BL.out.size (.cells hk0 30)) W3.heap.size BL.out.size (hkV hkZ0)
    obtain ⟨W4, hW2⟩ : ∃ W2, (W3.alloc (.cells hk0 30)).setRow W3.heap.size (hkV hkZ0) = W2 := ⟨_, rfl⟩
    rw [hW2] at hG2 b3 ⊢
    obtain ⟨G2, hGG⟩ : ∃ G, W3.heap.size = G := ⟨_, rfl⟩
    rw [hGG] at hG2 ⊢
    have GL := hid hG2
    have BL := hid b3
    clear hG hG2 hW2 hGG b3
    refine wpList_plain rfl fun K hK => ?_
    have HK := hid hK
    clear hK
    go_wp2_with fail
    refine HK.out _ _ ?_
    clear HK
    refine wpList_nil ?_
    go_upto_region 5 with fail
    go_wp2_with fail
    refine (MT.out _).mono ?_
    rintro e W8 ⟨rfl, hw⟩
    subst hw
    go_wp2_with fail
    refine (RM.out _).mono ?_
    rintro e W8 ⟨rfl, hb⟩
    have BL := hid (BL.out.trans (hb.mono BL.out.size))
    have GL := hid (GL.out.below hb GL.out.lt)
    clear hb
    go_wp2_with fail
    refine (LV.out _ (HT.out.below BL.out)).mono ?_
    rintro e W9 ⟨rfl, hb⟩
    have BL := hid (BL.out.trans (hb.mono (by exact BL.out.size)))
    clear hb
    go_wp2_with fail
    go_ret
    exact ⟨rfl, BL.out⟩
end Go.Proofs.YtaniahkagmjkoaaDoor
