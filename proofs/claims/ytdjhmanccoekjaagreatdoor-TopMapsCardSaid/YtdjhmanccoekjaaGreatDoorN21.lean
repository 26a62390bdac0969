/-
  Texts of this claim, joined: LTopMaps.
-/
import Derived.Deep.CutBlock
import Derived.BigFrame
import Derived.Test.YtdjhmanccoekjaaGreatDoorN20

section
namespace Go.Proofs.YtdjhmanccoekjaaGreatDoor
open Go.RowKit Go.Proofs

abbrev mapA (sl : Sl) : Array Value := #[.int .i64 21, .string ⟨#[]⟩, .int .u64 0, .int .u64 0, .string ⟨#[]⟩, slV sl0, slV sl, .int .i64 0]
set_option maxRecDepth 100000 in
set_option maxHeartbeats 8000000 in
theorem topMaps_law (A : Option Addr) (len cap : Nat) (z : Nat → Int) (w : World) (hT : Tabs w)
    (hlen : len ≤ 9223372036854775807) (hc : 0 < len → ∃ cb off, A = some ⟨cb, off, none⟩ ∧ cb < w.heap.size ∧ ∀ j, j < len → w.cell? ⟨cb, off + j, none⟩ = some (.int .i64 (z j))) (hz : ∀ j, j < len → -9223372036854775808 ≤ z j ∧ z j ≤ 9223372036854775807) :
    Calls Tryz.prog 4 #[.slice A len cap] w fun e w' => e = .returned (.bool true) ∧ Below w.heap.size w w' := by
  have HT := hid hT
  have HC := hid hc
  have HZ := hid hz
  have NU := hid (fun n W => num_any n W)
  have hl0 : len ≤ 9223372036854775807 := hlen
  clear hT hc hz hlen
  go_enter Tryz.func4, Tryz.ntmps4
  go_wp2_with fail
  have hbd : MapM w w.heap.size (w.heap.size + 1) [] [] [] sliceN sl0 sl0 ((w.alloc (.cells (mapA sl0) 29)).alloc (.cells (mapA sl0) 29)) := by
    have b0 := (Blk.new w (mapA sl0) 29).alloc (.cells (mapA sl0) 29)
    have b1 := Blk.new (w.alloc (.cells (mapA sl0) 29)) (mapA sl0) 29
    rw [World.size_alloc] at b1
    exact ⟨below_n (below_n (Below.refl _ _) _ _) _ _, Nat.le_refl _, Nat.lt_succ_self _, b0, b1, World.ownsRow_nil _ _ _ _, World.ownsRow_nil _ _ _ _, World.ownsRow_nil _ _ _ _, fun g hg => by cases hg⟩
  obtain ⟨W0, hW0⟩ : ∃ W0, (w.alloc (.cells (mapA sl0) 29)).alloc (.cells (mapA sl0) 29) = W0 := ⟨_, rfl⟩
  obtain ⟨B, hB⟩ : ∃ B, w.heap.size + 1 = B := ⟨_, rfl⟩
  have M0 : Hid (MapM w w.heap.size B [] [] [] sliceN sl0 sl0 W0) := by
    rw [hW0] at hbd
    rw [← hB]
    exact hbd
  have hW0' : World.alloc (World.alloc w (.cells #[.int .i64 21, .string ⟨#[]⟩, .int .u64 0, .int .u64 0, .string ⟨#[]⟩, .slice none 0 0, .slice none 0 0, .int .i64 0] 29)) (.cells #[.int .i64 21, .string ⟨#[]⟩, .int .u64 0, .int .u64 0, .string ⟨#[]⟩, .slice none 0 0, .slice none 0 0, .int .i64 0] 29) = W0 := hW0
  rw [hW0', hB]
  clear hbd hW0 hW0' hB
  go_loopw [5, 6] (fun lv iv wr => ∃ (go : Option Nat) (n c i : Nat) (ks l : List Int) (paD paB : Sl), lv = .slice (adr go) n c ∧ iv = .int .i64 i ∧ i ≤ len ∧ n = l.length ∧ n ≤ c ∧ c ≤ maxLen ∧ n ≤ 10 ∧ Hid (go = none → n = 0 ∧ c = 0) ∧ Hid (Keys ks l) ∧ Hid (MapM w w.heap.size B (dsK ks) (dsK ks.reverse) l (.slice (adr go) n c) paD paB wr)) (fun _ iv _ => len - (intOf iv).toNat)
  case atStart => exact ⟨none, 0, 0, 0, [], [], sl0, sl0, rfl, rfl, Nat.zero_le _, rfl, Nat.le_refl _, by unfold maxLen; omega, by omega, fun _ => ⟨rfl, rfl⟩, ⟨List.Perm.nil, List.Pairwise.nil, by simp, by simp⟩, M0.out⟩
  case round =>
    obtain ⟨go, n, c, i, ks, l, ⟨Ad, nd, cd⟩, ⟨Ab, nb, cb⟩, rfl, rfl, hi, hn, hnc, hcm, hn10, hgo, hK, hM⟩ := hrel
    have HN := hid hn
    clear hn
    obtain ⟨ao, hao⟩ : ∃ ao, adr go = ao := ⟨_, rfl⟩
    have HAO := hid hao
    rw [hao] at hM ⊢
    clear hao
    by_cases hgo1 : i < len ∧ n < 10
    · obtain ⟨hil, hn9⟩ := hgo1
      obtain ⟨kb, ko, rfl, hkb, hkc⟩ := HC.out (by omega)
      have hkl := HZ.out i hil
      obtain ⟨k, hk⟩ : ∃ k, z i = k := ⟨_, rfl⟩
      rw [hk] at hkl
      have KC := hid (fun W (hW : Below w.heap.size w W) => show W.cell? ⟨kb, ko + i, none⟩ = some (.int .i64 k) from hk ▸ (hW.cell (p := ⟨kb, ko + i, none⟩) hkb).trans (hkc i hil))
      have kc : wr.cell? ⟨kb, ko + i, none⟩ = some (.int .i64 k) := KC.out _ hM.out.low
      have h10 : decide ((n : Int) < 10) = true := decide_eq_true (by omega)
      have HKL := hid hkl
      clear hkc hk hkl
      go_upto_block 2 with fail
      obtain ⟨WR, rfl⟩ : ∃ WR, WR = wr := ⟨_, rfl⟩
      go_cut [7, 8] (fun av bv wn => ∃ (p : Nat) (th : Bool), av = .int .i64 p ∧ bv = .bool th ∧ p ≤ n ∧ Hid (Below WR.heap.size WR wn) ∧ Hid ((∀ x ∈ l.take p, x ≤ k) ∧ (th = true ↔ k ∈ l.take p) ∧ (p = l.length ∨ ∃ x, l[p]? = some x ∧ k < x)))
      case first =>
        go_wp2_with fail
        go_loopw [7, 8] (fun av bv wr2 => ∃ (p : Nat) (th : Bool), av = .int .i64 p ∧ bv = .bool th ∧ p ≤ n ∧ Hid (Below WR.heap.size WR wr2) ∧ Hid ((∀ x ∈ l.take p, x ≤ k) ∧ (th = true ↔ k ∈ l.take p))) (fun av _ _ => n - (intOf av).toNat)
        case atStart => exact ⟨0, false, rfl, rfl, Nat.zero_le _, Below.refl _ _, by simp, by simp⟩
        case round =>
          obtain ⟨p, th, rfl, rfl, hp, hbw, hI⟩ := hrel
          have kc : wr.cell? ⟨kb, ko + i, none⟩ = some (.int .i64 k) := KC.out _ (hM.out.low.trans (hbw.out.mono hM.out.low.size))
          by_cases hpn : p < n
          · obtain ⟨g, rfl⟩ : ∃ g, go = some g := by
              cases go with
              | none => have := hgo.out rfl; omega
              | some g => exact ⟨g, rfl⟩
            obtain ⟨x, hx⟩ : ∃ x, l[p]? = some x := ⟨_, List.getElem?_eq_getElem (by rw [← HN.out]; exact hpn)⟩
            have hao' : ao = some ⟨g, 0, none⟩ := HAO.out.symm
            have hM2 := (hM.out.keep hbw.out).lo
            have hKx := hK.out.i64 x (List.mem_of_getElem? hx)
            rw [hao'] at hM2
            have hxc : wr.cell? ⟨g, p, none⟩ = some (.int .i64 x) := by
              have := hM2.cells (g := g) rfl p (.int .i64 x) (by rw [List.getElem?_map, hx]; rfl)
              simpa [Addr.add_lit] using this
            subst hao'
            have hts : l.take (p + 1) = l.take p ++ [x] := by rw [List.take_add_one, hx]; rfl
            have HX := hid hx
            have HTS := hid hts
            clear hx hM2 hts
            by_cases hxk : x ≤ k
            · have NEXT : ∀ th2 : Bool, th2 = (th || x == k) → Hid ((∀ y ∈ l.take (p + 1), y ≤ k) ∧ (th2 = true ↔ k ∈ l.take (p + 1))) := fun th2 h2 => by
                refine ⟨fun y hy => ?_, ?_⟩
                · rw [HTS.out] at hy
                  rcases List.mem_append.1 hy with h | h
                  · exact hI.out.1 y h
                  · rw [List.mem_singleton] at h; omega
                · rw [HTS.out, h2, List.mem_append, List.mem_singleton, Bool.or_eq_true, hI.out.2, beq_iff_eq, eq_comm (a := x)]
              have NEXT := hid NEXT
              cases th with
              | true =>
                go_upto_region 8 with fail
                go_quiet (fail)
                go_upto_region 9 with fail
                go_quiet (fail)
                go_wp2_with fail
                go_roundw
                case rel => exact ⟨p + 1, true, by go_num, rfl, hpn, below_drewN hbw.out _, NEXT.out true (by simp)⟩
                case measure => simp [intOf]; omega
              | false =>
                obtain ⟨eb, heb⟩ : ∃ eb, (x == k) = eb := ⟨_, rfl⟩
                have HEB := hid heb
                go_upto_region 8 with fail
                go_quiet (fail)
                go_upto_region 9 with fail
                go_quiet (fail)
                go_wp2_with fail
                go_roundw
                case rel => exact ⟨p + 1, eb, by go_num, rfl, hpn, below_drewN hbw.out _, NEXT.out eb (by rw [← HEB.out]; rfl)⟩
                case measure => simp [intOf]; omega
            · have hd : decide (x ≤ k) = false := decide_eq_false hxk
              go_upto_region 8 with fail
              go_quiet (fail)
              go_wp2_with fail
              go_meet
              exact ⟨p, th, rfl, rfl, hp, below_drewN hbw.out _, hI.out.1, hI.out.2, Or.inr ⟨x, HX.out, by omega⟩⟩
          · have hd : decide ((p : Int) < (n : Int)) = false := decide_eq_false (by omega)
            go_upto_region 8 with fail
            go_quiet (fail)
            go_wp2_with fail
            go_meet
            exact ⟨p, th, rfl, rfl, hp, below_drewN hbw.out _, hI.out.1, hI.out.2, Or.inl (by rw [← HN.out]; omega)⟩
      case rest =>
        obtain ⟨p, th, rfl, rfl, hp, hbw, hI⟩ := hcut
        have hM2 := hid (hM.out.keep hbw.out)
        cases th with
        | true =>
          go_wp2_with fail
          go_roundw
          case rel => exact ⟨go, n, c, i + 1, ks, l, ⟨Ad, nd, cd⟩, ⟨Ab, nb, cb⟩, by rw [HAO.out], by go_num, hil, HN.out, hnc, hcm, hn10, hgo, hK, by rw [HAO.out]; exact hM2⟩
          case measure => simp [intOf]; omega
        | false =>
          have KI := hid (hK.out.ins p k (by rw [← HN.out]; exact hp) (by rw [← HN.out]; exact hn9) HKL.out hI.out.1 (fun h => by have := hI.out.2.1.2 h; cases this) hI.out.2.2)
          obtain ⟨ta, hta⟩ : ∃ ta, tailA go p c = ta := ⟨_, rfl⟩
          have CF := fun W => cut_front go n c p (by omega) W
          have CB := fun W => cut_back go n c p hp W
          rw [hta] at CB
          rw [HAO.out] at CF CB
          obtain ⟨WX, rfl⟩ : ∃ WX, WX = wc := ⟨_, rfl⟩
          have TL := hid (fun W (hW : Below WX.heap.size WX W) => show (∃ ad, ta = some ad ∧ ∀ (j : Nat) u, ((l.drop p).map (Value.int .i64))[j]? = some u → W.cell? (ad.add j) = some u) ∨ (ta = none ∧ n - p = 0 ∧ c - p = 0) from by
            have h := (hM2.out.keep hW).lo
            rw [← HAO.out, ← HN.out] at h
            rw [← hta, List.map_drop]
            exact tail_ok h hp hgo.out hnc)
          have OLD := hid (fun W (hW : Below WX.heap.size WX W) (g : Nat) (hg : go = some g) (j : Nat) u (hu : ((l.take p).map (Value.int .i64))[j]? = some u) => show W.cell? ⟨g, j, none⟩ = some u from by
            have h := (hM2.out.keep hW).lo
            rw [← HAO.out, hg] at h
            have := h.cells (g := g) rfl j u (by
              rw [List.map_take, List.getElem?_take] at hu
              split at hu
              · exact hu
              · cases hu)
            simpa [Addr.add_lit] using this)
          clear hta kc
          go_upto_region 12 with fail
          go_cut [5] (fun x wn => ∃ (go2 : Option Nat) (c2 : Nat), x = .slice (adr go2) (n + 1) c2 ∧ n + 1 ≤ c2 ∧ c2 ≤ maxLen ∧ Hid (go2 = none → n + 1 = 0 ∧ c2 = 0) ∧ Hid (MapM w w.heap.size B (dsK ks) (dsK ks.reverse) (insI l p k) (.slice (adr go2) (n + 1) c2) ⟨Ad, nd, cd⟩ ⟨Ab, nb, cb⟩ wn))
          case first =>
            refine wp_region_held_drew (S := fun w1 => Below WX.heap.size WX w1) (by kernel_rfl) ((Below.refl _ _).drew) (fun h0 => ?_)
            generalize World.drew WX = V0 at h0 ⊢
            refine wpAnyH_take (i := 0) (fuel := 14) (v := .slice ao n c) rfl (by kernel_rfl) (by kernel_rfl) (by kernel_rfl) (fun _ _ _ h => h) (Or.inl ⟨by rfl, by intro w1 hw1; go_simp⟩) h0 ?_
            try simp only [Act.put, List.getElem_toArray, List.getElem_cons_zero, List.setIfInBounds_toArray, List.set_cons_zero, List.set_cons_succ]
            refine wpAnyH_take (i := 1) (fuel := 13) (v := .int .i64 p) rfl (by kernel_rfl) (by kernel_rfl) (by kernel_rfl) (fun _ _ _ h => h) (Or.inl ⟨by rfl, by intro w1 hw1; go_simp⟩) h0 ?_
            try simp only [Act.put, List.getElem_toArray, List.getElem_cons_zero, List.getElem_cons_succ, List.setIfInBounds_toArray, List.set_cons_zero, List.set_cons_succ]
            refine wpAnyH_take (i := 2) (fuel := 12) (v := .int .i64 p) rfl (by kernel_rfl) (by kernel_rfl) (by kernel_rfl) (fun _ _ _ h => h) (Or.inl ⟨by rfl, by intro w1 hw1; go_simp⟩) h0 ?_
            try simp only [Act.put, List.getElem_toArray, List.getElem_cons_zero, List.getElem_cons_succ, List.setIfInBounds_toArray, List.set_cons_zero, List.set_cons_succ]
            refine wpAnyH_take (i := 3) (fuel := 11) (v := .slice ao p p) rfl (by kernel_rfl) (by kernel_rfl) (by kernel_rfl) (fun _ _ _ h => h) (Or.inl ⟨by rfl, by intro w1 hw1; go_simp⟩) h0 ?_
            try simp only [Act.put, List.getElem_toArray, List.getElem_cons_zero, List.getElem_cons_succ, List.setIfInBounds_toArray, List.set_cons_zero, List.set_cons_succ]
            refine wpAnyH_take (i := 4) (fuel := 10) (v := .slice (some ⟨kb, ko, none⟩) len cap) rfl (by kernel_rfl) (by kernel_rfl) (by kernel_rfl) (fun _ _ _ h => h) (Or.inl ⟨by rfl, by intro w1 hw1; go_simp⟩) h0 ?_
            try simp only [Act.put, List.getElem_toArray, List.getElem_cons_zero, List.getElem_cons_succ, List.setIfInBounds_toArray, List.set_cons_zero, List.set_cons_succ]
            refine wpAnyH_take (i := 5) (fuel := 9) (v := .int .i64 i) rfl (by kernel_rfl) (by kernel_rfl) (by kernel_rfl) (fun _ _ _ h => h) (Or.inl ⟨by rfl, by intro w1 hw1; go_simp⟩) h0 ?_
            try simp only [Act.put, List.getElem_toArray, List.getElem_cons_zero, List.getElem_cons_succ, List.setIfInBounds_toArray, List.set_cons_zero, List.set_cons_succ]
            refine wpAnyH_take (i := 6) (fuel := 8) (v := .pointer (some ⟨kb, ko + i, none⟩)) rfl (by kernel_rfl) (by kernel_rfl) (by kernel_rfl) (fun _ _ _ h => h) (Or.inl ⟨by rfl, by intro w1 hw1; go_simp⟩) h0 ?_
            try simp only [Act.put, List.getElem_toArray, List.getElem_cons_zero, List.getElem_cons_succ, List.setIfInBounds_toArray, List.set_cons_zero, List.set_cons_succ]
            refine wpAnyH_take (i := 7) (fuel := 7) (v := .int .i64 k) rfl (by kernel_rfl) (by kernel_rfl) (by kernel_rfl) (fun _ _ _ h => h) (Or.inl ⟨by rfl, by intro w1 hw1; have hq := KC.out w1 (hM2.out.low.trans (hw1.mono hM2.out.low.size)); go_simp⟩) h0 ?_
            try simp only [Act.put, List.getElem_toArray, List.getElem_cons_zero, List.getElem_cons_succ, List.setIfInBounds_toArray, List.set_cons_zero, List.set_cons_succ]
            refine wpAnyH_take (i := 9) (fuel := 6) (v := .slice ao n c) rfl (by kernel_rfl) (by kernel_rfl) (by kernel_rfl) (fun _ _ _ h => h) (Or.inl ⟨by rfl, by intro w1 hw1; go_simp⟩) h0 ?_
            try simp only [Act.put, List.getElem_toArray, List.getElem_cons_zero, List.getElem_cons_succ, List.setIfInBounds_toArray, List.set_cons_zero, List.set_cons_succ]
            refine wpAnyH_take (i := 10) (fuel := 5) (v := .int .i64 p) rfl (by kernel_rfl) (by kernel_rfl) (by kernel_rfl) (fun _ _ _ h => h) (Or.inl ⟨by rfl, by intro w1 hw1; go_simp⟩) h0 ?_
            try simp only [Act.put, List.getElem_toArray, List.getElem_cons_zero, List.getElem_cons_succ, List.setIfInBounds_toArray, List.set_cons_zero, List.set_cons_succ]
            refine wpAnyH_take (i := 11) (fuel := 4) (v := .slice ta (n - p) (c - p)) rfl (by kernel_rfl) (by kernel_rfl) (by kernel_rfl) (fun _ _ _ h => h) (Or.inl ⟨by rfl, by intro w1 hw1; go_simp⟩) h0 ?_
            try simp only [Act.put, List.getElem_toArray, List.getElem_cons_zero, List.getElem_cons_succ, List.setIfInBounds_toArray, List.set_cons_zero, List.set_cons_succ]
            refine wpAnyH_ready (fuel := 3) (rs := [8]) (by kernel_rfl) (by simp) ?_
            refine AllReadyH.cons rfl (fun K' hK' => ?_) AllReadyH.nil
            rw [if_pos (by rfl)]
            go_wp2_with fail
            have o5 := World.ownsRow_lit (base := WX.heap.size) (e := 3) (size := 1) V0 #[.int .i64 k] 1 h0.size (by unfold maxLen; omega) rfl
            have h1 := h0.alloc h0.size (.cells #[.int .i64 k] 3)
            obtain ⟨V1, hV1⟩ : ∃ V1, World.alloc V0 (.cells #[.int .i64 k] 3) = V1 := ⟨_, rfl⟩
            obtain ⟨g1, hg1⟩ : ∃ g1, V0.heap.size = g1 := ⟨_, rfl⟩
            rw [hV1] at o5 h1 ⊢
            rw [hg1] at o5 ⊢
            clear hV1 hg1
            refine hK'.out _ _ h1 (fun _ => ?_)
            clear hK'
            try simp only [Act.put, List.getElem_toArray, List.getElem_cons_zero, List.getElem_cons_succ, List.setIfInBounds_toArray, List.set_cons_zero, List.set_cons_succ]
            refine wpAnyH_ready (fuel := 2) (rs := [12]) (by kernel_rfl) (by simp) ?_
            refine AllReadyH.cons rfl (fun K' hK' => ?_) AllReadyH.nil
            refine step_join rfl (.tmp 63) (.tmp 66) 40 3 rfl (.int .i64 0) 1 8 Tryz.underlying40 info_i8 rfl (by decide) (by decide) WX.heap.size _ 1 [.int .i64 k] rfl o5 ta (n - p) (c - p) rfl ((l.drop p).map (Value.int .i64)) (by rw [List.length_map, List.length_drop, ← HN.out, Nat.mul_one]) (ints_one _) (TL.out _ h1) h1.size (by omega) ?_
            intro v67 V2 o6 b6
            have h2 := h1.trans b6
            refine hK'.out _ _ h2 (fun _ => ?_)
            clear hK'
            try simp only [Act.put, List.getElem_toArray, List.getElem_cons_zero, List.getElem_cons_succ, List.setIfInBounds_toArray, List.set_cons_zero, List.set_cons_succ]
            refine wpAnyH_ready (fuel := 1) (rs := [13]) (by kernel_rfl) (by simp) ?_
            refine AllReadyH.cons rfl (fun K' hK' => ?_) AllReadyH.nil
            refine step_cut rfl (.tmp 58) (.tmp 67) rfl go p (by rw [HAO.out]; rfl) ((l.take p).map (Value.int .i64)) (by rw [List.length_map, List.length_take, ← HN.out]; omega) (fun h => by have := hgo.out h; omega) (OLD.out _ h2) WX.heap.size v67 (1 + (n - p)) _ rfl o6 (by omega) (ints_one1 _ _) (by omega) ?_
            intro v68 V3 o7 b7
            have h3 := h2.trans (b7.mono h2.size)
            have o8 : V3.ownsRow (B + 1) 3 1 v68 (n + 1) ((insI l p k).map (Value.int .i64)) := by
              have := ownsRow_base (B := B + 1) o7 (by have := hM2.out.bb.lt; have := h2.size; omega)
              rw [show p + (1 + (n - p)) = n + 1 by omega] at this
              simpa [insI] using this
            obtain ⟨go2, c2, rfl, hnc2, hcm2, hgo2⟩ := own_adr o8
            have M4 := hid (show MapM w w.heap.size B (dsK ks) (dsK ks.reverse) (insI l p k) (.slice (adr go2) (n + 1) c2) ⟨Ad, nd, cd⟩ ⟨Ab, nb, cb⟩ V3 from
              have k := hM2.out.keep h3
              ⟨k.low, k.hD, k.hB, k.dd, k.bb, by rw [insI_len l p _ (by rw [← HN.out]; exact hp), ← HN.out]; exact o8, k.po, k.qo, k.ne⟩)
            refine hK'.out _ _ h3 (fun _ => ?_)
            clear hK'
            try simp only [Act.put, List.getElem_toArray, List.getElem_cons_zero, List.getElem_cons_succ, List.setIfInBounds_toArray, List.set_cons_zero, List.set_cons_succ]
            have h0' := h0
            clear h0
            have h0 := h3
            refine wpAnyH_take (i := 14) (fuel := 0) (v := .slice (adr go2) (n + 1) c2) rfl (by kernel_rfl) (by kernel_rfl) (by kernel_rfl) (fun _ _ _ h => h) (Or.inl ⟨by rfl, by intro w1 hw1; go_simp⟩) h0 ?_
            try simp only [Act.put, List.getElem_toArray, List.getElem_cons_zero, List.getElem_cons_succ, List.setIfInBounds_toArray, List.set_cons_zero, List.set_cons_succ]
            refine wpAnyH_done (by kernel_rfl) ?_ _
            clear h0 h0' h1 h2 h3 o5 o6 o7 o8 b6 b7
            go_wp2_with fail
            go_meet
            exact ⟨go2, c2, rfl, hnc2, hcm2, fun h => by have := hgo2 h; omega, M4⟩
          case rest =>
            obtain ⟨go2, c2, rfl, hnc2, hcm2, hgo2, hM3⟩ := hcut
            clear CF CB TL OLD hM2 hbw hI hgo
            obtain ⟨WX, rfl⟩ : ∃ WX, WX = wc := ⟨_, rfl⟩
            have HSZ := hid hM3.out.low.size
            have hneg : IntKind.i64.wrap (-k) = negI k := neg_wrap k
            go_upto_region 13 with fail
            go_cut [5] (fun x wn => x = .slice (adr go2) (n + 1) c2 ∧ ∃ paD : Sl, Hid (MapM w w.heap.size B (dsK ks ++ [deN k, deN (negI k)]) (dsK ks.reverse) (insI l p k) (.slice (adr go2) (n + 1) c2) paD ⟨Ab, nb, cb⟩ wn))
            case first =>
              refine wp_region_held_drew (S := fun w1 => Below w.heap.size WX w1) (by kernel_rfl) ((Below.refl _ _).drew) (fun hS0 => ?_)
              have h0 : Below WX.heap.size WX (World.drew WX) := (Below.refl _ _).drew
              generalize World.drew WX = V0 at h0 hS0 ⊢
              refine wpAnyH_take (i := 0) (fuel := 16) (v := .pointer (some ⟨w.heap.size, 6, none⟩)) rfl (by kernel_rfl) (by kernel_rfl) (by kernel_rfl) (fun _ _ _ h => h) (Or.inl ⟨by rfl, by intro w1 hw1; go_simp⟩) hS0 ?_
              try simp only [Act.put, List.getElem_toArray, List.getElem_cons_zero, List.setIfInBounds_toArray, List.set_cons_zero, List.set_cons_succ]
              refine wpAnyH_take (i := 2) (fuel := 15) (v := .slice (some ⟨kb, ko, none⟩) len cap) rfl (by kernel_rfl) (by kernel_rfl) (by kernel_rfl) (fun _ _ _ h => h) (Or.inl ⟨by rfl, by intro w1 hw1; go_simp⟩) hS0 ?_
              try simp only [Act.put, List.getElem_toArray, List.getElem_cons_zero, List.getElem_cons_succ, List.setIfInBounds_toArray, List.set_cons_zero, List.set_cons_succ]
              refine wpAnyH_take (i := 3) (fuel := 14) (v := .int .i64 i) rfl (by kernel_rfl) (by kernel_rfl) (by kernel_rfl) (fun _ _ _ h => h) (Or.inl ⟨by rfl, by intro w1 hw1; go_simp⟩) hS0 ?_
              try simp only [Act.put, List.getElem_toArray, List.getElem_cons_zero, List.getElem_cons_succ, List.setIfInBounds_toArray, List.set_cons_zero, List.set_cons_succ]
              refine wpAnyH_take (i := 4) (fuel := 13) (v := .pointer (some ⟨kb, ko + i, none⟩)) rfl (by kernel_rfl) (by kernel_rfl) (by kernel_rfl) (fun _ _ _ h => h) (Or.inl ⟨by rfl, by intro w1 hw1; go_simp⟩) hS0 ?_
              try simp only [Act.put, List.getElem_toArray, List.getElem_cons_zero, List.getElem_cons_succ, List.setIfInBounds_toArray, List.set_cons_zero, List.set_cons_succ]
              refine wpAnyH_take (i := 5) (fuel := 12) (v := .int .i64 k) rfl (by kernel_rfl) (by kernel_rfl) (by kernel_rfl) (fun _ _ _ h => h) (Or.inl ⟨by rfl, by intro w1 hw1; have hq := KC.out w1 (hM3.out.low.trans hw1); go_simp⟩) hS0 ?_
              try simp only [Act.put, List.getElem_toArray, List.getElem_cons_zero, List.getElem_cons_succ, List.setIfInBounds_toArray, List.set_cons_zero, List.set_cons_succ]
              refine wpAnyH_take (i := 7) (fuel := 11) (v := .slice (some ⟨kb, ko, none⟩) len cap) rfl (by kernel_rfl) (by kernel_rfl) (by kernel_rfl) (fun _ _ _ h => h) (Or.inl ⟨by rfl, by intro w1 hw1; go_simp⟩) hS0 ?_
              try simp only [Act.put, List.getElem_toArray, List.getElem_cons_zero, List.getElem_cons_succ, List.setIfInBounds_toArray, List.set_cons_zero, List.set_cons_succ]
              refine wpAnyH_take (i := 8) (fuel := 10) (v := .int .i64 i) rfl (by kernel_rfl) (by kernel_rfl) (by kernel_rfl) (fun _ _ _ h => h) (Or.inl ⟨by rfl, by intro w1 hw1; go_simp⟩) hS0 ?_
              try simp only [Act.put, List.getElem_toArray, List.getElem_cons_zero, List.getElem_cons_succ, List.setIfInBounds_toArray, List.set_cons_zero, List.set_cons_succ]
              refine wpAnyH_take (i := 9) (fuel := 9) (v := .pointer (some ⟨kb, ko + i, none⟩)) rfl (by kernel_rfl) (by kernel_rfl) (by kernel_rfl) (fun _ _ _ h => h) (Or.inl ⟨by rfl, by intro w1 hw1; go_simp⟩) hS0 ?_
              try simp only [Act.put, List.getElem_toArray, List.getElem_cons_zero, List.getElem_cons_succ, List.setIfInBounds_toArray, List.set_cons_zero, List.set_cons_succ]
              refine wpAnyH_take (i := 10) (fuel := 8) (v := .int .i64 k) rfl (by kernel_rfl) (by kernel_rfl) (by kernel_rfl) (fun _ _ _ h => h) (Or.inl ⟨by rfl, by intro w1 hw1; have hq := KC.out w1 (hM3.out.low.trans hw1); go_simp⟩) hS0 ?_
              try simp only [Act.put, List.getElem_toArray, List.getElem_cons_zero, List.getElem_cons_succ, List.setIfInBounds_toArray, List.set_cons_zero, List.set_cons_succ]
              refine wpAnyH_take (i := 11) (fuel := 7) (v := .int .i64 (negI k)) rfl (by kernel_rfl) (by kernel_rfl) (by kernel_rfl) (fun _ _ _ h => h) (Or.inl ⟨by rfl, by intro w1 hw1; go_simp⟩) hS0 ?_
              try simp only [Act.put, List.getElem_toArray, List.getElem_cons_zero, List.getElem_cons_succ, List.setIfInBounds_toArray, List.set_cons_zero, List.set_cons_succ]
              refine wpAnyH_ready (fuel := 6) (rs := [1, 6]) (by kernel_rfl) (by simp) ?_
              refine AllReadyH.cons rfl (fun K' hK' => ?_) (AllReadyH.cons rfl (fun K' hK' => ?_) AllReadyH.nil)
              · rw [if_pos (by rfl)]
                have cD : V0.cell? ⟨w.heap.size, 6, none⟩ = some (.slice Ad nd cd) := (hM3.out.keep h0).dd.cell 6
                go_wp2_with fail
                refine hK'.out _ _ (h0.mono HSZ.out) (fun _ => ?_)
                clear hK'
                try simp only [Act.put, List.getElem_toArray, List.getElem_cons_zero, List.getElem_cons_succ, List.setIfInBounds_toArray, List.set_cons_zero, List.set_cons_succ]
                refine wpAnyH_ready (fuel := 5) (rs := [6]) (by kernel_rfl) (by simp) ?_
                refine AllReadyH.cons rfl (fun K' hK' => ?_) AllReadyH.nil
                rw [if_pos (by rfl)]
                go_wp2_with fail
                refine (NU.out k _).mono ?_
                rintro e V1 ⟨rfl, hb⟩
                have h1 := h0.trans (hb.mono h0.size)
                clear hb
                refine hK'.out _ _ (h1.mono HSZ.out) (fun _ => ?_)
                clear hK'
                try simp only [Act.put, List.getElem_toArray, List.getElem_cons_zero, List.getElem_cons_succ, List.setIfInBounds_toArray, List.set_cons_zero, List.set_cons_succ]
                refine wpAnyH_ready (fuel := 4) (rs := [12]) (by kernel_rfl) (by simp) ?_
                refine AllReadyH.cons rfl (fun K' hK' => ?_) AllReadyH.nil
                rw [if_pos (by rfl)]
                go_wp2_with fail
                refine (NU.out (negI k) _).mono ?_
                rintro e V2 ⟨rfl, hb⟩
                have h2 := h1.trans (hb.mono h1.size)
                clear hb
                refine hK'.out _ _ (h2.mono HSZ.out) (fun _ => ?_)
                clear hK'
                try simp only [Act.put, List.getElem_toArray, List.getElem_cons_zero, List.getElem_cons_succ, List.setIfInBounds_toArray, List.set_cons_zero, List.set_cons_succ]
                refine wpAnyH_ready (fuel := 3) (rs := [13]) (by kernel_rfl) (by simp) ?_
                refine AllReadyH.cons rfl (fun K' hK' => ?_) AllReadyH.nil
                rw [if_pos (by rfl)]
                go_wp2_with fail
                have aa := Blk.new V2 #[.int .i64 6, .string ⟨#[]⟩, .int .u64 (k % 18446744073709551616), .int .u64 0, .string ⟨#[]⟩, slV sl0, slV sl0, .int .i64 0, .int .i64 6, .string ⟨#[]⟩, .int .u64 (negI k % 18446744073709551616), .int .u64 0, .string ⟨#[]⟩, slV sl0, slV sl0, .int .i64 0] 29
                have ol := World.ownsRow_lit (base := WX.heap.size) (e := 29) (size := 8) V2 #[.int .i64 6, .string ⟨#[]⟩, .int .u64 (k % 18446744073709551616), .int .u64 0, .string ⟨#[]⟩, slV sl0, slV sl0, .int .i64 0, .int .i64 6, .string ⟨#[]⟩, .int .u64 (negI k % 18446744073709551616), .int .u64 0, .string ⟨#[]⟩, slV sl0, slV sl0, .int .i64 0] 2 h2.size (by unfold maxLen; omega) rfl
                have h3 := h2.alloc h2.size (.cells #[.int .i64 6, .string ⟨#[]⟩, .int .u64 (k % 18446744073709551616), .int .u64 0, .string ⟨#[]⟩, slV sl0, slV sl0, .int .i64 0, .int .i64 6, .string ⟨#[]⟩, .int .u64 (negI k % 18446744073709551616), .int .u64 0, .string ⟨#[]⟩, slV sl0, slV sl0, .int .i64 0] 29)
                obtain ⟨V3, hV3⟩ : ∃ V3, World.alloc V2 (.cells #[.int .i64 6, .string ⟨#[]⟩, .int .u64 (k % 18446744073709551616), .int .u64 0, .string ⟨#[]⟩, slV sl0, slV sl0, .int .i64 0, .int .i64 6, .string ⟨#[]⟩, .int .u64 (negI k % 18446744073709551616), .int .u64 0, .string ⟨#[]⟩, slV sl0, slV sl0, .int .i64 0] 29) = V3 := ⟨_, rfl⟩
                obtain ⟨g, hg⟩ : ∃ g, V2.heap.size = g := ⟨_, rfl⟩
                rw [hV3] at aa ol h3 ⊢
                rw [hg] at aa ol ⊢
                clear hV3 hg
                refine hK'.out _ _ (h3.mono HSZ.out) (fun _ => ?_)
                clear hK'
                try simp only [Act.put, List.getElem_toArray, List.getElem_cons_zero, List.getElem_cons_succ, List.setIfInBounds_toArray, List.set_cons_zero, List.set_cons_succ]
                refine wpAnyH_ready (fuel := 2) (rs := [14]) (by kernel_rfl) (by simp) ?_
                refine AllReadyH.cons rfl (fun K' hK' => ?_) AllReadyH.nil
                have k3 := hM3.out.keep h3
                refine step_two rfl (.tmp 70) (.tmp 82) rfl (B + 1) (.slice Ad nd cd) (dsK ks).length (rowL (dsK ks)) rfl k3.po g _ (deN k) (deN (negI k)) rfl aa rfl k3.bb.lt (by rw [dsK_len]; have := hK.out.kslen; omega) ?_
                intro v83 V4 o4 b4 g4 n4
                have h4 : Below w.heap.size WX V4 := (h3.mono HSZ.out).trans (b4.mono (by have := hM3.out.hB; omega))
                refine hK'.out _ _ h4 (fun _ => ?_)
                clear hK'
                try simp only [Act.put, List.getElem_toArray, List.getElem_cons_zero, List.getElem_cons_succ, List.setIfInBounds_toArray, List.set_cons_zero, List.set_cons_succ]
                have hpl : (dsK ks).length = (pairs ks).length := List.length_map ..
                rw [hpl] at o4
                obtain ⟨g2, c4, rfl, _, _, _⟩ := own_adr o4
                have M5 := k3.push (paD' := ⟨adr g2, (pairs ks).length + 2, c4⟩) (new := [deN k, deN (negI k)]) (by rw [List.length_append, rowL_append, hpl]; exact o4) b4 g4 n4
                have cS : V4.cell? ⟨w.heap.size, 6, none⟩ = some (.slice Ad nd cd) := (k3.dd.below b4 (by have := k3.hB; omega)).cell 6
                have fS := (k3.dd.below b4 (by have := k3.hB; omega)).frozen 6
                have M5 := hid M5
                clear o4 b4 g4 n4 aa ol k3 hpl
                refine wpAnyH_take (i := 15) (fuel := 1) (v := .pointer (some ⟨w.heap.size, 6, none⟩)) rfl (by kernel_rfl) (by kernel_rfl) (by kernel_rfl) (fun _ _ _ h => h) (Or.inl ⟨by rfl, by intro w1 hw1; go_simp⟩) h4 ?_
                try simp only [Act.put, List.getElem_toArray, List.getElem_cons_zero, List.getElem_cons_succ, List.setIfInBounds_toArray, List.set_cons_zero, List.set_cons_succ]
                refine wpAnyH_ready (fuel := 0) (rs := [16]) (by kernel_rfl) (by simp) ?_
                refine AllReadyH.cons rfl (fun K' hK' => ?_) AllReadyH.nil
                rw [if_pos (by rfl)]
                go_wp2_with fail
                refine hK'.out _ _ (h4.setCell (p := ⟨w.heap.size, 6, none⟩) (Nat.le_refl _) _) (fun _ => ?_)
                clear hK'
                try simp only [Act.put, List.getElem_toArray, List.getElem_cons_zero, List.getElem_cons_succ, List.setIfInBounds_toArray, List.set_cons_zero, List.set_cons_succ]
                refine wpAnyH_done (by kernel_rfl) ?_ _
                go_wp2_with fail
                go_meet
                exact ⟨rfl, _, M5⟩
              · rw [if_pos (by rfl)]
                go_wp2_with fail
                refine (NU.out k _).mono ?_
                rintro e V1 ⟨rfl, hb⟩
                have h1 := h0.trans (hb.mono h0.size)
                clear hb
                refine hK'.out _ _ (h1.mono HSZ.out) (fun _ => ?_)
                clear hK'
                try simp only [Act.put, List.getElem_toArray, List.getElem_cons_zero, List.getElem_cons_succ, List.setIfInBounds_toArray, List.set_cons_zero, List.set_cons_succ]
                refine wpAnyH_ready (fuel := 5) (rs := [1, 12]) (by kernel_rfl) (by simp) ?_
                refine AllReadyH.cons rfl (fun K' hK' => ?_) (AllReadyH.cons rfl (fun K' hK' => ?_) AllReadyH.nil)
                · rw [if_pos (by rfl)]
                  have cD : V1.cell? ⟨w.heap.size, 6, none⟩ = some (.slice Ad nd cd) := (hM3.out.keep h1).dd.cell 6
                  go_wp2_with fail
                  refine hK'.out _ _ (h1.mono HSZ.out) (fun _ => ?_)
                  clear hK'
                  try simp only [Act.put, List.getElem_toArray, List.getElem_cons_zero, List.getElem_cons_succ, List.setIfInBounds_toArray, List.set_cons_zero, List.set_cons_succ]
                  refine wpAnyH_ready (fuel := 4) (rs := [12]) (by kernel_rfl) (by simp) ?_
                  refine AllReadyH.cons rfl (fun K' hK' => ?_) AllReadyH.nil
                  rw [if_pos (by rfl)]
                  go_wp2_with fail
                  refine (NU.out (negI k) _).mono ?_
                  rintro e V2 ⟨rfl, hb⟩
                  have h2 := h1.trans (hb.mono h1.size)
                  clear hb
                  refine hK'.out _ _ (h2.mono HSZ.out) (fun _ => ?_)
                  clear hK'
                  try simp only [Act.put, List.getElem_toArray, List.getElem_cons_zero, List.getElem_cons_succ, List.setIfInBounds_toArray, List.set_cons_zero, List.set_cons_succ]
                  refine wpAnyH_ready (fuel := 3) (rs := [13]) (by kernel_rfl) (by simp) ?_
                  refine AllReadyH.cons rfl (fun K' hK' => ?_) AllReadyH.nil
                  rw [if_pos (by rfl)]
                  go_wp2_with fail
                  have aa := Blk.new V2 #[.int .i64 6, .string ⟨#[]⟩, .int .u64 (k % 18446744073709551616), .int .u64 0, .string ⟨#[]⟩, slV sl0, slV sl0, .int .i64 0, .int .i64 6, .string ⟨#[]⟩, .int .u64 (negI k % 18446744073709551616), .int .u64 0, .string ⟨#[]⟩, slV sl0, slV sl0, .int .i64 0] 29
                  have ol := World.ownsRow_lit (base := WX.heap.size) (e := 29) (size := 8) V2 #[.int .i64 6, .string ⟨#[]⟩, .int .u64 (k % 18446744073709551616), .int .u64 0, .string ⟨#[]⟩, slV sl0, slV sl0, .int .i64 0, .int .i64 6, .string ⟨#[]⟩, .int .u64 (negI k % 18446744073709551616), .int .u64 0, .string ⟨#[]⟩, slV sl0, slV sl0, .int .i64 0] 2 h2.size (by unfold maxLen; omega) rfl
                  have h3 := h2.alloc h2.size (.cells #[.int .i64 6, .string ⟨#[]⟩, .int .u64 (k % 18446744073709551616), .int .u64 0, .string ⟨#[]⟩, slV sl0, slV sl0, .int .i64 0, .int .i64 6, .string ⟨#[]⟩, .int .u64 (negI k % 18446744073709551616), .int .u64 0, .string ⟨#[]⟩, slV sl0, slV sl0, .int .i64 0] 29)
                  obtain ⟨V3, hV3⟩ : ∃ V3, World.alloc V2 (.cells #[.int .i64 6, .string ⟨#[]⟩, .int .u64 (k % 18446744073709551616), .int .u64 0, .string ⟨#[]⟩, slV sl0, slV sl0, .int .i64 0, .int .i64 6, .string ⟨#[]⟩, .int .u64 (negI k % 18446744073709551616), .int .u64 0, .string ⟨#[]⟩, slV sl0, slV sl0, .int .i64 0] 29) = V3 := ⟨_, rfl⟩
                  obtain ⟨g, hg⟩ : ∃ g, V2.heap.size = g := ⟨_, rfl⟩
                  rw [hV3] at aa ol h3 ⊢
                  rw [hg] at aa ol ⊢
                  clear hV3 hg
                  refine hK'.out _ _ (h3.mono HSZ.out) (fun _ => ?_)
                  clear hK'
                  try simp only [Act.put, List.getElem_toArray, List.getElem_cons_zero, List.getElem_cons_succ, List.setIfInBounds_toArray, List.set_cons_zero, List.set_cons_succ]
                  refine wpAnyH_ready (fuel := 2) (rs := [14]) (by kernel_rfl) (by simp) ?_
                  refine AllReadyH.cons rfl (fun K' hK' => ?_) AllReadyH.nil
                  have k3 := hM3.out.keep h3
                  refine step_two rfl (.tmp 70) (.tmp 82) rfl (B + 1) (.slice Ad nd cd) (dsK ks).length (rowL (dsK ks)) rfl k3.po g _ (deN k) (deN (negI k)) rfl aa rfl k3.bb.lt (by rw [dsK_len]; have := hK.out.kslen; omega) ?_
                  intro v83 V4 o4 b4 g4 n4
                  have h4 : Below w.heap.size WX V4 := (h3.mono HSZ.out).trans (b4.mono (by have := hM3.out.hB; omega))
                  refine hK'.out _ _ h4 (fun _ => ?_)
                  clear hK'
                  try simp only [Act.put, List.getElem_toArray, List.getElem_cons_zero, List.getElem_cons_succ, List.setIfInBounds_toArray, List.set_cons_zero, List.set_cons_succ]
                  have hpl : (dsK ks).length = (pairs ks).length := List.length_map ..
                  rw [hpl] at o4
                  obtain ⟨g2, c4, rfl, _, _, _⟩ := own_adr o4
                  have M5 := k3.push (paD' := ⟨adr g2, (pairs ks).length + 2, c4⟩) (new := [deN k, deN (negI k)]) (by rw [List.length_append, rowL_append, hpl]; exact o4) b4 g4 n4
                  have cS : V4.cell? ⟨w.heap.size, 6, none⟩ = some (.slice Ad nd cd) := (k3.dd.below b4 (by have := k3.hB; omega)).cell 6
                  have fS := (k3.dd.below b4 (by have := k3.hB; omega)).frozen 6
                  have M5 := hid M5
                  clear o4 b4 g4 n4 aa ol k3 hpl
                  refine wpAnyH_take (i := 15) (fuel := 1) (v := .pointer (some ⟨w.heap.size, 6, none⟩)) rfl (by kernel_rfl) (by kernel_rfl) (by kernel_rfl) (fun _ _ _ h => h) (Or.inl ⟨by rfl, by intro w1 hw1; go_simp⟩) h4 ?_
                  try simp only [Act.put, List.getElem_toArray, List.getElem_cons_zero, List.getElem_cons_succ, List.setIfInBounds_toArray, List.set_cons_zero, List.set_cons_succ]
                  refine wpAnyH_ready (fuel := 0) (rs := [16]) (by kernel_rfl) (by simp) ?_
                  refine AllReadyH.cons rfl (fun K' hK' => ?_) AllReadyH.nil
                  rw [if_pos (by rfl)]
                  go_wp2_with fail
                  refine hK'.out _ _ (h4.setCell (p := ⟨w.heap.size, 6, none⟩) (Nat.le_refl _) _) (fun _ => ?_)
                  clear hK'
                  try simp only [Act.put, List.getElem_toArray, List.getElem_cons_zero, List.getElem_cons_succ, List.setIfInBounds_toArray, List.set_cons_zero, List.set_cons_succ]
                  refine wpAnyH_done (by kernel_rfl) ?_ _
                  go_wp2_with fail
                  go_meet
                  exact ⟨rfl, _, M5⟩
                · rw [if_pos (by rfl)]
                  go_wp2_with fail
                  refine (NU.out (negI k) _).mono ?_
                  rintro e V2 ⟨rfl, hb⟩
                  have h2 := h1.trans (hb.mono h1.size)
                  clear hb
                  refine hK'.out _ _ (h2.mono HSZ.out) (fun _ => ?_)
                  clear hK'
                  try simp only [Act.put, List.getElem_toArray, List.getElem_cons_zero, List.getElem_cons_succ, List.setIfInBounds_toArray, List.set_cons_zero, List.set_cons_succ]
                  refine wpAnyH_ready (fuel := 4) (rs := [1, 13]) (by kernel_rfl) (by simp) ?_
                  refine AllReadyH.cons rfl (fun K' hK' => ?_) (AllReadyH.cons rfl (fun K' hK' => ?_) AllReadyH.nil)
                  · rw [if_pos (by rfl)]
                    have cD : V2.cell? ⟨w.heap.size, 6, none⟩ = some (.slice Ad nd cd) := (hM3.out.keep h2).dd.cell 6
                    go_wp2_with fail
                    refine hK'.out _ _ (h2.mono HSZ.out) (fun _ => ?_)
                    clear hK'
                    try simp only [Act.put, List.getElem_toArray, List.getElem_cons_zero, List.getElem_cons_succ, List.setIfInBounds_toArray, List.set_cons_zero, List.set_cons_succ]
                    refine wpAnyH_ready (fuel := 3) (rs := [13]) (by kernel_rfl) (by simp) ?_
                    refine AllReadyH.cons rfl (fun K' hK' => ?_) AllReadyH.nil
                    rw [if_pos (by rfl)]
                    go_wp2_with fail
                    have aa := Blk.new V2 #[.int .i64 6, .string ⟨#[]⟩, .int .u64 (k % 18446744073709551616), .int .u64 0, .string ⟨#[]⟩, slV sl0, slV sl0, .int .i64 0, .int .i64 6, .string ⟨#[]⟩, .int .u64 (negI k % 18446744073709551616), .int .u64 0, .string ⟨#[]⟩, slV sl0, slV sl0, .int .i64 0] 29
                    have ol := World.ownsRow_lit (base := WX.heap.size) (e := 29) (size := 8) V2 #[.int .i64 6, .string ⟨#[]⟩, .int .u64 (k % 18446744073709551616), .int .u64 0, .string ⟨#[]⟩, slV sl0, slV sl0, .int .i64 0, .int .i64 6, .string ⟨#[]⟩, .int .u64 (negI k % 18446744073709551616), .int .u64 0, .string ⟨#[]⟩, slV sl0, slV sl0, .int .i64 0] 2 h2.size (by unfold maxLen; omega) rfl
                    have h3 := h2.alloc h2.size (.cells #[.int .i64 6, .string ⟨#[]⟩, .int .u64 (k % 18446744073709551616), .int .u64 0, .string ⟨#[]⟩, slV sl0, slV sl0, .int .i64 0, .int .i64 6, .string ⟨#[]⟩, .int .u64 (negI k % 18446744073709551616), .int .u64 0, .string ⟨#[]⟩, slV sl0, slV sl0, .int .i64 0] 29)
                    obtain ⟨V3, hV3⟩ : ∃ V3, World.alloc V2 (.cells #[.int .i64 6, .string ⟨#[]⟩, .int .u64 (k % 18446744073709551616), .int .u64 0, .string ⟨#[]⟩, slV sl0, slV sl0, .int .i64 0, .int .i64 6, .string ⟨#[]⟩, .int .u64 (negI k % 18446744073709551616), .int .u64 0, .string ⟨#[]⟩, slV sl0, slV sl0, .int .i64 0] 29) = V3 := ⟨_, rfl⟩
                    obtain ⟨g, hg⟩ : ∃ g, V2.heap.size = g := ⟨_, rfl⟩
                    rw [hV3] at aa ol h3 ⊢
                    rw [hg] at aa ol ⊢
                    clear hV3 hg
                    refine hK'.out _ _ (h3.mono HSZ.out) (fun _ => ?_)
                    clear hK'
                    try simp only [Act.put, List.getElem_toArray, List.getElem_cons_zero, List.getElem_cons_succ, List.setIfInBounds_toArray, List.set_cons_zero, List.set_cons_succ]
                    refine wpAnyH_ready (fuel := 2) (rs := [14]) (by kernel_rfl) (by simp) ?_
                    refine AllReadyH.cons rfl (fun K' hK' => ?_) AllReadyH.nil
                    have k3 := hM3.out.keep h3
                    refine step_two rfl (.tmp 70) (.tmp 82) rfl (B + 1) (.slice Ad nd cd) (dsK ks).length (rowL (dsK ks)) rfl k3.po g _ (deN k) (deN (negI k)) rfl aa rfl k3.bb.lt (by rw [dsK_len]; have := hK.out.kslen; omega) ?_
                    intro v83 V4 o4 b4 g4 n4
                    have h4 : Below w.heap.size WX V4 := (h3.mono HSZ.out).trans (b4.mono (by have := hM3.out.hB; omega))
                    refine hK'.out _ _ h4 (fun _ => ?_)
                    clear hK'
                    try simp only [Act.put, List.getElem_toArray, List.getElem_cons_zero, List.getElem_cons_succ, List.setIfInBounds_toArray, List.set_cons_zero, List.set_cons_succ]
                    have hpl : (dsK ks).length = (pairs ks).length := List.length_map ..
                    rw [hpl] at o4
                    obtain ⟨g2, c4, rfl, _, _, _⟩ := own_adr o4
                    have M5 := k3.push (paD' := ⟨adr g2, (pairs ks).length + 2, c4⟩) (new := [deN k, deN (negI k)]) (by rw [List.length_append, rowL_append, hpl]; exact o4) b4 g4 n4
                    have cS : V4.cell? ⟨w.heap.size, 6, none⟩ = some (.slice Ad nd cd) := (k3.dd.below b4 (by have := k3.hB; omega)).cell 6
                    have fS := (k3.dd.below b4 (by have := k3.hB; omega)).frozen 6
                    have M5 := hid M5
                    clear o4 b4 g4 n4 aa ol k3 hpl
                    refine wpAnyH_take (i := 15) (fuel := 1) (v := .pointer (some ⟨w.heap.size, 6, none⟩)) rfl (by kernel_rfl) (by kernel_rfl) (by kernel_rfl) (fun _ _ _ h => h) (Or.inl ⟨by rfl, by intro w1 hw1; go_simp⟩) h4 ?_
                    try simp only [Act.put, List.getElem_toArray, List.getElem_cons_zero, List.getElem_cons_succ, List.setIfInBounds_toArray, List.set_cons_zero, List.set_cons_succ]
                    refine wpAnyH_ready (fuel := 0) (rs := [16]) (by kernel_rfl) (by simp) ?_
                    refine AllReadyH.cons rfl (fun K' hK' => ?_) AllReadyH.nil
                    rw [if_pos (by rfl)]
                    go_wp2_with fail
                    refine hK'.out _ _ (h4.setCell (p := ⟨w.heap.size, 6, none⟩) (Nat.le_refl _) _) (fun _ => ?_)
                    clear hK'
                    try simp only [Act.put, List.getElem_toArray, List.getElem_cons_zero, List.getElem_cons_succ, List.setIfInBounds_toArray, List.set_cons_zero, List.set_cons_succ]
                    refine wpAnyH_done (by kernel_rfl) ?_ _
                    go_wp2_with fail
                    go_meet
                    exact ⟨rfl, _, M5⟩
                  · rw [if_pos (by rfl)]
                    go_wp2_with fail
                    have aa := Blk.new V2 #[.int .i64 6, .string ⟨#[]⟩, .int .u64 (k % 18446744073709551616), .int .u64 0, .string ⟨#[]⟩, slV sl0, slV sl0, .int .i64 0, .int .i64 6, .string ⟨#[]⟩, .int .u64 (negI k % 18446744073709551616), .int .u64 0, .string ⟨#[]⟩, slV sl0, slV sl0, .int .i64 0] 29
                    have ol := World.ownsRow_lit (base := WX.heap.size) (e := 29) (size := 8) V2 #[.int .i64 6, .string ⟨#[]⟩, .int .u64 (k % 18446744073709551616), .int .u64 0, .string ⟨#[]⟩, slV sl0, slV sl0, .int .i64 0, .int .i64 6, .string ⟨#[]⟩, .int .u64 (negI k % 18446744073709551616), .int .u64 0, .string ⟨#[]⟩, slV sl0, slV sl0, .int .i64 0] 2 h2.size (by unfold maxLen; omega) rfl
                    have h3 := h2.alloc h2.size (.cells #[.int .i64 6, .string ⟨#[]⟩, .int .u64 (k % 18446744073709551616), .int .u64 0, .string ⟨#[]⟩, slV sl0, slV sl0, .int .i64 0, .int .i64 6, .string ⟨#[]⟩, .int .u64 (negI k % 18446744073709551616), .int .u64 0, .string ⟨#[]⟩, slV sl0, slV sl0, .int .i64 0] 29)
                    obtain ⟨V3, hV3⟩ : ∃ V3, World.alloc V2 (.cells #[.int .i64 6, .string ⟨#[]⟩, .int .u64 (k % 18446744073709551616), .int .u64 0, .string ⟨#[]⟩, slV sl0, slV sl0, .int .i64 0, .int .i64 6, .string ⟨#[]⟩, .int .u64 (negI k % 18446744073709551616), .int .u64 0, .string ⟨#[]⟩, slV sl0, slV sl0, .int .i64 0] 29) = V3 := ⟨_, rfl⟩
                    obtain ⟨g, hg⟩ : ∃ g, V2.heap.size = g := ⟨_, rfl⟩
                    rw [hV3] at aa ol h3 ⊢
                    rw [hg] at aa ol ⊢
                    clear hV3 hg
                    refine hK'.out _ _ (h3.mono HSZ.out) (fun _ => ?_)
                    clear hK'
                    try simp only [Act.put, List.getElem_toArray, List.getElem_cons_zero, List.getElem_cons_succ, List.setIfInBounds_toArray, List.set_cons_zero, List.set_cons_succ]
                    refine wpAnyH_ready (fuel := 3) (rs := [1]) (by kernel_rfl) (by simp) ?_
                    refine AllReadyH.cons rfl (fun K' hK' => ?_) AllReadyH.nil
                    rw [if_pos (by rfl)]
                    have cD : V3.cell? ⟨w.heap.size, 6, none⟩ = some (.slice Ad nd cd) := (hM3.out.keep h3).dd.cell 6
                    go_wp2_with fail
                    refine hK'.out _ _ (h3.mono HSZ.out) (fun _ => ?_)
                    clear hK'
                    try simp only [Act.put, List.getElem_toArray, List.getElem_cons_zero, List.getElem_cons_succ, List.setIfInBounds_toArray, List.set_cons_zero, List.set_cons_succ]
                    refine wpAnyH_ready (fuel := 2) (rs := [14]) (by kernel_rfl) (by simp) ?_
                    refine AllReadyH.cons rfl (fun K' hK' => ?_) AllReadyH.nil
                    have k3 := hM3.out.keep h3
                    refine step_two rfl (.tmp 70) (.tmp 82) rfl (B + 1) (.slice Ad nd cd) (dsK ks).length (rowL (dsK ks)) rfl k3.po g _ (deN k) (deN (negI k)) rfl aa rfl k3.bb.lt (by rw [dsK_len]; have := hK.out.kslen; omega) ?_
                    intro v83 V4 o4 b4 g4 n4
                    have h4 : Below w.heap.size WX V4 := (h3.mono HSZ.out).trans (b4.mono (by have := hM3.out.hB; omega))
                    refine hK'.out _ _ h4 (fun _ => ?_)
                    clear hK'
                    try simp only [Act.put, List.getElem_toArray, List.getElem_cons_zero, List.getElem_cons_succ, List.setIfInBounds_toArray, List.set_cons_zero, List.set_cons_succ]
                    have hpl : (dsK ks).length = (pairs ks).length := List.length_map ..
                    rw [hpl] at o4
                    obtain ⟨g2, c4, rfl, _, _, _⟩ := own_adr o4
                    have M5 := k3.push (paD' := ⟨adr g2, (pairs ks).length + 2, c4⟩) (new := [deN k, deN (negI k)]) (by rw [List.length_append, rowL_append, hpl]; exact o4) b4 g4 n4
                    have cS : V4.cell? ⟨w.heap.size, 6, none⟩ = some (.slice Ad nd cd) := (k3.dd.below b4 (by have := k3.hB; omega)).cell 6
                    have fS := (k3.dd.below b4 (by have := k3.hB; omega)).frozen 6
                    have M5 := hid M5
                    clear o4 b4 g4 n4 aa ol k3 hpl
                    refine wpAnyH_take (i := 15) (fuel := 1) (v := .pointer (some ⟨w.heap.size, 6, none⟩)) rfl (by kernel_rfl) (by kernel_rfl) (by kernel_rfl) (fun _ _ _ h => h) (Or.inl ⟨by rfl, by intro w1 hw1; go_simp⟩) h4 ?_
                    try simp only [Act.put, List.getElem_toArray, List.getElem_cons_zero, List.getElem_cons_succ, List.setIfInBounds_toArray, List.set_cons_zero, List.set_cons_succ]
                    refine wpAnyH_ready (fuel := 0) (rs := [16]) (by kernel_rfl) (by simp) ?_
                    refine AllReadyH.cons rfl (fun K' hK' => ?_) AllReadyH.nil
                    rw [if_pos (by rfl)]
                    go_wp2_with fail
                    refine hK'.out _ _ (h4.setCell (p := ⟨w.heap.size, 6, none⟩) (Nat.le_refl _) _) (fun _ => ?_)
                    clear hK'
                    try simp only [Act.put, List.getElem_toArray, List.getElem_cons_zero, List.getElem_cons_succ, List.setIfInBounds_toArray, List.set_cons_zero, List.set_cons_succ]
                    refine wpAnyH_done (by kernel_rfl) ?_ _
                    go_wp2_with fail
                    go_meet
                    exact ⟨rfl, _, M5⟩
            case rest =>
              obtain ⟨rfl, ⟨Ad2, nd2, cd2⟩, hM5⟩ := hcut
              clear hM3 HSZ hneg
              have hM3 := hM5
              clear hM5
              obtain ⟨WX, rfl⟩ : ∃ WX, WX = wc := ⟨_, rfl⟩
              have HSZ := hid hM3.out.low.size
              have hneg : IntKind.i64.wrap (-k) = negI k := neg_wrap k
              go_upto_region 14 with fail
              refine wp_region_held_drew (S := fun w1 => Below w.heap.size WX w1) (by kernel_rfl) ((Below.refl _ _).drew) (fun hS0 => ?_)
              have h0 : Below WX.heap.size WX (World.drew WX) := (Below.refl _ _).drew
              generalize World.drew WX = V0 at h0 hS0 ⊢
              refine wpAnyH_take (i := 0) (fuel := 16) (v := .slice (some ⟨kb, ko, none⟩) len cap) rfl (by kernel_rfl) (by kernel_rfl) (by kernel_rfl) (fun _ _ _ h => h) (Or.inl ⟨by rfl, by intro w1 hw1; go_simp⟩) hS0 ?_
              try simp only [Act.put, List.getElem_toArray, List.getElem_cons_zero, List.setIfInBounds_toArray, List.set_cons_zero, List.set_cons_succ]
              refine wpAnyH_take (i := 1) (fuel := 15) (v := .int .i64 i) rfl (by kernel_rfl) (by kernel_rfl) (by kernel_rfl) (fun _ _ _ h => h) (Or.inl ⟨by rfl, by intro w1 hw1; go_simp⟩) hS0 ?_
              try simp only [Act.put, List.getElem_toArray, List.getElem_cons_zero, List.getElem_cons_succ, List.setIfInBounds_toArray, List.set_cons_zero, List.set_cons_succ]
              refine wpAnyH_take (i := 2) (fuel := 14) (v := .pointer (some ⟨kb, ko + i, none⟩)) rfl (by kernel_rfl) (by kernel_rfl) (by kernel_rfl) (fun _ _ _ h => h) (Or.inl ⟨by rfl, by intro w1 hw1; go_simp⟩) hS0 ?_
              try simp only [Act.put, List.getElem_toArray, List.getElem_cons_zero, List.getElem_cons_succ, List.setIfInBounds_toArray, List.set_cons_zero, List.set_cons_succ]
              refine wpAnyH_take (i := 3) (fuel := 13) (v := .int .i64 k) rfl (by kernel_rfl) (by kernel_rfl) (by kernel_rfl) (fun _ _ _ h => h) (Or.inl ⟨by rfl, by intro w1 hw1; have hq := KC.out w1 (hM3.out.low.trans hw1); go_simp⟩) hS0 ?_
              try simp only [Act.put, List.getElem_toArray, List.getElem_cons_zero, List.getElem_cons_succ, List.setIfInBounds_toArray, List.set_cons_zero, List.set_cons_succ]
              refine wpAnyH_take (i := 5) (fuel := 12) (v := .slice (some ⟨kb, ko, none⟩) len cap) rfl (by kernel_rfl) (by kernel_rfl) (by kernel_rfl) (fun _ _ _ h => h) (Or.inl ⟨by rfl, by intro w1 hw1; go_simp⟩) hS0 ?_
              try simp only [Act.put, List.getElem_toArray, List.getElem_cons_zero, List.getElem_cons_succ, List.setIfInBounds_toArray, List.set_cons_zero, List.set_cons_succ]
              refine wpAnyH_take (i := 6) (fuel := 11) (v := .int .i64 i) rfl (by kernel_rfl) (by kernel_rfl) (by kernel_rfl) (fun _ _ _ h => h) (Or.inl ⟨by rfl, by intro w1 hw1; go_simp⟩) hS0 ?_
              try simp only [Act.put, List.getElem_toArray, List.getElem_cons_zero, List.getElem_cons_succ, List.setIfInBounds_toArray, List.set_cons_zero, List.set_cons_succ]
              refine wpAnyH_take (i := 7) (fuel := 10) (v := .pointer (some ⟨kb, ko + i, none⟩)) rfl (by kernel_rfl) (by kernel_rfl) (by kernel_rfl) (fun _ _ _ h => h) (Or.inl ⟨by rfl, by intro w1 hw1; go_simp⟩) hS0 ?_
              try simp only [Act.put, List.getElem_toArray, List.getElem_cons_zero, List.getElem_cons_succ, List.setIfInBounds_toArray, List.set_cons_zero, List.set_cons_succ]
              refine wpAnyH_take (i := 8) (fuel := 9) (v := .int .i64 k) rfl (by kernel_rfl) (by kernel_rfl) (by kernel_rfl) (fun _ _ _ h => h) (Or.inl ⟨by rfl, by intro w1 hw1; have hq := KC.out w1 (hM3.out.low.trans hw1); go_simp⟩) hS0 ?_
              try simp only [Act.put, List.getElem_toArray, List.getElem_cons_zero, List.getElem_cons_succ, List.setIfInBounds_toArray, List.set_cons_zero, List.set_cons_succ]
              refine wpAnyH_take (i := 9) (fuel := 8) (v := .int .i64 (negI k)) rfl (by kernel_rfl) (by kernel_rfl) (by kernel_rfl) (fun _ _ _ h => h) (Or.inl ⟨by rfl, by intro w1 hw1; go_simp⟩) hS0 ?_
              try simp only [Act.put, List.getElem_toArray, List.getElem_cons_zero, List.getElem_cons_succ, List.setIfInBounds_toArray, List.set_cons_zero, List.set_cons_succ]
              refine wpAnyH_take (i := 12) (fuel := 7) (v := .pointer (some ⟨B, 6, none⟩)) rfl (by kernel_rfl) (by kernel_rfl) (by kernel_rfl) (fun _ _ _ h => h) (Or.inl ⟨by rfl, by intro w1 hw1; go_simp⟩) hS0 ?_
              try simp only [Act.put, List.getElem_toArray, List.getElem_cons_zero, List.getElem_cons_succ, List.setIfInBounds_toArray, List.set_cons_zero, List.set_cons_succ]
              refine wpAnyH_ready (fuel := 6) (rs := [4, 13]) (by kernel_rfl) (by simp) ?_
              refine AllReadyH.cons rfl (fun K' hK' => ?_) (AllReadyH.cons rfl (fun K' hK' => ?_) AllReadyH.nil)
              · rw [if_pos (by rfl)]
                go_wp2_with fail
                refine (NU.out k _).mono ?_
                rintro e V1 ⟨rfl, hb⟩
                have h1 := h0.trans (hb.mono h0.size)
                clear hb
                refine hK'.out _ _ (h1.mono HSZ.out) (fun _ => ?_)
                clear hK'
                try simp only [Act.put, List.getElem_toArray, List.getElem_cons_zero, List.getElem_cons_succ, List.setIfInBounds_toArray, List.set_cons_zero, List.set_cons_succ]
                refine wpAnyH_ready (fuel := 5) (rs := [10, 13]) (by kernel_rfl) (by simp) ?_
                refine AllReadyH.cons rfl (fun K' hK' => ?_) (AllReadyH.cons rfl (fun K' hK' => ?_) AllReadyH.nil)
                · rw [if_pos (by rfl)]
                  go_wp2_with fail
                  refine (NU.out (negI k) _).mono ?_
                  rintro e V2 ⟨rfl, hb⟩
                  have h2 := h1.trans (hb.mono h1.size)
                  clear hb
                  refine hK'.out _ _ (h2.mono HSZ.out) (fun _ => ?_)
                  clear hK'
                  try simp only [Act.put, List.getElem_toArray, List.getElem_cons_zero, List.getElem_cons_succ, List.setIfInBounds_toArray, List.set_cons_zero, List.set_cons_succ]
                  refine wpAnyH_ready (fuel := 4) (rs := [11, 13]) (by kernel_rfl) (by simp) ?_
                  refine AllReadyH.cons rfl (fun K' hK' => ?_) (AllReadyH.cons rfl (fun K' hK' => ?_) AllReadyH.nil)
                  · rw [if_pos (by rfl)]
                    go_wp2_with fail
                    have aa := Blk.new V2 #[.int .i64 6, .string ⟨#[]⟩, .int .u64 (k % 18446744073709551616), .int .u64 0, .string ⟨#[]⟩, slV sl0, slV sl0, .int .i64 0, .int .i64 6, .string ⟨#[]⟩, .int .u64 (negI k % 18446744073709551616), .int .u64 0, .string ⟨#[]⟩, slV sl0, slV sl0, .int .i64 0] 29
                    have ol := World.ownsRow_lit (base := WX.heap.size) (e := 29) (size := 8) V2 #[.int .i64 6, .string ⟨#[]⟩, .int .u64 (k % 18446744073709551616), .int .u64 0, .string ⟨#[]⟩, slV sl0, slV sl0, .int .i64 0, .int .i64 6, .string ⟨#[]⟩, .int .u64 (negI k % 18446744073709551616), .int .u64 0, .string ⟨#[]⟩, slV sl0, slV sl0, .int .i64 0] 2 h2.size (by unfold maxLen; omega) rfl
                    have h3 := h2.alloc h2.size (.cells #[.int .i64 6, .string ⟨#[]⟩, .int .u64 (k % 18446744073709551616), .int .u64 0, .string ⟨#[]⟩, slV sl0, slV sl0, .int .i64 0, .int .i64 6, .string ⟨#[]⟩, .int .u64 (negI k % 18446744073709551616), .int .u64 0, .string ⟨#[]⟩, slV sl0, slV sl0, .int .i64 0] 29)
                    obtain ⟨V3, hV3⟩ : ∃ V3, World.alloc V2 (.cells #[.int .i64 6, .string ⟨#[]⟩, .int .u64 (k % 18446744073709551616), .int .u64 0, .string ⟨#[]⟩, slV sl0, slV sl0, .int .i64 0, .int .i64 6, .string ⟨#[]⟩, .int .u64 (negI k % 18446744073709551616), .int .u64 0, .string ⟨#[]⟩, slV sl0, slV sl0, .int .i64 0] 29) = V3 := ⟨_, rfl⟩
                    obtain ⟨g, hg⟩ : ∃ g, V2.heap.size = g := ⟨_, rfl⟩
                    rw [hV3] at aa ol h3 ⊢
                    rw [hg] at aa ol ⊢
                    clear hV3 hg
                    refine hK'.out _ _ (h3.mono HSZ.out) (fun _ => ?_)
                    clear hK'
                    try simp only [Act.put, List.getElem_toArray, List.getElem_cons_zero, List.getElem_cons_succ, List.setIfInBounds_toArray, List.set_cons_zero, List.set_cons_succ]
                    refine wpAnyH_ready (fuel := 3) (rs := [13]) (by kernel_rfl) (by simp) ?_
                    refine AllReadyH.cons rfl (fun K' hK' => ?_) AllReadyH.nil
                    rw [if_pos (by rfl)]
                    have cB : V3.cell? ⟨B, 6, none⟩ = some (.slice Ab nb cb) := (hM3.out.keep h3).bb.cell 6
                    go_wp2_with fail
                    refine hK'.out _ _ (h3.mono HSZ.out) (fun _ => ?_)
                    clear hK'
                    try simp only [Act.put, List.getElem_toArray, List.getElem_cons_zero, List.getElem_cons_succ, List.setIfInBounds_toArray, List.set_cons_zero, List.set_cons_succ]
                    refine wpAnyH_ready (fuel := 2) (rs := [14]) (by kernel_rfl) (by simp) ?_
                    refine AllReadyH.cons rfl (fun K' hK' => ?_) AllReadyH.nil
                    have k3 := hM3.out.keep h3
                    obtain ⟨hnb0, hcase⟩ := own_src k3.qo
                    have hnb : nb = (dsK ks.reverse).length := hnb0
                    clear hnb0
                    refine step_join rfl (.tmp 96) (.tmp 98) 25 29 rfl (.agg de0) 8 112 Tryz.underlying25 info_d8 rfl (by decide) (by decide) WX.heap.size _ 2 (rowL [deN k, deN (negI k)]) rfl ol Ab nb cb rfl (rowL (dsK ks.reverse)) (by rw [rowL_len, hnb]) (rowL_one _) hcase h3.size (by rw [hnb, dsK_len, List.length_reverse]; have := hK.out.kslen; omega) ?_
                    intro v99 V4 o4 b4
                    have h4 : Below w.heap.size WX V4 := (h3.mono HSZ.out).trans (b4.mono HSZ.out)
                    refine hK'.out _ _ h4 (fun _ => ?_)
                    clear hK'
                    try simp only [Act.put, List.getElem_toArray, List.getElem_cons_zero, List.getElem_cons_succ, List.setIfInBounds_toArray, List.set_cons_zero, List.set_cons_succ]
                    obtain ⟨g2, c4, rfl, _, _, _⟩ := own_adr o4
                    have M5 := hM3.out.push2 (paB' := ⟨adr g2, 2 + nb, c4⟩) (new := [deN k, deN (negI k)] ++ dsK ks.reverse) (by rw [List.length_append, rowL_append, ← hnb]; exact o4) (h3.trans b4)
                    have k4 := hM3.out.keep (h3.trans b4)
                    have cS : V4.cell? ⟨B, 6, none⟩ = some (.slice Ab nb cb) := k4.bb.cell 6
                    have fS := k4.bb.frozen 6
                    have M5 := hid M5
                    clear o4 b4 aa ol k3 k4 hnb hcase
                    refine wpAnyH_take (i := 15) (fuel := 1) (v := .pointer (some ⟨B, 6, none⟩)) rfl (by kernel_rfl) (by kernel_rfl) (by kernel_rfl) (fun _ _ _ h => h) (Or.inl ⟨by rfl, by intro w1 hw1; go_simp⟩) h4 ?_
                    try simp only [Act.put, List.getElem_toArray, List.getElem_cons_zero, List.getElem_cons_succ, List.setIfInBounds_toArray, List.set_cons_zero, List.set_cons_succ]
                    refine wpAnyH_ready (fuel := 0) (rs := [16]) (by kernel_rfl) (by simp) ?_
                    refine AllReadyH.cons rfl (fun K' hK' => ?_) AllReadyH.nil
                    rw [if_pos (by rfl)]
                    go_wp2_with fail
                    refine hK'.out _ _ (h4.setCell (p := ⟨B, 6, none⟩) (by have := M5.out.hB; show _ ≤ B; omega) _) (fun _ => ?_)
                    clear hK'
                    try simp only [Act.put, List.getElem_toArray, List.getElem_cons_zero, List.getElem_cons_succ, List.setIfInBounds_toArray, List.set_cons_zero, List.set_cons_succ]
                    refine wpAnyH_done (by kernel_rfl) ?_ _
                    go_wp2_with fail
                    go_roundw
                    case rel => exact ⟨go2, n + 1, c2, i + 1, ks ++ [k], insI l p k, ⟨Ad2, nd2, cd2⟩, ⟨adr g2, 2 + nb, c4⟩, rfl, by go_num, hil, by rw [insI_len l p k (by rw [← HN.out]; exact hp), ← HN.out], hnc2, hcm2, by omega, hgo2, KI, by rw [dsK_snoc, dsK_rev]; exact M5⟩
                    case measure => simp [intOf]; omega
                  · rw [if_pos (by rfl)]
                    have cB : V2.cell? ⟨B, 6, none⟩ = some (.slice Ab nb cb) := (hM3.out.keep h2).bb.cell 6
                    go_wp2_with fail
                    refine hK'.out _ _ (h2.mono HSZ.out) (fun _ => ?_)
                    clear hK'
                    try simp only [Act.put, List.getElem_toArray, List.getElem_cons_zero, List.getElem_cons_succ, List.setIfInBounds_toArray, List.set_cons_zero, List.set_cons_succ]
                    refine wpAnyH_ready (fuel := 3) (rs := [11]) (by kernel_rfl) (by simp) ?_
                    refine AllReadyH.cons rfl (fun K' hK' => ?_) AllReadyH.nil
                    rw [if_pos (by rfl)]
                    go_wp2_with fail
                    have aa := Blk.new V2 #[.int .i64 6, .string ⟨#[]⟩, .int .u64 (k % 18446744073709551616), .int .u64 0, .string ⟨#[]⟩, slV sl0, slV sl0, .int .i64 0, .int .i64 6, .string ⟨#[]⟩, .int .u64 (negI k % 18446744073709551616), .int .u64 0, .string ⟨#[]⟩, slV sl0, slV sl0, .int .i64 0] 29
                    have ol := World.ownsRow_lit (base := WX.heap.size) (e := 29) (size := 8) V2 #[.int .i64 6, .string ⟨#[]⟩, .int .u64 (k % 18446744073709551616), .int .u64 0, .string ⟨#[]⟩, slV sl0, slV sl0, .int .i64 0, .int .i64 6, .string ⟨#[]⟩, .int .u64 (negI k % 18446744073709551616), .int .u64 0, .string ⟨#[]⟩, slV sl0, slV sl0, .int .i64 0] 2 h2.size (by unfold maxLen; omega) rfl
                    have h3 := h2.alloc h2.size (.cells #[.int .i64 6, .string ⟨#[]⟩, .int .u64 (k % 18446744073709551616), .int .u64 0, .string ⟨#[]⟩, slV sl0, slV sl0, .int .i64 0, .int .i64 6, .string ⟨#[]⟩, .int .u64 (negI k % 18446744073709551616), .int .u64 0, .string ⟨#[]⟩, slV sl0, slV sl0, .int .i64 0] 29)
                    obtain ⟨V3, hV3⟩ : ∃ V3, World.alloc V2 (.cells #[.int .i64 6, .string ⟨#[]⟩, .int .u64 (k % 18446744073709551616), .int .u64 0, .string ⟨#[]⟩, slV sl0, slV sl0, .int .i64 0, .int .i64 6, .string ⟨#[]⟩, .int .u64 (negI k % 18446744073709551616), .int .u64 0, .string ⟨#[]⟩, slV sl0, slV sl0, .int .i64 0] 29) = V3 := ⟨_, rfl⟩
                    obtain ⟨g, hg⟩ : ∃ g, V2.heap.size = g := ⟨_, rfl⟩
                    rw [hV3] at aa ol h3 ⊢
                    rw [hg] at aa ol ⊢
                    clear hV3 hg
                    refine hK'.out _ _ (h3.mono HSZ.out) (fun _ => ?_)
                    clear hK'
                    try simp only [Act.put, List.getElem_toArray, List.getElem_cons_zero, List.getElem_cons_succ, List.setIfInBounds_toArray, List.set_cons_zero, List.set_cons_succ]
                    refine wpAnyH_ready (fuel := 2) (rs := [14]) (by kernel_rfl) (by simp) ?_
                    refine AllReadyH.cons rfl (fun K' hK' => ?_) AllReadyH.nil
                    have k3 := hM3.out.keep h3
                    obtain ⟨hnb0, hcase⟩ := own_src k3.qo
                    have hnb : nb = (dsK ks.reverse).length := hnb0
                    clear hnb0
                    refine step_join rfl (.tmp 96) (.tmp 98) 25 29 rfl (.agg de0) 8 112 Tryz.underlying25 info_d8 rfl (by decide) (by decide) WX.heap.size _ 2 (rowL [deN k, deN (negI k)]) rfl ol Ab nb cb rfl (rowL (dsK ks.reverse)) (by rw [rowL_len, hnb]) (rowL_one _) hcase h3.size (by rw [hnb, dsK_len, List.length_reverse]; have := hK.out.kslen; omega) ?_
                    intro v99 V4 o4 b4
                    have h4 : Below w.heap.size WX V4 := (h3.mono HSZ.out).trans (b4.mono HSZ.out)
                    refine hK'.out _ _ h4 (fun _ => ?_)
                    clear hK'
                    try simp only [Act.put, List.getElem_toArray, List.getElem_cons_zero, List.getElem_cons_succ, List.setIfInBounds_toArray, List.set_cons_zero, List.set_cons_succ]
                    obtain ⟨g2, c4, rfl, _, _, _⟩ := own_adr o4
                    have M5 := hM3.out.push2 (paB' := ⟨adr g2, 2 + nb, c4⟩) (new := [deN k, deN (negI k)] ++ dsK ks.reverse) (by rw [List.length_append, rowL_append, ← hnb]; exact o4) (h3.trans b4)
                    have k4 := hM3.out.keep (h3.trans b4)
                    have cS : V4.cell? ⟨B, 6, none⟩ = some (.slice Ab nb cb) := k4.bb.cell 6
                    have fS := k4.bb.frozen 6
                    have M5 := hid M5
                    clear o4 b4 aa ol k3 k4 hnb hcase
                    refine wpAnyH_take (i := 15) (fuel := 1) (v := .pointer (some ⟨B, 6, none⟩)) rfl (by kernel_rfl) (by kernel_rfl) (by kernel_rfl) (fun _ _ _ h => h) (Or.inl ⟨by rfl, by intro w1 hw1; go_simp⟩) h4 ?_
                    try simp only [Act.put, List.getElem_toArray, List.getElem_cons_zero, List.getElem_cons_succ, List.setIfInBounds_toArray, List.set_cons_zero, List.set_cons_succ]
                    refine wpAnyH_ready (fuel := 0) (rs := [16]) (by kernel_rfl) (by simp) ?_
                    refine AllReadyH.cons rfl (fun K' hK' => ?_) AllReadyH.nil
                    rw [if_pos (by rfl)]
                    go_wp2_with fail
                    refine hK'.out _ _ (h4.setCell (p := ⟨B, 6, none⟩) (by have := M5.out.hB; show _ ≤ B; omega) _) (fun _ => ?_)
                    clear hK'
                    try simp only [Act.put, List.getElem_toArray, List.getElem_cons_zero, List.getElem_cons_succ, List.setIfInBounds_toArray, List.set_cons_zero, List.set_cons_succ]
                    refine wpAnyH_done (by kernel_rfl) ?_ _
                    go_wp2_with fail
                    go_roundw
                    case rel => exact ⟨go2, n + 1, c2, i + 1, ks ++ [k], insI l p k, ⟨Ad2, nd2, cd2⟩, ⟨adr g2, 2 + nb, c4⟩, rfl, by go_num, hil, by rw [insI_len l p k (by rw [← HN.out]; exact hp), ← HN.out], hnc2, hcm2, by omega, hgo2, KI, by rw [dsK_snoc, dsK_rev]; exact M5⟩
                    case measure => simp [intOf]; omega
                · rw [if_pos (by rfl)]
                  have cB : V1.cell? ⟨B, 6, none⟩ = some (.slice Ab nb cb) := (hM3.out.keep h1).bb.cell 6
                  go_wp2_with fail
                  refine hK'.out _ _ (h1.mono HSZ.out) (fun _ => ?_)
                  clear hK'
                  try simp only [Act.put, List.getElem_toArray, List.getElem_cons_zero, List.getElem_cons_succ, List.setIfInBounds_toArray, List.set_cons_zero, List.set_cons_succ]
                  refine wpAnyH_ready (fuel := 4) (rs := [10]) (by kernel_rfl) (by simp) ?_
                  refine AllReadyH.cons rfl (fun K' hK' => ?_) AllReadyH.nil
                  rw [if_pos (by rfl)]
                  go_wp2_with fail
                  refine (NU.out (negI k) _).mono ?_
                  rintro e V2 ⟨rfl, hb⟩
                  have h2 := h1.trans (hb.mono h1.size)
                  clear hb
                  refine hK'.out _ _ (h2.mono HSZ.out) (fun _ => ?_)
                  clear hK'
                  try simp only [Act.put, List.getElem_toArray, List.getElem_cons_zero, List.getElem_cons_succ, List.setIfInBounds_toArray, List.set_cons_zero, List.set_cons_succ]
                  refine wpAnyH_ready (fuel := 3) (rs := [11]) (by kernel_rfl) (by simp) ?_
                  refine AllReadyH.cons rfl (fun K' hK' => ?_) AllReadyH.nil
                  rw [if_pos (by rfl)]
                  go_wp2_with fail
                  have aa := Blk.new V2 #[.int .i64 6, .string ⟨#[]⟩, .int .u64 (k % 18446744073709551616), .int .u64 0, .string ⟨#[]⟩, slV sl0, slV sl0, .int .i64 0, .int .i64 6, .string ⟨#[]⟩, .int .u64 (negI k % 18446744073709551616), .int .u64 0, .string ⟨#[]⟩, slV sl0, slV sl0, .int .i64 0] 29
                  have ol := World.ownsRow_lit (base := WX.heap.size) (e := 29) (size := 8) V2 #[.int .i64 6, .string ⟨#[]⟩, .int .u64 (k % 18446744073709551616), .int .u64 0, .string ⟨#[]⟩, slV sl0, slV sl0, .int .i64 0, .int .i64 6, .string ⟨#[]⟩, .int .u64 (negI k % 18446744073709551616), .int .u64 0, .string ⟨#[]⟩, slV sl0, slV sl0, .int .i64 0] 2 h2.size (by unfold maxLen; omega) rfl
                  have h3 := h2.alloc h2.size (.cells #[.int .i64 6, .string ⟨#[]⟩, .int .u64 (k % 18446744073709551616), .int .u64 0, .string ⟨#[]⟩, slV sl0, slV sl0, .int .i64 0, .int .i64 6, .string ⟨#[]⟩, .int .u64 (negI k % 18446744073709551616), .int .u64 0, .string ⟨#[]⟩, slV sl0, slV sl0, .int .i64 0] 29)
                  obtain ⟨V3, hV3⟩ : ∃ V3, World.alloc V2 (.cells #[.int .i64 6, .string ⟨#[]⟩, .int .u64 (k % 18446744073709551616), .int .u64 0, .string ⟨#[]⟩, slV sl0, slV sl0, .int .i64 0, .int .i64 6, .string ⟨#[]⟩, .int .u64 (negI k % 18446744073709551616), .int .u64 0, .string ⟨#[]⟩, slV sl0, slV sl0, .int .i64 0] 29) = V3 := ⟨_, rfl⟩
                  obtain ⟨g, hg⟩ : ∃ g, V2.heap.size = g := ⟨_, rfl⟩
                  rw [hV3] at aa ol h3 ⊢
                  rw [hg] at aa ol ⊢
                  clear hV3 hg
                  refine hK'.out _ _ (h3.mono HSZ.out) (fun _ => ?_)
                  clear hK'
                  try simp only [Act.put, List.getElem_toArray, List.getElem_cons_zero, List.getElem_cons_succ, List.setIfInBounds_toArray, List.set_cons_zero, List.set_cons_succ]
                  refine wpAnyH_ready (fuel := 2) (rs := [14]) (by kernel_rfl) (by simp) ?_
                  refine AllReadyH.cons rfl (fun K' hK' => ?_) AllReadyH.nil
                  have k3 := hM3.out.keep h3
                  obtain ⟨hnb0, hcase⟩ := own_src k3.qo
                  have hnb : nb = (dsK ks.reverse).length := hnb0
                  clear hnb0
                  refine step_join rfl (.tmp 96) (.tmp 98) 25 29 rfl (.agg de0) 8 112 Tryz.underlying25 info_d8 rfl (by decide) (by decide) WX.heap.size _ 2 (rowL [deN k, deN (negI k)]) rfl ol Ab nb cb rfl (rowL (dsK ks.reverse)) (by rw [rowL_len, hnb]) (rowL_one _) hcase h3.size (by rw [hnb, dsK_len, List.length_reverse]; have := hK.out.kslen; omega) ?_
                  intro v99 V4 o4 b4
                  have h4 : Below w.heap.size WX V4 := (h3.mono HSZ.out).trans (b4.mono HSZ.out)
                  refine hK'.out _ _ h4 (fun _ => ?_)
                  clear hK'
                  try simp only [Act.put, List.getElem_toArray, List.getElem_cons_zero, List.getElem_cons_succ, List.setIfInBounds_toArray, List.set_cons_zero, List.set_cons_succ]
                  obtain ⟨g2, c4, rfl, _, _, _⟩ := own_adr o4
                  have M5 := hM3.out.push2 (paB' := ⟨adr g2, 2 + nb, c4⟩) (new := [deN k, deN (negI k)] ++ dsK ks.reverse) (by rw [List.length_append, rowL_append, ← hnb]; exact o4) (h3.trans b4)
                  have k4 := hM3.out.keep (h3.trans b4)
                  have cS : V4.cell? ⟨B, 6, none⟩ = some (.slice Ab nb cb) := k4.bb.cell 6
                  have fS := k4.bb.frozen 6
                  have M5 := hid M5
                  clear o4 b4 aa ol k3 k4 hnb hcase
                  refine wpAnyH_take (i := 15) (fuel := 1) (v := .pointer (some ⟨B, 6, none⟩)) rfl (by kernel_rfl) (by kernel_rfl) (by kernel_rfl) (fun _ _ _ h => h) (Or.inl ⟨by rfl, by intro w1 hw1; go_simp⟩) h4 ?_
                  try simp only [Act.put, List.getElem_toArray, List.getElem_cons_zero, List.getElem_cons_succ, List.setIfInBounds_toArray, List.set_cons_zero, List.set_cons_succ]
                  refine wpAnyH_ready (fuel := 0) (rs := [16]) (by kernel_rfl) (by simp) ?_
                  refine AllReadyH.cons rfl (fun K' hK' => ?_) AllReadyH.nil
                  rw [if_pos (by rfl)]
                  go_wp2_with fail
                  refine hK'.out _ _ (h4.setCell (p := ⟨B, 6, none⟩) (by have := M5.out.hB; show _ ≤ B; omega) _) (fun _ => ?_)
                  clear hK'
                  try simp only [Act.put, List.getElem_toArray, List.getElem_cons_zero, List.getElem_cons_succ, List.setIfInBounds_toArray, List.set_cons_zero, List.set_cons_succ]
                  refine wpAnyH_done (by kernel_rfl) ?_ _
                  go_wp2_with fail
                  go_roundw
                  case rel => exact ⟨go2, n + 1, c2, i + 1, ks ++ [k], insI l p k, ⟨Ad2, nd2, cd2⟩, ⟨adr g2, 2 + nb, c4⟩, rfl, by go_num, hil, by rw [insI_len l p k (by rw [← HN.out]; exact hp), ← HN.out], hnc2, hcm2, by omega, hgo2, KI, by rw [dsK_snoc, dsK_rev]; exact M5⟩
                  case measure => simp [intOf]; omega
              · rw [if_pos (by rfl)]
                have cB : V0.cell? ⟨B, 6, none⟩ = some (.slice Ab nb cb) := (hM3.out.keep h0).bb.cell 6
                go_wp2_with fail
                refine hK'.out _ _ (h0.mono HSZ.out) (fun _ => ?_)
                clear hK'
                try simp only [Act.put, List.getElem_toArray, List.getElem_cons_zero, List.getElem_cons_succ, List.setIfInBounds_toArray, List.set_cons_zero, List.set_cons_succ]
                refine wpAnyH_ready (fuel := 5) (rs := [4]) (by kernel_rfl) (by simp) ?_
                refine AllReadyH.cons rfl (fun K' hK' => ?_) AllReadyH.nil
                rw [if_pos (by rfl)]
                go_wp2_with fail
                refine (NU.out k _).mono ?_
                rintro e V1 ⟨rfl, hb⟩
                have h1 := h0.trans (hb.mono h0.size)
                clear hb
                refine hK'.out _ _ (h1.mono HSZ.out) (fun _ => ?_)
                clear hK'
                try simp only [Act.put, List.getElem_toArray, List.getElem_cons_zero, List.getElem_cons_succ, List.setIfInBounds_toArray, List.set_cons_zero, List.set_cons_succ]
                refine wpAnyH_ready (fuel := 4) (rs := [10]) (by kernel_rfl) (by simp) ?_
                refine AllReadyH.cons rfl (fun K' hK' => ?_) AllReadyH.nil
                rw [if_pos (by rfl)]
                go_wp2_with fail
                refine (NU.out (negI k) _).mono ?_
                rintro e V2 ⟨rfl, hb⟩
                have h2 := h1.trans (hb.mono h1.size)
                clear hb
                refine hK'.out _ _ (h2.mono HSZ.out) (fun _ => ?_)
                clear hK'
                try simp only [Act.put, List.getElem_toArray, List.getElem_cons_zero, List.getElem_cons_succ, List.setIfInBounds_toArray, List.set_cons_zero, List.set_cons_succ]
                refine wpAnyH_ready (fuel := 3) (rs := [11]) (by kernel_rfl) (by simp) ?_
                refine AllReadyH.cons rfl (fun K' hK' => ?_) AllReadyH.nil
                rw [if_pos (by rfl)]
                go_wp2_with fail
                have aa := Blk.new V2 #[.int .i64 6, .string ⟨#[]⟩, .int .u64 (k % 18446744073709551616), .int .u64 0, .string ⟨#[]⟩, slV sl0, slV sl0, .int .i64 0, .int .i64 6, .string ⟨#[]⟩, .int .u64 (negI k % 18446744073709551616), .int .u64 0, .string ⟨#[]⟩, slV sl0, slV sl0, .int .i64 0] 29
                have ol := World.ownsRow_lit (base := WX.heap.size) (e := 29) (size := 8) V2 #[.int .i64 6, .string ⟨#[]⟩, .int .u64 (k % 18446744073709551616), .int .u64 0, .string ⟨#[]⟩, slV sl0, slV sl0, .int .i64 0, .int .i64 6, .string ⟨#[]⟩, .int .u64 (negI k % 18446744073709551616), .int .u64 0, .string ⟨#[]⟩, slV sl0, slV sl0, .int .i64 0] 2 h2.size (by unfold maxLen; omega) rfl
                have h3 := h2.alloc h2.size (.cells #[.int .i64 6, .string ⟨#[]⟩, .int .u64 (k % 18446744073709551616), .int .u64 0, .string ⟨#[]⟩, slV sl0, slV sl0, .int .i64 0, .int .i64 6, .string ⟨#[]⟩, .int .u64 (negI k % 18446744073709551616), .int .u64 0, .string ⟨#[]⟩, slV sl0, slV sl0, .int .i64 0] 29)
                obtain ⟨V3, hV3⟩ : ∃ V3, World.alloc V2 (.cells #[.int .i64 6, .string ⟨#[]⟩, .int .u64 (k % 18446744073709551616), .int .u64 0, .string ⟨#[]⟩, slV sl0, slV sl0, .int .i64 0, .int .i64 6, .string ⟨#[]⟩, .int .u64 (negI k % 18446744073709551616), .int .u64 0, .string ⟨#[]⟩, slV sl0, slV sl0, .int .i64 0] 29) = V3 := ⟨_, rfl⟩
                obtain ⟨g, hg⟩ : ∃ g, V2.heap.size = g := ⟨_, rfl⟩
                rw [hV3] at aa ol h3 ⊢
                rw [hg] at aa ol ⊢
                clear hV3 hg
                refine hK'.out _ _ (h3.mono HSZ.out) (fun _ => ?_)
                clear hK'
                try simp only [Act.put, List.getElem_toArray, List.getElem_cons_zero, List.getElem_cons_succ, List.setIfInBounds_toArray, List.set_cons_zero, List.set_cons_succ]
                refine wpAnyH_ready (fuel := 2) (rs := [14]) (by kernel_rfl) (by simp) ?_
                refine AllReadyH.cons rfl (fun K' hK' => ?_) AllReadyH.nil
                have k3 := hM3.out.keep h3
                obtain ⟨hnb0, hcase⟩ := own_src k3.qo
                have hnb : nb = (dsK ks.reverse).length := hnb0
                clear hnb0
                refine step_join rfl (.tmp 96) (.tmp 98) 25 29 rfl (.agg de0) 8 112 Tryz.underlying25 info_d8 rfl (by decide) (by decide) WX.heap.size _ 2 (rowL [deN k, deN (negI k)]) rfl ol Ab nb cb rfl (rowL (dsK ks.reverse)) (by rw [rowL_len, hnb]) (rowL_one _) hcase h3.size (by rw [hnb, dsK_len, List.length_reverse]; have := hK.out.kslen; omega) ?_
                intro v99 V4 o4 b4
                have h4 : Below w.heap.size WX V4 := (h3.mono HSZ.out).trans (b4.mono HSZ.out)
                refine hK'.out _ _ h4 (fun _ => ?_)
                clear hK'
                try simp only [Act.put, List.getElem_toArray, List.getElem_cons_zero, List.getElem_cons_succ, List.setIfInBounds_toArray, List.set_cons_zero, List.set_cons_succ]
                obtain ⟨g2, c4, rfl, _, _, _⟩ := own_adr o4
                have M5 := hM3.out.push2 (paB' := ⟨adr g2, 2 + nb, c4⟩) (new := [deN k, deN (negI k)] ++ dsK ks.reverse) (by rw [List.length_append, rowL_append, ← hnb]; exact o4) (h3.trans b4)
                have k4 := hM3.out.keep (h3.trans b4)
                have cS : V4.cell? ⟨B, 6, none⟩ = some (.slice Ab nb cb) := k4.bb.cell 6
                have fS := k4.bb.frozen 6
                have M5 := hid M5
                clear o4 b4 aa ol k3 k4 hnb hcase
                refine wpAnyH_take (i := 15) (fuel := 1) (v := .pointer (some ⟨B, 6, none⟩)) rfl (by kernel_rfl) (by kernel_rfl) (by kernel_rfl) (fun _ _ _ h => h) (Or.inl ⟨by rfl, by intro w1 hw1; go_simp⟩) h4 ?_
                try simp only [Act.put, List.getElem_toArray, List.getElem_cons_zero, List.getElem_cons_succ, List.setIfInBounds_toArray, List.set_cons_zero, List.set_cons_succ]
                refine wpAnyH_ready (fuel := 0) (rs := [16]) (by kernel_rfl) (by simp) ?_
                refine AllReadyH.cons rfl (fun K' hK' => ?_) AllReadyH.nil
                rw [if_pos (by rfl)]
                go_wp2_with fail
                refine hK'.out _ _ (h4.setCell (p := ⟨B, 6, none⟩) (by have := M5.out.hB; show _ ≤ B; omega) _) (fun _ => ?_)
                clear hK'
                try simp only [Act.put, List.getElem_toArray, List.getElem_cons_zero, List.getElem_cons_succ, List.setIfInBounds_toArray, List.set_cons_zero, List.set_cons_succ]
                refine wpAnyH_done (by kernel_rfl) ?_ _
                go_wp2_with fail
                go_roundw
                case rel => exact ⟨go2, n + 1, c2, i + 1, ks ++ [k], insI l p k, ⟨Ad2, nd2, cd2⟩, ⟨adr g2, 2 + nb, c4⟩, rfl, by go_num, hil, by rw [insI_len l p k (by rw [← HN.out]; exact hp), ← HN.out], hnc2, hcm2, by omega, hgo2, KI, by rw [dsK_snoc, dsK_rev]; exact M5⟩
                case measure => simp [intOf]; omega
    · obtain ⟨WX, rfl⟩ : ∃ WX, WX = wr := ⟨_, rfl⟩
      have LV := hid (fun W h => lives_any W h)
      go_upto_region 4 with fail
      go_cut [22] (fun x wn => x = .bool false ∧ WX = wn)
      case first =>
        by_cases hil : i < len
        · have d1 : decide ((i : Int) < (len : Int)) = true := decide_eq_true (by omega)
          have d2 : decide ((n : Int) < 10) = false := decide_eq_false (by omega)
          go_wp2_with fail
          go_meet
          exact ⟨rfl, rfl⟩
        · have d1 : decide ((i : Int) < (len : Int)) = false := decide_eq_false (by omega)
          go_wp2_with fail
          go_meet
          exact ⟨rfl, rfl⟩
      case rest =>
        obtain ⟨rfl, rfl⟩ := hcut
        go_wp2_with fail
        go_loopw [9, 103] (fun sv iv wr2 => ∃ (j : Nat), sv = .string (wantS (l.take j)) ∧ iv = .int .i64 j ∧ j ≤ n ∧ Hid (MapM w w.heap.size B (dsK ks) (dsK ks.reverse) l (.slice ao n c) ⟨Ad, nd, cd⟩ ⟨Ab, nb, cb⟩ wr2)) (fun _ iv _ => n - (intOf iv).toNat)
        case atStart => exact ⟨0, rfl, rfl, Nat.zero_le _, hM⟩
        case round =>
          obtain ⟨j, rfl, rfl, hj, hM2⟩ := hrel
          have hsz := want_size l j (by rw [← HN.out]; exact hj) hK.out.i64
          obtain ⟨S, hS⟩ : ∃ S, wantS (l.take j) = S := ⟨_, rfl⟩
          rw [hS] at hsz
          rw [hS]
          have HSS := hid hS
          clear hS
          by_cases hjn : j < n
          · obtain ⟨g, rfl⟩ : ∃ g, go = some g := by
              cases go with
              | none => have := hgo.out rfl; omega
              | some g => exact ⟨g, rfl⟩
            obtain ⟨k, hx⟩ : ∃ k, l[j]? = some k := ⟨_, List.getElem?_eq_getElem (by rw [← HN.out]; exact hjn)⟩
            have hao' : ao = some ⟨g, 0, none⟩ := HAO.out.symm
            have hKx := hK.out.i64 k (List.mem_of_getElem? hx)
            have hxc : wr.cell? ⟨g, j, none⟩ = some (.int .i64 k) := by
              have h := hM2.out.lo
              rw [hao'] at h
              have := h.cells (g := g) rfl j (.int .i64 k) (by rw [List.getElem?_map, hx]; rfl)
              simpa [Addr.add_lit] using this
            subst hao'
            have HX := hid hx
            have HK64 := hid hKx
            have hP := numS_size k hKx
            have hN := numS_size (negI k) (negI_b k)
            have P1 := hid (fun sl W hT hA hc => print_num k hKx sl W hT hA hc)
            have P2 := hid (fun sl W hT hA hc => print_num (negI k) (negI_b k) sl W hT hA hc)
            have hneg : IntKind.i64.wrap (-k) = negI k := neg_wrap k
            obtain ⟨P, hPP⟩ : ∃ P, numS k = P := ⟨_, rfl⟩
            obtain ⟨N, hNN⟩ : ∃ N, numS (negI k) = N := ⟨_, rfl⟩
            obtain ⟨PC, hPC⟩ : ∃ PC, P ++ (⟨#[58]⟩ : ByteArray) = PC := ⟨_, rfl⟩
            obtain ⟨IT, hIT⟩ : ∃ IT, PC ++ N = IT := ⟨_, rfl⟩
            rw [hPP] at hP P1
            rw [hNN] at hN P2
            have HIT := hid (show (numS k ++ (⟨#[58]⟩ : ByteArray)) ++ numS (negI k) = IT from by rw [hPP, hNN, hPC, hIT])
            have s1 : PC.size = P.size + 1 := by rw [← hPC, ByteArray.size_append]; rfl
            have s2 : IT.size = PC.size + N.size := by rw [← hIT, ByteArray.size_append]
            have z1 : ¬ 9223372036854775807 < P.size + 1 := by omega
            have z2 : ¬ 9223372036854775807 < PC.size + N.size := by omega
            have hITz : IT.size ≤ 141 := by omega
            clear hx hKx hPP hNN s1 s2 hP hN
            by_cases hj0 : j = 0
            · subst hj0
              obtain ⟨WN, hWN⟩ : ∃ WN, S ++ IT = WN := ⟨_, rfl⟩
              have HWN := hid (show wantS (l.take (0 + 1)) = WN from by rw [want_snoc l 0 k HX.out HK64.out, if_pos rfl, HSS.out, HIT.out, hWN])
              have z3 : ¬ 9223372036854775807 < S.size + IT.size := by omega
              obtain ⟨WY, rfl⟩ : ∃ WY, WY = wr := ⟨_, rfl⟩
              have H0 := hid (Below.refl WY.heap.size WY)
              go_wp2_with fail
              refine (NU.out k _).mono ?_
              rintro e V1 ⟨rfl, hb⟩
              have H1 := hid (H0.out.trans (hb.mono H0.out.size))
              clear hb
              go_wp2_with fail
              have aa := Blk.new V1 #[.int .i64 6, .string ⟨#[]⟩, .int .u64 (k % 18446744073709551616), .int .u64 0, .string ⟨#[]⟩, slV sl0, slV sl0, .int .i64 0] 29
              have hC := H1.out.alloc H1.out.size (.cells #[.int .i64 6, .string ⟨#[]⟩, .int .u64 (k % 18446744073709551616), .int .u64 0, .string ⟨#[]⟩, slV sl0, slV sl0, .int .i64 0] 29)
              have AA : ArgsAt (World.alloc V1 (.cells #[.int .i64 6, .string ⟨#[]⟩, .int .u64 (k % 18446744073709551616), .int .u64 0, .string ⟨#[]⟩, slV sl0, slV sl0, .int .i64 0] 29)) ⟨some ⟨V1.heap.size, 0, none⟩, 1, 1⟩ [deN k] := argsAt_row [deN k] aa rfl rfl
              refine (P1.out ⟨some ⟨V1.heap.size, 0, none⟩, 1, 1⟩ (World.alloc V1 (.cells #[.int .i64 6, .string ⟨#[]⟩, .int .u64 (k % 18446744073709551616), .int .u64 0, .string ⟨#[]⟩, slV sl0, slV sl0, .int .i64 0] 29)) (HT.out.below (hM2.out.low.trans (hC.mono hM2.out.low.size))) AA (by show (1 : Nat) ≤ 1; decide)).mono ?_
              rintro e V2 ⟨rfl, hb⟩
              have H2 := hid (hC.trans (hb.mono hC.size))
              clear hb hC aa AA
              go_wp2_with fail
              refine (NU.out (negI k) _).mono ?_
              rintro e V3 ⟨rfl, hb⟩
              have H3 := hid (H2.out.trans (hb.mono H2.out.size))
              clear hb
              go_wp2_with fail
              have aa := Blk.new V3 #[.int .i64 6, .string ⟨#[]⟩, .int .u64 ((negI k) % 18446744073709551616), .int .u64 0, .string ⟨#[]⟩, slV sl0, slV sl0, .int .i64 0] 29
              have hC := H3.out.alloc H3.out.size (.cells #[.int .i64 6, .string ⟨#[]⟩, .int .u64 ((negI k) % 18446744073709551616), .int .u64 0, .string ⟨#[]⟩, slV sl0, slV sl0, .int .i64 0] 29)
              have AA : ArgsAt (World.alloc V3 (.cells #[.int .i64 6, .string ⟨#[]⟩, .int .u64 ((negI k) % 18446744073709551616), .int .u64 0, .string ⟨#[]⟩, slV sl0, slV sl0, .int .i64 0] 29)) ⟨some ⟨V3.heap.size, 0, none⟩, 1, 1⟩ [deN (negI k)] := argsAt_row [deN (negI k)] aa rfl rfl
              refine (P2.out ⟨some ⟨V3.heap.size, 0, none⟩, 1, 1⟩ (World.alloc V3 (.cells #[.int .i64 6, .string ⟨#[]⟩, .int .u64 ((negI k) % 18446744073709551616), .int .u64 0, .string ⟨#[]⟩, slV sl0, slV sl0, .int .i64 0] 29)) (HT.out.below (hM2.out.low.trans (hC.mono hM2.out.low.size))) AA (by show (1 : Nat) ≤ 1; decide)).mono ?_
              rintro e V4 ⟨rfl, hb⟩
              have H4 := hid (hC.trans (hb.mono hC.size))
              clear hb hC aa AA
              have M6 := hid (hM2.out.keep H4.out)
              go_wp2_with fail
              go_roundw
              case rel => exact ⟨0 + 1, by rw [HWN.out], by go_num, by omega, M6⟩
              case measure => simp [intOf]; omega
            · obtain ⟨S1, hS1⟩ : ∃ S1, S ++ (⟨#[32]⟩ : ByteArray) = S1 := ⟨_, rfl⟩
              have hs1 : S1.size = S.size + 1 := by rw [← hS1, ByteArray.size_append]; rfl
              have HS1 := hid hS1
              have z0 : ¬ 9223372036854775807 < S.size + 1 := by omega
              have hgt : decide ((j : Int) > 0) = true := decide_eq_true (by omega)
              obtain ⟨WN, hWN⟩ : ∃ WN, S1 ++ IT = WN := ⟨_, rfl⟩
              have HWN := hid (show wantS (l.take (j + 1)) = WN from by rw [want_snoc l j k HX.out HK64.out, if_neg (by omega), HSS.out, HIT.out, HS1.out, hWN])
              have z3 : ¬ 9223372036854775807 < S1.size + IT.size := by omega
              obtain ⟨WY, rfl⟩ : ∃ WY, WY = wr := ⟨_, rfl⟩
              have H0 := hid (Below.refl WY.heap.size WY)
              go_wp2_with fail
              refine (NU.out k _).mono ?_
              rintro e V1 ⟨rfl, hb⟩
              have H1 := hid (H0.out.trans (hb.mono H0.out.size))
              clear hb
              go_wp2_with fail
              have aa := Blk.new V1 #[.int .i64 6, .string ⟨#[]⟩, .int .u64 (k % 18446744073709551616), .int .u64 0, .string ⟨#[]⟩, slV sl0, slV sl0, .int .i64 0] 29
              have hC := H1.out.alloc H1.out.size (.cells #[.int .i64 6, .string ⟨#[]⟩, .int .u64 (k % 18446744073709551616), .int .u64 0, .string ⟨#[]⟩, slV sl0, slV sl0, .int .i64 0] 29)
              have AA : ArgsAt (World.alloc V1 (.cells #[.int .i64 6, .string ⟨#[]⟩, .int .u64 (k % 18446744073709551616), .int .u64 0, .string ⟨#[]⟩, slV sl0, slV sl0, .int .i64 0] 29)) ⟨some ⟨V1.heap.size, 0, none⟩, 1, 1⟩ [deN k] := argsAt_row [deN k] aa rfl rfl
              refine (P1.out ⟨some ⟨V1.heap.size, 0, none⟩, 1, 1⟩ (World.alloc V1 (.cells #[.int .i64 6, .string ⟨#[]⟩, .int .u64 (k % 18446744073709551616), .int .u64 0, .string ⟨#[]⟩, slV sl0, slV sl0, .int .i64 0] 29)) (HT.out.below (hM2.out.low.trans (hC.mono hM2.out.low.size))) AA (by show (1 : Nat) ≤ 1; decide)).mono ?_
              rintro e V2 ⟨rfl, hb⟩
              have H2 := hid (hC.trans (hb.mono hC.size))
              clear hb hC aa AA
              go_wp2_with fail
              refine (NU.out (negI k) _).mono ?_
              rintro e V3 ⟨rfl, hb⟩
              have H3 := hid (H2.out.trans (hb.mono H2.out.size))
              clear hb
              go_wp2_with fail
              have aa := Blk.new V3 #[.int .i64 6, .string ⟨#[]⟩, .int .u64 ((negI k) % 18446744073709551616), .int .u64 0, .string ⟨#[]⟩, slV sl0, slV sl0, .int .i64 0] 29
              have hC := H3.out.alloc H3.out.size (.cells #[.int .i64 6, .string ⟨#[]⟩, .int .u64 ((negI k) % 18446744073709551616), .int .u64 0, .string ⟨#[]⟩, slV sl0, slV sl0, .int .i64 0] 29)
              have AA : ArgsAt (World.alloc V3 (.cells #[.int .i64 6, .string ⟨#[]⟩, .int .u64 ((negI k) % 18446744073709551616), .int .u64 0, .string ⟨#[]⟩, slV sl0, slV sl0, .int .i64 0] 29)) ⟨some ⟨V3.heap.size, 0, none⟩, 1, 1⟩ [deN (negI k)] := argsAt_row [deN (negI k)] aa rfl rfl
              refine (P2.out ⟨some ⟨V3.heap.size, 0, none⟩, 1, 1⟩ (World.alloc V3 (.cells #[.int .i64 6, .string ⟨#[]⟩, .int .u64 ((negI k) % 18446744073709551616), .int .u64 0, .string ⟨#[]⟩, slV sl0, slV sl0, .int .i64 0] 29)) (HT.out.below (hM2.out.low.trans (hC.mono hM2.out.low.size))) AA (by show (1 : Nat) ≤ 1; decide)).mono ?_
              rintro e V4 ⟨rfl, hb⟩
              have H4 := hid (hC.trans (hb.mono hC.size))
              clear hb hC aa AA
              have M6 := hid (hM2.out.keep H4.out)
              go_wp2_with fail
              go_roundw
              case rel => exact ⟨j + 1, by rw [HWN.out], by go_num, by omega, M6⟩
              case measure => simp [intOf]; omega
          · obtain rfl : j = n := by omega
            have hd : decide ((j : Int) < (j : Int)) = false := decide_eq_false (by omega)
            have hfull : wantS l = S := by rw [← HSS.out, HN.out, List.take_length]
            obtain ⟨R, hR⟩ : ∃ R, mapS (l.map itemT) = R := ⟨_, rfl⟩
            have hSR : S ++ (⟨#[93]⟩ : ByteArray) = R := by rw [← hfull, want_end, hR]
            have z1 : ¬ 9223372036854775807 < S.size + 1 := by omega
            have BEQ : (R.data.toList == R.data.toList) = true := by simp
            obtain ⟨V0, rfl⟩ : ∃ V0, V0 = wr := ⟨_, rfl⟩
            have PM1 := hid (fun sl W (hW : Below V0.heap.size V0 W) hA hcap => print_map fV 118 (by decide) fV_parse (Or.inl rfl) ⟨Ad, nd, cd⟩ ks l hK.out.kslen hK.out.ksi hK.out.perm hK.out.sort sl W (HT.out.below (hM2.out.low.trans (hW.mono hM2.out.low.size))) hA hcap (map_at (hM2.out.keep hW).po hK.out.kslen))
            have PM2 := hid (fun sl W (hW : Below V0.heap.size V0 W) hA hcap => print_map fV 118 (by decide) fV_parse (Or.inl rfl) ⟨Ab, nb, cb⟩ ks.reverse l hK.out.rev.kslen hK.out.rev.ksi hK.out.rev.perm hK.out.sort sl W (HT.out.below (hM2.out.low.trans (hW.mono hM2.out.low.size))) hA hcap (map_at (hM2.out.keep hW).qo hK.out.rev.kslen))
            have PM3 := hid (fun sl W (hW : Below V0.heap.size V0 W) hA hcap => print_map fD 100 (by decide) fD_parse (Or.inr rfl) ⟨Ab, nb, cb⟩ ks.reverse l hK.out.rev.kslen hK.out.rev.ksi hK.out.rev.perm hK.out.sort sl W (HT.out.below (hM2.out.low.trans (hW.mono hM2.out.low.size))) hA hcap (map_at (hM2.out.keep hW).qo hK.out.rev.kslen))
            rw [hR] at PM1 PM2 PM3
            have h0 := Below.refl V0.heap.size V0
            clear hR hfull
            go_upto_region 23 with fail
            refine wp_region_list ?_
            refine BigFrame.wpList_want (by rfl) fun K hK => ?_
            refine wp_load_mid 29 (.tmp 3) rfl w.heap.size 0 rfl (deV (mapD ⟨Ad, nd, cd⟩)).toList _ (fun q v hv => by rw [Nat.zero_add, (hM2.out.dd.below h0 hM2.out.dd.lt).cell]; simpa using hv) Tryz.underlying29 rfl desc_size (hK _ _ ?_)
            clear hK
            refine BigFrame.wpList_want (by rfl) fun K hK => ?_
            have HK := hid hK
            clear hK
            go_wp2_with fail
            refine HK.out _ _ ?_
            clear HK
            refine BigFrame.wpList_want (by rfl) fun K hK => ?_
            have HK := hid hK
            clear hK
            go_wp2_with fail
            have aa := Blk.new V0 (mapA ⟨Ad, nd, cd⟩) 29
            have hC := h0.alloc h0.size (.cells (mapA ⟨Ad, nd, cd⟩) 29)
            have AA : ArgsAt (World.alloc V0 (.cells (mapA ⟨Ad, nd, cd⟩) 29)) ⟨some ⟨V0.heap.size, 0, none⟩, 1, 1⟩ [mapD ⟨Ad, nd, cd⟩] := argsAt_row [mapD ⟨Ad, nd, cd⟩] aa rfl rfl
            refine (PM1.out ⟨some ⟨V0.heap.size, 0, none⟩, 1, 1⟩ (World.alloc V0 (.cells (mapA ⟨Ad, nd, cd⟩) 29)) hC AA (by show (1 : Nat) ≤ 1; decide)).mono ?_
            rintro e V1 ⟨rfl, hb⟩
            have h1 := hC.trans (hb.mono hC.size)
            clear hb hC aa AA
            refine HK.out _ _ ?_
            clear HK
            refine BigFrame.wpList_want (by rfl) fun K hK => ?_
            have HK := hid hK
            clear hK
            go_wp2_with fail
            refine HK.out _ _ ?_
            clear HK
            refine BigFrame.wpList_want (by rfl) fun K hK => ?_
            have HK := hid hK
            clear hK
            go_wp2_with fail
            refine HK.out _ _ ?_
            clear HK
            refine BigFrame.wpList_want (by rfl) fun K hK => ?_
            have HK := hid hK
            clear hK
            go_wp2_with fail
            refine HK.out _ _ ?_
            clear HK
            refine BigFrame.wpList_want (by rfl) fun K hK => ?_
            have HK := hid hK
            clear hK
            go_wp2_with fail
            refine HK.out _ _ ?_
            clear HK
            refine BigFrame.wpList_want (by rfl) fun K hK => ?_
            refine wp_load_mid 29 (.tmp 4) rfl B 0 rfl (deV (mapD ⟨Ab, nb, cb⟩)).toList _ (fun q v hv => by rw [Nat.zero_add, (hM2.out.bb.below h1 hM2.out.bb.lt).cell]; simpa using hv) Tryz.underlying29 rfl desc_size (hK _ _ ?_)
            clear hK
            refine BigFrame.wpList_want (by rfl) fun K hK => ?_
            have HK := hid hK
            clear hK
            go_wp2_with fail
            refine HK.out _ _ ?_
            clear HK
            refine BigFrame.wpList_want (by rfl) fun K hK => ?_
            have HK := hid hK
            clear hK
            go_wp2_with fail
            have aa := Blk.new V1 (mapA ⟨Ab, nb, cb⟩) 29
            have hC := h1.alloc h1.size (.cells (mapA ⟨Ab, nb, cb⟩) 29)
            have AA : ArgsAt (World.alloc V1 (.cells (mapA ⟨Ab, nb, cb⟩) 29)) ⟨some ⟨V1.heap.size, 0, none⟩, 1, 1⟩ [mapD ⟨Ab, nb, cb⟩] := argsAt_row [mapD ⟨Ab, nb, cb⟩] aa rfl rfl
            refine (PM2.out ⟨some ⟨V1.heap.size, 0, none⟩, 1, 1⟩ (World.alloc V1 (.cells (mapA ⟨Ab, nb, cb⟩) 29)) hC AA (by show (1 : Nat) ≤ 1; decide)).mono ?_
            rintro e V2 ⟨rfl, hb⟩
            have h2 := hC.trans (hb.mono hC.size)
            clear hb hC aa AA
            refine HK.out _ _ ?_
            clear HK
            refine BigFrame.wpList_want (by rfl) fun K hK => ?_
            have HK := hid hK
            clear hK
            go_wp2_with fail
            refine HK.out _ _ ?_
            clear HK
            refine BigFrame.wpList_want (by rfl) fun K hK => ?_
            have HK := hid hK
            clear hK
            go_wp2_with fail
            refine HK.out _ _ ?_
            clear HK
            refine BigFrame.wpList_want (by rfl) fun K hK => ?_
            have HK := hid hK
            clear hK
            go_wp2_with fail
            refine HK.out _ _ ?_
            clear HK
            refine BigFrame.wpList_want (by rfl) fun K hK => ?_
            have HK := hid hK
            clear hK
            go_wp2_with fail
            refine HK.out _ _ ?_
            clear HK
            refine BigFrame.wpList_want (by rfl) fun K hK => ?_
            have HK := hid hK
            clear hK
            go_wp2_with fail
            refine HK.out _ _ ?_
            clear HK
            refine BigFrame.wpList_want (by rfl) fun K hK => ?_
            refine wp_load_mid 29 (.tmp 4) rfl B 0 rfl (deV (mapD ⟨Ab, nb, cb⟩)).toList _ (fun q v hv => by rw [Nat.zero_add, (hM2.out.bb.below h2 hM2.out.bb.lt).cell]; simpa using hv) Tryz.underlying29 rfl desc_size (hK _ _ ?_)
            clear hK
            refine BigFrame.wpList_want (by rfl) fun K hK => ?_
            have HK := hid hK
            clear hK
            go_wp2_with fail
            refine HK.out _ _ ?_
            clear HK
            refine BigFrame.wpList_want (by rfl) fun K hK => ?_
            have HK := hid hK
            clear hK
            go_wp2_with fail
            have aa := Blk.new V2 (mapA ⟨Ab, nb, cb⟩) 29
            have hC := h2.alloc h2.size (.cells (mapA ⟨Ab, nb, cb⟩) 29)
            have AA : ArgsAt (World.alloc V2 (.cells (mapA ⟨Ab, nb, cb⟩) 29)) ⟨some ⟨V2.heap.size, 0, none⟩, 1, 1⟩ [mapD ⟨Ab, nb, cb⟩] := argsAt_row [mapD ⟨Ab, nb, cb⟩] aa rfl rfl
            refine (PM3.out ⟨some ⟨V2.heap.size, 0, none⟩, 1, 1⟩ (World.alloc V2 (.cells (mapA ⟨Ab, nb, cb⟩) 29)) hC AA (by show (1 : Nat) ≤ 1; decide)).mono ?_
            rintro e V3 ⟨rfl, hb⟩
            have h3 := hC.trans (hb.mono hC.size)
            clear hb hC aa AA
            refine HK.out _ _ ?_
            clear HK
            refine BigFrame.wpList_want (by rfl) fun K hK => ?_
            have HK := hid hK
            clear hK
            go_wp2_with fail
            refine HK.out _ _ ?_
            clear HK
            refine BigFrame.wpList_want (by rfl) fun K hK => ?_
            have HK := hid hK
            clear hK
            go_wp2_with fail
            refine HK.out _ _ ?_
            clear HK
            refine BigFrame.wpList_want (by rfl) fun K hK => ?_
            have HK := hid hK
            clear hK
            go_wp2_with fail
            refine HK.out _ _ ?_
            clear HK
            refine BigFrame.wpList_want (by rfl) fun K hK => ?_
            have HK := hid hK
            clear hK
            go_wp2_with fail
            refine HK.out _ _ ?_
            clear HK
            refine BigFrame.wpList_want (by rfl) fun K hK => ?_
            have HK := hid hK
            clear hK
            go_wp2_with fail
            refine HK.out _ _ ?_
            clear HK
            refine BigFrame.wpList_want (by rfl) fun K hK => ?_
            have HK := hid hK
            clear hK
            go_wp2_with fail
            refine (LV.out _ (HT.out.below (hM2.out.low.trans (h3.mono hM2.out.low.size)))).mono ?_
            rintro e V4 ⟨rfl, hb⟩
            have h4 := h3.trans (hb.mono h3.size)
            clear hb
            refine HK.out _ _ ?_
            clear HK
            refine BigFrame.wpList_want (by rfl) fun K hK => ?_
            have HK := hid hK
            clear hK
            go_wp2_with fail
            refine HK.out _ _ ?_
            clear HK
            refine BigFrame.wpList_want (by rfl) fun K hK => ?_
            have HK := hid hK
            clear hK
            go_wp2_with fail
            refine HK.out _ _ ?_
            clear HK
            refine wpList_nil ?_
            have HF := hid (hM2.out.low.trans (h4.mono hM2.out.low.size))
            clear h0 h1 h2 h3 h4
            go_wp2_with fail
            go_ret
            exact ⟨rfl, HF.out⟩
end Go.Proofs.YtdjhmanccoekjaaGreatDoor
end
