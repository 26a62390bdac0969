/-
  Texts of this claim, joined: UG, PP, P1, P2, P3.
-/
import Derived.Laws.EntriesVeiled
import Derived.Laws.OwnMore
import Derived.Lib.ConvBytes
import Derived.Deep.LoopGhost
import Derived.Test.YtdjhmanccoekjaaGreatDoorN11
import Derived.Test.YtdjhmanccoekjaaGreatDoorUtf
import Derived.Test.YtdjhmanccoekjaaGreatDoorN1

section
namespace Go.Proofs.YtdjhmanccoekjaaGreatDoor
open Go.RowKit Go.Proofs

theorem set_same {cs : Array Value} {o : Nat} {u : Value} (h : cs[o]? = some u) : cs.setIfInBounds o u = cs := by
  obtain ⟨hlt, he⟩ := Array.getElem?_eq_some_iff.1 h
  refine Array.ext (by simp) (fun i h1 h2 => ?_)
  rw [Array.getElem_setIfInBounds]
  split
  · rename_i e; subst e; exact he.symm
  · rfl
theorem Blk.set_same {W : World} {G : Nat} {cs : Array Value} {T : TypeId} (h : Blk W G cs T) {o : Nat} {u : Value} (hu : cs[o]? = some u) : Blk (W.setCell ⟨G, o, none⟩ u) G cs T := by
  have := h.set_ o u
  rw [Go.Proofs.YtdjhmanccoekjaaGreatDoor.set_same hu] at this
  exact this
theorem Blk.cells_same {G : Nat} {cs : Array Value} {T : TypeId} : ∀ (us : List Value) (o : Nat) (W : World), Blk W G cs T → (∀ j v, us[j]? = some v → cs[o + j]? = some v) → Blk (W.setCells G o us) G cs T
  | [], _, _, h, _ => h
  | v :: r, o, W, h, hu => by
    rw [World.setCells]
    exact Blk.cells_same r (o + 1) _ (h.set_same (hu 0 v rfl)) (fun j x hx => by rw [show o + 1 + j = o + (j + 1) by omega]; exact hu (j + 1) x (by simpa using hx))
theorem One.mid {W : World} {T : TypeId} {G cap : Nat} {vs : Array Value} (h : One W T G cap vs) : ∃ cur, Blk W G cur T ∧ cur.toList.take vs.size = vs.toList ∧ ∀ (j : Nat) (v : Value), vs[j]? = some v → cur[j]? = some v := by
  obtain ⟨cur, hb, ht⟩ := h.at_
  refine ⟨cur, hb, ht, fun j v hv => ?_⟩
  have := h.cell j v hv
  rw [hb.cell] at this
  exact this
theorem One.set_same {W : World} {T : TypeId} {G cap : Nat} {vs : Array Value} (h : One W T G cap vs) {o : Nat} {u : Value} (hu : vs[o]? = some u) : One (W.setCell ⟨G, o, none⟩ u) T G cap vs := by
  obtain ⟨cur, hb, ht, hm⟩ := h.mid
  exact ⟨⟨cur, hb.set_same (hm o u hu), ht⟩, h.cap1, h.capm⟩
theorem One.cells_same {W : World} {T : TypeId} {G cap : Nat} {vs : Array Value} (h : One W T G cap vs) (us : List Value) (o : Nat) (hu : ∀ j v, us[j]? = some v → vs[o + j]? = some v) : One (W.setCells G o us) T G cap vs := by
  obtain ⟨cur, hb, ht, hm⟩ := h.mid
  exact ⟨⟨cur, Blk.cells_same us o W hb (fun j v hv => hm _ _ (hu j v hv)), ht⟩, h.cap1, h.capm⟩
theorem One.frozen {W : World} {T : TypeId} {G cap : Nat} {vs : Array Value} (h : One W T G cap vs) (o : Nat) : W.frozen? ⟨G, o, none⟩ = false := by
  obtain ⟨cur, hb, _⟩ := h.at_
  exact hb.frozen o
theorem ac_mid (a : Ac) (j : Nat) (v : Value) (hv : (deV a.p)[j]? = some v) : (acV a)[4 + j]? = some v := by
  have hj : j < 8 := by
    rcases Nat.lt_or_ge j 8 with q | q
    · exact q
    · rw [Array.getElem?_eq_none (by exact q)] at hv; cases hv
  rw [← hv]
  match j, hj with
  | 0, _ | 1, _ | 2, _ | 3, _ | 4, _ | 5, _ | 6, _ | 7, _ => rfl
theorem below_set_new {B : Nat} {a c : World} (h : Below B a c) {p : Addr} (hp : B ≤ p.block) (u : Value) : Below B a (c.setCell p u) :=
  ⟨h.os, h.tape, h.output, by simpa [World.setCell] using h.size, fun k hk => (Below.heap_setCell c p u k (by omega)).trans (h.block k hk)⟩
/-- A row whose methods have no arguments, and what they throw has no parts. -/
structure Bare (h : Hk) : Prop where
  ar : ∀ i, (hkAt h i).ar = ⟨none, 0, 0⟩
  kd : ∀ i, (hkAt h i).p.k < 18
  pd : ∀ i, deBare (hkAt h i).p = (hkAt h i).p
set_option maxRecDepth 100000 in
set_option maxHeartbeats 4000000 in
theorem copied_one (A : Nat) (h : Hk) (w : World) (hA : Blk w A (hkV h) 34) (hh : Bare h) :
    Calls Tryz.prog 24 #[.slice (some ⟨A, 0, none⟩) 1 1] w fun e w' => ∃ G cap, e = .returned (.slice (some ⟨G, 0, none⟩) 1 cap) ∧ w.heap.size ≤ G ∧ One w' 34 G cap (hkV h) ∧ Below w.heap.size w w' := by
  have CL := hid (hclone_one A h w hA)
  have DN := hid (fun W => descs_nil W)
  have DO := hid (fun g i W (hA : Blk W g (deV (hkAt h i).p) 29) => descs_one g (hkAt h i).p W hA (hh.kd i))
  have PD := hid (fun i => hh.pd i)
  have C3 := hid (fun i (hi : i < 4) => (show (hkV h)[12 * i + 3]? = some (.slice none 0 0) from hk_mid h i hi 3 _ (by show some (slV (hkAt h i).ar) = _; rw [hh.ar i])))
  have MD := hid (fun i (hi : i < 4) j v (hv : (deV (hkAt h i).p)[j]? = some v) => (show (hkV h)[12 * i + 4 + j]? = some v by rw [Nat.add_assoc]; exact hk_mid h i hi (4 + j) v (ac_mid (hkAt h i) j v hv)))
  clear hA
  go_enter Tryz.func24, Tryz.ntmps24
  go_wp2_with fail
  refine (CL.out).mono ?_
  rintro e W1 ⟨G, cap, rfl, hg, hO, hb⟩
  have HG := hid hg
  have HO := hid hO
  have HB := hid hb
  clear hg hO hb CL
  go_wp2_with fail
  refine wp_loop_rounds 2 ?_
  rw [rounds_succ]
  go_upto_region 5 with fail
  refine wp_region_held_drew (S := fun w1 => Below W1.heap.size W1 w1) (by kernel_rfl) (Below.refl _ _).drew (fun h0 => ?_)
  generalize World.drew W1 = W2 at h0 ⊢
  refine wpAnyH_take (i := 0) (fuel := 18) (v := .slice (some ⟨G, 0, none⟩) 1 cap) rfl (by kernel_rfl) (by kernel_rfl) (by kernel_rfl) (fun _ _ _ h => h) (Or.inl ⟨by rfl, by intro w1 hw1; go_simp⟩) h0 ?_
  try simp only [Act.put, List.getElem_toArray, List.getElem_cons_zero, List.setIfInBounds_toArray, List.set_cons_zero, List.set_cons_succ]
  refine wpAnyH_take (i := 1) (fuel := 17) (v := .int .i64 0) rfl (by kernel_rfl) (by kernel_rfl) (by kernel_rfl) (fun _ _ _ h => h) (Or.inl ⟨by rfl, by intro w1 hw1; go_simp⟩) h0 ?_
  try simp only [Act.put, List.getElem_toArray, List.getElem_cons_zero, List.getElem_cons_succ, List.setIfInBounds_toArray, List.set_cons_zero, List.set_cons_succ]
  refine wpAnyH_take (i := 2) (fuel := 16) (v := .pointer (some ⟨G, 0, none⟩)) rfl (by kernel_rfl) (by kernel_rfl) (by kernel_rfl) (fun _ _ _ h => h) (Or.inl ⟨by rfl, by intro w1 hw1; go_simp⟩) h0 ?_
  try simp only [Act.put, List.getElem_toArray, List.getElem_cons_zero, List.getElem_cons_succ, List.setIfInBounds_toArray, List.set_cons_zero, List.set_cons_succ]
  refine wpAnyH_take (i := 3) (fuel := 15) (v := .pointer (some ⟨G, 0, none⟩)) rfl (by kernel_rfl) (by kernel_rfl) (by kernel_rfl) (fun _ _ _ h => h) (Or.inl ⟨by rfl, by intro w1 hw1; go_simp⟩) h0 ?_
  try simp only [Act.put, List.getElem_toArray, List.getElem_cons_zero, List.getElem_cons_succ, List.setIfInBounds_toArray, List.set_cons_zero, List.set_cons_succ]
  refine wpAnyH_take (i := 4) (fuel := 14) (v := .slice (some ⟨G, 0, none⟩) 1 cap) rfl (by kernel_rfl) (by kernel_rfl) (by kernel_rfl) (fun _ _ _ h => h) (Or.inl ⟨by rfl, by intro w1 hw1; go_simp⟩) h0 ?_
  try simp only [Act.put, List.getElem_toArray, List.getElem_cons_zero, List.getElem_cons_succ, List.setIfInBounds_toArray, List.set_cons_zero, List.set_cons_succ]
  refine wpAnyH_take (i := 5) (fuel := 13) (v := .int .i64 0) rfl (by kernel_rfl) (by kernel_rfl) (by kernel_rfl) (fun _ _ _ h => h) (Or.inl ⟨by rfl, by intro w1 hw1; go_simp⟩) h0 ?_
  try simp only [Act.put, List.getElem_toArray, List.getElem_cons_zero, List.getElem_cons_succ, List.setIfInBounds_toArray, List.set_cons_zero, List.set_cons_succ]
  refine wpAnyH_take (i := 6) (fuel := 12) (v := .pointer (some ⟨G, 0, none⟩)) rfl (by kernel_rfl) (by kernel_rfl) (by kernel_rfl) (fun _ _ _ h => h) (Or.inl ⟨by rfl, by intro w1 hw1; go_simp⟩) h0 ?_
  try simp only [Act.put, List.getElem_toArray, List.getElem_cons_zero, List.getElem_cons_succ, List.setIfInBounds_toArray, List.set_cons_zero, List.set_cons_succ]
  refine wpAnyH_take (i := 7) (fuel := 11) (v := .pointer (some ⟨G, 12, none⟩)) rfl (by kernel_rfl) (by kernel_rfl) (by kernel_rfl) (fun _ _ _ h => h) (Or.inl ⟨by rfl, by intro w1 hw1; go_simp⟩) h0 ?_
  try simp only [Act.put, List.getElem_toArray, List.getElem_cons_zero, List.getElem_cons_succ, List.setIfInBounds_toArray, List.set_cons_zero, List.set_cons_succ]
  refine wpAnyH_take (i := 8) (fuel := 10) (v := .slice (some ⟨G, 0, none⟩) 1 cap) rfl (by kernel_rfl) (by kernel_rfl) (by kernel_rfl) (fun _ _ _ h => h) (Or.inl ⟨by rfl, by intro w1 hw1; go_simp⟩) h0 ?_
  try simp only [Act.put, List.getElem_toArray, List.getElem_cons_zero, List.getElem_cons_succ, List.setIfInBounds_toArray, List.set_cons_zero, List.set_cons_succ]
  refine wpAnyH_take (i := 9) (fuel := 9) (v := .int .i64 0) rfl (by kernel_rfl) (by kernel_rfl) (by kernel_rfl) (fun _ _ _ h => h) (Or.inl ⟨by rfl, by intro w1 hw1; go_simp⟩) h0 ?_
  try simp only [Act.put, List.getElem_toArray, List.getElem_cons_zero, List.getElem_cons_succ, List.setIfInBounds_toArray, List.set_cons_zero, List.set_cons_succ]
  refine wpAnyH_take (i := 10) (fuel := 8) (v := .pointer (some ⟨G, 0, none⟩)) rfl (by kernel_rfl) (by kernel_rfl) (by kernel_rfl) (fun _ _ _ h => h) (Or.inl ⟨by rfl, by intro w1 hw1; go_simp⟩) h0 ?_
  try simp only [Act.put, List.getElem_toArray, List.getElem_cons_zero, List.getElem_cons_succ, List.setIfInBounds_toArray, List.set_cons_zero, List.set_cons_succ]
  refine wpAnyH_take (i := 11) (fuel := 7) (v := .pointer (some ⟨G, 24, none⟩)) rfl (by kernel_rfl) (by kernel_rfl) (by kernel_rfl) (fun _ _ _ h => h) (Or.inl ⟨by rfl, by intro w1 hw1; go_simp⟩) h0 ?_
  try simp only [Act.put, List.getElem_toArray, List.getElem_cons_zero, List.getElem_cons_succ, List.setIfInBounds_toArray, List.set_cons_zero, List.set_cons_succ]
  refine wpAnyH_take (i := 12) (fuel := 6) (v := .slice (some ⟨G, 0, none⟩) 1 cap) rfl (by kernel_rfl) (by kernel_rfl) (by kernel_rfl) (fun _ _ _ h => h) (Or.inl ⟨by rfl, by intro w1 hw1; go_simp⟩) h0 ?_
  try simp only [Act.put, List.getElem_toArray, List.getElem_cons_zero, List.getElem_cons_succ, List.setIfInBounds_toArray, List.set_cons_zero, List.set_cons_succ]
  refine wpAnyH_take (i := 13) (fuel := 5) (v := .int .i64 0) rfl (by kernel_rfl) (by kernel_rfl) (by kernel_rfl) (fun _ _ _ h => h) (Or.inl ⟨by rfl, by intro w1 hw1; go_simp⟩) h0 ?_
  try simp only [Act.put, List.getElem_toArray, List.getElem_cons_zero, List.getElem_cons_succ, List.setIfInBounds_toArray, List.set_cons_zero, List.set_cons_succ]
  refine wpAnyH_take (i := 14) (fuel := 4) (v := .pointer (some ⟨G, 0, none⟩)) rfl (by kernel_rfl) (by kernel_rfl) (by kernel_rfl) (fun _ _ _ h => h) (Or.inl ⟨by rfl, by intro w1 hw1; go_simp⟩) h0 ?_
  try simp only [Act.put, List.getElem_toArray, List.getElem_cons_zero, List.getElem_cons_succ, List.setIfInBounds_toArray, List.set_cons_zero, List.set_cons_succ]
  refine wpAnyH_take (i := 15) (fuel := 3) (v := .pointer (some ⟨G, 36, none⟩)) rfl (by kernel_rfl) (by kernel_rfl) (by kernel_rfl) (fun _ _ _ h => h) (Or.inl ⟨by rfl, by intro w1 hw1; go_simp⟩) h0 ?_
  try simp only [Act.put, List.getElem_toArray, List.getElem_cons_zero, List.getElem_cons_succ, List.setIfInBounds_toArray, List.set_cons_zero, List.set_cons_succ]
  refine wpAnyH_take (i := 18) (fuel := 2) (v := .int .i64 0) rfl (by kernel_rfl) (by kernel_rfl) (by kernel_rfl) (fun _ _ _ h => h) (Or.inl ⟨by rfl, by intro w1 hw1; go_simp⟩) h0 ?_
  try simp only [Act.put, List.getElem_toArray, List.getElem_cons_zero, List.getElem_cons_succ, List.setIfInBounds_toArray, List.set_cons_zero, List.set_cons_succ]
  refine wpAnyH_ready (fuel := 1) (rs := [16]) (by kernel_rfl) (by simp) ?_
  refine AllReadyH.cons rfl (fun K hK => ?_) AllReadyH.nil
  rw [if_pos (by rfl)]
  go_wp2_with fail
  have l0 := Blk.new W2 #[.pointer (some ⟨G, 0, none⟩), .pointer (some ⟨G, 12, none⟩), .pointer (some ⟨G, 24, none⟩), .pointer (some ⟨G, 36, none⟩)] 78
  have h1 := h0.alloc h0.size (.cells #[.pointer (some ⟨G, 0, none⟩), .pointer (some ⟨G, 12, none⟩), .pointer (some ⟨G, 24, none⟩), .pointer (some ⟨G, 36, none⟩)] 78)
  obtain ⟨W3, hW3⟩ : ∃ W3, W2.alloc (.cells #[.pointer (some ⟨G, 0, none⟩), .pointer (some ⟨G, 12, none⟩), .pointer (some ⟨G, 24, none⟩), .pointer (some ⟨G, 36, none⟩)] 78) = W3 := ⟨_, rfl⟩
  rw [hW3] at l0 h1 ⊢
  obtain ⟨L, hL⟩ : ∃ L, W2.heap.size = L := ⟨_, rfl⟩
  rw [hL] at l0 ⊢
  have HLW := hid (show W1.heap.size ≤ L by have := h0.size; omega)
  have HL := hid l0
  refine hK.out _ _ h1 (fun _ => ?_)
  clear hK hW3 hL l0
  try simp only [Act.put, List.getElem_toArray, List.getElem_cons_zero, List.getElem_cons_succ, List.setIfInBounds_toArray, List.set_cons_zero, List.set_cons_succ]
  refine wpAnyH_take (i := 17) (fuel := 0) (v := .int .i64 4) rfl (by kernel_rfl) (by kernel_rfl) (by kernel_rfl) (fun _ _ _ h => h) (Or.inl ⟨by rfl, by intro w1 hw1; go_simp⟩) h1 ?_
  try simp only [Act.put, List.getElem_toArray, List.getElem_cons_zero, List.getElem_cons_succ, List.setIfInBounds_toArray, List.set_cons_zero, List.set_cons_succ]
  refine wpAnyH_done (by kernel_rfl) ?_ _
  have HGL := hid (show G ≠ L by have := HO.out.lt; have := HLW.out; omega)
  have HWL := hid (show w.heap.size ≤ L by have := HB.out.size; have := HLW.out; omega)
  have HO := hid (HO.out.below h1 HO.out.lt)
  have HB := hid (HB.out.trans (h1.mono HB.out.size))
  clear h0 h1
  go_wp2_with fail
  refine wp_loop_rounds 5 ?_
  rw [rounds_succ]
  have cl := HL.out.cell 0
  have c3 := HO.out.cell 3 (.slice none 0 0) (C3.out 0 (by decide))
  go_wp2_with fail
  refine (DN.out _).mono ?_
  rintro e Wa0 ⟨rfl, hb⟩
  have HO := hid (HO.out.below hb HO.out.lt)
  have HL := hid (HL.out.below hb HL.out.lt)
  have HB := hid (HB.out.trans (hb.mono HB.out.size))
  clear hb cl c3
  have z3 := HO.out.frozen 3
  have c3 := HO.out.cell 3 (.slice none 0 0) (C3.out 0 (by decide))
  go_upto_region 9 with fail
  obtain ⟨Wb0, hWb0⟩ : ∃ Wb0, Wa0.setCell ⟨G, 3, none⟩ (.slice none 0 0) = Wb0 := ⟨_, rfl⟩
  have o1 := HO.out.set_same (C3.out 0 (by decide))
  have l1 := HL.out.far (p := ⟨G, 3, none⟩) (Ne.symm HGL.out) (.slice none 0 0)
  have b1 := below_set_new HB.out (p := ⟨G, 3, none⟩) HG.out (.slice none 0 0)
  rw [hWb0] at o1 l1 b1 ⊢
  have HO := hid o1
  have HL := hid l1
  have HB := hid b1
  clear o1 l1 b1 hWb0 z3 c3
  refine wp_region_list ?_
  refine wpList_plain rfl fun K hK => ?_
  have HK := hid hK
  clear hK
  go_wp2_with fail
  refine HK.out _ _ ?_
  clear HK
  refine wpList_plain rfl fun K hK => ?_
  have HK := hid hK
  clear hK
  go_wp2_with fail
  refine HK.out _ _ ?_
  clear HK
  refine wpList_plain rfl fun K hK => ?_
  have HK := hid hK
  clear hK
  go_wp2_with fail
  refine HK.out _ _ ?_
  clear HK
  refine wpList_plain rfl fun K hK => ?_
  have HK := hid hK
  clear hK
  go_wp2_with fail
  refine HK.out _ _ ?_
  clear HK
  refine wpList_load_mid rfl 29 (.tmp 47) rfl G 4 rfl (deV (hkAt h 0).p).toList _ (fun j v hv => HO.out.cell _ v (MD.out 0 (by decide) j v (by simpa using hv))) Tryz.underlying29 rfl desc_size ?_
  refine wpList_plain rfl fun K hK => ?_
  have HK := hid hK
  clear hK
  go_wp2_with fail
  refine HK.out _ _ ?_
  clear HK
  have q0 := Blk.new Wb0 (deV (hkAt h 0).p) 29
  have b0 : Below Wb0.heap.size Wb0 (Wb0.alloc (.cells (deV (hkAt h 0).p) 29)) := (Below.refl _ _).alloc (Nat.le_refl _) _
  obtain ⟨Wc0, hWc0⟩ : ∃ Wc0, Wb0.alloc (.cells (deV (hkAt h 0).p) 29) = Wc0 := ⟨_, rfl⟩
  rw [hWc0] at q0 b0
  first | rw [hWc0] | (simp only [deV] at hWc0; rw [hWc0])
  obtain ⟨M, hM⟩ : ∃ M, Wb0.heap.size = M := ⟨_, rfl⟩
  rw [hM] at q0 ⊢
  have HQ := hid q0
  have HO := hid (HO.out.below b0 HO.out.lt)
  have HL := hid (HL.out.below b0 HL.out.lt)
  have HB := hid (HB.out.trans (b0.mono HB.out.size))
  clear q0 b0 hWc0 hM
  refine wpList_plain rfl fun K hK => ?_
  have HK := hid hK
  clear hK
  go_wp2_with fail
  refine (DO.out _ 0 _ HQ.out).mono ?_
  rintro e Wd0 ⟨G2, cap2, rfl, hg2, hO2, hb⟩
  rw [PD.out 0] at hO2
  have HO2 := hid hO2
  have HO := hid (HO.out.below hb HO.out.lt)
  have HL := hid (HL.out.below hb HL.out.lt)
  have HB := hid (HB.out.trans (hb.mono HB.out.size))
  have hc1 : (0 : Int) < 1 := by decide
  clear hb hg2 hO2 HQ
  refine HK.out _ _ ?_
  clear HK
  refine wpList_plain rfl fun K hK => ?_
  have HK := hid hK
  clear hK
  go_wp2_with fail
  refine HK.out _ _ ?_
  clear HK
  clear hc1
  refine wpList_load_mid rfl 29 (.tmp 51) rfl G2 0 rfl (deV (hkAt h 0).p).toList _ (fun j v hv => by rw [Nat.zero_add]; exact HO2.out.cell j v (by simpa using hv)) Tryz.underlying29 rfl desc_size ?_
  refine wpList_plain rfl fun K hK => ?_
  have HK := hid hK
  clear hK
  go_wp2_with fail
  refine HK.out _ _ ?_
  clear HK
  refine wpList_plain rfl fun K hK => ?_
  have HK := hid hK
  clear hK
  go_wp2_with fail
  refine HK.out _ _ ?_
  clear HK
  refine wpList_store_mid rfl 29 (.tmp 54) (.tmp 52) rfl G 4 (deV (hkAt h 0).p) rfl rfl (HO.out.there 4 8 (by show 4 + 8 ≤ 48; decide)) desc_size (deV_one _) ?_
  have o1 := HO.out.cells_same (deV (hkAt h 0).p).toList 4 (fun j v hv => MD.out 0 (by decide) j v (by simpa using hv))
  have l1 := HL.out.same (setCells_far (Ne.symm HGL.out) (deV (hkAt h 0).p).toList 4 Wd0)
  have b1 := below_setCells HB.out G HG.out (deV (hkAt h 0).p).toList 4
  obtain ⟨We0, hWe0⟩ : ∃ We0, Wd0.setCells G 4 (deV (hkAt h 0).p).toList = We0 := ⟨_, rfl⟩
  rw [hWe0] at o1 l1 b1 ⊢
  have HO := hid o1
  have HL := hid l1
  have HB := hid b1
  clear o1 l1 b1 hWe0 HO2
  refine wpList_nil ?_
  go_wp2_with fail
  rw [rounds_succ]
  have cl := HL.out.cell 1
  have c3 := HO.out.cell 15 (.slice none 0 0) (C3.out 1 (by decide))
  go_wp2_with fail
  refine (DN.out _).mono ?_
  rintro e Wa1 ⟨rfl, hb⟩
  have HO := hid (HO.out.below hb HO.out.lt)
  have HL := hid (HL.out.below hb HL.out.lt)
  have HB := hid (HB.out.trans (hb.mono HB.out.size))
  clear hb cl c3
  have z3 := HO.out.frozen 15
  have c3 := HO.out.cell 15 (.slice none 0 0) (C3.out 1 (by decide))
  go_upto_region 9 with fail
  obtain ⟨Wb1, hWb1⟩ : ∃ Wb1, Wa1.setCell ⟨G, 15, none⟩ (.slice none 0 0) = Wb1 := ⟨_, rfl⟩
  have o1 := HO.out.set_same (C3.out 1 (by decide))
  have l1 := HL.out.far (p := ⟨G, 15, none⟩) (Ne.symm HGL.out) (.slice none 0 0)
  have b1 := below_set_new HB.out (p := ⟨G, 15, none⟩) HG.out (.slice none 0 0)
  rw [hWb1] at o1 l1 b1 ⊢
  have HO := hid o1
  have HL := hid l1
  have HB := hid b1
  clear o1 l1 b1 hWb1 z3 c3
  refine wp_region_list ?_
  refine wpList_plain rfl fun K hK => ?_
  have HK := hid hK
  clear hK
  go_wp2_with fail
  refine HK.out _ _ ?_
  clear HK
  refine wpList_plain rfl fun K hK => ?_
  have HK := hid hK
  clear hK
  go_wp2_with fail
  refine HK.out _ _ ?_
  clear HK
  refine wpList_plain rfl fun K hK => ?_
  have HK := hid hK
  clear hK
  go_wp2_with fail
  refine HK.out _ _ ?_
  clear HK
  refine wpList_plain rfl fun K hK => ?_
  have HK := hid hK
  clear hK
  go_wp2_with fail
  refine HK.out _ _ ?_
  clear HK
  refine wpList_load_mid rfl 29 (.tmp 47) rfl G 16 rfl (deV (hkAt h 1).p).toList _ (fun j v hv => HO.out.cell _ v (MD.out 1 (by decide) j v (by simpa using hv))) Tryz.underlying29 rfl desc_size ?_
  refine wpList_plain rfl fun K hK => ?_
  have HK := hid hK
  clear hK
  go_wp2_with fail
  refine HK.out _ _ ?_
  clear HK
  have q0 := Blk.new Wb1 (deV (hkAt h 1).p) 29
  have b0 : Below Wb1.heap.size Wb1 (Wb1.alloc (.cells (deV (hkAt h 1).p) 29)) := (Below.refl _ _).alloc (Nat.le_refl _) _
  obtain ⟨Wc1, hWc1⟩ : ∃ Wc1, Wb1.alloc (.cells (deV (hkAt h 1).p) 29) = Wc1 := ⟨_, rfl⟩
  rw [hWc1] at q0 b0
  first | rw [hWc1] | (simp only [deV] at hWc1; rw [hWc1])
  obtain ⟨M, hM⟩ : ∃ M, Wb1.heap.size = M := ⟨_, rfl⟩
  rw [hM] at q0 ⊢
  have HQ := hid q0
  have HO := hid (HO.out.below b0 HO.out.lt)
  have HL := hid (HL.out.below b0 HL.out.lt)
  have HB := hid (HB.out.trans (b0.mono HB.out.size))
  clear q0 b0 hWc1 hM
  refine wpList_plain rfl fun K hK => ?_
  have HK := hid hK
  clear hK
  go_wp2_with fail
  refine (DO.out _ 1 _ HQ.out).mono ?_
  rintro e Wd1 ⟨G2, cap2, rfl, hg2, hO2, hb⟩
  rw [PD.out 1] at hO2
  have HO2 := hid hO2
  have HO := hid (HO.out.below hb HO.out.lt)
  have HL := hid (HL.out.below hb HL.out.lt)
  have HB := hid (HB.out.trans (hb.mono HB.out.size))
  have hc1 : (0 : Int) < 1 := by decide
  clear hb hg2 hO2 HQ
  refine HK.out _ _ ?_
  clear HK
  refine wpList_plain rfl fun K hK => ?_
  have HK := hid hK
  clear hK
  go_wp2_with fail
  refine HK.out _ _ ?_
  clear HK
  clear hc1
  refine wpList_load_mid rfl 29 (.tmp 51) rfl G2 0 rfl (deV (hkAt h 1).p).toList _ (fun j v hv => by rw [Nat.zero_add]; exact HO2.out.cell j v (by simpa using hv)) Tryz.underlying29 rfl desc_size ?_
  refine wpList_plain rfl fun K hK => ?_
  have HK := hid hK
  clear hK
  go_wp2_with fail
  refine HK.out _ _ ?_
  clear HK
  refine wpList_plain rfl fun K hK => ?_
  have HK := hid hK
  clear hK
  go_wp2_with fail
  refine HK.out _ _ ?_
  clear HK
  refine wpList_store_mid rfl 29 (.tmp 54) (.tmp 52) rfl G 16 (deV (hkAt h 1).p) rfl rfl (HO.out.there 16 8 (by show 16 + 8 ≤ 48; decide)) desc_size (deV_one _) ?_
  have o1 := HO.out.cells_same (deV (hkAt h 1).p).toList 16 (fun j v hv => MD.out 1 (by decide) j v (by simpa using hv))
  have l1 := HL.out.same (setCells_far (Ne.symm HGL.out) (deV (hkAt h 1).p).toList 16 Wd1)
  have b1 := below_setCells HB.out G HG.out (deV (hkAt h 1).p).toList 16
  obtain ⟨We1, hWe1⟩ : ∃ We1, Wd1.setCells G 16 (deV (hkAt h 1).p).toList = We1 := ⟨_, rfl⟩
  rw [hWe1] at o1 l1 b1 ⊢
  have HO := hid o1
  have HL := hid l1
  have HB := hid b1
  clear o1 l1 b1 hWe1 HO2
  refine wpList_nil ?_
  go_wp2_with fail
  rw [rounds_succ]
  have cl := HL.out.cell 2
  have c3 := HO.out.cell 27 (.slice none 0 0) (C3.out 2 (by decide))
  go_wp2_with fail
  refine (DN.out _).mono ?_
  rintro e Wa2 ⟨rfl, hb⟩
  have HO := hid (HO.out.below hb HO.out.lt)
  have HL := hid (HL.out.below hb HL.out.lt)
  have HB := hid (HB.out.trans (hb.mono HB.out.size))
  clear hb cl c3
  have z3 := HO.out.frozen 27
  have c3 := HO.out.cell 27 (.slice none 0 0) (C3.out 2 (by decide))
  go_upto_region 9 with fail
  obtain ⟨Wb2, hWb2⟩ : ∃ Wb2, Wa2.setCell ⟨G, 27, none⟩ (.slice none 0 0) = Wb2 := ⟨_, rfl⟩
  have o1 := HO.out.set_same (C3.out 2 (by decide))
  have l1 := HL.out.far (p := ⟨G, 27, none⟩) (Ne.symm HGL.out) (.slice none 0 0)
  have b1 := below_set_new HB.out (p := ⟨G, 27, none⟩) HG.out (.slice none 0 0)
  rw [hWb2] at o1 l1 b1 ⊢
  have HO := hid o1
  have HL := hid l1
  have HB := hid b1
  clear o1 l1 b1 hWb2 z3 c3
  refine wp_region_list ?_
  refine wpList_plain rfl fun K hK => ?_
  have HK := hid hK
  clear hK
  go_wp2_with fail
  refine HK.out _ _ ?_
  clear HK
  refine wpList_plain rfl fun K hK => ?_
  have HK := hid hK
  clear hK
  go_wp2_with fail
  refine HK.out _ _ ?_
  clear HK
  refine wpList_plain rfl fun K hK => ?_
  have HK := hid hK
  clear hK
  go_wp2_with fail
  refine HK.out _ _ ?_
  clear HK
  refine wpList_plain rfl fun K hK => ?_
  have HK := hid hK
  clear hK
  go_wp2_with fail
  refine HK.out _ _ ?_
  clear HK
  refine wpList_load_mid rfl 29 (.tmp 47) rfl G 28 rfl (deV (hkAt h 2).p).toList _ (fun j v hv => HO.out.cell _ v (MD.out 2 (by decide) j v (by simpa using hv))) Tryz.underlying29 rfl desc_size ?_
  refine wpList_plain rfl fun K hK => ?_
  have HK := hid hK
  clear hK
  go_wp2_with fail
  refine HK.out _ _ ?_
  clear HK
  have q0 := Blk.new Wb2 (deV (hkAt h 2).p) 29
  have b0 : Below Wb2.heap.size Wb2 (Wb2.alloc (.cells (deV (hkAt h 2).p) 29)) := (Below.refl _ _).alloc (Nat.le_refl _) _
  obtain ⟨Wc2, hWc2⟩ : ∃ Wc2, Wb2.alloc (.cells (deV (hkAt h 2).p) 29) = Wc2 := ⟨_, rfl⟩
  rw [hWc2] at q0 b0
  first | rw [hWc2] | (simp only [deV] at hWc2; rw [hWc2])
  obtain ⟨M, hM⟩ : ∃ M, Wb2.heap.size = M := ⟨_, rfl⟩
  rw [hM] at q0 ⊢
  have HQ := hid q0
  have HO := hid (HO.out.below b0 HO.out.lt)
  have HL := hid (HL.out.below b0 HL.out.lt)
  have HB := hid (HB.out.trans (b0.mono HB.out.size))
  clear q0 b0 hWc2 hM
  refine wpList_plain rfl fun K hK => ?_
  have HK := hid hK
  clear hK
  go_wp2_with fail
  refine (DO.out _ 2 _ HQ.out).mono ?_
  rintro e Wd2 ⟨G2, cap2, rfl, hg2, hO2, hb⟩
  rw [PD.out 2] at hO2
  have HO2 := hid hO2
  have HO := hid (HO.out.below hb HO.out.lt)
  have HL := hid (HL.out.below hb HL.out.lt)
  have HB := hid (HB.out.trans (hb.mono HB.out.size))
  have hc1 : (0 : Int) < 1 := by decide
  clear hb hg2 hO2 HQ
  refine HK.out _ _ ?_
  clear HK
  refine wpList_plain rfl fun K hK => ?_
  have HK := hid hK
  clear hK
  go_wp2_with fail
  refine HK.out _ _ ?_
  clear HK
  clear hc1
  refine wpList_load_mid rfl 29 (.tmp 51) rfl G2 0 rfl (deV (hkAt h 2).p).toList _ (fun j v hv => by rw [Nat.zero_add]; exact HO2.out.cell j v (by simpa using hv)) Tryz.underlying29 rfl desc_size ?_
  refine wpList_plain rfl fun K hK => ?_
  have HK := hid hK
  clear hK
  go_wp2_with fail
  refine HK.out _ _ ?_
  clear HK
  refine wpList_plain rfl fun K hK => ?_
  have HK := hid hK
  clear hK
  go_wp2_with fail
  refine HK.out _ _ ?_
  clear HK
  refine wpList_store_mid rfl 29 (.tmp 54) (.tmp 52) rfl G 28 (deV (hkAt h 2).p) rfl rfl (HO.out.there 28 8 (by show 28 + 8 ≤ 48; decide)) desc_size (deV_one _) ?_
  have o1 := HO.out.cells_same (deV (hkAt h 2).p).toList 28 (fun j v hv => MD.out 2 (by decide) j v (by simpa using hv))
  have l1 := HL.out.same (setCells_far (Ne.symm HGL.out) (deV (hkAt h 2).p).toList 28 Wd2)
  have b1 := below_setCells HB.out G HG.out (deV (hkAt h 2).p).toList 28
  obtain ⟨We2, hWe2⟩ : ∃ We2, Wd2.setCells G 28 (deV (hkAt h 2).p).toList = We2 := ⟨_, rfl⟩
  rw [hWe2] at o1 l1 b1 ⊢
  have HO := hid o1
  have HL := hid l1
  have HB := hid b1
  clear o1 l1 b1 hWe2 HO2
  refine wpList_nil ?_
  go_wp2_with fail
  rw [rounds_succ]
  have cl := HL.out.cell 3
  have c3 := HO.out.cell 39 (.slice none 0 0) (C3.out 3 (by decide))
  go_wp2_with fail
  refine (DN.out _).mono ?_
  rintro e Wa3 ⟨rfl, hb⟩
  have HO := hid (HO.out.below hb HO.out.lt)
  have HL := hid (HL.out.below hb HL.out.lt)
  have HB := hid (HB.out.trans (hb.mono HB.out.size))
  clear hb cl c3
  have z3 := HO.out.frozen 39
  have c3 := HO.out.cell 39 (.slice none 0 0) (C3.out 3 (by decide))
  go_upto_region 9 with fail
  obtain ⟨Wb3, hWb3⟩ : ∃ Wb3, Wa3.setCell ⟨G, 39, none⟩ (.slice none 0 0) = Wb3 := ⟨_, rfl⟩
  have o1 := HO.out.set_same (C3.out 3 (by decide))
  have l1 := HL.out.far (p := ⟨G, 39, none⟩) (Ne.symm HGL.out) (.slice none 0 0)
  have b1 := below_set_new HB.out (p := ⟨G, 39, none⟩) HG.out (.slice none 0 0)
  rw [hWb3] at o1 l1 b1 ⊢
  have HO := hid o1
  have HL := hid l1
  have HB := hid b1
  clear o1 l1 b1 hWb3 z3 c3
  refine wp_region_list ?_
  refine wpList_plain rfl fun K hK => ?_
  have HK := hid hK
  clear hK
  go_wp2_with fail
  refine HK.out _ _ ?_
  clear HK
  refine wpList_plain rfl fun K hK => ?_
  have HK := hid hK
  clear hK
  go_wp2_with fail
  refine HK.out _ _ ?_
  clear HK
  refine wpList_plain rfl fun K hK => ?_
  have HK := hid hK
  clear hK
  go_wp2_with fail
  refine HK.out _ _ ?_
  clear HK
  refine wpList_plain rfl fun K hK => ?_
  have HK := hid hK
  clear hK
  go_wp2_with fail
  refine HK.out _ _ ?_
  clear HK
  refine wpList_load_mid rfl 29 (.tmp 47) rfl G 40 rfl (deV (hkAt h 3).p).toList _ (fun j v hv => HO.out.cell _ v (MD.out 3 (by decide) j v (by simpa using hv))) Tryz.underlying29 rfl desc_size ?_
  refine wpList_plain rfl fun K hK => ?_
  have HK := hid hK
  clear hK
  go_wp2_with fail
  refine HK.out _ _ ?_
  clear HK
  have q0 := Blk.new Wb3 (deV (hkAt h 3).p) 29
  have b0 : Below Wb3.heap.size Wb3 (Wb3.alloc (.cells (deV (hkAt h 3).p) 29)) := (Below.refl _ _).alloc (Nat.le_refl _) _
  obtain ⟨Wc3, hWc3⟩ : ∃ Wc3, Wb3.alloc (.cells (deV (hkAt h 3).p) 29) = Wc3 := ⟨_, rfl⟩
  rw [hWc3] at q0 b0
  first | rw [hWc3] | (simp only [deV] at hWc3; rw [hWc3])
  obtain ⟨M, hM⟩ : ∃ M, Wb3.heap.size = M := ⟨_, rfl⟩
  rw [hM] at q0 ⊢
  have HQ := hid q0
  have HO := hid (HO.out.below b0 HO.out.lt)
  have HL := hid (HL.out.below b0 HL.out.lt)
  have HB := hid (HB.out.trans (b0.mono HB.out.size))
  clear q0 b0 hWc3 hM
  refine wpList_plain rfl fun K hK => ?_
  have HK := hid hK
  clear hK
  go_wp2_with fail
  refine (DO.out _ 3 _ HQ.out).mono ?_
  rintro e Wd3 ⟨G2, cap2, rfl, hg2, hO2, hb⟩
  rw [PD.out 3] at hO2
  have HO2 := hid hO2
  have HO := hid (HO.out.below hb HO.out.lt)
  have HL := hid (HL.out.below hb HL.out.lt)
  have HB := hid (HB.out.trans (hb.mono HB.out.size))
  have hc1 : (0 : Int) < 1 := by decide
  clear hb hg2 hO2 HQ
  refine HK.out _ _ ?_
  clear HK
  refine wpList_plain rfl fun K hK => ?_
  have HK := hid hK
  clear hK
  go_wp2_with fail
  refine HK.out _ _ ?_
  clear HK
  clear hc1
  refine wpList_load_mid rfl 29 (.tmp 51) rfl G2 0 rfl (deV (hkAt h 3).p).toList _ (fun j v hv => by rw [Nat.zero_add]; exact HO2.out.cell j v (by simpa using hv)) Tryz.underlying29 rfl desc_size ?_
  refine wpList_plain rfl fun K hK => ?_
  have HK := hid hK
  clear hK
  go_wp2_with fail
  refine HK.out _ _ ?_
  clear HK
  refine wpList_plain rfl fun K hK => ?_
  have HK := hid hK
  clear hK
  go_wp2_with fail
  refine HK.out _ _ ?_
  clear HK
  refine wpList_store_mid rfl 29 (.tmp 54) (.tmp 52) rfl G 40 (deV (hkAt h 3).p) rfl rfl (HO.out.there 40 8 (by show 40 + 8 ≤ 48; decide)) desc_size (deV_one _) ?_
  have o1 := HO.out.cells_same (deV (hkAt h 3).p).toList 40 (fun j v hv => MD.out 3 (by decide) j v (by simpa using hv))
  have l1 := HL.out.same (setCells_far (Ne.symm HGL.out) (deV (hkAt h 3).p).toList 40 Wd3)
  have b1 := below_setCells HB.out G HG.out (deV (hkAt h 3).p).toList 40
  obtain ⟨We3, hWe3⟩ : ∃ We3, Wd3.setCells G 40 (deV (hkAt h 3).p).toList = We3 := ⟨_, rfl⟩
  rw [hWe3] at o1 l1 b1 ⊢
  have HO := hid o1
  have HL := hid l1
  have HB := hid b1
  clear o1 l1 b1 hWe3 HO2
  refine wpList_nil ?_
  go_wp2_with fail
  rw [rounds_succ]
  go_wp2_with fail
  rw [rounds_succ]
  go_wp2_with fail
  go_ret
  exact ⟨G, cap, rfl, HG.out, HO.out, HB.out⟩
end Go.Proofs.YtdjhmanccoekjaaGreatDoor
end

section
namespace Go.Proofs.YtdjhmanccoekjaaGreatDoor.PP

structure Ix where
  k : Int
  n : Int
structure Nm where
  k : Int
  n : Int
  a : Ix
structure Fl where
  pl : Bool
  mi : Bool
  sh : Bool
  sp : Bool
  ze : Bool
structure Pc where
  k : Int
  text : List UInt8
  f : Fl
  wid : Int
  prec : Int
  verb : Int
  w : Nm
  p : Nm
  a : Ix

def isD (a : UInt8) : Bool := decide (48 ≤ a.toNat) && decide (a.toNat ≤ 57)
def dg (l : List UInt8) : List UInt8 := l.takeWhile isD
def rs (l : List UInt8) : List UInt8 := l.dropWhile isD
theorem dg_rs (l : List UInt8) : dg l ++ rs l = l := List.takeWhile_append_dropWhile
theorem rs_drop (l : List UInt8) : rs l = l.drop (dg l).length := by
  have h := dg_rs l
  conv => rhs; rw [← h]
  rw [show (dg (dg l ++ rs l)).length = (dg l).length by rw [h], List.drop_left]

/-- The number of digits; -1: above a limit. -/
def valL (limit : Int) : Int → List UInt8 → Int
  | n, [] => n
  | n, a :: t => if limit < 10 * n + ((a.toNat : Int) - 48) then -1 else valL limit (10 * n + ((a.toNat : Int) - 48)) t

/-- The byte that comes next; 0: none. -/
def pk : List UInt8 → Int
  | [] => 0
  | a :: _ => a.toNat

def flOn (f : Fl) (a : UInt8) : Option Fl :=
  if a.toNat = 43 then some { f with pl := true } else if a.toNat = 45 then some { f with mi := true } else if a.toNat = 35 then some { f with sh := true }
  else if a.toNat = 32 then some { f with sp := true } else if a.toNat = 48 then some { f with ze := true } else none
def flL : Fl → List UInt8 → Fl × List UInt8
  | f, [] => (f, [])
  | f, a :: t => match flOn f a with
    | some g => flL g t
    | none => (f, a :: t)

def ixL (l : List UInt8) : Ix × List UInt8 :=
  match l with
  | [] => (⟨0, 0⟩, [])
  | a :: t =>
    if a.toNat = 91 then
      if dg t = [] then (⟨2, 0⟩, t)
      else match rs t with
        | [] => (⟨2, 0⟩, t)
        | b :: r => if b.toNat = 93 then (if 0 < valL 999999999 0 (dg t) ∧ (dg t).length ≤ 9 then (⟨1, valL 999999999 0 (dg t)⟩, r) else (⟨2, 0⟩, r)) else (⟨2, 0⟩, t)
    else (⟨0, 0⟩, a :: t)

def spoil (x : Ix) : Ix := if x.k = 0 then x else ⟨2, 0⟩
def andI (x y : Ix) : Ix := if y.k = 0 then x else if x.k = 0 then y else ⟨2, 0⟩

def nmL (x : Ix) (always : Bool) (l : List UInt8) : Nm × Ix × List UInt8 :=
  if pk l = 42 then (⟨2, 0, x⟩, ⟨0, 0⟩, l.drop 1)
  else if (49 ≤ pk l ∧ pk l ≤ 57) ∨ (always = true ∧ pk l = 48) then (⟨1, valL 1000 0 (dg l), ⟨0, 0⟩⟩, spoil x, rs l)
  else if always then (⟨1, 0, ⟨0, 0⟩⟩, x, l)
  else (⟨0, 0, ⟨0, 0⟩⟩, x, l)

/-- Behind the point, if one stands there: the precision, what becomes of the verb's index, what is left. -/
def prL (a : Ix) (l : List UInt8) : Nm × Ix × List UInt8 :=
  if pk l = 46 then
    let i := ixL (l.drop 1)
    let n := nmL i.1 true i.2
    (n.1, andI (spoil a) n.2.1, n.2.2)
  else (⟨0, 0, ⟨0, 0⟩⟩, a, l)

/-- A directive behind its %: the piece, and what is left. -/
def dirL (l : List UInt8) : Pc × List UInt8 :=
  let f := flL ⟨false, false, false, false, false⟩ l
  let i := ixL f.2
  let w := nmL i.1 false i.2
  let p := prL w.2.1 w.2.2
  let j := ixL p.2.2
  let a := andI p.2.1 j.1
  if j.2 = [] then (⟨2, 37 :: l, f.1, -1, -1, 0, w.1, p.1, a⟩, [])
  else (⟨1, 37 :: l.take (l.length - (j.2.drop (Utf.decL j.2).2).length), f.1, -1, -1, (Utf.decL j.2).1, w.1, p.1, a⟩, j.2.drop (Utf.decL j.2).2)

theorem flL_len : ∀ (l : List UInt8) (f : Fl), (flL f l).2.length ≤ l.length
  | [], f => by simp [flL]
  | a :: t, f => by
    unfold flL
    split
    · rename_i g _
      have := flL_len t g
      simp only [List.length_cons]; omega
    · exact Nat.le_refl _
theorem rs_len (l : List UInt8) : (rs l).length ≤ l.length := by rw [rs_drop, List.length_drop]; omega
theorem ixL_len (l : List UInt8) : (ixL l).2.length ≤ l.length := by
  unfold ixL
  split
  · exact Nat.le_refl _
  · rename_i a t
    split
    · split
      · simp
      · split
        · simp
        · rename_i b r hr
          have := rs_len t
          rw [hr] at this
          simp only [List.length_cons] at *
          split
          · split <;> simp only [] <;> omega
          · simp only []; omega
    · exact Nat.le_refl _
theorem nmL_len (x : Ix) (al : Bool) (l : List UInt8) : (nmL x al l).2.2.length ≤ l.length := by
  unfold nmL
  split
  · simp
  · split
    · exact rs_len l
    · split <;> exact Nat.le_refl _
theorem prL_len (a : Ix) (l : List UInt8) : (prL a l).2.2.length ≤ l.length := by
  unfold prL
  split
  · have h1 := ixL_len (l.drop 1)
    have h2 := nmL_len (ixL (l.drop 1)).1 true (ixL (l.drop 1)).2
    simp only [List.length_drop] at *
    omega
  · exact Nat.le_refl _
theorem dirL_len (l : List UInt8) : (dirL l).2.length ≤ l.length := by
  unfold dirL
  simp only []
  have h1 := flL_len l ⟨false, false, false, false, false⟩
  have h2 := ixL_len (flL ⟨false, false, false, false, false⟩ l).2
  have h3 := nmL_len (ixL (flL ⟨false, false, false, false, false⟩ l).2).1 false (ixL (flL ⟨false, false, false, false, false⟩ l).2).2
  generalize nmL (ixL (flL ⟨false, false, false, false, false⟩ l).2).1 false (ixL (flL ⟨false, false, false, false, false⟩ l).2).2 = w at *
  have h4 := prL_len w.2.1 w.2.2
  generalize prL w.2.1 w.2.2 = p at *
  have h5 := ixL_len p.2.2
  split
  · simp
  · simp only [List.length_drop]
    omega

/-- A literal. -/
def litP (t : List UInt8) : Pc := ⟨0, t, ⟨false, false, false, false, false⟩, 0, 0, 0, ⟨0, 0, ⟨0, 0⟩⟩, ⟨0, 0, ⟨0, 0⟩⟩, ⟨0, 0⟩⟩
def notPct (a : UInt8) : Bool := !decide (a.toNat = 37)

/-- The pieces of a format. -/
def parseL (l : List UInt8) : List Pc :=
  match l with
  | [] => []
  | a :: t => if a.toNat = 37 then (dirL t).1 :: parseL (dirL t).2 else litP ((a :: t).takeWhile notPct) :: parseL (t.dropWhile notPct)
termination_by l.length
decreasing_by
  · have := dirL_len t
    simp only [List.length_cons]; omega
  · have : (t.dropWhile notPct).length ≤ t.length := (List.dropWhile_suffix notPct).length_le
    simp only [List.length_cons]; omega

theorem parseL_nil : parseL [] = [] := by rw [parseL]
theorem parseL_pct {a : UInt8} {t : List UInt8} (h : a.toNat = 37) : parseL (a :: t) = (dirL t).1 :: parseL (dirL t).2 := by rw [parseL, if_pos h]
theorem parseL_lit {a : UInt8} {t : List UInt8} (h : ¬ a.toNat = 37) : parseL (a :: t) = litP ((a :: t).takeWhile notPct) :: parseL ((a :: t).dropWhile notPct) := by
  rw [parseL, if_neg h, List.dropWhile_cons, if_pos (by simp [notPct, h])]
end Go.Proofs.YtdjhmanccoekjaaGreatDoor.PP
end

section
namespace Go.Proofs.YtdjhmanccoekjaaGreatDoor.PR
open Go.RowKit Go.Proofs

/-- A block that is known whole. -/
def Blk (w : World) (g : Nat) (cs : Array Value) (t : TypeId) : Prop := w.heap[g]? = some (.cells cs t (0, 0))
section
variable {w w' : World} {g : Nat} {cs : Array Value} {t : TypeId}
theorem Blk.lt (h : Blk w g cs t) : g < w.heap.size := by
  rcases Nat.lt_or_ge g w.heap.size with hlt | hge
  · exact hlt
  · unfold Blk at h
    rw [Array.getElem?_eq_none hge] at h
    cases h
theorem Blk.cell (h : Blk w g cs t) (i : Nat) : w.cell? ⟨g, i, none⟩ = cs[i]? := cell_of_row w g i cs t (0, 0) h
theorem Blk.frozen (h : Blk w g cs t) (i : Nat) : w.frozen? ⟨g, i, none⟩ = false := by
  unfold Blk at h
  simp [World.frozen?, h]
theorem Blk.set_ (h : Blk w g cs t) (i : Nat) (u : Value) : Blk (w.setCell ⟨g, i, none⟩ u) g (cs.setIfInBounds i u) t := by
  unfold Blk at h ⊢
  simp [World.setCell, Array.getElem?_modify, h]
theorem Blk.same (h : Blk w g cs t) (e : w'.heap[g]? = w.heap[g]?) : Blk w' g cs t := e.trans h
theorem Blk.far (h : Blk w g cs t) {p : Addr} (hp : g ≠ p.block) (u : Value) : Blk (w.setCell p u) g cs t := (Below.heap_setCell w p u g hp).trans h
theorem Blk.new (w : World) (cs : Array Value) (t : TypeId) : Blk (w.alloc (.cells cs t)) w.heap.size cs t := heap_alloc_new w _
theorem Blk.alloc (h : Blk w g cs t) (o : Obj) : Blk (w.alloc o) g cs t := (Below.heap_alloc w o g h.lt).trans h
theorem Blk.below {B : Nat} (h : Blk w g cs t) (hb : Below B w w') (hg : g < B) : Blk w' g cs t := (hb.block g hg).trans h
end

/-- All blocks that were there but R are as they were. -/
structure Only (R : Nat) (w w' : World) : Prop where
  os : w'.os = w.os
  tape : w'.tape = w.tape
  output : w'.output = w.output
  size : w.heap.size ≤ w'.heap.size
  block : ∀ k, k < w.heap.size → k ≠ R → w'.heap[k]? = w.heap[k]?
theorem Only.refl (R : Nat) (w : World) : Only R w w := ⟨rfl, rfl, rfl, Nat.le_refl _, fun _ _ _ => rfl⟩
theorem Only.trans {R : Nat} {a c d : World} (h : Only R a c) (k : Only R c d) : Only R a d :=
  ⟨k.os.trans h.os, k.tape.trans h.tape, k.output.trans h.output, Nat.le_trans h.size k.size, fun i hi hb => (k.block i (Nat.lt_of_lt_of_le hi h.size) hb).trans (h.block i hi hb)⟩
theorem Only.below {R : Nat} {a c : World} (h : Only R a c) {B : Nat} (h1 : B ≤ a.heap.size) (h2 : B ≤ R) : Below B a c :=
  ⟨h.os, h.tape, h.output, h.size, fun k hk => h.block k (by omega) (by omega)⟩
theorem Only.of_below {R : Nat} {a c : World} (h : Below a.heap.size a c) : Only R a c := ⟨h.os, h.tape, h.output, h.size, fun k hk _ => h.block k hk⟩
theorem Only.drew {R : Nat} {a c : World} (h : Only R a c) : Only R a c.drew := ⟨h.os, h.tape, h.output, h.size, h.block⟩
theorem Only.drewN {R : Nat} {a c : World} (h : Only R a c) (n : Nat) : Only R a (c.drewN n) := ⟨h.os, h.tape, h.output, h.size, h.block⟩
theorem Only.set_ {R : Nat} {a c : World} (h : Only R a c) (i : Nat) (u : Value) : Only R a (c.setCell ⟨R, i, none⟩ u) :=
  ⟨h.os, h.tape, h.output, by simpa [World.setCell] using h.size, fun k hk hb => (Below.heap_setCell c _ u k hb).trans (h.block k hk hb)⟩
theorem Only.alloc {R : Nat} {a c : World} (h : Only R a c) (o : Obj) : Only R a (c.alloc o) :=
  ⟨h.os, h.tape, h.output, by have := h.size; simp; omega, fun k hk hb => (Below.heap_alloc c o k (Nat.lt_of_lt_of_le hk h.size)).trans (h.block k hk hb)⟩

/-- The reader: what is left, and the function that looks at it. -/
abbrev clo (V : Nat) : Value := .func (Fn.func 131) #[] #[.pointer (some ⟨V, 0, none⟩)]
def Rd (w : World) (R V : Nat) (t : ByteArray) : Prop :=
  Blk w R #[.string t, clo V] 173 ∧ Blk w V #[.pointer (some ⟨R, 0, none⟩)] 164
theorem Rd.ne {w : World} {R V : Nat} {t : ByteArray} (h : Rd w R V t) : V ≠ R := by
  rintro rfl
  have h1 := h.1
  have h2 := h.2
  unfold Blk at h1 h2
  rw [h1] at h2
  injection h2 with h2
  injection h2 with _ h2
  exact absurd h2 (by decide)
theorem Rd.drew {w : World} {R V : Nat} {t : ByteArray} (h : Rd w R V t) : Rd w.drew R V t := h
theorem Rd.drewN {w : World} {R V : Nat} {t : ByteArray} (h : Rd w R V t) (n : Nat) : Rd (w.drewN n) R V t := h
theorem Rd.alloc {w : World} {R V : Nat} {t : ByteArray} (h : Rd w R V t) (o : Obj) : Rd (w.alloc o) R V t := ⟨h.1.alloc o, h.2.alloc o⟩
theorem Rd.far {w : World} {R V : Nat} {t : ByteArray} (h : Rd w R V t) {p : Addr} (h1 : R ≠ p.block) (h2 : V ≠ p.block) (u : Value) : Rd (w.setCell p u) R V t := ⟨h.1.far h1 u, h.2.far h2 u⟩
theorem Rd.put {w : World} {R V : Nat} {t : ByteArray} (h : Rd w R V t) (t' : ByteArray) : Rd (w.setCell ⟨R, 0, none⟩ (.string t')) R V t' := ⟨h.1.set_ 0 _, h.2.far h.ne _⟩
theorem Rd.other {w w' : World} {R V P : Nat} {t : ByteArray} (h : Rd w R V t) (ho : Only P w w') (h1 : R ≠ P) (h2 : V ≠ P) : Rd w' R V t :=
  ⟨h.1.same (ho.block _ h.1.lt h1), h.2.same (ho.block _ h.2.lt h2)⟩
theorem Rd.below {w w' : World} {R V : Nat} {t : ByteArray} (h : Rd w R V t) (hb : Below w.heap.size w w') : Rd w' R V t := ⟨h.1.below hb h.1.lt, h.2.below hb h.2.lt⟩

theorem reading_any (s : ByteArray) (w : World) : Calls Tryz.prog 99 #[.string s] w fun e w' => e = .returned (.pointer (some ⟨w.heap.size, 0, none⟩)) ∧
    Rd w' w.heap.size (w.heap.size + 1) s ∧ Below w.heap.size w w' ∧ w'.heap.size = w.heap.size + 2 := by
  go_enter Tryz.func99, Tryz.ntmps99
  go_wp2_with fail
  go_ret
  refine ⟨rfl, ⟨(Blk.new w _ _).alloc _, ?_⟩, ((Below.refl _ _).alloc (Nat.le_refl _) _).alloc (by simp) _, by simp⟩
  have := Blk.new (w.alloc (.cells #[.string s, clo (w.heap.size + 1)] 173)) #[.pointer (some ⟨w.heap.size, 0, none⟩)] 164
  simpa using this

theorem size_pos_list {t : ByteArray} {a : UInt8} {r : List UInt8} (h : t.data.toList = a :: r) : 0 < t.size := by rw [Utf.size_eq, h]; simp
theorem list_of_pos {t : ByteArray} (h : 0 < t.size) : ∃ a r, t.data.toList = a :: r := by
  rw [Utf.size_eq] at h
  match e : t.data.toList, h with
  | a :: r, _ => exact ⟨a, r, rfl⟩
theorem pk_bound (l : List UInt8) : 0 ≤ PP.pk l ∧ PP.pk l < 256 := by
  cases l with
  | nil => simp [PP.pk]
  | cons a r => have := a.toNat_lt; simp [PP.pk]; omega
theorem bt_zero (t : ByteArray) : bt t 0 = PP.pk t.data.toList := by
  unfold bt PP.pk
  cases t.data.toList <;> rfl
theorem isE_pos {t : ByteArray} (h : 0 < t.size) : t.toList.isEmpty = false := by
  rw [isEmpty_iff]
  apply decide_eq_false
  intro e
  rw [Utf.size_eq, e] at h
  exact absurd h (Nat.lt_irrefl 0)
theorem isE_zero {t : ByteArray} (h : ¬ 0 < t.size) : t.toList.isEmpty = true := by
  rw [isEmpty_iff]
  apply decide_eq_true
  apply List.eq_nil_of_length_eq_zero
  rw [← Utf.size_eq]
  omega

/-- What peek tells. -/
theorem peek_any (R V : Nat) (t : ByteArray) (w : World) (h : Rd w R V t) : Calls Tryz.prog 131 #[.pointer (some ⟨V, 0, none⟩)] w fun e w' => e = .returned (.int .u8 (PP.pk t.data.toList)) ∧ w = w' := by
  have hv : w.cell? ⟨V, 0, none⟩ = some (.pointer (some ⟨R, 0, none⟩)) := h.2.cell 0
  have hr : w.cell? ⟨R, 0, none⟩ = some (.string t) := h.1.cell 0
  clear h
  by_cases hp : 0 < t.size
  · have he := isE_pos hp
    have E0 := bt_at t 0 hp
    rw [bt_zero] at E0
    go_enter Tryz.func131, Tryz.ntmps131
    go_wp2_with fail
    go_ret
    exact ⟨rfl, rfl⟩
  · have he := isE_zero hp
    have hk : PP.pk t.data.toList = 0 := by
      have e0 : t.data.toList = [] := List.eq_nil_of_length_eq_zero (by rw [← Utf.size_eq]; omega)
      rw [e0]; rfl
    rw [hk]
    clear hk
    go_enter Tryz.func131, Tryz.ntmps131
    go_wp2_with fail
    go_ret
    exact ⟨rfl, rfl⟩
end Go.Proofs.YtdjhmanccoekjaaGreatDoor.PR
end

section
namespace Go.Proofs.YtdjhmanccoekjaaGreatDoor.PR
open Go.RowKit Go.Proofs

theorem ext_drop (t : ByteArray) (k : Nat) : (t.extract k t.size).data.toList = t.data.toList.drop k := by
  rw [Lib.extract_data]
  exact List.take_of_length_le (by rw [List.length_drop, ← Utf.size_eq]; omega)
theorem ext_take (t : ByteArray) (k : Nat) : (t.extract 0 k).data.toList = t.data.toList.take k := by
  rw [Lib.extract_data]; simp

/-- What the reader's text weighs: for a loop's measure. -/
def rdLen (w : World) (R : Nat) : Nat := match w.cell? ⟨R, 0, none⟩ with | some (.string t) => t.size | _ => 0
theorem rdLen_of {w : World} {R V : Nat} {t : ByteArray} (h : Rd w R V t) : rdLen w R = t.size := by
  have : w.cell? ⟨R, 0, none⟩ = some (.string t) := h.1.cell 0
  unfold rdLen
  rw [this]

/-- A piece under way: only its flags are told. -/
abbrev p0 (f : PP.Fl) : Array Value := #[.int .i64 2, .string ⟨#[]⟩, .bool f.pl, .bool f.mi, .bool f.sh, .bool f.sp, .bool f.ze, .int .i64 (-1), .int .i64 (-1), .int .i32 0, .int .i64 0, .int .i64 0, .int .i64 0, .int .i64 0, .int .i64 0, .int .i64 0, .int .i64 0, .int .i64 0, .int .i64 0, .int .i64 0]

theorem flL_eq (f : PP.Fl) (l : List UInt8) : PP.flL f l = match l with
    | [] => (f, [])
    | a :: t => match PP.flOn f a with
      | some g => PP.flL g t
      | none => (f, a :: t) := by
  cases l <;> rw [PP.flL] <;> rfl
theorem flL_on {f : PP.Fl} {t : ByteArray} {g : PP.Fl} (h : 0 < t.size) (hg : ∀ a : UInt8, (a.toNat : Int) = PP.pk t.data.toList → PP.flOn f a = some g) : PP.flL f t.data.toList = PP.flL g (t.extract 1 t.size).data.toList := by
  obtain ⟨a, r, e⟩ := list_of_pos h
  rw [ext_drop, flL_eq, e]
  simp only []
  rw [hg a (by rw [e]; rfl)]
  rfl
theorem flL_off {f : PP.Fl} {t : ByteArray} (h1 : PP.pk t.data.toList ≠ 43) (h2 : PP.pk t.data.toList ≠ 45) (h3 : PP.pk t.data.toList ≠ 35) (h4 : PP.pk t.data.toList ≠ 32) (h5 : PP.pk t.data.toList ≠ 48) : PP.flL f t.data.toList = (f, t.data.toList) := by
  rw [flL_eq]
  cases e : t.data.toList with
  | nil => rfl
  | cons a r =>
    have hk : PP.pk t.data.toList = (a.toNat : Int) := by rw [e]; rfl
    rw [hk] at h1 h2 h3 h4 h5
    simp only []
    unfold PP.flOn
    rw [if_neg (by omega), if_neg (by omega), if_neg (by omega), if_neg (by omega), if_neg (by omega)]
theorem pk_pos {t : ByteArray} (h : PP.pk t.data.toList ≠ 0) : 0 < t.size := by
  rcases Nat.eq_zero_or_pos t.size with e | e
  · exfalso
    apply h
    have e0 : t.data.toList = [] := List.eq_nil_of_length_eq_zero (by rw [← Utf.size_eq]; omega)
    rw [e0]; rfl
  · exact e
theorem pk_size (t : ByteArray) (h : 0 < t.size) : 1 ≤ t.size := h

set_option maxRecDepth 100000 in
set_option maxHeartbeats 4000000 in
theorem flags_any (B R V P : Nat) (t0 : ByteArray) (f0 : PP.Fl) (w : World) (h : Rd w R V t0) (hp : Blk w P (p0 f0) 100) (hBR : B ≤ R) (hBP : B ≤ P) (hRP : R ≠ P) (hVP : V ≠ P) :
    Calls Tryz.prog 100 #[.pointer (some ⟨R, 0, none⟩), .pointer (some ⟨P, 2, none⟩)] w fun e w' => e = .returned (.tuple #[]) ∧
      ∃ t, t.data.toList = (PP.flL f0 t0.data.toList).2 ∧ Rd w' R V t ∧ Blk w' P (p0 (PP.flL f0 t0.data.toList).1) 100 ∧ Below B w w' := by
  obtain ⟨F, hF⟩ : ∃ F, PP.flL f0 t0.data.toList = F := ⟨_, rfl⟩
  rw [hF]
  have HR := hid h
  have HP := hid hp
  have HF := hid hF
  clear h hp hF
  go_enter Tryz.func100, Tryz.ntmps100
  go_step3
  go_wp2_with fail
  go_step3
  go_wp2_with fail
  go_loopg [] t0.size (fun g wr => ∃ (t : ByteArray) (f : PP.Fl), t.size ≤ g ∧ Hid (Rd wr R V t ∧ Blk wr P (p0 f) 100 ∧ PP.flL f t.data.toList = F) ∧ Below B w wr)
  case atStart => exact ⟨t0, f0, Nat.le_refl _, ⟨HR.out, HP.out, HF.out⟩, Below.refl _ _⟩
  case round =>
    obtain ⟨t, f, hg, hrel, hb⟩ := hrel
    have hr0 : wr.cell? ⟨R, 0, none⟩ = some (.string t) := hrel.out.1.1.cell 0
    have hr1 : wr.cell? ⟨R, 1, none⟩ = some (clo V) := hrel.out.1.1.cell 1
    have hp2 : wr.cell? ⟨P, 2, none⟩ = some (.bool f.pl) := hrel.out.2.1.cell 2
    have hp3 : wr.cell? ⟨P, 3, none⟩ = some (.bool f.mi) := hrel.out.2.1.cell 3
    have hp4 : wr.cell? ⟨P, 4, none⟩ = some (.bool f.sh) := hrel.out.2.1.cell 4
    have hp5 : wr.cell? ⟨P, 5, none⟩ = some (.bool f.sp) := hrel.out.2.1.cell 5
    have hp6 : wr.cell? ⟨P, 6, none⟩ = some (.bool f.ze) := hrel.out.2.1.cell 6
    have hfp : ∀ i, wr.frozen? ⟨P, i, none⟩ = false := hrel.out.2.1.frozen
    have hfr : ∀ i, wr.frozen? ⟨R, i, none⟩ = false := hrel.out.1.1.frozen
    have hpk := peek_any R V t wr hrel.out.1
    by_cases h43 : PP.pk t.data.toList = 43
    · have hpos : 0 < t.size := pk_pos (by omega)
      have hon : Hid (PP.flL f t.data.toList = PP.flL { f with pl := true } (t.extract 1 t.size).data.toList) := flL_on hpos (fun a ha => by
        rw [h43] at ha
        unfold PP.flOn
        rw [if_pos (by omega)])
      rw [h43] at hpk
      have HPK := hid hpk
      clear hpk h43
      obtain ⟨t', ht'⟩ : ∃ t', t.extract 1 t.size = t' := ⟨_, rfl⟩
      go_wp2_with fail
      refine HPK.out.mono ?_
      rintro e w' ⟨rfl, rfl⟩
      go_wp2_with fail
      subst ht'
      go_roundg (gk - 1)
      case measure => omega
      case rel => exact ⟨_, { f with pl := true }, by simp; omega, ⟨(hrel.out.1.far (by simpa using hRP) (by simpa using hVP) _).put _, (hrel.out.2.1.set_ 2 _).far (by simpa using hRP.symm) _, hon.out ▸ hrel.out.2.2⟩, (hb.setCell hBP _).setCell hBR _⟩
    by_cases h45 : PP.pk t.data.toList = 45
    · have hpos : 0 < t.size := pk_pos (by omega)
      have hon : Hid (PP.flL f t.data.toList = PP.flL { f with mi := true } (t.extract 1 t.size).data.toList) := flL_on hpos (fun a ha => by
        rw [h45] at ha
        unfold PP.flOn
        rw [if_neg (by omega)]; rw [if_pos (by omega)])
      rw [h45] at hpk
      have HPK := hid hpk
      clear hpk h43 h45
      obtain ⟨t', ht'⟩ : ∃ t', t.extract 1 t.size = t' := ⟨_, rfl⟩
      go_wp2_with fail
      refine HPK.out.mono ?_
      rintro e w' ⟨rfl, rfl⟩
      go_wp2_with fail
      subst ht'
      go_roundg (gk - 1)
      case measure => omega
      case rel => exact ⟨_, { f with mi := true }, by simp; omega, ⟨(hrel.out.1.far (by simpa using hRP) (by simpa using hVP) _).put _, (hrel.out.2.1.set_ 3 _).far (by simpa using hRP.symm) _, hon.out ▸ hrel.out.2.2⟩, (hb.setCell hBP _).setCell hBR _⟩
    by_cases h35 : PP.pk t.data.toList = 35
    · have hpos : 0 < t.size := pk_pos (by omega)
      have hon : Hid (PP.flL f t.data.toList = PP.flL { f with sh := true } (t.extract 1 t.size).data.toList) := flL_on hpos (fun a ha => by
        rw [h35] at ha
        unfold PP.flOn
        rw [if_neg (by omega)]; rw [if_neg (by omega)]; rw [if_pos (by omega)])
      rw [h35] at hpk
      have HPK := hid hpk
      clear hpk h43 h45 h35
      obtain ⟨t', ht'⟩ : ∃ t', t.extract 1 t.size = t' := ⟨_, rfl⟩
      go_wp2_with fail
      refine HPK.out.mono ?_
      rintro e w' ⟨rfl, rfl⟩
      go_wp2_with fail
      subst ht'
      go_roundg (gk - 1)
      case measure => omega
      case rel => exact ⟨_, { f with sh := true }, by simp; omega, ⟨(hrel.out.1.far (by simpa using hRP) (by simpa using hVP) _).put _, (hrel.out.2.1.set_ 4 _).far (by simpa using hRP.symm) _, hon.out ▸ hrel.out.2.2⟩, (hb.setCell hBP _).setCell hBR _⟩
    by_cases h32 : PP.pk t.data.toList = 32
    · have hpos : 0 < t.size := pk_pos (by omega)
      have hon : Hid (PP.flL f t.data.toList = PP.flL { f with sp := true } (t.extract 1 t.size).data.toList) := flL_on hpos (fun a ha => by
        rw [h32] at ha
        unfold PP.flOn
        rw [if_neg (by omega)]; rw [if_neg (by omega)]; rw [if_neg (by omega)]; rw [if_pos (by omega)])
      rw [h32] at hpk
      have HPK := hid hpk
      clear hpk h43 h45 h35 h32
      obtain ⟨t', ht'⟩ : ∃ t', t.extract 1 t.size = t' := ⟨_, rfl⟩
      go_wp2_with fail
      refine HPK.out.mono ?_
      rintro e w' ⟨rfl, rfl⟩
      go_wp2_with fail
      subst ht'
      go_roundg (gk - 1)
      case measure => omega
      case rel => exact ⟨_, { f with sp := true }, by simp; omega, ⟨(hrel.out.1.far (by simpa using hRP) (by simpa using hVP) _).put _, (hrel.out.2.1.set_ 5 _).far (by simpa using hRP.symm) _, hon.out ▸ hrel.out.2.2⟩, (hb.setCell hBP _).setCell hBR _⟩
    by_cases h48 : PP.pk t.data.toList = 48
    · have hpos : 0 < t.size := pk_pos (by omega)
      have hon : Hid (PP.flL f t.data.toList = PP.flL { f with ze := true } (t.extract 1 t.size).data.toList) := flL_on hpos (fun a ha => by
        rw [h48] at ha
        unfold PP.flOn
        rw [if_neg (by omega)]; rw [if_neg (by omega)]; rw [if_neg (by omega)]; rw [if_neg (by omega)]; rw [if_pos (by omega)])
      rw [h48] at hpk
      have HPK := hid hpk
      clear hpk h43 h45 h35 h32 h48
      obtain ⟨t', ht'⟩ : ∃ t', t.extract 1 t.size = t' := ⟨_, rfl⟩
      go_wp2_with fail
      refine HPK.out.mono ?_
      rintro e w' ⟨rfl, rfl⟩
      go_wp2_with fail
      subst ht'
      go_roundg (gk - 1)
      case measure => omega
      case rel => exact ⟨_, { f with ze := true }, by simp; omega, ⟨(hrel.out.1.far (by simpa using hRP) (by simpa using hVP) _).put _, (hrel.out.2.1.set_ 6 _).far (by simpa using hRP.symm) _, hon.out ▸ hrel.out.2.2⟩, (hb.setCell hBP _).setCell hBR _⟩
    have hoff := hid (flL_off (f := f) h43 h45 h35 h32 h48)
    obtain ⟨c, hc⟩ : ∃ c, PP.pk t.data.toList = c := ⟨_, rfl⟩
    rw [hc] at hpk h43 h45 h35 h32 h48
    have HPK := hid hpk
    clear hpk
    go_wp2_with fail
    refine HPK.out.mono ?_
    rintro e w' ⟨rfl, rfl⟩
    go_wp2_with fail
    rw [Exit.noGoto_normal]
    first | go_end0 | go_ret
    have e := hoff.out
    rw [hrel.out.2.2] at e
    rw [e]
    exact ⟨rfl, t, rfl, hrel.out.1, hrel.out.2.1, hb⟩
end Go.Proofs.YtdjhmanccoekjaaGreatDoor.PR
end

section
namespace Go.Proofs.YtdjhmanccoekjaaGreatDoor.PR
open Go.RowKit Go.Proofs

def AllD (l : List UInt8) : Prop := ∀ a ∈ l, 48 ≤ a.toNat ∧ a.toNat ≤ 57
theorem allD_dg (l : List UInt8) : AllD (PP.dg l) := by
  intro a ha
  have h : PP.isD a = true := by
    unfold PP.dg at ha
    induction l with
    | nil => simp at ha
    | cons b t ih =>
      rw [List.takeWhile_cons] at ha
      split at ha
      · rename_i hb
        rcases List.mem_cons.mp ha with e | e
        · rw [e]; exact hb
        · exact ih e
      · cases ha
  simp [PP.isD] at h
  omega
theorem bytesWorld_below (w : World) (e : TypeId) (s : ByteArray) : Below w.heap.size w (Lib.bytesWorld w e s) :=
  ⟨rfl, rfl, rfl, by rw [Lib.bytesWorld_size]; omega, fun k hk => Lib.bytesWorld_at_old w e s k hk⟩
theorem valL_cons {limit n : Int} {a : UInt8} {t : List UInt8} : PP.valL limit n (a :: t) = if limit < 10 * n + ((a.toNat : Int) - 48) then -1 else PP.valL limit (10 * n + ((a.toNat : Int) - 48)) t := by rw [PP.valL]
theorem drop_at {l : List UInt8} {i : Nat} (h : i < l.length) : l.drop i = l.getD i 0 :: l.drop (i + 1) := by
  rw [List.drop_eq_getElem_cons h]
  simp [List.getD, h]

theorem getD_mem {l : List UInt8} {i : Nat} (h : i < l.length) : l.getD i 0 ∈ l := by
  have e : l.getD i 0 = l[i] := by unfold List.getD; rw [List.getElem?_eq_getElem h]; rfl
  rw [e]
  exact List.getElem_mem h

theorem dg_len_in {l : List UInt8} {k : Nat} {K : Nat} (hk : k + (PP.dg (l.drop k)).length = K) (h : k < l.length) (h1 : 48 ≤ ((l[k]?.getD 0).toNat : Int)) (h2 : ((l[k]?.getD 0).toNat : Int) ≤ 57) : k + 1 + (PP.dg (l.drop (k + 1))).length = K := by
  rw [List.drop_eq_getElem_cons h] at hk
  rw [List.getElem?_eq_getElem h] at h1 h2
  simp only [Option.getD_some] at h1 h2
  have : PP.isD l[k] = true := by simp [PP.isD]; omega
  unfold PP.dg at hk ⊢
  rw [List.takeWhile_cons, this] at hk
  simp only [if_true, List.length_cons] at hk
  omega
theorem dg_len_out {l : List UInt8} {k : Nat} {K : Nat} (hk : k + (PP.dg (l.drop k)).length = K) (h : ∀ _ : k < l.length, ¬ (48 ≤ ((l[k]?.getD 0).toNat : Int) ∧ ((l[k]?.getD 0).toNat : Int) ≤ 57)) : k = K := by
  rcases Nat.lt_or_ge k l.length with hl | hl
  · have := h hl
    rw [List.getElem?_eq_getElem hl] at this
    simp only [Option.getD_some] at this
    rw [List.drop_eq_getElem_cons hl] at hk
    have hb : PP.isD l[k] = false := by simp [PP.isD]; omega
    unfold PP.dg at hk
    rw [List.takeWhile_cons, hb] at hk
    simpa using hk
  · rw [List.drop_eq_nil_of_le hl] at hk
    simpa [PP.dg] using hk
theorem dg_take (l : List UInt8) : PP.dg l = l.take (PP.dg l).length := by
  have h := PP.dg_rs l
  conv => rhs; rw [← h]
  rw [show (PP.dg (PP.dg l ++ PP.rs l)).length = (PP.dg l).length by rw [h], List.take_left]

set_option maxRecDepth 100000 in
theorem number_any (d : ByteArray) (limit : Int) (w : World) (hs : d.size ≤ 140737488355328) (hl : 0 ≤ limit ∧ limit ≤ 1000000000) (hd : AllD d.data.toList) :
    Calls Tryz.prog 132 #[.string d, .int .i64 limit] w fun e w' => e = .returned (.int .i64 (PP.valL limit 0 d.data.toList)) ∧ Below w.heap.size w w' := by
  have hcv := Lib.run_convert_string_bytes (P := Tryz.prog) w 9 50 5 d Tryz.underlying9 Tryz.underlying50 Tryz.underlying5
  obtain ⟨N, hN⟩ : ∃ N, PP.valL limit 0 d.data.toList = N := ⟨_, rfl⟩
  rw [hN]
  have HN := hid hN
  have HD := hid hd
  clear hN hd
  have hbw := bytesWorld_below w 5 d
  have hcl := hid (Lib.bytesWorld_cell w 5 d)
  go_enter Tryz.func132, Tryz.ntmps132
  go_wp2_with fail
  obtain ⟨W1, hW1⟩ : ∃ W1, Lib.bytesWorld w 5 d = W1 := ⟨_, rfl⟩
  rw [hW1] at hbw hcl ⊢
  clear hcv hW1
  go_loopw [5, 11] (fun nv iv wr => ∃ (n : Int) (i : Nat), nv = .int .i64 n ∧ iv = .int .i64 i ∧ i ≤ d.size ∧ 0 ≤ n ∧ n ≤ limit ∧ wr = W1 ∧ Hid (PP.valL limit n (d.data.toList.drop i) = N)) (fun _ iv _ => d.size - (match iv with | .int _ k => k.toNat | _ => 0))
  case atStart => exact ⟨0, 0, rfl, rfl, Nat.zero_le _, Int.le_refl _, hl.1, rfl, HN⟩
  case round =>
    obtain ⟨n, i, rfl, rfl, hi, hn0, hnl, rfl, hk⟩ := hrel
    by_cases hp : i < d.size
    · have hlen : i < d.data.toList.length := by rw [← Utf.size_eq]; exact hp
      have hci := hcl.out i hp
      have hdi := HD.out (d.data.toList.getD i 0) (getD_mem hlen)
      have hst := hk.out
      rw [drop_at hlen, valL_cons] at hst
      obtain ⟨c, hc⟩ : ∃ c : Int, ((d.data.toList.getD i 0).toNat : Int) = c := ⟨_, rfl⟩
      rw [hc] at hci hst
      have hb : 48 ≤ c ∧ c ≤ 57 := by omega
      have hu : (c - 48) % 256 = c - 48 := by omega
      clear hc hdi
      have HST := hid hst
      clear hst
      by_cases hg : limit < 10 * n + (c - 48)
      · go_wp2_with fail
        go_ret
        have := HST.out
        rw [if_pos hg] at this
        subst this
        exact ⟨rfl, hbw⟩
      · go_wp2_with fail
        go_roundw
        case rel =>
          refine ⟨10 * n + (c - 48), i + 1, by simp, by go_num, hp, by omega, by omega, by first | trivial | rfl, ?_⟩
          have := HST.out
          rw [if_neg hg] at this
          exact this
        case measure => go_num
    · go_wp2_with fail
      go_ret
      have e : d.data.toList.drop i = [] := List.drop_eq_nil_of_le (by rw [← Utf.size_eq]; omega)
      have := hk.out
      rw [e] at this
      have e2 : n = N := by rw [← this]; rfl
      subst e2
      exact ⟨rfl, hbw⟩

set_option maxRecDepth 100000 in
set_option maxHeartbeats 2000000 in
theorem digits_any (R V : Nat) (t : ByteArray) (w : World) (h : Rd w R V t) (hs : t.size ≤ 140737488355328) :
    Calls Tryz.prog 133 #[.pointer (some ⟨R, 0, none⟩)] w fun e w' => ∃ d, e = .returned (.string d) ∧ d.data.toList = PP.dg t.data.toList ∧ ∃ t', t'.data.toList = PP.rs t.data.toList ∧ Rd w' R V t' ∧ Only R w w' := by
  have HR := hid h
  have hr0 : w.cell? ⟨R, 0, none⟩ = some (.string t) := h.1.cell 0
  have hfr : w.frozen? ⟨R, 0, none⟩ = false := h.1.frozen 0
  clear h
  obtain ⟨K, hK⟩ : ∃ K, (PP.dg t.data.toList).length = K := ⟨_, rfl⟩
  have HK := hid hK
  clear hK
  go_enter Tryz.func133, Tryz.ntmps133
  go_wp2_with fail
  go_loopw [3] (fun nv wr => ∃ (k : Nat), nv = .int .i64 k ∧ k ≤ t.size ∧ wr = w ∧ Hid (k + (PP.dg (t.data.toList.drop k)).length = K)) (fun nv _ => t.size - (match nv with | .int _ k => k.toNat | _ => 0))
  case atStart => exact ⟨0, rfl, Nat.zero_le _, rfl, by rw [List.drop_zero, HK.out]; exact Nat.zero_add _⟩
  case round =>
    obtain ⟨k, rfl, hk, rfl, hi⟩ := hrel
    by_cases hp : k < t.size
    · have hlen : k < t.data.toList.length := by rw [← Utf.size_eq]; exact hp
      have hin := @dg_len_in _ _ _ hi.out hlen
      have hout := @dg_len_out _ _ _ hi.out
      have E0 := bt_at t k hp
      have hbb := bt_bound t k
      change 48 ≤ bt t k → bt t k ≤ 57 → _ at hin
      change (∀ h : k < t.data.toList.length, ¬ (48 ≤ bt t k ∧ bt t k ≤ 57)) → _ at hout
      obtain ⟨c, hc⟩ : ∃ c, bt t k = c := ⟨_, rfl⟩
      rw [hc] at E0 hin hout hbb
      have HIN := hid hin
      have HOUT := hid hout
      clear hin hout hc
      by_cases h1 : 48 ≤ c
      · by_cases h2 : c ≤ 57
        · go_wp2_with fail
          go_roundw
          case rel => exact ⟨k + 1, by go_num, hp, by first | trivial | rfl, HIN.out h1 h2⟩
          case measure => go_num
        · obtain ⟨d, hd⟩ : ∃ d, t.extract 0 k = d := ⟨_, rfl⟩
          obtain ⟨t', ht'⟩ : ∃ t', t.extract k t.size = t' := ⟨_, rfl⟩
          have e1 := hid (show d.data.toList = PP.dg t.data.toList by have hkK : k = K := HOUT.out (fun _ h => h2 h.2); rw [← hd, ext_take, dg_take, HK.out, hkK])
          have e2 := hid (show t'.data.toList = PP.rs t.data.toList by have hkK : k = K := HOUT.out (fun _ h => h2 h.2); rw [← ht', ext_drop, PP.rs_drop, HK.out, hkK])
          clear HOUT
          go_wp2_with fail
          go_ret
          exact ⟨d, rfl, e1.out, t', e2.out, HR.out.put t', (Only.refl R _).set_ 0 _⟩
      · obtain ⟨d, hd⟩ : ∃ d, t.extract 0 k = d := ⟨_, rfl⟩
        obtain ⟨t', ht'⟩ : ∃ t', t.extract k t.size = t' := ⟨_, rfl⟩
        have e1 := hid (show d.data.toList = PP.dg t.data.toList by have hkK : k = K := HOUT.out (fun _ h => h1 h.1); rw [← hd, ext_take, dg_take, HK.out, hkK])
        have e2 := hid (show t'.data.toList = PP.rs t.data.toList by have hkK : k = K := HOUT.out (fun _ h => h1 h.1); rw [← ht', ext_drop, PP.rs_drop, HK.out, hkK])
        clear HOUT
        go_wp2_with fail
        go_ret
        exact ⟨d, rfl, e1.out, t', e2.out, HR.out.put t', (Only.refl R _).set_ 0 _⟩
    · have hkK : k = K := dg_len_out hi.out (fun h => absurd h (by rw [← Utf.size_eq]; exact hp))
      obtain ⟨d, hd⟩ : ∃ d, t.extract 0 k = d := ⟨_, rfl⟩
      obtain ⟨t', ht'⟩ : ∃ t', t.extract k t.size = t' := ⟨_, rfl⟩
      have e1 := hid (show d.data.toList = PP.dg t.data.toList by rw [← hd, ext_take, dg_take, HK.out, hkK])
      have e2 := hid (show t'.data.toList = PP.rs t.data.toList by rw [← ht', ext_drop, PP.rs_drop, HK.out, hkK])
      clear hkK
      go_wp2_with fail
      go_ret
      exact ⟨d, rfl, e1.out, t', e2.out, HR.out.put t', (Only.refl R _).set_ 0 _⟩
end Go.Proofs.YtdjhmanccoekjaaGreatDoor.PR
end
