/-
  Walks of layer 9: the law's own turning of the program's pieces into the document's.
-/
import Derived.Test.YtmfhoindfhmncaaDoorSA
import Derived.Test.YtmfhoindfhmncaaDoorPE
import Derived.Test.YtmfhoindfhmncaaDoorPS
namespace Go.Proofs.YtmfhoindfhmncaaDoor
open Go.RowKit Go.Proofs

set_option maxHeartbeats 1000000 in
theorem tnum_any (x : PP.Nm) (w : World) : Calls Tryd.prog 21 #[nmV x] w fun e w' => e = .returned (nmV x) ∧ Below w.heap.size w w' := by
  go_enter Tryd.func21, Tryd.ntmps21
  go_wp2_with fail
  refine bodyPost_ret (v := nmV x) (by simp [results, Tryd.results21, go_sem]) rfl ⟨rfl, ?_⟩
  exact ((Below.refl _ _).alloc (Nat.le_refl _) _).alloc (by simp) _
theorem told_build (p : PP.Pc) (t : ByteArray) : Tryd.prog.built 34 [(0, .int .i64 p.k), (1, .string t), (2, .agg #[.bool p.f.pl, .bool p.f.mi, .bool p.f.sh, .bool p.f.sp, .bool p.f.ze, .int .i64 p.wid, .int .i64 p.prec, .int .i32 p.verb]), (3, nmV p.w), (4, nmV p.p), (5, .agg #[.int .i64 p.a.k, .int .i64 p.a.n])] = some (pcV p t) := by kernel_rfl
theorem told_run (p : PP.Pc) (t : ByteArray) (w : World) : (Instr.build 34 #[(0, .int .i64 p.k), (1, .string t), (2, .agg #[.bool p.f.pl, .bool p.f.mi, .bool p.f.sh, .bool p.f.sp, .bool p.f.ze, .int .i64 p.wid, .int .i64 p.prec, .int .i32 p.verb]), (3, nmV p.w), (4, nmV p.p), (5, .agg #[.int .i64 p.a.k, .int .i64 p.a.n])]).run Tryd.prog w = .ok (.agg (pcV p t)) w := run_build w _ _ _ (told_build p t)
/-- What holds in told: its argument's box, its result's. -/
structure Td (w W : World) (A R : Nat) (p : PP.Pc) (t : ByteArray) : Prop where
  a : Blk W A (pcV p t) 40
  r : ∃ cs : Array Value, cs.size = 20 ∧ Blk W R cs 34
  below : Below w.heap.size w W
  ha : w.heap.size ≤ A
  hr : A < R
theorem Td.calm {w W W' : World} {A R : Nat} {p : PP.Pc} {t : ByteArray} (h : Td w W A R p t) (hb : Below W.heap.size W W') : Td w W' A R p t :=
  ⟨h.a.below hb h.a.lt, h.r.elim fun cs hc => ⟨cs, hc.1, hc.2.below hb hc.2.lt⟩, h.below.trans (hb.mono h.below.size), h.ha, h.hr⟩
theorem mid_get (cs : Array Value) (o : Nat) (vs : List Value) (h : (cs.toList.drop o).take vs.length = vs) (j : Nat) (v : Value) (hv : vs[j]? = some v) : cs[o + j]? = some v := by
  rw [← h, List.getElem?_take] at hv
  split at hv
  · rw [List.getElem?_drop] at hv
    rw [← Array.getElem?_toList]; exact hv
  · cases hv
theorem told_end {w W : World} {A R : Nat} {p : PP.Pc} {t : ByteArray} (h : Td w W A R p t) : Td w (W.setCells R 0 (pcV p t).toList) A R p t ∧ Blk (W.setCells R 0 (pcV p t).toList) R (pcV p t) 34 := by
  obtain ⟨cs, hcs, hr⟩ := h.r
  have h1 := h.ha
  have h2 := h.hr
  have hb := hr.setCells (pcV p t).toList 0 W cs
  rw [setMany_whole cs (pcV p t).toList (by rw [hcs]; rfl)] at hb
  exact ⟨⟨h.a.same (setCells_far (by omega) _ _ _), ⟨pcV p t, rfl, hb⟩, below_setCells h.below R (by omega) _ _, h.ha, h.hr⟩, hb⟩
theorem Td.get {w W : World} {A R : Nat} {p : PP.Pc} {t : ByteArray} (h : Td w W A R p t) (i : Nat) : W.cell? ⟨A, i, none⟩ = (pcV p t)[i]? := h.a.cell i

set_option maxRecDepth 100000 in
set_option maxHeartbeats 2000000 in
theorem told_any (p : PP.Pc) (t : ByteArray) (w : World) : Calls Tryd.prog 13 #[.agg (pcV p t)] w fun e w' => e = .returned (.agg (pcV p t)) ∧ Below w.heap.size w w' := by
  have NM := hid (fun x W => tnum_any x W)
  obtain ⟨A, hA⟩ : ∃ A, w.heap.size = A := ⟨_, rfl⟩
  have S0 : Td w ((w.alloc (.cells (pcV p t) 40)).alloc (.cells pc0 34)) A (A + 1) p t := by
    refine ⟨(hA ▸ Blk.new w (pcV p t) 40 : Blk _ A _ _).alloc _, ⟨pc0, rfl, ?_⟩, ((Below.refl _ _).alloc (Nat.le_refl _) _).alloc (by simp) _, by omega, by omega⟩
    have := Blk.new (w.alloc (.cells (pcV p t) 40)) pc0 34
    rwa [show (w.alloc (.cells (pcV p t) 40)).heap.size = A + 1 by simp [hA]] at this
  go_enter Tryd.func13, Tryd.ntmps13
  go_wp2_with fail
  obtain ⟨W0, hW0⟩ : ∃ W0, ((w.alloc (.cells (pcV p t) 40)).alloc (.cells pc0 34)) = W0 := ⟨_, rfl⟩
  rw [hW0] at S0 ⊢
  obtain ⟨R, hR⟩ : ∃ R, A + 1 = R := ⟨_, rfl⟩
  rw [hR] at S0 ⊢
  clear hW0 hR hA
  have S1 := hid S0
  clear S0
  refine wp_region_held_drew (S := fun w1 => Td w w1 A R p t) (by kernel_rfl) (S1.out.calm (Below.refl _ _).drew) (fun hH => ?_)
  refine wpAnyH_take (i := 0) (fuel := 15) (v := .pointer (some ⟨A, 0, none⟩)) rfl (by kernel_rfl) (by kernel_rfl) (by kernel_rfl) (fun _ _ _ h => h) (Or.inl ⟨by rfl, by intro w1 hw1; go_simp⟩) hH ?_
  simp only [Act.put, List.getElem_toArray, List.getElem_cons_zero, List.setIfInBounds_toArray, List.set_cons_zero, List.set_cons_succ]
  refine wpAnyH_take (i := 1) (fuel := 14) (v := .int .i64 p.k) rfl (by kernel_rfl) (by kernel_rfl) (by kernel_rfl) (fun _ _ _ h => h) (Or.inl ⟨by rfl, by intro w1 hw1; have hq : w1.cell? ⟨A, 0, none⟩ = some (.int .i64 p.k) := hw1.get 0; go_simp⟩) hH ?_
  simp only [Act.put, List.getElem_toArray, List.getElem_cons_zero, List.getElem_cons_succ, List.setIfInBounds_toArray, List.set_cons_zero, List.set_cons_succ]
  refine wpAnyH_take (i := 2) (fuel := 13) (v := .pointer (some ⟨A, 1, none⟩)) rfl (by kernel_rfl) (by kernel_rfl) (by kernel_rfl) (fun _ _ _ h => h) (Or.inl ⟨by rfl, by intro w1 hw1; go_simp⟩) hH ?_
  simp only [Act.put, List.getElem_toArray, List.getElem_cons_zero, List.getElem_cons_succ, List.setIfInBounds_toArray, List.set_cons_zero, List.set_cons_succ]
  refine wpAnyH_take (i := 3) (fuel := 12) (v := .string t) rfl (by kernel_rfl) (by kernel_rfl) (by kernel_rfl) (fun _ _ _ h => h) (Or.inl ⟨by rfl, by intro w1 hw1; have hq : w1.cell? ⟨A, 1, none⟩ = some (.string t) := hw1.get 1; go_simp⟩) hH ?_
  simp only [Act.put, List.getElem_toArray, List.getElem_cons_zero, List.getElem_cons_succ, List.setIfInBounds_toArray, List.set_cons_zero, List.set_cons_succ]
  refine wpAnyH_take (i := 4) (fuel := 11) (v := .pointer (some ⟨A, 2, none⟩)) rfl (by kernel_rfl) (by kernel_rfl) (by kernel_rfl) (fun _ _ _ h => h) (Or.inl ⟨by rfl, by intro w1 hw1; go_simp⟩) hH ?_
  simp only [Act.put, List.getElem_toArray, List.getElem_cons_zero, List.getElem_cons_succ, List.setIfInBounds_toArray, List.set_cons_zero, List.set_cons_succ]
  refine wpAnyH_take (i := 5) (fuel := 10) (v := _) rfl (by kernel_rfl) (by kernel_rfl) (by kernel_rfl) (fun _ _ _ h => h) (yieldsIf_load_mid (by rfl) 28 (.tmp 7) rfl A 2 rfl [.bool p.f.pl, .bool p.f.mi, .bool p.f.sh, .bool p.f.sp, .bool p.f.ze, .int .i64 p.wid, .int .i64 p.prec, .int .i32 p.verb] _ (fun w1 h1 => fun j v hv => by rw [h1.get]; exact mid_get _ 2 [.bool p.f.pl, .bool p.f.mi, .bool p.f.sh, .bool p.f.sp, .bool p.f.ze, .int .i64 p.wid, .int .i64 p.prec, .int .i32 p.verb] rfl j v hv) Tryd.underlying28 rfl spec_size) hH ?_
  simp only [Act.put, List.getElem_toArray, List.getElem_cons_zero, List.getElem_cons_succ, List.setIfInBounds_toArray, List.set_cons_zero, List.set_cons_succ]
  refine wpAnyH_take (i := 6) (fuel := 9) (v := .pointer (some ⟨A, 10, none⟩)) rfl (by kernel_rfl) (by kernel_rfl) (by kernel_rfl) (fun _ _ _ h => h) (Or.inl ⟨by rfl, by intro w1 hw1; go_simp⟩) hH ?_
  simp only [Act.put, List.getElem_toArray, List.getElem_cons_zero, List.getElem_cons_succ, List.setIfInBounds_toArray, List.set_cons_zero, List.set_cons_succ]
  refine wpAnyH_take (i := 7) (fuel := 8) (v := _) rfl (by kernel_rfl) (by kernel_rfl) (by kernel_rfl) (fun _ _ _ h => h) (yieldsIf_load_mid (by rfl) 38 (.tmp 9) rfl A 10 rfl [.int .i64 p.w.k, .int .i64 p.w.n, .int .i64 p.w.a.k, .int .i64 p.w.a.n] _ (fun w1 h1 => fun j v hv => by rw [h1.get]; exact mid_get _ 10 [.int .i64 p.w.k, .int .i64 p.w.n, .int .i64 p.w.a.k, .int .i64 p.w.a.n] rfl j v hv) Tryd.underlying38 rfl num_size) hH ?_
  simp only [Act.put, List.getElem_toArray, List.getElem_cons_zero, List.getElem_cons_succ, List.setIfInBounds_toArray, List.set_cons_zero, List.set_cons_succ]
  refine wpAnyH_take (i := 9) (fuel := 7) (v := .pointer (some ⟨A, 14, none⟩)) rfl (by kernel_rfl) (by kernel_rfl) (by kernel_rfl) (fun _ _ _ h => h) (Or.inl ⟨by rfl, by intro w1 hw1; go_simp⟩) hH ?_
  simp only [Act.put, List.getElem_toArray, List.getElem_cons_zero, List.getElem_cons_succ, List.setIfInBounds_toArray, List.set_cons_zero, List.set_cons_succ]
  refine wpAnyH_take (i := 10) (fuel := 6) (v := _) rfl (by kernel_rfl) (by kernel_rfl) (by kernel_rfl) (fun _ _ _ h => h) (yieldsIf_load_mid (by rfl) 38 (.tmp 12) rfl A 14 rfl [.int .i64 p.p.k, .int .i64 p.p.n, .int .i64 p.p.a.k, .int .i64 p.p.a.n] _ (fun w1 h1 => fun j v hv => by rw [h1.get]; exact mid_get _ 14 [.int .i64 p.p.k, .int .i64 p.p.n, .int .i64 p.p.a.k, .int .i64 p.p.a.n] rfl j v hv) Tryd.underlying38 rfl num_size) hH ?_
  simp only [Act.put, List.getElem_toArray, List.getElem_cons_zero, List.getElem_cons_succ, List.setIfInBounds_toArray, List.set_cons_zero, List.set_cons_succ]
  refine wpAnyH_take (i := 12) (fuel := 5) (v := .pointer (some ⟨A, 18, none⟩)) rfl (by kernel_rfl) (by kernel_rfl) (by kernel_rfl) (fun _ _ _ h => h) (Or.inl ⟨by rfl, by intro w1 hw1; go_simp⟩) hH ?_
  simp only [Act.put, List.getElem_toArray, List.getElem_cons_zero, List.getElem_cons_succ, List.setIfInBounds_toArray, List.set_cons_zero, List.set_cons_succ]
  refine wpAnyH_take (i := 13) (fuel := 4) (v := _) rfl (by kernel_rfl) (by kernel_rfl) (by kernel_rfl) (fun _ _ _ h => h) (yieldsIf_load_mid (by rfl) 36 (.tmp 15) rfl A 18 rfl [.int .i64 p.a.k, .int .i64 p.a.n] _ (fun w1 h1 => fun j v hv => by rw [h1.get]; exact mid_get _ 18 [.int .i64 p.a.k, .int .i64 p.a.n] rfl j v hv) Tryd.underlying36 rfl index_size) hH ?_
  simp only [Act.put, List.getElem_toArray, List.getElem_cons_zero, List.getElem_cons_succ, List.setIfInBounds_toArray, List.set_cons_zero, List.set_cons_succ]
  refine wpAnyH_ready (fuel := 3) (rs := [8]) (by kernel_rfl) (by simp) ?_
  refine AllReadyH.cons rfl (fun K hK => ?_) AllReadyH.nil
  · rw [if_pos (by rfl)]
    go_wp2_with fail
    refine (NM.out p.w _).mono ?_
    rintro e W1 ⟨rfl, hb⟩
    refine hK.out _ _ (hH.calm hb) (fun hS1 => ?_)
    clear hb hK
    try simp only [Act.put, List.getElem_toArray, List.getElem_cons_zero, List.getElem_cons_succ, List.setIfInBounds_toArray, List.set_cons_zero, List.set_cons_succ]
    refine wpAnyH_ready (fuel := 2) (rs := [11]) (by kernel_rfl) (by simp) ?_
    refine AllReadyH.cons rfl (fun K hK => ?_) AllReadyH.nil
    rw [if_pos (by rfl)]
    go_wp2_with fail
    refine (NM.out p.p _).mono ?_
    rintro e W2 ⟨rfl, hb⟩
    refine hK.out _ _ (hS1.calm hb) (fun hS2 => ?_)
    clear hb hK
    try simp only [Act.put, List.getElem_toArray, List.getElem_cons_zero, List.getElem_cons_succ, List.setIfInBounds_toArray, List.set_cons_zero, List.set_cons_succ]
    refine wpAnyH_take (i := 14) (fuel := 1) (v := .agg (pcV p t)) rfl (by kernel_rfl) (by kernel_rfl) (by kernel_rfl) (fun _ _ _ h => h) (Or.inl ⟨by rfl, by intro w1 _; have q := told_run p t w1; go_simp⟩) hS2 ?_
    simp only [Act.put, List.getElem_toArray, List.getElem_cons_zero, List.getElem_cons_succ, List.setIfInBounds_toArray, List.set_cons_zero, List.set_cons_succ]
    refine wpAnyH_ready (fuel := 0) (rs := [15]) (by kernel_rfl) (by simp) ?_
    refine AllReadyH.cons rfl (fun K hK => ?_) AllReadyH.nil
    rw [if_pos (by rfl)]
    obtain ⟨cs, hcs, hrb⟩ := hS2.r
    refine wp_store_mid 34 (.tmp 2) (.tmp 17) rfl R 0 (pcV p t) rfl rfl (Blk.there hrb 0 20 (by rw [hcs]; decide)) rpiece_size (pcV_one _ _) ?_
    obtain ⟨F, FB⟩ := told_end hS2
    obtain ⟨W3, hW3⟩ : ∃ W3, W2.setCells R 0 (pcV p t).toList = W3 := ⟨_, rfl⟩
    rw [hW3] at F FB ⊢
    clear hW3
    refine hK.out _ _ F (fun hS3 => ?_)
    refine wpAnyH_done (by kernel_rfl) ?_ _
    have BB := hid (And.intro FB F.below)
    clear hK hH hS1 hS2 hS3 F FB hrb hcs
    go_wp2_with fail
    have HL := run_loadVar_mid (P := Tryd.prog) W3 R 0 34 (pcV p t).toList _ (fun j v hv => by rw [Nat.zero_add, BB.out.1.cell]; simpa using hv) Tryd.underlying34 rfl rpiece_size
    refine bodyPost_ret (v := .agg (pcV p t)) ?_ rfl ⟨rfl, BB.out.2⟩
    simp [results, Tryd.results13, asAddr, HL, Act.put]
end Go.Proofs.YtmfhoindfhmncaaDoor
