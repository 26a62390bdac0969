/-
  Walks of layer 9: a directive, its second half.
-/
import Derived.Test.YtmfhoindfhmncaaDoorP7
namespace Go.Proofs.YtmfhoindfhmncaaDoor
open Go.RowKit Go.Proofs

def dropSeq : Nat → Code → Code
  | 0, c => c
  | k + 1, .seq _ b => dropSeq k b
  | _, c => c
noncomputable def dtail (k : Nat) : Code := dropSeq k (Tryd.f19.body.getD .skip)

/-- A directive's cells. -/
abbrev pcV (p : PP.Pc) (text : ByteArray) : Array Value :=
  #[.int .i64 p.k, .string text, .bool p.f.pl, .bool p.f.mi, .bool p.f.sh, .bool p.f.sp, .bool p.f.ze, .int .i64 p.wid, .int .i64 p.prec, .int .i32 p.verb, .int .i64 p.w.k, .int .i64 p.w.n, .int .i64 p.w.a.k, .int .i64 p.w.a.n, .int .i64 p.p.k, .int .i64 p.p.n, .int .i64 p.p.a.k, .int .i64 p.p.a.n, .int .i64 p.a.k, .int .i64 p.a.n]

set_option maxRecDepth 1000000 in
set_option maxHeartbeats 400000 in
/-- The text, and the return. -/
theorem dtail14 (POST : Ending → World → Prop) (s t : ByteArray) (w W : World) (R V P Q : Nat) (n : Dn w R V P Q) (k vb : Int) (f : PP.Fl) (nw np : PP.Nm) (a : PP.Ix) (S : Ds w R V P Q W t (pcs k ⟨#[]⟩ f vb nw np a))
    (hs : s.size ≤ 140737488355328) (ht : t.size ≤ s.size)
    (hpost : ∀ (text : ByteArray) (W' : World), text.data.toList = 37 :: s.data.toList.take (s.size - t.size) → Below w.heap.size w W' → POST (.returned (.tuple #[.agg (pcs k text f vb nw np a), .string t])) W')
    (z6 z7 z8 z9 z10 z11 z12 z13 z14 z15 z16 z17 z18 z19 z20 z21 z22 z23 z24 z25 z26 z27 z28 z29 z30 z31 z32 z33 z34 z35 z36 z37 z38 z39 z40 z41 z42 z43 z44 z45 z46 z47 z48 z49 z50 z51 z52 z53 z54 z55 z56 z57 z58 z59 z60 z61 z62 z63 z64 z65 z66 z67 z68 z69 z70 z71 z72 z73 z74 z75 z76 z77 z78 z79 z80 z81 z82 z83 z84 z85 z86 z87 z88 z89 z90 z91 z92 z93 z94 z95 z96 z97 z98 z99 z100 z101 z102 z103 z104 z105 z106 : Value) :
    Code.wp Tryd.prog (dtail 8) (bodyPost Tryd.prog Tryd.f19 POST) ⟨#[.string s, undef, .pointer (some ⟨Q, 0, none⟩), .string ⟨#[]⟩, .pointer (some ⟨P, 0, none⟩), .pointer (some ⟨R, 0, none⟩), z6, z7, z8, z9, z10, z11, z12, z13, z14, z15, z16, z17, z18, z19, z20, z21, z22, z23, z24, z25, z26, z27, z28, z29, z30, z31, z32, z33, z34, z35, z36, z37, z38, z39, z40, z41, z42, z43, z44, z45, z46, z47, z48, z49, z50, z51, z52, z53, z54, z55, z56, z57, z58, z59, z60, z61, z62, z63, z64, z65, z66, z67, z68, z69, z70, z71, z72, z73, z74, z75, z76, z77, z78, z79, z80, z81, z82, z83, z84, z85, z86, z87, z88, z89, z90, z91, z92, z93, z94, z95, z96, z97, z98, z99, z100, z101, z102, z103, z104, z105, z106], []⟩ W := by
  conv => arg 2; whnf
  have S0 := hid S
  have hp1 : W.cell? ⟨P, 1, none⟩ = some (.string ⟨#[]⟩) := S.p.cell 1
  have hpf : ∀ i, W.frozen? ⟨P, i, none⟩ = false := S.p.frozen
  have hq0 : W.cell? ⟨R, 0, none⟩ = some (.string t) := S.rd.1.cell 0
  have hRP : R ≠ P := n.rp
  have hPR : P ≠ R := n.rp.symm
  clear S
  go_wp2_with fail
  obtain ⟨text, htx⟩ : ∃ text : ByteArray, (⟨#[37]⟩ : ByteArray) ++ s.extract 0 (s.size - t.size) = text := ⟨_, rfl⟩
  have TX := hid (show text.data.toList = 37 :: s.data.toList.take (s.size - t.size) from by
    rw [← htx, ByteArray.data_append, Array.toList_append, ext_take]; rfl)
  rw [htx]
  obtain ⟨W1, hW1⟩ : ∃ W1, W.setCell ⟨P, 1, none⟩ (.string text) = W1 := ⟨_, rfl⟩
  have S1 := hid (show Ds w R V P Q W1 t (pcs k text f vb nw np a) from hW1 ▸ S0.out.set_ n 1 _)
  rw [hW1]
  clear hW1 htx hp1 hpf hq0 S0
  refine wp_region_held_drew (S := fun w' => Rd w' R V t ∧ Below w.heap.size w w' ∧ Blk w' P (pcs k text f vb nw np a) 40 ∧ ∃ qc : Array Value, qc.size = 20 ∧ Blk w' Q qc 40) (by kernel_rfl) ⟨S1.out.rd.drew, S1.out.below.drew, S1.out.p, pc0, rfl, S1.out.q⟩ (fun hH => ?_)
  refine wpAnyH_take (i := 0) (fuel := 6) (v := _) rfl (by kernel_rfl) (by kernel_rfl) (by kernel_rfl) (fun _ _ _ h => h) (yieldsIf_load_mid (by rfl) 40 (.tmp 4) rfl P 0 rfl (pcs k text f vb nw np a).toList _ (fun w' h => fun j v hv => by rw [Nat.zero_add, h.2.2.1.cell]; simpa using hv) Tryd.underlying40 rfl piece_size) hH ?_
  simp only [Act.put, List.getElem_toArray, List.getElem_cons_zero, List.setIfInBounds_toArray, List.set_cons_zero, List.set_cons_succ]
  refine wpAnyH_take (i := 1) (fuel := 5) (v := .pointer (some ⟨R, 0, none⟩)) rfl (by kernel_rfl) (by kernel_rfl) (by kernel_rfl) (fun _ _ _ h => h) (Or.inl ⟨by rfl, by intro w' hw; go_simp⟩) hH ?_
  simp only [Act.put, List.getElem_toArray, List.getElem_cons_zero, List.getElem_cons_succ, List.setIfInBounds_toArray, List.set_cons_zero, List.set_cons_succ]
  refine wpAnyH_take (i := 2) (fuel := 4) (v := .pointer (some ⟨R, 0, none⟩)) rfl (by kernel_rfl) (by kernel_rfl) (by kernel_rfl) (fun _ _ _ h => h) (Or.inl ⟨by rfl, by intro w' hw; go_simp⟩) hH ?_
  simp only [Act.put, List.getElem_toArray, List.getElem_cons_zero, List.getElem_cons_succ, List.setIfInBounds_toArray, List.set_cons_zero, List.set_cons_succ]
  refine wpAnyH_take (i := 3) (fuel := 3) (v := .pointer (some ⟨R, 0, none⟩)) rfl (by kernel_rfl) (by kernel_rfl) (by kernel_rfl) (fun _ _ _ h => h) (Or.inl ⟨by rfl, by intro w' hw; go_simp⟩) hH ?_
  simp only [Act.put, List.getElem_toArray, List.getElem_cons_zero, List.getElem_cons_succ, List.setIfInBounds_toArray, List.set_cons_zero, List.set_cons_succ]
  refine wpAnyH_take (i := 4) (fuel := 2) (v := .string t) rfl (by kernel_rfl) (by kernel_rfl) (by kernel_rfl) (fun _ _ _ h => h) (Or.inl ⟨by rfl, by intro w' hw; have hq : w'.cell? ⟨R, 0, none⟩ = some (.string t) := hw.1.1.cell 0; go_simp⟩) hH ?_
  simp only [Act.put, List.getElem_toArray, List.getElem_cons_zero, List.getElem_cons_succ, List.setIfInBounds_toArray, List.set_cons_zero, List.set_cons_succ]
  refine wpAnyH_ready (fuel := 1) (rs := [5]) (by kernel_rfl) (by simp) ?_
  refine AllReadyH.cons rfl (fun K hK => ?_) AllReadyH.nil
  rw [if_pos (by rfl)]
  refine wp_store_mid 40 (.tmp 2) (.tmp 102) rfl Q 0 (pcs k text f vb nw np a) rfl rfl (Blk.there S1.out.q 0 20 (by decide)) piece_size (pcs_one _ _ _ _ _ _ _) ?_
  obtain ⟨W2, hW2⟩ : ∃ W2, W1.drew.setCells Q 0 (pcs k text f vb nw np a).toList = W2 := ⟨_, rfl⟩
  have S3 : Rd W2 R V t ∧ Below w.heap.size w W2 ∧ Blk W2 P (pcs k text f vb nw np a) 40 ∧ Blk W2 Q (pcs k text f vb nw np a) 40 := by
    subst hW2
    have hb := Blk.setCells (pcs k text f vb nw np a).toList 0 W1.drew pc0 S1.out.q
    rw [setMany_whole pc0 (pcs k text f vb nw np a).toList rfl] at hb
    exact ⟨⟨S1.out.rd.1.same (setCells_far n.rq _ _ _), S1.out.rd.2.same (setCells_far n.vq _ _ _)⟩, below_setCells S1.out.below.drew Q n.q _ _, S1.out.p.same (setCells_far n.pq _ _ _), hb⟩
  rw [hW2]
  clear hW2
  simp only [Act.put, List.getElem_toArray, List.getElem_cons_zero, List.getElem_cons_succ]
  refine hK.out _ _ ⟨S3.1, S3.2.1, S3.2.2.1, _, rfl, S3.2.2.2⟩ (fun hH2 => ?_)
  refine wpAnyH_take (i := 6) (fuel := 0) (v := .string t) rfl (by kernel_rfl) (by kernel_rfl) (by kernel_rfl) (fun _ _ _ h => h) (Or.inl ⟨by rfl, by intro w' hw; go_simp⟩) hH2 ?_
  simp only [Act.put, List.getElem_toArray, List.getElem_cons_zero, List.getElem_cons_succ, List.setIfInBounds_toArray, List.set_cons_zero, List.set_cons_succ]
  refine wpAnyH_done (by kernel_rfl) ?_ _
  clear hK hH hH2
  go_wp2_with fail
  have HL := run_loadVar_mid (P := Tryd.prog) W2 Q 0 40 (pcs k text f vb nw np a).toList _ (fun j v hv => by rw [Nat.zero_add, S3.2.2.2.cell]; simpa using hv) Tryd.underlying40 rfl piece_size
  refine bodyPost_ret (v := .tuple #[.agg (pcs k text f vb nw np a), .string t]) ?_ rfl (hpost text W2 TX.out S3.2.1)
  simp [results, Tryd.results19, asAddr, HL]
end Go.Proofs.YtmfhoindfhmncaaDoor
