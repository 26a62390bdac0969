/-
  Walks of layer 9: a directive, the last index.
-/
import Derived.Test.YtmfhoindfhmncaaDoorP8b
namespace Go.Proofs.YtmfhoindfhmncaaDoor
open Go.RowKit Go.Proofs

set_option maxRecDepth 1000000 in
set_option maxHeartbeats 4000000 in
/-- The last index. -/
theorem dtail10 (POST : Ending → World → Prop) (s t4 : ByteArray) (w W : World) (R V P Q : Nat) (n : Dn w R V P Q) (f1 : PP.Fl) (nm1 nm2 : PP.Nm) (a2 : PP.Ix) (S : Ds w R V P Q W t4 (pcs 2 ⟨#[]⟩ f1 0 nm1 nm2 a2))
    (hs : s.size ≤ 140737488355328) (ht : t4.size ≤ s.size) (hT : Tabs w)
    (hpost : ∀ (k vb : Int) (text rest : ByteArray) (W' : World), Told (PP.ixL t4.data.toList).2 k vb rest.data.toList → text.data.toList = 37 :: s.data.toList.take (s.size - rest.size) → Below w.heap.size w W' → POST (.returned (.tuple #[.agg (pcs k text f1 vb nm1 nm2 (PP.andI a2 (PP.ixL t4.data.toList).1)), .string rest])) W')
    (z6 z7 z8 z9 z10 z11 z12 z13 z14 z15 z16 z17 z18 z19 z20 z21 z22 z23 z24 z25 z26 z27 z28 z29 z30 z31 z32 z33 z34 z35 z36 z37 z38 z39 z40 z41 z42 z43 z44 z45 z46 z47 z48 z49 z50 z51 z52 z53 z54 z55 z56 z57 z58 z59 z60 z61 z62 z63 z64 z65 z66 z67 z68 z69 z70 z71 z72 z73 z74 z75 z76 z77 z78 z79 z80 z81 z82 z83 z84 z85 z86 z87 z88 z89 z90 z91 z92 z93 z94 z95 z96 z97 z98 z99 z100 z101 z102 z103 z104 z105 z106 : Value) :
    Code.wp Tryd.prog (dtail 6) (bodyPost Tryd.prog Tryd.f19 POST) ⟨#[.string s, undef, .pointer (some ⟨Q, 0, none⟩), .string ⟨#[]⟩, .pointer (some ⟨P, 0, none⟩), .pointer (some ⟨R, 0, none⟩), z6, z7, z8, z9, z10, z11, z12, z13, z14, z15, z16, z17, z18, z19, z20, z21, z22, z23, z24, z25, z26, z27, z28, z29, z30, z31, z32, z33, z34, z35, z36, z37, z38, z39, z40, z41, z42, z43, z44, z45, z46, z47, z48, z49, z50, z51, z52, z53, z54, z55, z56, z57, z58, z59, z60, z61, z62, z63, z64, z65, z66, z67, z68, z69, z70, z71, z72, z73, z74, z75, z76, z77, z78, z79, z80, z81, z82, z83, z84, z85, z86, z87, z88, z89, z90, z91, z92, z93, z94, z95, z96, z97, z98, z99, z100, z101, z102, z103, z104, z105, z106], []⟩ W := by
  conv => arg 2; whnf
  have S10 := hid S
  have hs4 : t4.size ≤ 140737488355328 := by omega
  obtain ⟨⟨x3, l5⟩, hI3⟩ : ∃ F, PP.ixL t4.data.toList = F := ⟨_, rfl⟩
  obtain ⟨t5, ht5⟩ : ∃ t5 : ByteArray, t5.data.toList = l5 := ⟨⟨l5.toArray⟩, by simp⟩
  obtain ⟨a5, ha5⟩ : ∃ a, PP.andI a2 x3 = a := ⟨_, rfl⟩
  have hl5s : t5.size ≤ s.size := by
    have := PP.ixL_len t4.data.toList
    rw [hI3, ← Utf.size_eq] at this
    rw [size_list ht5]
    exact Nat.le_trans this ht
  have IX := hid (show ∀ W : World, Ds w R V P Q W t4 (pcs 2 ⟨#[]⟩ f1 0 nm1 nm2 a2) → Calls Tryd.prog 28 #[.pointer (some ⟨R, 0, none⟩)] W fun e w' => e = .returned (ixV x3) ∧ Ds w R V P Q w' t5 (pcs 2 ⟨#[]⟩ f1 0 nm1 nm2 a2) ∧
      w'.cell? ⟨P, 18, none⟩ = some (.int .i64 a2.k) ∧ w'.cell? ⟨P, 19, none⟩ = some (.int .i64 a2.n) ∧ (∀ i, w'.frozen? ⟨P, i, none⟩ = false) from by
    intro W h
    refine (index_any R V t4 W h.rd hs4).mono ?_
    rintro e w' ⟨rfl, t', ht', hr', ho'⟩
    rw [hI3] at ht' ⊢
    have e2 : t' = t5 := bytes_ext (ht'.trans ht5.symm)
    subst e2
    have := h.moved n hr' ho'
    exact ⟨rfl, this, this.p.cell 18, this.p.cell 19, this.p.frozen⟩)
  have AN := hid (show ∀ (W : World) (v : ByteArray), Ds w R V P Q W v (pcs 2 ⟨#[]⟩ f1 0 nm1 nm2 a2) → Calls Tryd.prog 30 #[ixV a2, ixV x3] W fun e w' => e = .returned (ixV a5) ∧ Ds w R V P Q w' v (pcs 2 ⟨#[]⟩ f1 0 nm1 nm2 a2) ∧
      w'.cell? ⟨P, 18, none⟩ = some (.int .i64 a2.k) ∧ w'.cell? ⟨P, 19, none⟩ = some (.int .i64 a2.n) ∧ (∀ i, w'.frozen? ⟨P, i, none⟩ = false) from by
    intro W v h
    refine (and_any a2 x3 W).mono ?_
    rintro e w' ⟨rfl, hb⟩
    rw [ha5]
    have := h.calm hb
    exact ⟨rfl, this, this.p.cell 18, this.p.cell 19, this.p.frozen⟩)
  rw [hI3, ha5, ← ht5] at hpost
  have HP := hid hpost
  clear hpost hI3 ha5 ht5
  have hp18 : W.cell? ⟨P, 18, none⟩ = some (.int .i64 a2.k) := S10.out.p.cell 18
  have hp19 : W.cell? ⟨P, 19, none⟩ = some (.int .i64 a2.n) := S10.out.p.cell 19
  have sd : Ds w R V P Q W.drew t4 (pcs 2 ⟨#[]⟩ f1 0 nm1 nm2 a2) := S10.out.drew
  clear S
  go_wp2_with fail
  rename_i hK
  have HK := hid hK
  clear hK
  go_region_with (first | (go_at_call 28; refine (IX.out _ (by assumption)).mono ?_; rintro e w9 ⟨rfl, st, k1, k2, k3⟩) | (go_at_call 30; refine (AN.out _ _ (by assumption)).mono ?_; rintro e w9 ⟨rfl, st, k1, k2, k3⟩))
  all_goals (
    go_wp2_with fail
    refine HK.out _ _ ?_
    exact dtail11 POST s t5 w _ R V P Q n f1 nm1 nm2 a5 ((st.set_ n 18 _).set_ n 19 _) hs hl5s hT HP.out _ _ _ _ _ _ _ _ _ _ _ _ _ _ _ _ _ _ _ _ _ _ _ _ _ _ _ _ _ _ _ _ _ _ _ _ _ _ _ _ _ _ _ _ _ _ _ _ _ _ _ _ _ _ _ _ _ _ _ _ _ _ _ _ _ _ _ _ _ _ _ _ _ _ _ _ _ _ _ _ _ _ _ _ _ _ _ _ _ _ _ _ _ _ _ _ _ _ _ _ _)
end Go.Proofs.YtmfhoindfhmncaaDoor
