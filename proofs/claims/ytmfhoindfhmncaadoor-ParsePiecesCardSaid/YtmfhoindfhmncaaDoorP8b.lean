/-
  Walks of layer 9: a directive, the verb.
-/
import Derived.Test.YtmfhoindfhmncaaDoorP8
namespace Go.Proofs.YtmfhoindfhmncaaDoor
open Go.RowKit Go.Proofs

def Told (l : List UInt8) (k vb : Int) (rest : List UInt8) : Prop := (l = [] ∧ k = 2 ∧ vb = 0 ∧ rest = []) ∨ (l ≠ [] ∧ k = 1 ∧ vb = (Utf.decL l).1 ∧ rest = l.drop (Utf.decL l).2)

set_option maxRecDepth 1000000 in
set_option maxHeartbeats 4000000 in
/-- The verb, if one is there. -/
theorem dtail11 (POST : Ending → World → Prop) (s t : ByteArray) (w W : World) (R V P Q : Nat) (n : Dn w R V P Q) (f : PP.Fl) (nw np : PP.Nm) (a : PP.Ix) (S : Ds w R V P Q W t (pcs 2 ⟨#[]⟩ f 0 nw np a))
    (hs : s.size ≤ 140737488355328) (ht : t.size ≤ s.size) (hT : Tabs w)
    (hpost : ∀ (k vb : Int) (text rest : ByteArray) (W' : World), Told t.data.toList k vb rest.data.toList → text.data.toList = 37 :: s.data.toList.take (s.size - rest.size) → Below w.heap.size w W' → POST (.returned (.tuple #[.agg (pcs k text f vb nw np a), .string rest])) W')
    (z6 z7 z8 z9 z10 z11 z12 z13 z14 z15 z16 z17 z18 z19 z20 z21 z22 z23 z24 z25 z26 z27 z28 z29 z30 z31 z32 z33 z34 z35 z36 z37 z38 z39 z40 z41 z42 z43 z44 z45 z46 z47 z48 z49 z50 z51 z52 z53 z54 z55 z56 z57 z58 z59 z60 z61 z62 z63 z64 z65 z66 z67 z68 z69 z70 z71 z72 z73 z74 z75 z76 z77 z78 z79 z80 z81 z82 z83 z84 z85 z86 z87 z88 z89 z90 z91 z92 z93 z94 z95 z96 z97 z98 z99 z100 z101 z102 z103 z104 z105 z106 : Value) :
    Code.wp Tryd.prog (dtail 7) (bodyPost Tryd.prog Tryd.f19 POST) ⟨#[.string s, undef, .pointer (some ⟨Q, 0, none⟩), .string ⟨#[]⟩, .pointer (some ⟨P, 0, none⟩), .pointer (some ⟨R, 0, none⟩), z6, z7, z8, z9, z10, z11, z12, z13, z14, z15, z16, z17, z18, z19, z20, z21, z22, z23, z24, z25, z26, z27, z28, z29, z30, z31, z32, z33, z34, z35, z36, z37, z38, z39, z40, z41, z42, z43, z44, z45, z46, z47, z48, z49, z50, z51, z52, z53, z54, z55, z56, z57, z58, z59, z60, z61, z62, z63, z64, z65, z66, z67, z68, z69, z70, z71, z72, z73, z74, z75, z76, z77, z78, z79, z80, z81, z82, z83, z84, z85, z86, z87, z88, z89, z90, z91, z92, z93, z94, z95, z96, z97, z98, z99, z100, z101, z102, z103, z104, z105, z106], []⟩ W := by
  conv => arg 2; whnf
  have S0 := hid S
  have hq0 : W.cell? ⟨R, 0, none⟩ = some (.string t) := S.rd.1.cell 0
  have hRP : R ≠ P := n.rp
  have hPR : P ≠ R := n.rp.symm
  clear S
  by_cases hp : 0 < t.size
  · have he := isE_pos hp
    have hne : t.data.toList ≠ [] := by
      intro e
      rw [Utf.size_eq, e] at hp
      exact absurd hp (Nat.lt_irrefl 0)
    have hw := Utf.dec_width t.data.toList
    have hl := Utf.dec_le t.data.toList hne
    rw [← Utf.size_eq] at hl
    obtain ⟨c, hc⟩ : ∃ c : Int, ((Utf.decL t.data.toList).1 : Int) = c := ⟨_, rfl⟩
    obtain ⟨m, hm⟩ : ∃ m : Nat, (Utf.decL t.data.toList).2 = m := ⟨_, rfl⟩
    obtain ⟨u, hu⟩ : ∃ u, t.extract m t.size = u := ⟨_, rfl⟩
    have hul : u.data.toList = t.data.toList.drop m := by rw [← hu, ext_drop]
    have hus : u.size ≤ s.size := by rw [size_list hul, List.length_drop, ← Utf.size_eq]; omega
    have DE := hid (decode_any t W (hT.below S0.out.below))
    rw [dec0_ne hne, hc, hm] at DE
    rw [hm] at hw hl
    have TO : Hid (Told t.data.toList 1 c u.data.toList) := Or.inr ⟨hne, rfl, hc.symm, by rw [hul, hm]⟩
    clear hc hm hul hne
    go_upto_if 68 with fail
    rename_i hK
    have HK := hid hK
    clear hK
    go_wp2_with fail
    refine DE.out.mono ?_
    rintro e W1 ⟨rfl, b1⟩
    have S1 := hid (S0.out.calm b1)
    clear b1 S0 DE hq0
    have hq0 : W1.cell? ⟨R, 0, none⟩ = some (.string t) := S1.out.rd.1.cell 0
    have hqf : ∀ i, W1.frozen? ⟨R, i, none⟩ = false := S1.out.rd.1.frozen
    have hp0 : W1.cell? ⟨P, 0, none⟩ = some (.int .i64 2) := S1.out.p.cell 0
    have hp9 : W1.cell? ⟨P, 9, none⟩ = some (.int .i32 0) := S1.out.p.cell 9
    have hpf : ∀ i, W1.frozen? ⟨P, i, none⟩ = false := S1.out.p.frozen
    go_wp2_with fail
    go_region
    go_wp2_with fail
    have S2 := hid (show Ds w R V P Q ((((W1.setCell ⟨P, 0, none⟩ (.int .i64 1)).setCell ⟨P, 9, none⟩ (.int .i32 c)).setCell ⟨R, 0, none⟩ (.string u)).drew) u (pcs 1 ⟨#[]⟩ f c nw np a) from (((S1.out.set_ n 0 _).set_ n 9 _).put n u).drew)
    refine HK.out _ _ ?_
    exact dtail14 POST s u w _ R V P Q n 1 c f nw np a S2.out hs hus (fun text W' h1 h2 => hpost 1 c text u W' TO.out h1 h2) _ _ _ _ _ _ _ _ _ _ _ _ _ _ _ _ _ _ _ _ _ _ _ _ _ _ _ _ _ _ _ _ _ _ _ _ _ _ _ _ _ _ _ _ _ _ _ _ _ _ _ _ _ _ _ _ _ _ _ _ _ _ _ _ _ _ _ _ _ _ _ _ _ _ _ _ _ _ _ _ _ _ _ _ _ _ _ _ _ _ _ _ _ _ _ _ _ _ _ _ _
  · have he := isE_zero hp
    have h0 : t.data.toList = [] := List.eq_nil_of_length_eq_zero (by rw [← Utf.size_eq]; omega)
    have TO : Hid (Told t.data.toList 2 0 t.data.toList) := Or.inl ⟨h0, rfl, rfl, h0⟩
    clear h0
    go_upto_if 68 with fail
    rename_i hK
    have HK := hid hK
    clear hK
    go_wp2_with fail
    refine HK.out _ _ ?_
    exact dtail14 POST s t w W R V P Q n 2 0 f nw np a S0.out hs ht (fun text W' h1 h2 => hpost 2 0 text t W' TO.out h1 h2) _ _ _ _ _ _ _ _ _ _ _ _ _ _ _ _ _ _ _ _ _ _ _ _ _ _ _ _ _ _ _ _ _ _ _ _ _ _ _ _ _ _ _ _ _ _ _ _ _ _ _ _ _ _ _ _ _ _ _ _ _ _ _ _ _ _ _ _ _ _ _ _ _ _ _ _ _ _ _ _ _ _ _ _ _ _ _ _ _ _ _ _ _ _ _ _ _ _ _ _ _
end Go.Proofs.YtmfhoindfhmncaaDoor
