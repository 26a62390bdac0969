/-
  Walks of layer 9: the document's directive: its verb.
-/
import Derived.Test.YtmfhoindfhmncaaDoorS4
import Derived.Test.YtmfhoindfhmncaaDoorP8b
import Derived.Test.YtmfhoindfhmncaaDoorB2
namespace Go.Proofs.YtmfhoindfhmncaaDoor
open Go.RowKit Go.Proofs

set_option maxRecDepth 1000000 in
set_option maxHeartbeats 1000000 in
theorem rtailV (POST : Ending → World → Prop) (s : ByteArray) (w W : World) (Q P X : Nat) (f : PP.Fl) (nw np : PP.Nm) (a x : PP.Ix) (i : Nat) (S : SW w W Q P X (pcs 2 ⟨#[]⟩ f 0 nw np a) x)
    (hs : s.size ≤ 100000) (hi : i ≤ s.size)
    (hpost : ∀ (k vb : Int) (n : Nat) (text : ByteArray) (W' : World), n ≤ s.size → Told (s.data.toList.drop i) k vb (s.data.toList.drop n) → text.data.toList = 37 :: s.data.toList.take n → Below w.heap.size w W' → POST (.returned (.tuple #[.agg (pcs k text f vb nw np a), .int .i64 n])) W')
    (z1 z5 z6 z9 z10 z11 z12 z13 z14 z15 z16 z17 z18 z19 z20 z21 z22 z23 z24 z25 z26 z27 z28 z29 z30 z31 z32 z33 z34 z35 z36 z37 z38 z39 z40 z41 z42 z43 z44 z45 z46 z47 z48 z49 z50 z51 z52 z53 z54 z55 z56 z57 z58 z59 z60 z61 z62 z63 z64 z65 z66 z67 z68 z69 z70 z71 z72 z73 z74 z75 z76 z77 z78 z79 z80 z81 z82 z83 z84 z85 z86 z87 z88 z89 z90 z91 z92 z93 z94 z95 z96 z97 z98 z99 z100 z101 z102 z103 z104 z105 z106 z107 z108 z109 z110 z111 z112 z113 z114 z115 z116 z117 z118 z119 z120 z121 z122 z123 z124 z125 z126 z127 z128 z129 z130 z131 z132 z133 z134 z135 z136 z137 z138 z139 z140 z141 z142 z143 z144 z145 z146 z147 z148 z149 z150 z151 z152 z153 z154 z155 z156 z157 z158 z159 z160 z161 z162 z163 z164 z165 z166 z167 z168 z169 z170 z171 z172 z173 z174 z175 z176 z177 z178 z179 z180 z181 z182 z183 z184 z185 z186 z187 z188 z189 z190 z191 z192 z193 z194 z195 z196 z197 z198 z199 z200 z201 z202 z203 z204 z205 z206 z207 z208 z209 z210 z211 z212 z213 z214 z215 z216 z217 z218 z219 z220 z221 z222 z223 z224 z225 z226 z227 : Value) :
    Code.wp Tryd.prog (rtail 17) (bodyPost Tryd.prog Tryd.f20 POST) ⟨#[.string s, z1, .pointer (some ⟨Q, 0, none⟩), .int .i64 0, .pointer (some ⟨P, 0, none⟩), z5, z6, .int .i64 i, .pointer (some ⟨X, 0, none⟩), z9, z10, z11, z12, z13, z14, z15, z16, z17, z18, z19, z20, z21, z22, z23, z24, z25, z26, z27, z28, z29, z30, z31, z32, z33, z34, z35, z36, z37, z38, z39, z40, z41, z42, z43, z44, z45, z46, z47, z48, z49, z50, z51, z52, z53, z54, z55, z56, z57, z58, z59, z60, z61, z62, z63, z64, z65, z66, z67, z68, z69, z70, z71, z72, z73, z74, z75, z76, z77, z78, z79, z80, z81, z82, z83, z84, z85, z86, z87, z88, z89, z90, z91, z92, z93, z94, z95, z96, z97, z98, z99, z100, z101, z102, z103, z104, z105, z106, z107, z108, z109, z110, z111, z112, z113, z114, z115, z116, z117, z118, z119, z120, z121, z122, z123, z124, z125, z126, z127, z128, z129, z130, z131, z132, z133, z134, z135, z136, z137, z138, z139, z140, z141, z142, z143, z144, z145, z146, z147, z148, z149, z150, z151, z152, z153, z154, z155, z156, z157, z158, z159, z160, z161, z162, z163, z164, z165, z166, z167, z168, z169, z170, z171, z172, z173, z174, z175, z176, z177, z178, z179, z180, z181, z182, z183, z184, z185, z186, z187, z188, z189, z190, z191, z192, z193, z194, z195, z196, z197, z198, z199, z200, z201, z202, z203, z204, z205, z206, z207, z208, z209, z210, z211, z212, z213, z214, z215, z216, z217, z218, z219, z220, z221, z222, z223, z224, z225, z226, z227], []⟩ W := by
  conv => arg 2; whnf
  have S0 := hid S
  have HP := hid hpost
  clear S hpost
  by_cases hp : i < s.size
  · obtain ⟨t, ht⟩ : ∃ t, s.extract i s.size = t := ⟨_, rfl⟩
    have htl : t.data.toList = s.data.toList.drop i := by rw [← ht, ext_drop]
    have hts : t.size = s.size - i := by rw [← ht, ByteArray.size_extract]; omega
    have hne : t.data.toList ≠ [] := by
      intro e
      have h2 : t.size = 0 := by rw [Utf.size_eq, e]; rfl
      omega
    have hw := Utf.dec_width t.data.toList
    have hl := Utf.dec_le t.data.toList hne
    rw [← Utf.size_eq, hts] at hl
    have DE := hid (fun W => refdecode_any t W (by omega))
    unfold Dec3 at DE
    rw [dec0_ne hne] at DE
    obtain ⟨c, hc⟩ : ∃ c : Int, ((Utf.decL t.data.toList).1 : Int) = c := ⟨_, rfl⟩
    obtain ⟨m, hm⟩ : ∃ m : Nat, (Utf.decL t.data.toList).2 = m := ⟨_, rfl⟩
    obtain ⟨br, hbr⟩ : ∃ b : Bool, decide (Utf.Broken t.data.toList) = b := ⟨_, rfl⟩
    rw [hc, hm, hbr] at DE
    rw [hm] at hw hl
    have TO : Hid (Told (s.data.toList.drop i) 1 c (s.data.toList.drop (i + m))) := by
      refine Or.inr ⟨htl ▸ hne, rfl, ?_, ?_⟩
      · rw [← htl, hc]
      · rw [← htl, hm, htl, List.drop_drop]
    have hn : i + m ≤ s.size := by omega
    clear hc hbr hne htl hts
    go_upto_if 205 with fail
    rename_i hK
    have HK := hid hK
    clear hK hm hw hl
    go_wp2_with fail
    try rw [ht]
    refine (DE.out _).mono ?_
    rintro e W1 ⟨rfl, b1⟩
    have S1 := hid (S0.out.calm b1)
    clear b1 S0 DE
    have hp0 : W1.cell? ⟨P, 0, none⟩ = some (.int .i64 2) := S1.out.d.p.cell 0
    have hp9 : W1.cell? ⟨P, 9, none⟩ = some (.int .i32 0) := S1.out.d.p.cell 9
    have hpf : ∀ i, W1.frozen? ⟨P, i, none⟩ = false := S1.out.d.p.frozen
    go_wp2_with fail
    have S2 := hid (show SW w ((W1.setCell ⟨P, 0, none⟩ (.int .i64 1)).setCell ⟨P, 9, none⟩ (.int .i32 c)) Q P X (pcs 1 ⟨#[]⟩ f c nw np a) x from (S1.out.set_ 0 _).set_ 9 _)
    refine HK.out _ _ ?_
    rw [show (i : Int) + (m : Int) = ((i + m : Nat) : Int) by omega]
    exact rtailE POST s w _ Q P X 1 c f nw np a x (i + m) S2.out hs hn (fun text W' h1 h2 => HP.out 1 c (i + m) text W' hn TO.out h1 h2) _ _ _ _ _ _ _ _ _ _ _ _ _ _ _ _ _ _ _ _ _ _ _ _ _ _ _ _ _ _ _ _ _ _ _ _ _ _ _ _ _ _ _ _ _ _ _ _ _ _ _ _ _ _ _ _ _ _ _ _ _ _ _ _ _ _ _ _ _ _ _ _ _ _ _ _ _ _ _ _ _ _ _ _ _ _ _ _ _ _ _ _ _ _ _ _ _ _ _ _ _ _ _ _ _ _ _ _ _ _ _ _ _ _ _ _ _ _ _ _ _ _ _ _ _ _ _ _ _ _ _ _ _ _ _ _ _ _ _ _ _ _ _ _ _ _ _ _ _ _ _ _ _ _ _ _ _ _ _ _ _ _ _ _ _ _ _ _ _ _ _ _ _ _ _ _ _ _ _ _ _ _ _ _ _ _ _ _ _ _ _ _ _ _ _ _ _ _ _ _ _ _ _ _ _ _ _ _ _ _ _ _ _ _ _ _ _ _ _ _ _ _
  · have TO : Hid (Told (s.data.toList.drop i) 2 0 (s.data.toList.drop i)) := by
      have h0 : s.data.toList.drop i = [] := List.drop_eq_nil_of_le (by rw [← Utf.size_eq]; omega)
      exact Or.inl ⟨h0, rfl, rfl, h0⟩
    go_upto_if 205 with fail
    rename_i hK
    have HK := hid hK
    clear hK
    go_wp2_with fail
    refine HK.out _ _ ?_
    exact rtailE POST s w W Q P X 2 0 f nw np a x i S0.out hs hi (fun text W' h1 h2 => HP.out 2 0 i text W' hi TO.out h1 h2) _ _ _ _ _ _ _ _ _ _ _ _ _ _ _ _ _ _ _ _ _ _ _ _ _ _ _ _ _ _ _ _ _ _ _ _ _ _ _ _ _ _ _ _ _ _ _ _ _ _ _ _ _ _ _ _ _ _ _ _ _ _ _ _ _ _ _ _ _ _ _ _ _ _ _ _ _ _ _ _ _ _ _ _ _ _ _ _ _ _ _ _ _ _ _ _ _ _ _ _ _ _ _ _ _ _ _ _ _ _ _ _ _ _ _ _ _ _ _ _ _ _ _ _ _ _ _ _ _ _ _ _ _ _ _ _ _ _ _ _ _ _ _ _ _ _ _ _ _ _ _ _ _ _ _ _ _ _ _ _ _ _ _ _ _ _ _ _ _ _ _ _ _ _ _ _ _ _ _ _ _ _ _ _ _ _ _ _ _ _ _ _ _ _ _ _ _ _ _ _ _ _ _ _ _ _ _ _ _ _ _ _ _ _ _ _ _ _ _ _ _ _
end Go.Proofs.YtmfhoindfhmncaaDoor
