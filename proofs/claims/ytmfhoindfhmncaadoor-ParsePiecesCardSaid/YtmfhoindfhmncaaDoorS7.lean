/-
  Walks of layer 9: the document's directive: the third index.
-/
import Derived.Test.YtmfhoindfhmncaaDoorS6
namespace Go.Proofs.YtmfhoindfhmncaaDoor
open Go.RowKit Go.Proofs

set_option maxRecDepth 1000000 in
set_option maxHeartbeats 1000000 in
theorem rtailT (POST : Ending → World → Prop) (s : ByteArray) (w W : World) (Q P X : Nat) (f : PP.Fl) (nw np : PP.Nm) (x : PP.Ix) (L : List PP.Ix) (wr : Bool) (v5 : Value) (i : Nat) (S : SW w W Q P X (pcs 2 ⟨#[]⟩ f 0 nw np rix0) x) (O : W.ownsRow (X + 1) 30 2 v5 L.length (ixCells L)) (hL : L.length ≤ 2)
    (hs : s.size ≤ 100000) (hi : i ≤ s.size)
    (hpost : ∀ (y : PP.Ix) (j : Nat) (k vb : Int) (n : Nat) (text : ByteArray) (W' : World), PP.ixL (s.data.toList.drop i) = (y, s.data.toList.drop j) → n ≤ s.size → Told (s.data.toList.drop j) k vb (s.data.toList.drop n) → text.data.toList = 37 :: s.data.toList.take n → Below w.heap.size w W' → POST (.returned (.tuple #[.agg (pcs k text f vb nw np (PP.argOf (PP.put1 L (decide (y.k ≠ 0)) y) wr)), .int .i64 n])) W')
    (z1 z9 z10 z11 z12 z13 z14 z15 z16 z17 z18 z19 z20 z21 z22 z23 z24 z25 z26 z27 z28 z29 z30 z31 z32 z33 z34 z35 z36 z37 z38 z39 z40 z41 z42 z43 z44 z45 z46 z47 z48 z49 z50 z51 z52 z53 z54 z55 z56 z57 z58 z59 z60 z61 z62 z63 z64 z65 z66 z67 z68 z69 z70 z71 z72 z73 z74 z75 z76 z77 z78 z79 z80 z81 z82 z83 z84 z85 z86 z87 z88 z89 z90 z91 z92 z93 z94 z95 z96 z97 z98 z99 z100 z101 z102 z103 z104 z105 z106 z107 z108 z109 z110 z111 z112 z113 z114 z115 z116 z117 z118 z119 z120 z121 z122 z123 z124 z125 z126 z127 z128 z129 z130 z131 z132 z133 z134 z135 z136 z137 z138 z139 z140 z141 z142 z143 z144 z145 z146 z147 z148 z149 z150 z151 z152 z153 z154 z155 z156 z157 z158 z159 z160 z161 z162 z163 z164 z165 z166 z167 z168 z169 z170 z171 z172 z173 z174 z175 z176 z177 z178 z179 z180 z181 z182 z183 z184 z185 z186 z187 z188 z189 z190 z191 z192 z193 z194 z195 z196 z197 z198 z199 z200 z201 z202 z203 z204 z205 z206 z207 z208 z209 z210 z211 z212 z213 z214 z215 z216 z217 z218 z219 z220 z221 z222 z223 z224 z225 z226 z227 : Value) :
    Code.wp Tryd.prog (rtail 12) (bodyPost Tryd.prog Tryd.f20 POST) ⟨#[.string s, z1, .pointer (some ⟨Q, 0, none⟩), .int .i64 0, .pointer (some ⟨P, 0, none⟩), v5, .bool wr, .int .i64 i, .pointer (some ⟨X, 0, none⟩), z9, z10, z11, z12, z13, z14, z15, z16, z17, z18, z19, z20, z21, z22, z23, z24, z25, z26, z27, z28, z29, z30, z31, z32, z33, z34, z35, z36, z37, z38, z39, z40, z41, z42, z43, z44, z45, z46, z47, z48, z49, z50, z51, z52, z53, z54, z55, z56, z57, z58, z59, z60, z61, z62, z63, z64, z65, z66, z67, z68, z69, z70, z71, z72, z73, z74, z75, z76, z77, z78, z79, z80, z81, z82, z83, z84, z85, z86, z87, z88, z89, z90, z91, z92, z93, z94, z95, z96, z97, z98, z99, z100, z101, z102, z103, z104, z105, z106, z107, z108, z109, z110, z111, z112, z113, z114, z115, z116, z117, z118, z119, z120, z121, z122, z123, z124, z125, z126, z127, z128, z129, z130, z131, z132, z133, z134, z135, z136, z137, z138, z139, z140, z141, z142, z143, z144, z145, z146, z147, z148, z149, z150, z151, z152, z153, z154, z155, z156, z157, z158, z159, z160, z161, z162, z163, z164, z165, z166, z167, z168, z169, z170, z171, z172, z173, z174, z175, z176, z177, z178, z179, z180, z181, z182, z183, z184, z185, z186, z187, z188, z189, z190, z191, z192, z193, z194, z195, z196, z197, z198, z199, z200, z201, z202, z203, z204, z205, z206, z207, z208, z209, z210, z211, z212, z213, z214, z215, z216, z217, z218, z219, z220, z221, z222, z223, z224, z225, z226, z227], []⟩ W := by
  conv => arg 2; whnf
  have IX := hid (fun W => sindex_any s i W (by omega) hi)
  have S0 := hid S
  have O0 := hid O
  have HP := hid hpost
  clear S O hpost
  go_wp2_with fail
  refine (IX.out _).mono ?_
  rintro e W1 ⟨y, j, rfl, hy, hj0, hj1, b1⟩
  have S1 := hid (S0.out.calm b1)
  have O1 := hid (own_calm O0.out b1)
  have Y1 := hid hy
  obtain ⟨th, hth⟩ : ∃ b : Bool, decide (y.k ≠ 0) = b := ⟨_, rfl⟩
  rw [hth]
  have TH := hid hth
  clear hy b1 hth IX S0 O0
  have hx0 : W1.cell? ⟨X, 0, none⟩ = some (.int .i64 x.k) := S1.out.x.cell 0
  have hx1 : W1.cell? ⟨X, 1, none⟩ = some (.int .i64 x.n) := S1.out.x.cell 1
  have hxf : ∀ i, W1.frozen? ⟨X, i, none⟩ = false := S1.out.x.frozen
  go_upto_if 182 with fail
  rename_i hK
  have HK := hid hK
  clear hK
  obtain ⟨W2, hW2⟩ : ∃ W2, (W1.setCell ⟨X, 0, none⟩ (.int .i64 y.k)).setCell ⟨X, 1, none⟩ (.int .i64 y.n) = W2 := ⟨_, rfl⟩
  have S2 := hid (S1.out.fresh y)
  have O2 := hid (own_far (p := ⟨X, 1, none⟩) (own_far (p := ⟨X, 0, none⟩) O1.out (Nat.lt_succ_self X) (.int .i64 y.k)) (Nat.lt_succ_self X) (.int .i64 y.n))
  rw [hW2] at S2 O2 ⊢
  clear hW2 hx0 hx1 hxf S1 O1
  cases th
  · go_wp2_with fail
    refine HK.out _ _ ?_
    refine rtailA POST s w _ Q P X f nw np y L wr v5 j S2.out O2.out (by omega) hs hj1 ?_ _ _ _ _ _ _ _ _ _ _ _ _ _ _ _ _ _ _ _ _ _ _ _ _ _ _ _ _ _ _ _ _ _ _ _ _ _ _ _ _ _ _ _ _ _ _ _ _ _ _ _ _ _ _ _ _ _ _ _ _ _ _ _ _ _ _ _ _ _ _ _ _ _ _ _ _ _ _ _ _ _ _ _ _ _ _ _ _ _ _ _ _ _ _ _ _ _ _ _ _ _ _ _ _ _ _ _ _ _ _ _ _ _ _ _ _ _ _ _ _ _ _ _ _ _ _ _ _ _ _ _ _ _ _ _ _ _ _ _ _ _ _ _ _ _ _ _ _ _ _ _ _ _ _ _ _ _ _ _ _ _ _ _ _ _ _ _ _ _ _ _ _ _ _ _ _ _ _ _ _ _ _ _ _ _ _ _ _ _ _ _ _ _ _ _ _ _ _ _ _ _ _ _ _ _ _ _ _ _ _ _ _ _ _ _ _ _ _ _ _
    intro k vb n text W' h1 h2 h3 h4
    have := HP.out y j k vb n text W' Y1.out h1 h2 h3 h4
    rw [TH.out] at this
    exact this
  · have hx0 : W2.cell? ⟨X, 0, none⟩ = some (.int .i64 y.k) := S2.out.x.cell 0
    have hx1 : W2.cell? ⟨X, 1, none⟩ = some (.int .i64 y.n) := S2.out.x.cell 1
    go_upto_region 50 with fail
    refine wp_region_list ?_
    iterate 2
      refine wpList_plain rfl fun K hK => ?_
      have HK := hid hK
      clear hK
      go_wp2_with fail
      refine HK.out _ _ ?_
      clear HK
    refine wpList_ix rfl rfl (.tmp 184) (.tmp 183) 185 rfl rfl rfl y rfl (X + 1) v5 L.length (ixCells L) _ rfl rfl rfl O2.out S2.out.x.lt (by omega) ?_
    intro v9 w9 ho9 hb9
    have R9 := hid (show w9.ownsRow (X + 1) 30 2 v9 (PP.put1 L true y).length (ixCells (PP.put1 L true y)) ∧ SW w w9 Q P X (pcs 2 ⟨#[]⟩ f 0 nw np rix0) y from
      ⟨by rw [show PP.put1 L true y = L ++ [y] from rfl, List.length_append, List.length_singleton, show ixCells (L ++ [y]) = ixCells L ++ [.int .i64 y.k, .int .i64 y.n] by unfold ixCells; rw [List.flatMap_append]; rfl]; exact ho9, S2.out.calmB hb9⟩)
    clear ho9 hb9 hx0 hx1
    go_wp2_with fail
    refine HK.out _ _ ?_
    refine rtailA POST s w _ Q P X f nw np y (PP.put1 L true y) wr v9 j R9.out.2 R9.out.1 (by show (L ++ [y]).length ≤ 3; rw [List.length_append, List.length_singleton]; omega) hs hj1 ?_ _ _ _ _ _ _ _ _ _ _ _ _ _ _ _ _ _ _ _ _ _ _ _ _ _ _ _ _ _ _ _ _ _ _ _ _ _ _ _ _ _ _ _ _ _ _ _ _ _ _ _ _ _ _ _ _ _ _ _ _ _ _ _ _ _ _ _ _ _ _ _ _ _ _ _ _ _ _ _ _ _ _ _ _ _ _ _ _ _ _ _ _ _ _ _ _ _ _ _ _ _ _ _ _ _ _ _ _ _ _ _ _ _ _ _ _ _ _ _ _ _ _ _ _ _ _ _ _ _ _ _ _ _ _ _ _ _ _ _ _ _ _ _ _ _ _ _ _ _ _ _ _ _ _ _ _ _ _ _ _ _ _ _ _ _ _ _ _ _ _ _ _ _ _ _ _ _ _ _ _ _ _ _ _ _ _ _ _ _ _ _ _ _ _ _ _ _ _ _ _ _ _ _ _ _ _ _ _ _ _ _ _ _ _ _ _ _ _ _ _
    intro k vb n text W' h1 h2 h3 h4
    have := HP.out y j k vb n text W' Y1.out h1 h2 h3 h4
    rw [TH.out] at this
    exact this
end Go.Proofs.YtmfhoindfhmncaaDoor
