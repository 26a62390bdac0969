/-
  Walks of layer 9: the document's directive: the verb's index.
-/
import Derived.Test.YtmfhoindfhmncaaDoorS5
namespace Go.Proofs.YtmfhoindfhmncaaDoor
open Go.RowKit Go.Proofs

theorem SW.fresh {w W : World} {Q P X : Nat} {cs : Array Value} {x : PP.Ix} (h : SW w W Q P X cs x) (y : PP.Ix) : SW w ((W.setCell ⟨X, 0, none⟩ (.int .i64 y.k)).setCell ⟨X, 1, none⟩ (.int .i64 y.n)) Q P X cs y := by
  have h1 := h.hx
  have h2 := h.d.hp
  have h3 := h.d.hq
  exact ⟨⟨(h.d.below.setCell (by show _ ≤ X; omega) _).setCell (by show _ ≤ X; omega) _, (h.d.p.far (by show P ≠ X; omega) _).far (by show P ≠ X; omega) _, (h.d.q.far (by show Q ≠ X; omega) _).far (by show Q ≠ X; omega) _, h3, h2⟩, (h.x.set_ 0 _).set_ 1 _, h1⟩
theorem own_far {W : World} {B n : Nat} {e : TypeId} {z : Nat} {v : Value} {xs : List Value} (h : W.ownsRow B e z v n xs) {p : Addr} (hp : p.block < B) (u : Value) : (W.setCell p u).ownsRow B e z v n xs := by
  refine ⟨h.1, ?_⟩
  rcases h.2 with h0 | ⟨g, cap, cur, e1, e2, e3, e4⟩
  · exact Or.inl h0
  · exact Or.inr ⟨g, cap, cur, e1, e2, (Below.heap_setCell W p u g (by omega)).trans e3, e4⟩
theorem own_calm {W W' : World} {B n : Nat} {e : TypeId} {z : Nat} {v : Value} {xs : List Value} (h : W.ownsRow B e z v n xs) (hb : Below W.heap.size W W') : W'.ownsRow B e z v n xs := by
  refine ⟨h.1, ?_⟩
  rcases h.2 with h0 | ⟨g, cap, cur, e1, e2, e3, e4⟩
  · exact Or.inl h0
  · exact Or.inr ⟨g, cap, cur, e1, e2, (hb.block g (by
      rcases Nat.lt_or_ge g W.heap.size with q | q
      · exact q
      · rw [Array.getElem?_eq_none q] at e3; cases e3)).trans e3, e4⟩
theorem own_slice {W : World} {B : Nat} {v : Value} {L : List PP.Ix} (h : W.ownsRow B 30 2 v L.length (ixCells L)) :
    ∃ A cap, v = .slice A L.length cap ∧ (L.length ≠ 0 → ∃ g, A = some ⟨g, 0, none⟩ ∧ ∀ (j : Nat) u, (ixCells L)[j]? = some u → W.cell? ⟨g, j, none⟩ = some u) := by
  rcases h.2 with ⟨h0, h1⟩ | ⟨g, cap, cur, e1, _⟩
  · exact ⟨none, 0, by rw [h1]; exact h0, fun hn => absurd h1 hn⟩
  · refine ⟨_, cap, e1, fun _ => ⟨g, rfl, fun j u hu => ?_⟩⟩
    have := h.cells (g := g) (by rw [e1]; rfl) j u hu
    rw [Addr.add_mid, Nat.zero_add] at this
    exact this

set_option maxRecDepth 1000000 in
set_option maxHeartbeats 1000000 in
theorem rtailW (POST : Ending → World → Prop) (s : ByteArray) (w W : World) (Q P X : Nat) (f : PP.Fl) (nw np : PP.Nm) (a b x : PP.Ix) (m : Nat) (wr : Bool) (Al : Option Addr) (capl : Nat) (hm : m ≤ 3) (hA : b = if m > 1 ∨ wr = true then ⟨2, 0⟩ else a) (i : Nat) (S : SW w W Q P X (pcs 2 ⟨#[]⟩ f 0 nw np a) x)
    (hs : s.size ≤ 100000) (hi : i ≤ s.size)
    (hpost : ∀ (k vb : Int) (n : Nat) (text : ByteArray) (W' : World), n ≤ s.size → Told (s.data.toList.drop i) k vb (s.data.toList.drop n) → text.data.toList = 37 :: s.data.toList.take n → Below w.heap.size w W' → POST (.returned (.tuple #[.agg (pcs k text f vb nw np b), .int .i64 n])) W')
    (z1 z9 z10 z11 z12 z13 z14 z15 z16 z17 z18 z19 z20 z21 z22 z23 z24 z25 z26 z27 z28 z29 z30 z31 z32 z33 z34 z35 z36 z37 z38 z39 z40 z41 z42 z43 z44 z45 z46 z47 z48 z49 z50 z51 z52 z53 z54 z55 z56 z57 z58 z59 z60 z61 z62 z63 z64 z65 z66 z67 z68 z69 z70 z71 z72 z73 z74 z75 z76 z77 z78 z79 z80 z81 z82 z83 z84 z85 z86 z87 z88 z89 z90 z91 z92 z93 z94 z95 z96 z97 z98 z99 z100 z101 z102 z103 z104 z105 z106 z107 z108 z109 z110 z111 z112 z113 z114 z115 z116 z117 z118 z119 z120 z121 z122 z123 z124 z125 z126 z127 z128 z129 z130 z131 z132 z133 z134 z135 z136 z137 z138 z139 z140 z141 z142 z143 z144 z145 z146 z147 z148 z149 z150 z151 z152 z153 z154 z155 z156 z157 z158 z159 z160 z161 z162 z163 z164 z165 z166 z167 z168 z169 z170 z171 z172 z173 z174 z175 z176 z177 z178 z179 z180 z181 z182 z183 z184 z185 z186 z187 z188 z189 z190 z191 z192 z193 z194 z195 z196 z197 z198 z199 z200 z201 z202 z203 z204 z205 z206 z207 z208 z209 z210 z211 z212 z213 z214 z215 z216 z217 z218 z219 z220 z221 z222 z223 z224 z225 z226 z227 : Value) :
    Code.wp Tryd.prog (rtail 16) (bodyPost Tryd.prog Tryd.f20 POST) ⟨#[.string s, z1, .pointer (some ⟨Q, 0, none⟩), .int .i64 0, .pointer (some ⟨P, 0, none⟩), .slice Al m capl, .bool wr, .int .i64 i, .pointer (some ⟨X, 0, none⟩), z9, z10, z11, z12, z13, z14, z15, z16, z17, z18, z19, z20, z21, z22, z23, z24, z25, z26, z27, z28, z29, z30, z31, z32, z33, z34, z35, z36, z37, z38, z39, z40, z41, z42, z43, z44, z45, z46, z47, z48, z49, z50, z51, z52, z53, z54, z55, z56, z57, z58, z59, z60, z61, z62, z63, z64, z65, z66, z67, z68, z69, z70, z71, z72, z73, z74, z75, z76, z77, z78, z79, z80, z81, z82, z83, z84, z85, z86, z87, z88, z89, z90, z91, z92, z93, z94, z95, z96, z97, z98, z99, z100, z101, z102, z103, z104, z105, z106, z107, z108, z109, z110, z111, z112, z113, z114, z115, z116, z117, z118, z119, z120, z121, z122, z123, z124, z125, z126, z127, z128, z129, z130, z131, z132, z133, z134, z135, z136, z137, z138, z139, z140, z141, z142, z143, z144, z145, z146, z147, z148, z149, z150, z151, z152, z153, z154, z155, z156, z157, z158, z159, z160, z161, z162, z163, z164, z165, z166, z167, z168, z169, z170, z171, z172, z173, z174, z175, z176, z177, z178, z179, z180, z181, z182, z183, z184, z185, z186, z187, z188, z189, z190, z191, z192, z193, z194, z195, z196, z197, z198, z199, z200, z201, z202, z203, z204, z205, z206, z207, z208, z209, z210, z211, z212, z213, z214, z215, z216, z217, z218, z219, z220, z221, z222, z223, z224, z225, z226, z227], []⟩ W := by
  conv => arg 2; whnf
  have S0 := hid S
  have HP := hid hpost
  have HA := hid hA
  clear S hpost hA
  have hp18 : W.cell? ⟨P, 18, none⟩ = some (.int .i64 a.k) := S0.out.d.p.cell 18
  have hp19 : W.cell? ⟨P, 19, none⟩ = some (.int .i64 a.n) := S0.out.d.p.cell 19
  have hpf : ∀ i, W.frozen? ⟨P, i, none⟩ = false := S0.out.d.p.frozen
  by_cases h1 : 1 < m
  · have h3 : decide ((1 : Int) < (m : Int)) = true := decide_eq_true (by omega)
    have H1 := hid h1
    clear h1
    go_upto_if 199 with fail
    rename_i hK
    have HK := hid hK
    clear hK
    go_wp2_with fail
    refine HK.out _ _ ?_
    have e : b = ⟨2, 0⟩ := by rw [HA.out, if_pos (Or.inl H1.out)]
    subst e
    exact rtailV POST s w _ Q P X f nw np ⟨2, 0⟩ x i ((S0.out.set_ 18 (.int .i64 2)).set_ 19 (.int .i64 0)) hs hi HP.out _ _ _ _ _ _ _ _ _ _ _ _ _ _ _ _ _ _ _ _ _ _ _ _ _ _ _ _ _ _ _ _ _ _ _ _ _ _ _ _ _ _ _ _ _ _ _ _ _ _ _ _ _ _ _ _ _ _ _ _ _ _ _ _ _ _ _ _ _ _ _ _ _ _ _ _ _ _ _ _ _ _ _ _ _ _ _ _ _ _ _ _ _ _ _ _ _ _ _ _ _ _ _ _ _ _ _ _ _ _ _ _ _ _ _ _ _ _ _ _ _ _ _ _ _ _ _ _ _ _ _ _ _ _ _ _ _ _ _ _ _ _ _ _ _ _ _ _ _ _ _ _ _ _ _ _ _ _ _ _ _ _ _ _ _ _ _ _ _ _ _ _ _ _ _ _ _ _ _ _ _ _ _ _ _ _ _ _ _ _ _ _ _ _ _ _ _ _ _ _ _ _ _ _ _ _ _ _ _ _ _ _ _ _ _ _ _ _ _ _ _ _
  · have h2 : ¬ (1 : Int) < (m : Int) := by omega
    have h3 : decide ((1 : Int) < (m : Int)) = false := decide_eq_false h2
    have H1 := hid h1
    clear h2 h1
    cases wr
    · go_upto_if 199 with fail
      rename_i hK
      have HK := hid hK
      clear hK
      go_wp2_with fail
      refine HK.out _ _ ?_
      have e : b = a := by rw [HA.out, if_neg (by rintro (q | q); exact H1.out q; cases q)]
      subst e
      exact rtailV POST s w _ Q P X f nw np b x i S0.out hs hi HP.out _ _ _ _ _ _ _ _ _ _ _ _ _ _ _ _ _ _ _ _ _ _ _ _ _ _ _ _ _ _ _ _ _ _ _ _ _ _ _ _ _ _ _ _ _ _ _ _ _ _ _ _ _ _ _ _ _ _ _ _ _ _ _ _ _ _ _ _ _ _ _ _ _ _ _ _ _ _ _ _ _ _ _ _ _ _ _ _ _ _ _ _ _ _ _ _ _ _ _ _ _ _ _ _ _ _ _ _ _ _ _ _ _ _ _ _ _ _ _ _ _ _ _ _ _ _ _ _ _ _ _ _ _ _ _ _ _ _ _ _ _ _ _ _ _ _ _ _ _ _ _ _ _ _ _ _ _ _ _ _ _ _ _ _ _ _ _ _ _ _ _ _ _ _ _ _ _ _ _ _ _ _ _ _ _ _ _ _ _ _ _ _ _ _ _ _ _ _ _ _ _ _ _ _ _ _ _ _ _ _ _ _ _ _ _ _ _ _ _ _ _ _
    · go_upto_if 199 with fail
      rename_i hK
      have HK := hid hK
      clear hK
      go_wp2_with fail
      refine HK.out _ _ ?_
      have e : b = ⟨2, 0⟩ := by rw [HA.out]; simp
      subst e
      exact rtailV POST s w _ Q P X f nw np ⟨2, 0⟩ x i ((S0.out.set_ 18 (.int .i64 2)).set_ 19 (.int .i64 0)) hs hi HP.out _ _ _ _ _ _ _ _ _ _ _ _ _ _ _ _ _ _ _ _ _ _ _ _ _ _ _ _ _ _ _ _ _ _ _ _ _ _ _ _ _ _ _ _ _ _ _ _ _ _ _ _ _ _ _ _ _ _ _ _ _ _ _ _ _ _ _ _ _ _ _ _ _ _ _ _ _ _ _ _ _ _ _ _ _ _ _ _ _ _ _ _ _ _ _ _ _ _ _ _ _ _ _ _ _ _ _ _ _ _ _ _ _ _ _ _ _ _ _ _ _ _ _ _ _ _ _ _ _ _ _ _ _ _ _ _ _ _ _ _ _ _ _ _ _ _ _ _ _ _ _ _ _ _ _ _ _ _ _ _ _ _ _ _ _ _ _ _ _ _ _ _ _ _ _ _ _ _ _ _ _ _ _ _ _ _ _ _ _ _ _ _ _ _ _ _ _ _ _ _ _ _ _ _ _ _ _ _ _ _ _ _ _ _ _ _ _ _ _ _ _ _
set_option maxRecDepth 1000000 in
set_option maxHeartbeats 1000000 in
theorem rtailA (POST : Ending → World → Prop) (s : ByteArray) (w W : World) (Q P X : Nat) (f : PP.Fl) (nw np : PP.Nm) (x : PP.Ix) (L : List PP.Ix) (wr : Bool) (v5 : Value) (i : Nat) (S : SW w W Q P X (pcs 2 ⟨#[]⟩ f 0 nw np rix0) x) (O : W.ownsRow (X + 1) 30 2 v5 L.length (ixCells L)) (hL : L.length ≤ 3)
    (hs : s.size ≤ 100000) (hi : i ≤ s.size)
    (hpost : ∀ (k vb : Int) (n : Nat) (text : ByteArray) (W' : World), n ≤ s.size → Told (s.data.toList.drop i) k vb (s.data.toList.drop n) → text.data.toList = 37 :: s.data.toList.take n → Below w.heap.size w W' → POST (.returned (.tuple #[.agg (pcs k text f vb nw np (PP.argOf L wr)), .int .i64 n])) W')
    (z1 z9 z10 z11 z12 z13 z14 z15 z16 z17 z18 z19 z20 z21 z22 z23 z24 z25 z26 z27 z28 z29 z30 z31 z32 z33 z34 z35 z36 z37 z38 z39 z40 z41 z42 z43 z44 z45 z46 z47 z48 z49 z50 z51 z52 z53 z54 z55 z56 z57 z58 z59 z60 z61 z62 z63 z64 z65 z66 z67 z68 z69 z70 z71 z72 z73 z74 z75 z76 z77 z78 z79 z80 z81 z82 z83 z84 z85 z86 z87 z88 z89 z90 z91 z92 z93 z94 z95 z96 z97 z98 z99 z100 z101 z102 z103 z104 z105 z106 z107 z108 z109 z110 z111 z112 z113 z114 z115 z116 z117 z118 z119 z120 z121 z122 z123 z124 z125 z126 z127 z128 z129 z130 z131 z132 z133 z134 z135 z136 z137 z138 z139 z140 z141 z142 z143 z144 z145 z146 z147 z148 z149 z150 z151 z152 z153 z154 z155 z156 z157 z158 z159 z160 z161 z162 z163 z164 z165 z166 z167 z168 z169 z170 z171 z172 z173 z174 z175 z176 z177 z178 z179 z180 z181 z182 z183 z184 z185 z186 z187 z188 z189 z190 z191 z192 z193 z194 z195 z196 z197 z198 z199 z200 z201 z202 z203 z204 z205 z206 z207 z208 z209 z210 z211 z212 z213 z214 z215 z216 z217 z218 z219 z220 z221 z222 z223 z224 z225 z226 z227 : Value) :
    Code.wp Tryd.prog (rtail 15) (bodyPost Tryd.prog Tryd.f20 POST) ⟨#[.string s, z1, .pointer (some ⟨Q, 0, none⟩), .int .i64 0, .pointer (some ⟨P, 0, none⟩), v5, .bool wr, .int .i64 i, .pointer (some ⟨X, 0, none⟩), z9, z10, z11, z12, z13, z14, z15, z16, z17, z18, z19, z20, z21, z22, z23, z24, z25, z26, z27, z28, z29, z30, z31, z32, z33, z34, z35, z36, z37, z38, z39, z40, z41, z42, z43, z44, z45, z46, z47, z48, z49, z50, z51, z52, z53, z54, z55, z56, z57, z58, z59, z60, z61, z62, z63, z64, z65, z66, z67, z68, z69, z70, z71, z72, z73, z74, z75, z76, z77, z78, z79, z80, z81, z82, z83, z84, z85, z86, z87, z88, z89, z90, z91, z92, z93, z94, z95, z96, z97, z98, z99, z100, z101, z102, z103, z104, z105, z106, z107, z108, z109, z110, z111, z112, z113, z114, z115, z116, z117, z118, z119, z120, z121, z122, z123, z124, z125, z126, z127, z128, z129, z130, z131, z132, z133, z134, z135, z136, z137, z138, z139, z140, z141, z142, z143, z144, z145, z146, z147, z148, z149, z150, z151, z152, z153, z154, z155, z156, z157, z158, z159, z160, z161, z162, z163, z164, z165, z166, z167, z168, z169, z170, z171, z172, z173, z174, z175, z176, z177, z178, z179, z180, z181, z182, z183, z184, z185, z186, z187, z188, z189, z190, z191, z192, z193, z194, z195, z196, z197, z198, z199, z200, z201, z202, z203, z204, z205, z206, z207, z208, z209, z210, z211, z212, z213, z214, z215, z216, z217, z218, z219, z220, z221, z222, z223, z224, z225, z226, z227], []⟩ W := by
  conv => arg 2; whnf
  have S0 := hid S
  have HP := hid hpost
  clear S hpost
  obtain ⟨Al, capl, rfl, hcl⟩ := own_slice O
  have HC := hid hcl
  clear hcl O
  by_cases h1 : L.length = 1
  · obtain ⟨z, hz⟩ := List.length_eq_one_iff.1 h1
    subst hz
    obtain ⟨g, rfl, hg⟩ := HC.out (by simp)
    have c0 := hg 0 (.int .i64 z.k) rfl
    have c1 := hg 1 (.int .i64 z.n) rfl
    have hp18 : W.cell? ⟨P, 18, none⟩ = some (.int .i64 0) := S0.out.d.p.cell 18
    have hp19 : W.cell? ⟨P, 19, none⟩ = some (.int .i64 0) := S0.out.d.p.cell 19
    have hpf : ∀ i, W.frozen? ⟨P, i, none⟩ = false := S0.out.d.p.frozen
    clear h1 hg
    go_upto_if 189 with fail
    rename_i hK
    have HK := hid hK
    clear hK
    go_wp2_with fail
    refine HK.out _ _ ?_
    refine rtailW POST s w _ Q P X f nw np z (PP.argOf [z] wr) x 1 wr (some ⟨g, 0, none⟩) capl (by decide) ?_ i ((S0.out.set_ 18 (.int .i64 z.k)).set_ 19 (.int .i64 z.n)) hs hi HP.out _ _ _ _ _ _ _ _ _ _ _ _ _ _ _ _ _ _ _ _ _ _ _ _ _ _ _ _ _ _ _ _ _ _ _ _ _ _ _ _ _ _ _ _ _ _ _ _ _ _ _ _ _ _ _ _ _ _ _ _ _ _ _ _ _ _ _ _ _ _ _ _ _ _ _ _ _ _ _ _ _ _ _ _ _ _ _ _ _ _ _ _ _ _ _ _ _ _ _ _ _ _ _ _ _ _ _ _ _ _ _ _ _ _ _ _ _ _ _ _ _ _ _ _ _ _ _ _ _ _ _ _ _ _ _ _ _ _ _ _ _ _ _ _ _ _ _ _ _ _ _ _ _ _ _ _ _ _ _ _ _ _ _ _ _ _ _ _ _ _ _ _ _ _ _ _ _ _ _ _ _ _ _ _ _ _ _ _ _ _ _ _ _ _ _ _ _ _ _ _ _ _ _ _ _ _ _ _ _ _ _ _ _ _ _ _ _ _ _ _
    unfold PP.argOf
    rfl
  · have hb : ((L.length : Int) == 1) = false := by rw [beq_eq_false_iff_ne]; omega
    obtain ⟨m, hm⟩ : ∃ m, L.length = m := ⟨_, rfl⟩
    have H1 := hid h1
    have HM := hid hm
    rw [hm] at hb hL ⊢
    clear h1 hm HC
    go_upto_if 189 with fail
    rename_i hK
    have HK := hid hK
    clear hK
    go_wp2_with fail
    refine HK.out _ _ ?_
    refine rtailW POST s w _ Q P X f nw np rix0 (PP.argOf L wr) x m wr Al capl hL ?_ i S0.out hs hi HP.out _ _ _ _ _ _ _ _ _ _ _ _ _ _ _ _ _ _ _ _ _ _ _ _ _ _ _ _ _ _ _ _ _ _ _ _ _ _ _ _ _ _ _ _ _ _ _ _ _ _ _ _ _ _ _ _ _ _ _ _ _ _ _ _ _ _ _ _ _ _ _ _ _ _ _ _ _ _ _ _ _ _ _ _ _ _ _ _ _ _ _ _ _ _ _ _ _ _ _ _ _ _ _ _ _ _ _ _ _ _ _ _ _ _ _ _ _ _ _ _ _ _ _ _ _ _ _ _ _ _ _ _ _ _ _ _ _ _ _ _ _ _ _ _ _ _ _ _ _ _ _ _ _ _ _ _ _ _ _ _ _ _ _ _ _ _ _ _ _ _ _ _ _ _ _ _ _ _ _ _ _ _ _ _ _ _ _ _ _ _ _ _ _ _ _ _ _ _ _ _ _ _ _ _ _ _ _ _ _ _ _ _ _ _ _ _ _ _ _ _
    unfold PP.argOf
    rw [HM.out]
    by_cases h : m > 1 ∨ wr = true
    · rw [if_pos h, if_pos h]
    · rw [if_neg h, if_neg h]
      have e : L = [] := List.eq_nil_of_length_eq_zero (by have := H1.out; have := HM.out; omega)
      rw [e]; rfl
end Go.Proofs.YtmfhoindfhmncaaDoor
