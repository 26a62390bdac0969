/-
  Walks of layer 9: the document's directive: its text and its return.
-/
import Derived.Test.YtmfhoindfhmncaaDoorS3
import Derived.Test.YtmfhoindfhmncaaDoorP8
namespace Go.Proofs.YtmfhoindfhmncaaDoor
open Go.RowKit Go.Proofs

noncomputable def rtail (k : Nat) : Code := dropSeq k (Tryd.f20.body.getD .skip)

set_option maxRecDepth 1000000 in
set_option maxHeartbeats 1000000 in
theorem rtailE (POST : Ending → World → Prop) (s : ByteArray) (w W : World) (Q P X : Nat) (k vb : Int) (f : PP.Fl) (nw np : PP.Nm) (a x : PP.Ix) (i : Nat) (S : SW w W Q P X (pcs k ⟨#[]⟩ f vb nw np a) x)
    (hs : s.size ≤ 100000) (hi : i ≤ s.size)
    (hpost : ∀ (text : ByteArray) (W' : World), text.data.toList = 37 :: s.data.toList.take i → Below w.heap.size w W' → POST (.returned (.tuple #[.agg (pcs k text f vb nw np a), .int .i64 i])) W')
    (z1 z5 z6 z9 z10 z11 z12 z13 z14 z15 z16 z17 z18 z19 z20 z21 z22 z23 z24 z25 z26 z27 z28 z29 z30 z31 z32 z33 z34 z35 z36 z37 z38 z39 z40 z41 z42 z43 z44 z45 z46 z47 z48 z49 z50 z51 z52 z53 z54 z55 z56 z57 z58 z59 z60 z61 z62 z63 z64 z65 z66 z67 z68 z69 z70 z71 z72 z73 z74 z75 z76 z77 z78 z79 z80 z81 z82 z83 z84 z85 z86 z87 z88 z89 z90 z91 z92 z93 z94 z95 z96 z97 z98 z99 z100 z101 z102 z103 z104 z105 z106 z107 z108 z109 z110 z111 z112 z113 z114 z115 z116 z117 z118 z119 z120 z121 z122 z123 z124 z125 z126 z127 z128 z129 z130 z131 z132 z133 z134 z135 z136 z137 z138 z139 z140 z141 z142 z143 z144 z145 z146 z147 z148 z149 z150 z151 z152 z153 z154 z155 z156 z157 z158 z159 z160 z161 z162 z163 z164 z165 z166 z167 z168 z169 z170 z171 z172 z173 z174 z175 z176 z177 z178 z179 z180 z181 z182 z183 z184 z185 z186 z187 z188 z189 z190 z191 z192 z193 z194 z195 z196 z197 z198 z199 z200 z201 z202 z203 z204 z205 z206 z207 z208 z209 z210 z211 z212 z213 z214 z215 z216 z217 z218 z219 z220 z221 z222 z223 z224 z225 z226 z227 : Value) :
    Code.wp Tryd.prog (rtail 18) (bodyPost Tryd.prog Tryd.f20 POST) ⟨#[.string s, z1, .pointer (some ⟨Q, 0, none⟩), .int .i64 0, .pointer (some ⟨P, 0, none⟩), z5, z6, .int .i64 i, .pointer (some ⟨X, 0, none⟩), z9, z10, z11, z12, z13, z14, z15, z16, z17, z18, z19, z20, z21, z22, z23, z24, z25, z26, z27, z28, z29, z30, z31, z32, z33, z34, z35, z36, z37, z38, z39, z40, z41, z42, z43, z44, z45, z46, z47, z48, z49, z50, z51, z52, z53, z54, z55, z56, z57, z58, z59, z60, z61, z62, z63, z64, z65, z66, z67, z68, z69, z70, z71, z72, z73, z74, z75, z76, z77, z78, z79, z80, z81, z82, z83, z84, z85, z86, z87, z88, z89, z90, z91, z92, z93, z94, z95, z96, z97, z98, z99, z100, z101, z102, z103, z104, z105, z106, z107, z108, z109, z110, z111, z112, z113, z114, z115, z116, z117, z118, z119, z120, z121, z122, z123, z124, z125, z126, z127, z128, z129, z130, z131, z132, z133, z134, z135, z136, z137, z138, z139, z140, z141, z142, z143, z144, z145, z146, z147, z148, z149, z150, z151, z152, z153, z154, z155, z156, z157, z158, z159, z160, z161, z162, z163, z164, z165, z166, z167, z168, z169, z170, z171, z172, z173, z174, z175, z176, z177, z178, z179, z180, z181, z182, z183, z184, z185, z186, z187, z188, z189, z190, z191, z192, z193, z194, z195, z196, z197, z198, z199, z200, z201, z202, z203, z204, z205, z206, z207, z208, z209, z210, z211, z212, z213, z214, z215, z216, z217, z218, z219, z220, z221, z222, z223, z224, z225, z226, z227], []⟩ W := by
  conv => arg 2; whnf
  have S0 := hid S
  have hp1 : W.cell? ⟨P, 1, none⟩ = some (.string ⟨#[]⟩) := S.d.p.cell 1
  have hpf : ∀ i, W.frozen? ⟨P, i, none⟩ = false := S.d.p.frozen
  clear S
  obtain ⟨text, htx⟩ : ∃ text : ByteArray, (⟨#[37]⟩ : ByteArray) ++ s.extract 0 i = text := ⟨_, rfl⟩
  have TX := hid (show text.data.toList = 37 :: s.data.toList.take i from by
    rw [← htx, ByteArray.data_append, Array.toList_append, ext_take]; rfl)
  have HP := hid hpost
  clear hpost
  go_upto_region 61 with fail
  try rw [htx]
  obtain ⟨W1, hW1⟩ : ∃ W1, W.setCell ⟨P, 1, none⟩ (.string text) = W1 := ⟨_, rfl⟩
  have S1 := hid (show SW w W1 Q P X (pcs k text f vb nw np a) x from hW1 ▸ S0.out.set_ 1 _)
  rw [hW1]
  clear hW1 htx hp1 hpf S0
  refine wp_region_list ?_
  refine wpList_load_mid rfl 34 (.tmp 4) rfl P 0 rfl (pcs k text f vb nw np a).toList _ (fun j v hv => by rw [Nat.zero_add, S1.out.d.p.cell]; simpa using hv) Tryd.underlying34 rfl rpiece_size ?_
  refine wpList_plain rfl fun K hK => ?_
  have HK := hid hK
  clear hK
  go_wp2_with fail
  refine HK.out _ _ ?_
  clear HK
  refine wpList_store_rowTo rfl 34 _ _ rfl rfl Q (pcs k text f vb nw np a) rfl rfl 34 pc0 S1.out.d.q rpiece_size rfl (pcs_one _ _ _ _ _ _ _) ?_
  have hq := S1.out.d.q.setRow (pcs k text f vb nw np a)
  have hb := below_setRow S1.out.d.below Q S1.out.d.hq (pcs k text f vb nw np a)
  obtain ⟨W2, hW2⟩ : ∃ W2, W1.setRow Q (pcs k text f vb nw np a) = W2 := ⟨_, rfl⟩
  rw [hW2] at hq hb ⊢
  have HQ := hid (And.intro hq hb)
  clear hW2 hq hb
  refine wpList_plain rfl fun K hK => ?_
  have HK := hid hK
  clear hK
  go_wp2_with fail
  refine HK.out _ _ ?_
  clear HK
  refine wpList_nil ?_
  go_wp2_with fail
  have HL := run_loadVar_mid (P := Tryd.prog) W2 Q 0 34 (pcs k text f vb nw np a).toList _ (fun j v hv => by rw [Nat.zero_add, HQ.out.1.cell]; simpa using hv) Tryd.underlying34 rfl rpiece_size
  refine bodyPost_ret (v := .tuple #[.agg (pcs k text f vb nw np a), .int .i64 i]) ?_ rfl (HP.out text W2 TX.out HQ.out.2)
  simp [results, Tryd.results20, asAddr, HL]
end Go.Proofs.YtmfhoindfhmncaaDoor
