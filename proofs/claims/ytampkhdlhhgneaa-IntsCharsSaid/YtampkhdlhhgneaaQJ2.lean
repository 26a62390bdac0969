/-
  Walks of layer 3: the document's mark.
-/
import Derived.Test.YtampkhdlhhgneaaQJ1
namespace Go.Proofs.Ytampkhdlhhgneaa
open Go.RowKit Go.Proofs

set_option maxRecDepth 1000000 in
set_option maxHeartbeats 4000000 in
theorem wtail10 (neg : Bool) (n b : Nat) (g : Bool) (M D1 : ByteArray) (pl mi sh sp ze : Bool) (wid prec verb : Int) (P : Int) (w W : World) (H : Nat) (B1 : Hid (Bx w H (sp8 pl mi sh sp ze wid prec verb) W)) (HP : Hid (IP.limI prec = P)) (hnz : ¬ (n = 0 ∧ P = 0)) (HD1 : Hid (D1.data.toList = IP.zerosTo P (IP.dgb b g n))) (hD1s : D1.size ≤ 1064) (hD1p : 0 < D1.size) (hMs : M.size ≤ 10) (hw0 : -9223372036854775808 ≤ wid) (hw1 : wid ≤ 9223372036854775807)
    (z1 z2 z3 z4 z5 z6 z8 z9 z10 z11 z12 z14 z17 z18 z19 z20 z21 z22 z23 z24 z25 z26 z27 z28 z29 z30 z31 z32 z33 z34 z35 z36 z37 z38 z39 z40 z41 z42 z43 z44 z45 z46 z47 z48 z49 z50 z51 z52 z53 z54 z55 z56 z57 z58 z59 z60 z61 z62 z63 z64 z65 z66 z67 z68 z69 z70 z71 z72 z73 z74 z75 z76 z77 z78 z79 z80 z81 z82 z83 z84 z85 z86 z87 z88 z89 z90 z91 z92 z93 z94 z95 z96 z97 z98 z99 z100 z101 z102 z103 z104 z105 z106 z107 z108 z109 z110 z111 z112 z113 z114 z115 z116 z117 z118 z119 z120 z121 z122 z123 z124 z125 z126 z127 z128 z129 z130 z131 z132 z133 z134 z135 z136 z137 z138 z139 z140 z141 z142 z143 z144 z145 z146 z147 z148 z149 z150 : Value) :
    Code.wp Try.prog (wtail 10) (bodyPost Try.prog Try.f28 (fun e w' => e = .returned (tupS (some (padS ⟨(IP.bodyL neg n b g M.data.toList pl mi sp ze wid prec).toArray⟩ mi false wid))) ∧ Below w.heap.size w w')) ⟨#[.bool neg, z1, z2, z3, z4, z5, z6, .pointer (some ⟨H, 0, none⟩), z8, z9, z10, z11, z12, .string M, z14, .string D1, .int .i64 P, z17, z18, z19, z20, z21, z22, z23, z24, z25, z26, z27, z28, z29, z30, z31, z32, z33, z34, z35, z36, z37, z38, z39, z40, z41, z42, z43, z44, z45, z46, z47, z48, z49, z50, z51, z52, z53, z54, z55, z56, z57, z58, z59, z60, z61, z62, z63, z64, z65, z66, z67, z68, z69, z70, z71, z72, z73, z74, z75, z76, z77, z78, z79, z80, z81, z82, z83, z84, z85, z86, z87, z88, z89, z90, z91, z92, z93, z94, z95, z96, z97, z98, z99, z100, z101, z102, z103, z104, z105, z106, z107, z108, z109, z110, z111, z112, z113, z114, z115, z116, z117, z118, z119, z120, z121, z122, z123, z124, z125, z126, z127, z128, z129, z130, z131, z132, z133, z134, z135, z136, z137, z138, z139, z140, z141, z142, z143, z144, z145, z146, z147, z148, z149, z150], []⟩ W := by
  conv => arg 2; whnf
  have E0 := bt_at D1 0 hD1p
  have hh0 : D1.data.toList.head? = some 48 ↔ bt D1 0 = 48 := by
    unfold bt
    rw [List.head?_eq_getElem?]
    have hne : 0 < D1.data.toList.length := by rw [← Utf.size_eq]; exact hD1p
    rw [List.getElem?_eq_getElem hne]
    simp only [Option.getD_some, Option.some.injEq]
    constructor
    · intro h; rw [h]; rfl
    · intro h; exact UInt8.toNat_inj.1 (by have : (D1.data.toList[0]).toNat = 48 := by omega
                                           rw [this]; rfl)
  obtain ⟨c, hc⟩ : ∃ c, bt D1 0 = c := ⟨_, rfl⟩
  rw [hc] at E0 hh0
  obtain ⟨M2, hM2⟩ : ∃ M2 : ByteArray, ⟨(IP.markL M.data.toList D1.data.toList).toArray⟩ = M2 := ⟨_, rfl⟩
  have hmk : (M = ⟨#[48]⟩ ∧ c = 48 ∧ M2 = ⟨#[]⟩) ∨ (M = ⟨#[48]⟩ ∧ (c == 48) = false ∧ M2 = M) ∨ ((M.toList == [48]) = false ∧ M2 = M) := by
    rw [← hM2]
    unfold IP.markL
    by_cases hm : M.data.toList = [48]
    · have hM' : M = ⟨#[48]⟩ := bytes_ext hm
      by_cases hc' : c = 48
      · exact Or.inl ⟨hM', hc', by rw [if_pos ⟨hm, hh0.2 hc'⟩]⟩
      · exact Or.inr (Or.inl ⟨hM', beq_eq_false_iff_ne.2 hc', by rw [if_neg (fun h => hc' (hh0.1 h.2))]⟩)
    · refine Or.inr (Or.inr ⟨?_, by rw [if_neg (fun h => hm h.1)]⟩)
      rw [Lib.toList_data]
      exact beq_eq_false_iff_ne.2 hm
  have hM2s : M2.size ≤ 10 := by
    rcases hmk with ⟨_, _, e⟩ | ⟨_, _, e⟩ | ⟨_, e⟩
    · rw [e]; decide
    · rw [e]; exact hMs
    · rw [e]; exact hMs
  have HM2 := hid (show M2.data.toList = IP.markL M.data.toList D1.data.toList by rw [← hM2])
  clear hM2 hh0 hc
  obtain ⟨y, hy⟩ : ∃ y : Bool, (M = ⟨#[48]⟩ ∧ c = 48 ∧ M2 = ⟨#[]⟩ ∧ y = true) ∨ (M = ⟨#[48]⟩ ∧ (c == 48) = false ∧ M2 = M ∧ y = false) ∨ ((M.toList == [48]) = false ∧ M2 = M ∧ y = false) := by
    rcases hmk with ⟨a1, a2, a3⟩ | ⟨a1, a2, a3⟩ | ⟨a1, a2⟩
    · exact ⟨true, Or.inl ⟨a1, a2, a3, rfl⟩⟩
    · exact ⟨false, Or.inr (Or.inl ⟨a1, a2, a3, rfl⟩)⟩
    · exact ⟨false, Or.inr (Or.inr ⟨a1, a2, rfl⟩)⟩
  have HY := hid hy
  clear hy hmk
  rcases HY.out with ⟨q1, q2, q3, q4⟩ | ⟨q1, q2, q3, q4⟩ | ⟨q1, q3, q4⟩
  · clear HY
    subst q2
    subst q4
    have Q1 := hid q1
    have Q3 := hid q3
    subst q1
    go_upto_region 28 with fail
    rename_i hK
    have HK := hid hK
    clear hK
    go_wp2_with fail
    refine HK.out _ _ ?_
    have e := Q3.out
    subst e
    exact wtail12 neg n b g ⟨#[48]⟩ D1 ⟨#[]⟩ pl mi sh sp ze wid prec verb P w W H B1 HP hnz HD1 hD1s HM2 hM2s hw0 hw1 _ _ _ _ _ _ _ _ _ _ _ _ _ _ _ _ _ _ _ _ _ _ _ _ _ _ _ _ _ _ _ _ _ _ _ _ _ _ _ _ _ _ _ _ _ _ _ _ _ _ _ _ _ _ _ _ _ _ _ _ _ _ _ _ _ _ _ _ _ _ _ _ _ _ _ _ _ _ _ _ _ _ _ _ _ _ _ _ _ _ _ _ _ _ _ _ _ _ _ _ _ _ _ _ _ _ _ _ _ _ _ _ _ _ _ _ _ _ _ _ _ _ _ _ _ _ _ _ _ _ _ _ _ _ _ _ _ _ _ _ _ _ _ _ _
  · clear HY
    subst q4
    have Q3 := hid q3
    clear q3
    subst q1
    go_upto_region 28 with fail
    rename_i hK
    have HK := hid hK
    clear hK
    go_wp2_with fail
    refine HK.out _ _ ?_
    have e := Q3.out
    subst e
    exact wtail12 neg n b g ⟨#[48]⟩ D1 ⟨#[48]⟩ pl mi sh sp ze wid prec verb P w W H B1 HP hnz HD1 hD1s HM2 hM2s hw0 hw1 _ _ _ _ _ _ _ _ _ _ _ _ _ _ _ _ _ _ _ _ _ _ _ _ _ _ _ _ _ _ _ _ _ _ _ _ _ _ _ _ _ _ _ _ _ _ _ _ _ _ _ _ _ _ _ _ _ _ _ _ _ _ _ _ _ _ _ _ _ _ _ _ _ _ _ _ _ _ _ _ _ _ _ _ _ _ _ _ _ _ _ _ _ _ _ _ _ _ _ _ _ _ _ _ _ _ _ _ _ _ _ _ _ _ _ _ _ _ _ _ _ _ _ _ _ _ _ _ _ _ _ _ _ _ _ _ _ _ _ _ _ _ _ _ _
  · clear HY
    subst q4
    have Q3 := hid q3
    clear q3
    go_upto_region 28 with fail
    rename_i hK
    have HK := hid hK
    clear hK
    go_wp2_with fail
    refine HK.out _ _ ?_
    have e := Q3.out
    subst e
    exact wtail12 neg n b g M2 D1 M2 pl mi sh sp ze wid prec verb P w W H B1 HP hnz HD1 hD1s HM2 hM2s hw0 hw1 _ _ _ _ _ _ _ _ _ _ _ _ _ _ _ _ _ _ _ _ _ _ _ _ _ _ _ _ _ _ _ _ _ _ _ _ _ _ _ _ _ _ _ _ _ _ _ _ _ _ _ _ _ _ _ _ _ _ _ _ _ _ _ _ _ _ _ _ _ _ _ _ _ _ _ _ _ _ _ _ _ _ _ _ _ _ _ _ _ _ _ _ _ _ _ _ _ _ _ _ _ _ _ _ _ _ _ _ _ _ _ _ _ _ _ _ _ _ _ _ _ _ _ _ _ _ _ _ _ _ _ _ _ _ _ _ _ _ _ _ _ _ _ _ _
end Go.Proofs.Ytampkhdlhhgneaa
