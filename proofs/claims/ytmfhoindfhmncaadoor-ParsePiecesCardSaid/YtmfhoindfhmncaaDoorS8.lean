/-
  Walks of layer 9: the document's directive: the point and what stands behind it.
-/
import Derived.Test.YtmfhoindfhmncaaDoorS7
namespace Go.Proofs.YtmfhoindfhmncaaDoor
open Go.RowKit Go.Proofs

theorem not_point (s : ByteArray) (j : Nat) (h : isAt s j 46 = false) : ¬ PP.pk (s.data.toList.drop j) = 46 := by
  have h := of_decide_eq_false h
  rw [pk_drop]
  split
  · rename_i h1
    exact fun e => h ⟨h1, e⟩
  · omega
theorem pr_no (s : ByteArray) (j : Nat) (a : PP.Ix) (h : isAt s j 46 = false) : PP.prL a (s.data.toList.drop j) = (⟨0, 0, ⟨0, 0⟩⟩, a, s.data.toList.drop j) := by
  unfold PP.prL
  rw [if_neg (not_point s j h)]
theorem nm_al (s : ByteArray) (j N : Nat) (y : PP.Ix) (h : isAt s j 42 = false) (hN : j + (PP.dg (s.data.toList.drop j)).length = N) :
    PP.nmL y true (s.data.toList.drop j) = (⟨1, PP.valL 1000 0 (PP.dg (s.data.toList.drop j)), ⟨0, 0⟩⟩, (if j < N then PP.spoil y else y), s.data.toList.drop N) := by
  unfold PP.nmL
  rw [if_neg (not_star s j h)]
  have hd := dgAt_eq s j
  cases hg : dgAt s j
  · have h0 := hd.2 hg
    have hz : PP.dg (s.data.toList.drop j) = [] := List.eq_nil_of_length_eq_zero h0
    have hNj : N = j := by omega
    have hng := of_decide_eq_false hg
    rw [if_neg, if_pos rfl, hz, if_neg (by omega), hNj]
    · rfl
    · rw [pk_drop]
      by_cases hj : j < s.size
      · rw [if_pos hj]
        rintro (h1 | h1)
        · exact hng ⟨hj, by omega, by omega⟩
        · exact hng ⟨hj, by omega, by omega⟩
      · rw [if_neg hj]; omega
  · obtain ⟨h1, h2⟩ := hd.1 hg
    obtain ⟨g1, g2, g3⟩ := of_decide_eq_true hg
    rw [if_pos, if_pos (by omega), rs_at, hN]
    rw [pk_drop, if_pos h1]
    by_cases h48 : bt s j = 48
    · exact Or.inr ⟨rfl, h48⟩
    · exact Or.inl (by omega)
theorem spoil_first {th wr : Bool} {x : PP.Ix} (hth : th = true → x.k ≠ 0) (hwr : wr = true → th = true) : PP.argOf (PP.put1 [] th x) th = PP.spoil (PP.argOf (PP.put1 [] th x) wr) := by
  cases th
  · cases wr
    · rfl
    · exact absurd (hwr rfl) (by decide)
  · have hx := hth rfl
    show PP.argOf [x] true = PP.spoil (PP.argOf [x] wr)
    rw [PP.argOf_wrong]
    cases wr
    · show _ = PP.spoil x
      unfold PP.spoil
      rw [if_neg hx]
    · rw [PP.argOf_wrong]; rfl
theorem real_first {th : Bool} {x : PP.Ix} (hth : th = true → x.k ≠ 0) : PP.Real (PP.put1 [] th x) := PP.real_put PP.real_nil hth
theorem and_zero (x : PP.Ix) : PP.andI x ⟨0, 0⟩ = x := by unfold PP.andI; rw [if_pos rfl]
theorem and_wrong (x : PP.Ix) : PP.andI x ⟨2, 0⟩ = ⟨2, 0⟩ := by
  unfold PP.andI
  rw [if_neg (by decide)]
  split <;> rfl
/-- Behind the point a star. -/
theorem pr_star (s : ByteArray) (i j : Nat) (y : PP.Ix) (a : PP.Ix) (h : isAt s i 46 = true) (hy : PP.ixL (s.data.toList.drop (i + 1)) = (y, s.data.toList.drop j)) (hs : isAt s j 42 = true) :
    PP.prL a (s.data.toList.drop i) = (⟨2, 0, y⟩, PP.spoil a, s.data.toList.drop (j + 1)) := by
  obtain ⟨h1, h2⟩ := of_decide_eq_true h
  unfold PP.prL
  rw [if_pos (by rw [pk_drop, if_pos h1]; exact h2), List.drop_drop]
  simp only [hy, nm_star s j y true hs, and_zero]
/-- Behind the point no star. -/
theorem pr_dig (s : ByteArray) (i j N : Nat) (y : PP.Ix) (L : List PP.Ix) (wr th t2 : Bool) (h : isAt s i 46 = true) (hy : PP.ixL (s.data.toList.drop (i + 1)) = (y, s.data.toList.drop j)) (hs : isAt s j 42 = false)
    (hN : j + (PP.dg (s.data.toList.drop j)).length = N) (hR : PP.Real L) (hsp : PP.argOf L th = PP.spoil (PP.argOf L wr)) (ht2 : decide (y.k ≠ 0) = t2) :
    PP.prL (PP.argOf L wr) (s.data.toList.drop i) = (⟨1, PP.valL 1000 0 (PP.dg (s.data.toList.drop j)), ⟨0, 0⟩⟩, PP.argOf (PP.put1 L t2 y) (th || (t2 && decide (j < N))), s.data.toList.drop N) := by
  obtain ⟨h1, h2⟩ := of_decide_eq_true h
  unfold PP.prL
  rw [if_pos (by rw [pk_drop, if_pos h1]; exact h2), List.drop_drop]
  simp only [hy, nm_al s j N y hs hN]
  rw [← hsp]
  congr 2
  by_cases hj : j < N
  · rw [if_pos hj]
    cases t2
    · have hz := PP.ixL_zero (s.data.toList.drop (i + 1)) (by rw [hy]; simpa using ht2)
      rw [hy] at hz
      have hz' : y = ⟨0, 0⟩ := hz
      rw [hz']
      show PP.andI _ ⟨0, 0⟩ = PP.argOf L (th || false)
      rw [and_zero, Bool.or_false]
    · have hk : ¬ y.k = 0 := by simpa using ht2
      unfold PP.spoil
      rw [if_neg hk, and_wrong, decide_eq_true hj, Bool.and_true, Bool.or_true, PP.argOf_wrong]
  · rw [if_neg hj, decide_eq_false hj, Bool.and_false, Bool.or_false]
    exact (PP.argOf_put hR ht2.symm).symm

set_option maxRecDepth 1000000 in
set_option maxHeartbeats 1000000 in
theorem rtailP (POST : Ending → World → Prop) (s : ByteArray) (w W : World) (Q P X : Nat) (f : PP.Fl) (nw : PP.Nm) (x : PP.Ix) (th wr : Bool) (v5 : Value) (i : Nat) (S : SW w W Q P X (pcs 2 ⟨#[]⟩ f 0 nw rnm0 rix0) x) (O : W.ownsRow (X + 1) 30 2 v5 (PP.put1 [] th x).length (ixCells (PP.put1 [] th x))) (hth : th = true → x.k ≠ 0) (hwr : wr = true → th = true)
    (hs : s.size ≤ 100000) (hi : i ≤ s.size)
    (hpost : ∀ (np : PP.Nm) (L : List PP.Ix) (wq : Bool) (i2 : Nat) (y : PP.Ix) (j : Nat) (k vb : Int) (n : Nat) (text : ByteArray) (W' : World), PP.prL (PP.argOf (PP.put1 [] th x) wr) (s.data.toList.drop i) = (np, PP.argOf L wq, s.data.toList.drop i2) → PP.Real L → PP.ixL (s.data.toList.drop i2) = (y, s.data.toList.drop j) → n ≤ s.size → Told (s.data.toList.drop j) k vb (s.data.toList.drop n) → text.data.toList = 37 :: s.data.toList.take n → Below w.heap.size w W' → POST (.returned (.tuple #[.agg (pcs k text f vb nw np (PP.argOf (PP.put1 L (decide (y.k ≠ 0)) y) wq)), .int .i64 n])) W')
    (z1 z9 z11 z12 z13 z14 z15 z16 z17 z18 z19 z20 z21 z22 z23 z24 z25 z26 z27 z28 z29 z30 z31 z32 z33 z34 z35 z36 z37 z38 z39 z40 z41 z42 z43 z44 z45 z46 z47 z48 z49 z50 z51 z52 z53 z54 z55 z56 z57 z58 z59 z60 z61 z62 z63 z64 z65 z66 z67 z68 z69 z70 z71 z72 z73 z74 z75 z76 z77 z78 z79 z80 z81 z82 z83 z84 z85 z86 z87 z88 z89 z90 z91 z92 z93 z94 z95 z96 z97 z98 z99 z100 z101 z102 z103 z104 z105 z106 z107 z108 z109 z110 z111 z112 z113 z114 z115 z116 z117 z118 z119 z120 z121 z122 z123 z124 z125 z126 z127 z128 z129 z130 z131 z132 z133 z134 z135 z136 z137 z138 z139 z140 z141 z142 z143 z144 z145 z146 z147 z148 z149 z150 z151 z152 z153 z154 z155 z156 z157 z158 z159 z160 z161 z162 z163 z164 z165 z166 z167 z168 z169 z170 z171 z172 z173 z174 z175 z176 z177 z178 z179 z180 z181 z182 z183 z184 z185 z186 z187 z188 z189 z190 z191 z192 z193 z194 z195 z196 z197 z198 z199 z200 z201 z202 z203 z204 z205 z206 z207 z208 z209 z210 z211 z212 z213 z214 z215 z216 z217 z218 z219 z220 z221 z222 z223 z224 z225 z226 z227 : Value) :
    Code.wp Tryd.prog (rtail 11) (bodyPost Tryd.prog Tryd.f20 POST) ⟨#[.string s, z1, .pointer (some ⟨Q, 0, none⟩), .int .i64 0, .pointer (some ⟨P, 0, none⟩), v5, .bool wr, .int .i64 i, .pointer (some ⟨X, 0, none⟩), z9, .bool th, z11, z12, z13, z14, z15, z16, z17, z18, z19, z20, z21, z22, z23, z24, z25, z26, z27, z28, z29, z30, z31, z32, z33, z34, z35, z36, z37, z38, z39, z40, z41, z42, z43, z44, z45, z46, z47, z48, z49, z50, z51, z52, z53, z54, z55, z56, z57, z58, z59, z60, z61, z62, z63, z64, z65, z66, z67, z68, z69, z70, z71, z72, z73, z74, z75, z76, z77, z78, z79, z80, z81, z82, z83, z84, z85, z86, z87, z88, z89, z90, z91, z92, z93, z94, z95, z96, z97, z98, z99, z100, z101, z102, z103, z104, z105, z106, z107, z108, z109, z110, z111, z112, z113, z114, z115, z116, z117, z118, z119, z120, z121, z122, z123, z124, z125, z126, z127, z128, z129, z130, z131, z132, z133, z134, z135, z136, z137, z138, z139, z140, z141, z142, z143, z144, z145, z146, z147, z148, z149, z150, z151, z152, z153, z154, z155, z156, z157, z158, z159, z160, z161, z162, z163, z164, z165, z166, z167, z168, z169, z170, z171, z172, z173, z174, z175, z176, z177, z178, z179, z180, z181, z182, z183, z184, z185, z186, z187, z188, z189, z190, z191, z192, z193, z194, z195, z196, z197, z198, z199, z200, z201, z202, z203, z204, z205, z206, z207, z208, z209, z210, z211, z212, z213, z214, z215, z216, z217, z218, z219, z220, z221, z222, z223, z224, z225, z226, z227], []⟩ W := by
  conv => arg 2; whnf
  have IS := hid (fun W => sis_any s i 46 W (by omega) hi)
  have HSP := hid (spoil_first hth hwr)
  have HR := hid (real_first hth)
  have HL : (PP.put1 [] th x).length ≤ 1 := by cases th <;> simp [PP.put1]
  obtain ⟨L, hL⟩ : ∃ L, PP.put1 [] th x = L := ⟨_, rfl⟩
  rw [hL] at HSP HR HL O hpost
  have HWR := hid hwr
  have S0 := hid S
  have O0 := hid O
  have HP := hid hpost
  clear S O hpost hth hwr hL
  cases hpt : isAt s i 46
  · rw [hpt] at IS
    have HPR := hid (pr_no s i (PP.argOf L wr) hpt)
    clear hpt
    go_wp2_with fail
    refine (IS.out _).mono ?_
    rintro e w' ⟨rfl, hw⟩
    subst hw
    go_upto_if 126 with fail
    rename_i hK
    have HK := hid hK
    clear hK
    go_wp2_with fail
    refine HK.out _ _ ?_
    exact rtailT POST s w W Q P X f nw rnm0 x L wr v5 i S0.out O0.out (by omega) hs hi (fun y j k vb n text W' h1 h2 h3 h4 h5 => HP.out rnm0 L wr i y j k vb n text W' HPR.out HR.out h1 h2 h3 h4 h5) _ _ _ _ _ _ _ _ _ _ _ _ _ _ _ _ _ _ _ _ _ _ _ _ _ _ _ _ _ _ _ _ _ _ _ _ _ _ _ _ _ _ _ _ _ _ _ _ _ _ _ _ _ _ _ _ _ _ _ _ _ _ _ _ _ _ _ _ _ _ _ _ _ _ _ _ _ _ _ _ _ _ _ _ _ _ _ _ _ _ _ _ _ _ _ _ _ _ _ _ _ _ _ _ _ _ _ _ _ _ _ _ _ _ _ _ _ _ _ _ _ _ _ _ _ _ _ _ _ _ _ _ _ _ _ _ _ _ _ _ _ _ _ _ _ _ _ _ _ _ _ _ _ _ _ _ _ _ _ _ _ _ _ _ _ _ _ _ _ _ _ _ _ _ _ _ _ _ _ _ _ _ _ _ _ _ _ _ _ _ _ _ _ _ _ _ _ _ _ _ _ _ _ _ _ _ _ _ _ _ _ _ _ _ _ _ _ _ _ _
  · rw [hpt] at IS
    have hi1 : i < s.size := (of_decide_eq_true hpt).1
    have HPT := hid hpt
    have IX := hid (fun W => sindex_any s (i + 1) W (by omega) hi1)
    clear hpt
    go_wp2_with fail
    refine (IS.out _).mono ?_
    rintro e w' ⟨rfl, hw⟩
    subst hw
    go_upto_if 126 with fail
    rename_i hK
    have HK := hid hK
    clear hK
    go_upto_region 33 with fail
    go_cut [6] (fun v wn => v = .bool th ∧ W = wn)
    case first =>
      cases wr
      · go_wp2_with fail
        go_meet
        exact ⟨rfl, rfl⟩
      · obtain rfl := HWR.out rfl
        go_wp2_with fail
        go_meet
        exact ⟨rfl, rfl⟩
    case rest =>
    obtain ⟨rfl, rfl⟩ := hcut
    have hcast : ((i + 1 : Nat) : Int) = (i : Int) + 1 := by omega
    rw [hcast] at IX
    clear hcast
    go_wp2_with fail
    refine (IX.out _).mono ?_
    rintro e W1 ⟨y, j, rfl, hy, hj0, hj1, b1⟩
    have S1 := hid (S0.out.calm b1)
    have O1 := hid (own_calm O0.out b1)
    have Y1 := hid hy
    obtain ⟨t2, ht2⟩ : ∃ b : Bool, decide (y.k ≠ 0) = b := ⟨_, rfl⟩
    rw [ht2]
    have T2 := hid ht2
    have hj2 : j ≤ s.size := hj1
    clear hy b1 ht2 IX IS S0 O0 hj0 hj1
    have hx0 : W1.cell? ⟨X, 0, none⟩ = some (.int .i64 x.k) := S1.out.x.cell 0
    have hx1 : W1.cell? ⟨X, 1, none⟩ = some (.int .i64 x.n) := S1.out.x.cell 1
    have hxf : ∀ i, W1.frozen? ⟨X, i, none⟩ = false := S1.out.x.frozen
    have IS := hid (fun W => sis_any s j 42 W (by omega) hj2)
    cases hst : isAt s j 42
    · rw [hst] at IS
      obtain ⟨N, hN⟩ : ∃ N, j + (PP.dg (s.data.toList.drop j)).length = N := ⟨_, rfl⟩
      have RU := hid (fun W => srun_any s j W (by omega) hj2)
      have hle := dg_le s j hj2
      have hDl := dg_is s j N hN
      have hjN : j ≤ N := by omega
      rw [hN] at RU hle
      obtain ⟨D, hD⟩ : ∃ D, s.extract j N = D := ⟨_, rfl⟩
      rw [hD] at hDl
      have hDz : D.size ≤ 100000 := by rw [← hD, ByteArray.size_extract]; omega
      have VA := hid (fun W => svalue_any D 1000 W (by omega) (by omega) (by omega) (dg_bytes _ D hDl))
      rw [hDl] at VA
      have PR := hid (pr_dig s i j N y L wr th t2 HPT.out Y1.out hst hN HR.out HSP.out T2.out)
      obtain ⟨vv, hvv⟩ : ∃ v, PP.valL 1000 0 (PP.dg (s.data.toList.drop j)) = v := ⟨_, rfl⟩
      rw [hvv] at VA PR
      clear hst hN hDl hvv
      go_wp2_with fail
      refine (IS.out _).mono ?_
      rintro e w' ⟨rfl, hw⟩
      subst hw
      go_wp2_with fail
      refine (RU.out _).mono ?_
      rintro e w' ⟨rfl, hw⟩
      subst hw
      go_wp2_with fail
      try rw [hD]
      refine (VA.out _).mono ?_
      rintro e w' ⟨rfl, hw⟩
      subst hw
      obtain ⟨W2, hW2⟩ : ∃ W2, (W1.setCell ⟨X, 0, none⟩ (.int .i64 y.k)).setCell ⟨X, 1, none⟩ (.int .i64 y.n) = W2 := ⟨_, rfl⟩
      have S2 := hid (S1.out.fresh y)
      have O2 := hid (own_far (p := ⟨X, 1, none⟩) (own_far (p := ⟨X, 0, none⟩) O1.out (Nat.lt_succ_self X) (.int .i64 y.k)) (Nat.lt_succ_self X) (.int .i64 y.n))
      rw [hW2] at S2 O2 ⊢
      clear hW2 hx0 hx1 hxf S1 O1 hD VA RU IS
      have hp14 : W2.cell? ⟨P, 14, none⟩ = some (.int .i64 0) := S2.out.d.p.cell 14
      have hp15 : W2.cell? ⟨P, 15, none⟩ = some (.int .i64 0) := S2.out.d.p.cell 15
      have hp16 : W2.cell? ⟨P, 16, none⟩ = some (.int .i64 0) := S2.out.d.p.cell 16
      have hp17 : W2.cell? ⟨P, 17, none⟩ = some (.int .i64 0) := S2.out.d.p.cell 17
      have hpf : ∀ i, W2.frozen? ⟨P, i, none⟩ = false := S2.out.d.p.frozen
      go_upto_region 43 with fail
      have S3 := hid ((((S2.out.set_ 14 (.int .i64 1)).set_ 15 (.int .i64 vv)).set_ 16 (.int .i64 0)).set_ 17 (.int .i64 0))
      have hPX : P < X + 1 := by have := S2.out.hx; omega
      have O3 := hid (own_far (p := ⟨P, 17, none⟩) (own_far (p := ⟨P, 16, none⟩) (own_far (p := ⟨P, 15, none⟩) (own_far (p := ⟨P, 14, none⟩) O2.out hPX (.int .i64 1)) hPX (.int .i64 vv)) hPX (.int .i64 0)) hPX (.int .i64 0))
      obtain ⟨W3, hW3⟩ : ∃ W3, (((W2.setCell ⟨P, 14, none⟩ (.int .i64 1)).setCell ⟨P, 15, none⟩ (.int .i64 vv)).setCell ⟨P, 16, none⟩ (.int .i64 0)).setCell ⟨P, 17, none⟩ (.int .i64 0) = W3 := ⟨_, rfl⟩
      rw [hW3] at S3 O3 ⊢
      clear hW3 hp14 hp15 hp16 hp17 hpf S2 O2
      obtain ⟨wq, hwq⟩ : ∃ b : Bool, (th || (t2 && decide (j < N))) = b := ⟨_, rfl⟩
      rw [hwq] at PR
      have WQ := hid hwq
      clear hwq
      go_cut [6] (fun v wn => v = .bool wq ∧ W3 = wn)
      case first =>
        have hwq := WQ.out
        cases th
        · cases t2
          · obtain rfl : false = wq := hwq
            go_wp2_with fail
            go_meet
            exact ⟨rfl, rfl⟩
          · by_cases hlt : j < N
            · have e : wq = true := by rw [← hwq, decide_eq_true hlt]; rfl
              subst e
              clear hwq
              go_wp2_with fail
              go_meet
              exact ⟨rfl, rfl⟩
            · have e : wq = false := by rw [← hwq, decide_eq_false hlt]; rfl
              subst e
              clear hwq
              go_wp2_with fail
              go_meet
              exact ⟨rfl, rfl⟩
        · obtain rfl : true = wq := hwq
          go_wp2_with fail
          go_meet
          exact ⟨rfl, rfl⟩
      case rest =>
      obtain ⟨rfl, rfl⟩ := hcut
      cases t2
      · go_wp2_with fail
        refine HK.out _ _ ?_
        exact rtailT POST s w W3 Q P X f nw ⟨1, vv, ⟨0, 0⟩⟩ y L wq v5 N S3.out O3.out (by omega) hs hle (fun y' j' k vb n text W' h1 h2 h3 h4 h5 => HP.out ⟨1, vv, ⟨0, 0⟩⟩ L wq N y' j' k vb n text W' PR.out HR.out h1 h2 h3 h4 h5) _ _ _ _ _ _ _ _ _ _ _ _ _ _ _ _ _ _ _ _ _ _ _ _ _ _ _ _ _ _ _ _ _ _ _ _ _ _ _ _ _ _ _ _ _ _ _ _ _ _ _ _ _ _ _ _ _ _ _ _ _ _ _ _ _ _ _ _ _ _ _ _ _ _ _ _ _ _ _ _ _ _ _ _ _ _ _ _ _ _ _ _ _ _ _ _ _ _ _ _ _ _ _ _ _ _ _ _ _ _ _ _ _ _ _ _ _ _ _ _ _ _ _ _ _ _ _ _ _ _ _ _ _ _ _ _ _ _ _ _ _ _ _ _ _ _ _ _ _ _ _ _ _ _ _ _ _ _ _ _ _ _ _ _ _ _ _ _ _ _ _ _ _ _ _ _ _ _ _ _ _ _ _ _ _ _ _ _ _ _ _ _ _ _ _ _ _ _ _ _ _ _ _ _ _ _ _ _ _ _ _ _ _ _ _ _ _ _ _ _
      · have hx0 : W3.cell? ⟨X, 0, none⟩ = some (.int .i64 y.k) := S3.out.x.cell 0
        have hx1 : W3.cell? ⟨X, 1, none⟩ = some (.int .i64 y.n) := S3.out.x.cell 1
        go_upto_region 46 with fail
        refine wp_region_list ?_
        iterate 2
          refine wpList_plain rfl fun K hK => ?_
          have HK := hid hK
          clear hK
          go_wp2_with fail
          refine HK.out _ _ ?_
          clear HK
        refine wpList_ix rfl rfl (.tmp 171) (.tmp 170) 172 rfl rfl rfl y rfl (X + 1) v5 L.length (ixCells L) _ rfl rfl rfl O3.out S3.out.x.lt (by omega) ?_
        intro v9 w9 ho9 hb9
        have R9 := hid (show w9.ownsRow (X + 1) 30 2 v9 (PP.put1 L true y).length (ixCells (PP.put1 L true y)) ∧ SW w w9 Q P X (pcs 2 ⟨#[]⟩ f 0 nw ⟨1, vv, ⟨0, 0⟩⟩ rix0) y from
          ⟨by rw [show PP.put1 L true y = L ++ [y] from rfl, List.length_append, List.length_singleton, show ixCells (L ++ [y]) = ixCells L ++ [.int .i64 y.k, .int .i64 y.n] by unfold ixCells; rw [List.flatMap_append]; rfl]; exact ho9, S3.out.calmB hb9⟩)
        clear ho9 hb9 hx0 hx1
        go_wp2_with fail
        refine HK.out _ _ ?_
        have HR2 := PP.real_put (th := true) HR.out (fun _ => by simpa using T2.out)
        exact rtailT POST s w w9 Q P X f nw ⟨1, vv, ⟨0, 0⟩⟩ y (PP.put1 L true y) wq v9 N R9.out.2 R9.out.1 (by show (L ++ [y]).length ≤ 2; rw [List.length_append, List.length_singleton]; omega) hs hle
          (fun y' j' k vb n text W' h1 h2 h3 h4 h5 => HP.out ⟨1, vv, ⟨0, 0⟩⟩ (PP.put1 L true y) wq N y' j' k vb n text W' PR.out HR2 h1 h2 h3 h4 h5) _ _ _ _ _ _ _ _ _ _ _ _ _ _ _ _ _ _ _ _ _ _ _ _ _ _ _ _ _ _ _ _ _ _ _ _ _ _ _ _ _ _ _ _ _ _ _ _ _ _ _ _ _ _ _ _ _ _ _ _ _ _ _ _ _ _ _ _ _ _ _ _ _ _ _ _ _ _ _ _ _ _ _ _ _ _ _ _ _ _ _ _ _ _ _ _ _ _ _ _ _ _ _ _ _ _ _ _ _ _ _ _ _ _ _ _ _ _ _ _ _ _ _ _ _ _ _ _ _ _ _ _ _ _ _ _ _ _ _ _ _ _ _ _ _ _ _ _ _ _ _ _ _ _ _ _ _ _ _ _ _ _ _ _ _ _ _ _ _ _ _ _ _ _ _ _ _ _ _ _ _ _ _ _ _ _ _ _ _ _ _ _ _ _ _ _ _ _ _ _ _ _ _ _ _ _ _ _ _ _ _ _ _ _ _ _ _ _ _ _
    · rw [hst] at IS
      have PR := hid (pr_star s i j y (PP.argOf L wr) HPT.out Y1.out hst)
      rw [← HSP.out] at PR
      have hjs : j < s.size := (of_decide_eq_true hst).1
      have hcast : (j : Int) + 1 = ((j + 1 : Nat) : Int) := by omega
      clear hst
      go_wp2_with fail
      refine (IS.out _).mono ?_
      rintro e w' ⟨rfl, hw⟩
      subst hw
      obtain ⟨W2, hW2⟩ : ∃ W2, (W1.setCell ⟨X, 0, none⟩ (.int .i64 y.k)).setCell ⟨X, 1, none⟩ (.int .i64 y.n) = W2 := ⟨_, rfl⟩
      have S2 := hid (S1.out.fresh y)
      have O2 := hid (own_far (p := ⟨X, 1, none⟩) (own_far (p := ⟨X, 0, none⟩) O1.out (Nat.lt_succ_self X) (.int .i64 y.k)) (Nat.lt_succ_self X) (.int .i64 y.n))
      rw [hW2] at S2 O2 ⊢
      clear hW2 hx0 hx1 hxf S1 O1 IS
      have hx0 : W2.cell? ⟨X, 0, none⟩ = some (.int .i64 y.k) := S2.out.x.cell 0
      have hx1 : W2.cell? ⟨X, 1, none⟩ = some (.int .i64 y.n) := S2.out.x.cell 1
      have hp14 : W2.cell? ⟨P, 14, none⟩ = some (.int .i64 0) := S2.out.d.p.cell 14
      have hp15 : W2.cell? ⟨P, 15, none⟩ = some (.int .i64 0) := S2.out.d.p.cell 15
      have hp16 : W2.cell? ⟨P, 16, none⟩ = some (.int .i64 0) := S2.out.d.p.cell 16
      have hp17 : W2.cell? ⟨P, 17, none⟩ = some (.int .i64 0) := S2.out.d.p.cell 17
      have hpf : ∀ i, W2.frozen? ⟨P, i, none⟩ = false := S2.out.d.p.frozen
      have HC := hid hcast
      clear hcast
      go_wp2_with fail
      refine HK.out _ _ ?_
      have S3 := hid ((((S2.out.set_ 14 (.int .i64 2)).set_ 15 (.int .i64 0)).set_ 16 (.int .i64 y.k)).set_ 17 (.int .i64 y.n))
      have hPX : P < X + 1 := by have := S2.out.hx; omega
      have O3 := hid (own_far (p := ⟨P, 17, none⟩) (own_far (p := ⟨P, 16, none⟩) (own_far (p := ⟨P, 15, none⟩) (own_far (p := ⟨P, 14, none⟩) O2.out hPX (.int .i64 2)) hPX (.int .i64 0)) hPX (.int .i64 y.k)) hPX (.int .i64 y.n))
      rw [HC.out]
      exact rtailT POST s w _ Q P X f nw ⟨2, 0, y⟩ y L th v5 (j + 1) S3.out O3.out (by omega) hs hjs (fun y' j' k vb n text W' h1 h2 h3 h4 h5 => HP.out ⟨2, 0, y⟩ L th (j + 1) y' j' k vb n text W' PR.out HR.out h1 h2 h3 h4 h5) _ _ _ _ _ _ _ _ _ _ _ _ _ _ _ _ _ _ _ _ _ _ _ _ _ _ _ _ _ _ _ _ _ _ _ _ _ _ _ _ _ _ _ _ _ _ _ _ _ _ _ _ _ _ _ _ _ _ _ _ _ _ _ _ _ _ _ _ _ _ _ _ _ _ _ _ _ _ _ _ _ _ _ _ _ _ _ _ _ _ _ _ _ _ _ _ _ _ _ _ _ _ _ _ _ _ _ _ _ _ _ _ _ _ _ _ _ _ _ _ _ _ _ _ _ _ _ _ _ _ _ _ _ _ _ _ _ _ _ _ _ _ _ _ _ _ _ _ _ _ _ _ _ _ _ _ _ _ _ _ _ _ _ _ _ _ _ _ _ _ _ _ _ _ _ _ _ _ _ _ _ _ _ _ _ _ _ _ _ _ _ _ _ _ _ _ _ _ _ _ _ _ _ _ _ _ _ _ _ _ _ _ _ _ _ _ _ _ _ _
end Go.Proofs.YtmfhoindfhmncaaDoor
