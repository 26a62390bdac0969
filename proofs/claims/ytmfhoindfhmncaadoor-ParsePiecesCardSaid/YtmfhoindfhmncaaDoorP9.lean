/-
  Walks of layer 9: a directive, its first half.
-/
import Derived.Test.YtmfhoindfhmncaaDoorP8c
namespace Go.Proofs.YtmfhoindfhmncaaDoor
open Go.RowKit Go.Proofs

set_option maxRecDepth 100000 in
set_option maxHeartbeats 4000000 in
theorem directive_any (s : ByteArray) (w : World) (hs : s.size ≤ 140737488355328) (hT : Tabs w) :
    Calls Tryd.prog 19 #[.string s] w fun e w' => ∃ text rest : ByteArray, e = .returned (.tuple #[.agg (pcV (PP.dirL s.data.toList).1 text), .string rest]) ∧
      text.data.toList = (PP.dirL s.data.toList).1.text ∧ rest.data.toList = (PP.dirL s.data.toList).2 ∧ Below w.heap.size w w' := by
  have RE := hid (reading_any s)
  obtain ⟨Q, hQ⟩ : ∃ Q, w.heap.size = Q := ⟨_, rfl⟩
  have q0 : Blk (w.alloc (.cells pc0 40)) Q pc0 40 := hQ ▸ Blk.new w _ _
  have p0' : Blk ((w.alloc (.cells pc0 40)).alloc (.cells pc0 40)) (Q + 1) pc0 40 := by
    have := Blk.new (w.alloc (.cells pc0 40)) pc0 40
    rwa [show (w.alloc (.cells pc0 40)).heap.size = Q + 1 by simp [hQ]] at this
  go_enter Tryd.func19, Tryd.ntmps19
  go_upto_region 1 with fail
  refine wp_region_list ?_
  refine wpList_buildTo rfl 28 _ rfl (some 10) rfl #[.bool false, .bool false, .bool false, .bool false, .bool false, .int .i64 (-1), .int .i64 (-1), .int .i32 0] (by kernel_rfl) ?_
  refine wpList_buildTo rfl 40 _ rfl (some 11) rfl (pcs 2 ⟨#[]⟩ fl0 0 nm0 nm0 ix0) (by kernel_rfl) ?_
  refine wpList_plain rfl fun K hK => ?_
  have HK := hid hK
  clear hK
  go_wp2_with fail
  refine HK.out _ _ ?_
  clear HK
  refine wpList_store_rowTo rfl 40 _ _ rfl rfl (Q + 1) (pcs 2 ⟨#[]⟩ fl0 0 nm0 nm0 ix0) rfl rfl 40 pc0 p0' piece_size rfl (pcs_one _ _ _ _ _ _ _) ?_
  refine wpList_nil ?_
  have q1 := (q0.alloc (.cells pc0 40)).row_far (g := Q + 1) (by omega) (pcs 2 ⟨#[]⟩ fl0 0 nm0 nm0 ix0)
  have p1 := p0'.setRow (pcs 2 ⟨#[]⟩ fl0 0 nm0 nm0 ix0)
  have b1 := below_setRow (((Below.refl w.heap.size w).alloc (Nat.le_refl _) (.cells pc0 40)).alloc (by simp) (.cells pc0 40)) (Q + 1) (by omega) (pcs 2 ⟨#[]⟩ fl0 0 nm0 nm0 ix0)
  have z1 : (((w.alloc (.cells pc0 40)).alloc (.cells pc0 40)).setRow (Q + 1) (pcs 2 ⟨#[]⟩ fl0 0 nm0 nm0 ix0)).heap.size = Q + 2 := by
    rw [setRow_size]; simp [hQ]
  clear p0' q0
  obtain ⟨W0, hW0⟩ : ∃ W0, (((w.alloc (.cells pc0 40)).alloc (.cells pc0 40)).setRow (Q + 1) (pcs 2 ⟨#[]⟩ fl0 0 nm0 nm0 ix0)) = W0 := ⟨_, rfl⟩
  rw [hW0] at q1 p1 b1 z1 ⊢
  clear hW0
  obtain ⟨P, hP⟩ : ∃ P, Q + 1 = P := ⟨_, rfl⟩
  obtain ⟨R, hR⟩ : ∃ R, W0.heap.size = R := ⟨_, rfl⟩
  rw [hP] at p1 ⊢
  have n : Dn w R (R + 1) P Q := ⟨by omega, by omega, by omega, by omega, by omega, by omega, by omega, by omega, by omega⟩
  have hR2 : W0.heap.size = R := hR
  have hQP := hid (show Q < P ∧ P ≤ R by omega)
  have X0 := hid (And.intro q1 (And.intro p1 (And.intro b1 hR2)))
  clear hR2
  have RE0 := hid (RE.out W0)
  rw [hR] at RE0
  clear q1 p1 b1 z1 hP hR hQ
  obtain ⟨V, hV⟩ : ∃ V, R + 1 = V := ⟨_, rfl⟩
  rw [hV] at n RE0
  clear hV
  go_wp2_with fail
  refine RE0.out.mono ?_
  rintro e W1 ⟨rfl, r1, c1, _⟩
  have S1 := hid (show Ds w R V P Q W1 s (pcs 2 ⟨#[]⟩ fl0 0 nm0 nm0 ix0) from by
    obtain ⟨q1, p1, b1, hR⟩ := X0.out
    rw [← hR] at r1 c1
    rw [← hR]
    exact ⟨r1, b1.trans (c1.mono b1.size), p1.below c1 p1.lt, q1.below c1 q1.lt⟩)
  clear r1 c1 X0 RE0
  -- flags
  obtain ⟨⟨f1, l1⟩, hF1⟩ : ∃ F, PP.flL fl0 s.data.toList = F := ⟨_, rfl⟩
  have FL := flags_any P R V P s fl0 W1 S1.out.rd S1.out.p hQP.out.2 (Nat.le_refl _) n.rp n.vp
  rw [hF1] at FL
  have FL := hid FL
  have hl1 : l1.length ≤ s.size := by
    have := PP.flL_len s.data.toList fl0
    rw [hF1, ← Utf.size_eq] at this
    exact this
  go_wp2_with fail
  refine FL.out.mono ?_
  rintro e W2 ⟨rfl, t1, ht1, r2, p2, c2⟩
  have S2 := hid (show Ds w R V P Q W2 t1 (pcs 2 ⟨#[]⟩ f1 0 nm0 nm0 ix0) from ⟨r2, S1.out.below.trans (c2.mono n.p), p2, S1.out.q.below c2 hQP.out.1⟩)
  clear r2 p2 c2 FL S1
  -- the index and the width
  have ht1' : t1.data.toList = l1 := ht1
  have hs1 : t1.size ≤ 140737488355328 := by rw [size_list ht1']; omega
  obtain ⟨⟨x1, l2⟩, hI1⟩ : ∃ F, PP.ixL l1 = F := ⟨_, rfl⟩
  have IX := index_any R V t1 W2 S2.out.rd hs1
  rw [ht1', hI1] at IX
  have IX := hid IX
  have hl2 : l2.length ≤ s.size := by
    have := PP.ixL_len l1
    rw [hI1] at this
    exact Nat.le_trans this hl1
  clear ht1
  have ht1 := hid ht1'
  clear ht1'
  go_wp2_with fail
  refine IX.out.mono ?_
  rintro e W3 ⟨rfl, t2, ht2, r3, o3⟩
  have S3 := hid (S2.out.moved n r3 o3)
  clear r3 o3 IX S2
  have hs2 : t2.size ≤ 140737488355328 := by rw [size_list ht2]; exact Nat.le_trans hl2 hs
  obtain ⟨⟨nm1, a1, l3⟩, hN1⟩ : ∃ F, PP.nmL x1 false l2 = F := ⟨_, rfl⟩
  have NM := num_any R V t2 x1 false W3 S3.out.rd hs2
  rw [ht2, hN1] at NM
  have NM := hid NM
  have hl3 : l3.length ≤ s.size := by
    have := PP.nmL_len x1 false l2
    rw [hN1] at this
    exact Nat.le_trans this hl2
  have ht2 := hid ht2
  go_wp2_with fail
  refine NM.out.mono ?_
  rintro e W4 ⟨rfl, t3, ht3, r4, o4⟩
  have S4 := hid (S3.out.moved n r4 o4)
  clear r4 o4 NM S3
  have hp10 : W4.cell? ⟨P, 10, none⟩ = some (.int .i64 0) := S4.out.p.cell 10
  have hp11 : W4.cell? ⟨P, 11, none⟩ = some (.int .i64 0) := S4.out.p.cell 11
  have hp12 : W4.cell? ⟨P, 12, none⟩ = some (.int .i64 0) := S4.out.p.cell 12
  have hp13 : W4.cell? ⟨P, 13, none⟩ = some (.int .i64 0) := S4.out.p.cell 13
  have hp18 : W4.cell? ⟨P, 18, none⟩ = some (.int .i64 0) := S4.out.p.cell 18
  have hp19 : W4.cell? ⟨P, 19, none⟩ = some (.int .i64 0) := S4.out.p.cell 19
  have hpf : ∀ i, W4.frozen? ⟨P, i, none⟩ = false := S4.out.p.frozen
  have hq0 : W4.cell? ⟨R, 0, none⟩ = some (.string t3) := S4.out.rd.1.cell 0
  have hq1 : W4.cell? ⟨R, 1, none⟩ = some (clo V) := S4.out.rd.1.cell 1
  have hqf : ∀ i, W4.frozen? ⟨R, i, none⟩ = false := S4.out.rd.1.frozen
  have hRP : R ≠ P := n.rp
  have hPR : P ≠ R := n.rp.symm
  obtain ⟨c3, hc3⟩ : ∃ c, PP.pk l3 = c := ⟨_, rfl⟩
  have PK := hid (peek_any R V t3)
  rw [ht3] at PK
  simp only [hc3] at PK
  have hc3b := pk_bound l3
  rw [hc3] at hc3b
  go_wp2_with fail
  obtain ⟨W5, hW5⟩ : ∃ W5, (((((W4.setCell ⟨P, 10, none⟩ (.int .i64 nm1.k)).setCell ⟨P, 11, none⟩ (.int .i64 nm1.n)).setCell ⟨P, 12, none⟩ (.int .i64 nm1.a.k)).setCell ⟨P, 13, none⟩ (.int .i64 nm1.a.n)).setCell ⟨P, 18, none⟩ (.int .i64 a1.k)).setCell ⟨P, 19, none⟩ (.int .i64 a1.n) = W5 := ⟨_, rfl⟩
  have S5 := hid (show Ds w R V P Q W5 t3 (pcs 2 ⟨#[]⟩ f1 0 nm1 nm0 a1) from hW5 ▸ ((((((S4.out.set_ n 10 _).set_ n 11 _).set_ n 12 _).set_ n 13 _).set_ n 18 _).set_ n 19 _))
  rw [hW5]
  clear hW5 S4 hp10 hp11 hp12 hp13 hp18 hp19 hpf hq0 hq1 hqf
  refine (PK.out _ S5.out.rd).mono ?_
  rintro e w' ⟨rfl, rfl⟩
  go_upto_if 31 with fail
  rename_i hK
  have HK := hid hK
  clear hK
  go_cut [0, 2, 3, 4, 5] from 6 (fun v0 v2 v3 v4 v5 wc => ∃ (t4 : ByteArray) (nm2 : PP.Nm) (a2 : PP.Ix), v0 = .string s ∧ v2 = .pointer (some ⟨Q, 0, none⟩) ∧ v3 = .string ⟨#[]⟩ ∧ v4 = .pointer (some ⟨P, 0, none⟩) ∧ v5 = .pointer (some ⟨R, 0, none⟩) ∧ Hid (Ds w R V P Q wc t4 (pcs 2 ⟨#[]⟩ f1 0 nm1 nm2 a2) ∧ PP.prL a1 l3 = (nm2, a2, t4.data.toList)))
  case first =>
    clear PK
    by_cases h46 : c3 = 46
    · have hpr : PP.prL a1 l3 = ((PP.nmL (PP.ixL (l3.drop 1)).1 true (PP.ixL (l3.drop 1)).2).1, PP.andI (PP.spoil a1) (PP.nmL (PP.ixL (l3.drop 1)).1 true (PP.ixL (l3.drop 1)).2).2.1, (PP.nmL (PP.ixL (l3.drop 1)).1 true (PP.ixL (l3.drop 1)).2).2.2) := by
        unfold PP.prL
        rw [if_pos (by rw [hc3]; exact h46)]
      have hpos : 0 < t3.size := pk_pos (by rw [ht3, hc3]; omega)
      obtain ⟨u, hu⟩ : ∃ u, t3.extract 1 t3.size = u := ⟨_, rfl⟩
      have hul : u.data.toList = l3.drop 1 := by rw [← hu, ext_drop, ht3]
      have hus : u.size ≤ 140737488355328 := by rw [← hu]; simp; rw [size_list ht3]; omega
      obtain ⟨⟨x2, m2⟩, hI2⟩ : ∃ F, PP.ixL (l3.drop 1) = F := ⟨_, rfl⟩
      rw [hI2] at hpr
      obtain ⟨⟨nm2, y2, m3⟩, hN2⟩ : ∃ F, PP.nmL x2 true m2 = F := ⟨_, rfl⟩
      simp only [hN2] at hpr
      obtain ⟨z2, hz2⟩ : ∃ z, PP.spoil a1 = z := ⟨_, rfl⟩
      rw [hz2] at hpr
      have hm2 : m2.length ≤ 140737488355328 := by
        have := PP.ixL_len (l3.drop 1)
        rw [hI2, ← hul, ← Utf.size_eq] at this
        exact Nat.le_trans this hus
      have HPR := hid hpr
      clear hpr
      have S6 := hid (S5.out.put n u)
      have SP := hid (fun W => spoilt_any a1 W)
      rw [hz2] at SP
      have IX := hid (fun W (h : Ds w R V P Q W u (pcs 2 ⟨#[]⟩ f1 0 nm1 nm0 z2)) => index_any R V u W h.rd hus)
      rw [hul, hI2] at IX
      have HUL := hid hul
      have hq0 : W5.cell? ⟨R, 0, none⟩ = some (.string t3) := S5.out.rd.1.cell 0
      have hqf : ∀ i, W5.frozen? ⟨R, i, none⟩ = false := S5.out.rd.1.frozen
      have hp18 : W5.cell? ⟨P, 18, none⟩ = some (.int .i64 a1.k) := S5.out.p.cell 18
      have hp19 : W5.cell? ⟨P, 19, none⟩ = some (.int .i64 a1.n) := S5.out.p.cell 19
      have NM := hid (show ∀ (W : World) (v : ByteArray), v.data.toList = m2 → Ds w R V P Q W v (pcs 2 ⟨#[]⟩ f1 0 nm1 nm0 z2) → Calls Tryd.prog 27 #[.pointer (some ⟨R, 0, none⟩), ixV x2, .bool true] W fun e w' => e = .returned (.tuple #[nmV nm2, ixV y2]) ∧ ∃ t', t'.data.toList = m3 ∧ Rd w' R V t' ∧ Only R W w' from by
        intro W v hv h
        have := num_any R V v x2 true W h.rd (by rw [size_list hv]; exact hm2)
        rw [hv, hN2] at this
        exact this)
      obtain ⟨a2, ha2⟩ : ∃ a, PP.andI z2 y2 = a := ⟨_, rfl⟩
      have AN := hid (show ∀ (NB XB : Nat) (W : World) (v : ByteArray), Ds w R V P Q W v (pcs 2 ⟨#[]⟩ f1 0 nm1 nm0 z2) → Blk W NB #[.int .i64 nm2.k, .int .i64 nm2.n, .int .i64 nm2.a.k, .int .i64 nm2.a.n] 38 → Blk W XB #[.int .i64 y2.k, .int .i64 y2.n] 36 → Calls Tryd.prog 30 #[ixV z2, ixV y2] W fun e w' => e = .returned (ixV a2) ∧ Ds w R V P Q w' v (pcs 2 ⟨#[]⟩ f1 0 nm1 nm0 z2) ∧
          w'.cell? ⟨P, 14, none⟩ = some (.int .i64 0) ∧ w'.cell? ⟨P, 15, none⟩ = some (.int .i64 0) ∧ w'.cell? ⟨P, 16, none⟩ = some (.int .i64 0) ∧ w'.cell? ⟨P, 17, none⟩ = some (.int .i64 0) ∧ w'.cell? ⟨P, 18, none⟩ = some (.int .i64 z2.k) ∧ w'.cell? ⟨P, 19, none⟩ = some (.int .i64 z2.n) ∧ (∀ i, w'.frozen? ⟨P, i, none⟩ = false) ∧
          w'.cell? ⟨NB, 0, none⟩ = some (.int .i64 nm2.k) ∧ w'.cell? ⟨NB, 1, none⟩ = some (.int .i64 nm2.n) ∧ w'.cell? ⟨NB, 2, none⟩ = some (.int .i64 nm2.a.k) ∧ w'.cell? ⟨NB, 3, none⟩ = some (.int .i64 nm2.a.n) ∧ w'.cell? ⟨XB, 0, none⟩ = some (.int .i64 y2.k) ∧ w'.cell? ⟨XB, 1, none⟩ = some (.int .i64 y2.n) from by
        intro NB XB W v h h2 h3
        refine (and_any z2 y2 W).mono ?_
        rintro e w' ⟨rfl, hb⟩
        rw [ha2]
        have := h.calm hb
        have q2 := h2.below hb h2.lt
        have q3 := h3.below hb h3.lt
        exact ⟨rfl, this, this.p.cell 14, this.p.cell 15, this.p.cell 16, this.p.cell 17, this.p.cell 18, this.p.cell 19, this.p.frozen, q2.cell 0, q2.cell 1, q2.cell 2, q2.cell 3, q3.cell 0, q3.cell 1⟩)
      rw [ha2] at HPR
      clear hI2 hN2 hz2 hul ht3 hc3 S5 ha2
      have HX := hid hN1
      clear hN1
      go_wp2_with fail
      refine (SP.out _).mono ?_
      rintro e W7 ⟨rfl, b7⟩
      have S7 := hid (S6.out.calm b7)
      clear b7 S6 SP
      have hp18 : W7.cell? ⟨P, 18, none⟩ = some (.int .i64 a1.k) := S7.out.p.cell 18
      have hp19 : W7.cell? ⟨P, 19, none⟩ = some (.int .i64 a1.n) := S7.out.p.cell 19
      have hpf : ∀ i, W7.frozen? ⟨P, i, none⟩ = false := S7.out.p.frozen
      go_wp2_with fail
      obtain ⟨W8, hW8⟩ : ∃ W8, (W7.setCell ⟨P, 18, none⟩ (.int .i64 z2.k)).setCell ⟨P, 19, none⟩ (.int .i64 z2.n) = W8 := ⟨_, rfl⟩
      have S8 := hid (show Ds w R V P Q W8 u (pcs 2 ⟨#[]⟩ f1 0 nm1 nm0 z2) from hW8 ▸ ((S7.out.set_ n 18 _).set_ n 19 _))
      rw [hW8]
      clear hW8 S7 hp18 hp19 hpf
      refine (IX.out W8 S8.out).mono ?_
      rintro e W9 ⟨rfl, u2, hu2, r9, o9⟩
      have S9 := hid (S8.out.moved n r9 o9)
      clear r9 o9 S8 IX
      go_wp2_with fail
      refine (NM.out W9 u2 hu2 S9.out).mono ?_
      rintro e W10 ⟨rfl, u3, hu3, r10, o10⟩
      have S10 := hid (S9.out.moved n r10 o10)
      clear r10 o10 S9 NM hu2
      have HU3 := hid hu3
      clear hu3
      go_wp2_with fail
      obtain ⟨NB, hNB⟩ : ∃ NB, W10.heap.size = NB := ⟨_, rfl⟩
      obtain ⟨W11, hW11⟩ : ∃ W11, (W10.alloc (.cells #[.int .i64 nm2.k, .int .i64 nm2.n, .int .i64 nm2.a.k, .int .i64 nm2.a.n] 38)).alloc (.cells #[.int .i64 y2.k, .int .i64 y2.n] 36) = W11 := ⟨_, rfl⟩
      have S11 := hid (show Ds w R V P Q W11 u3 (pcs 2 ⟨#[]⟩ f1 0 nm1 nm0 z2) from hW11 ▸ (S10.out.alloc _).alloc _)
      have B1 : Blk W11 NB #[.int .i64 nm2.k, .int .i64 nm2.n, .int .i64 nm2.a.k, .int .i64 nm2.a.n] 38 := by
        rw [← hW11, ← hNB]
        exact (Blk.new _ _ _).alloc _
      have B2 : Blk W11 (NB + 1) #[.int .i64 y2.k, .int .i64 y2.n] 36 := by
        rw [← hW11, ← hNB]
        have := Blk.new (W10.alloc (.cells #[.int .i64 nm2.k, .int .i64 nm2.n, .int .i64 nm2.a.k, .int .i64 nm2.a.n] 38)) #[.int .i64 y2.k, .int .i64 y2.n] 36
        rwa [show (W10.alloc (.cells #[.int .i64 nm2.k, .int .i64 nm2.n, .int .i64 nm2.a.k, .int .i64 nm2.a.n] 38)).heap.size = W10.heap.size + 1 by simp] at this
      have hlt := S10.out.p.lt
      rw [hNB] at hlt
      rw [hW11, hNB]
      obtain ⟨XB, hXB⟩ : ∃ XB, NB + 1 = XB := ⟨_, rfl⟩
      rw [hXB] at B2 ⊢
      have e1 : P ≠ NB := by omega
      have e2 : P ≠ XB := by omega
      have e3 : NB ≠ P := by omega
      have e4 : XB ≠ P := by omega
      clear hlt hXB hW11 hNB S10
      have hp14 : W11.cell? ⟨P, 14, none⟩ = some (.int .i64 0) := S11.out.p.cell 14
      have hp15 : W11.cell? ⟨P, 15, none⟩ = some (.int .i64 0) := S11.out.p.cell 15
      have hp16 : W11.cell? ⟨P, 16, none⟩ = some (.int .i64 0) := S11.out.p.cell 16
      have hp17 : W11.cell? ⟨P, 17, none⟩ = some (.int .i64 0) := S11.out.p.cell 17
      have hp18 : W11.cell? ⟨P, 18, none⟩ = some (.int .i64 z2.k) := S11.out.p.cell 18
      have hp19 : W11.cell? ⟨P, 19, none⟩ = some (.int .i64 z2.n) := S11.out.p.cell 19
      have hn0 : W11.cell? ⟨NB, 0, none⟩ = some (.int .i64 nm2.k) := B1.cell 0
      have hn1 : W11.cell? ⟨NB, 1, none⟩ = some (.int .i64 nm2.n) := B1.cell 1
      have hn2 : W11.cell? ⟨NB, 2, none⟩ = some (.int .i64 nm2.a.k) := B1.cell 2
      have hn3 : W11.cell? ⟨NB, 3, none⟩ = some (.int .i64 nm2.a.n) := B1.cell 3
      have hx0 : W11.cell? ⟨XB, 0, none⟩ = some (.int .i64 y2.k) := B2.cell 0
      have hx1 : W11.cell? ⟨XB, 1, none⟩ = some (.int .i64 y2.n) := B2.cell 1
      have hpf : ∀ i, W11.frozen? ⟨P, i, none⟩ = false := S11.out.p.frozen
      have AN := hid (fun W v h => AN.out NB XB W v h)
      have sd : Ds w R V P Q W11.drew u3 (pcs 2 ⟨#[]⟩ f1 0 nm1 nm0 z2) := S11.out.drew
      have sd1 : Blk W11.drew NB #[.int .i64 nm2.k, .int .i64 nm2.n, .int .i64 nm2.a.k, .int .i64 nm2.a.n] 38 := B1
      have sd2 : Blk W11.drew XB #[.int .i64 y2.k, .int .i64 y2.n] 36 := B2
      go_region_with (first | (go_at_call 30; refine (AN.out _ _ (by assumption) (by assumption) (by assumption)).mono ?_; rintro e w9 ⟨rfl, st, k1, k2, k3, k4, k5, k6, k7, k8, k9, k10, k11, k12, k13⟩))
      all_goals (
        go_wp2_with fail
        go_meet
        case rel => exact ⟨u3, nm2, a2, rfl, rfl, rfl, rfl, rfl, ⟨((((((st.set_ n 14 _).set_ n 15 _).set_ n 16 _).set_ n 17 _).set_ n 18 _).set_ n 19 _), by rw [HPR.out, HU3.out]⟩⟩)
    · have hpr : PP.prL a1 l3 = (nm0, a1, l3) := by
        unfold PP.prL
        rw [if_neg (by rw [hc3]; exact h46)]
      have HPR := hid hpr
      clear hpr
      go_wp2_with fail
      go_meet
      case rel => exact ⟨t3, nm0, a1, rfl, rfl, rfl, rfl, rfl, ⟨S5.out, by rw [HPR.out, ht3]⟩⟩
  case rest =>
    obtain ⟨t4, nm2, a2, rfl, rfl, rfl, rfl, rfl, hrel⟩ := hcut
    have hpr := hrel.out.2
    have hl4 : t4.size ≤ s.size := by
      have := PP.prL_len a1 l3
      rw [hpr, ← Utf.size_eq] at this
      exact Nat.le_trans this hl3
    refine HK.out _ _ ?_
    refine dtail10 _ s t4 w wc R V P Q n f1 nm1 nm2 a2 hrel.out.1 hs hl4 hT ?_ _ _ _ _ _ _ _ _ _ _ _ _ _ _ _ _ _ _ _ _ _ _ _ _ _ _ _ _ _ _ _ _ _ _ _ _ _ _ _ _ _ _ _ _ _ _ _ _ _ _ _ _ _ _ _ _ _ _ _ _ _ _ _ _ _ _ _ _ _ _ _ _ _ _ _ _ _ _ _ _ _ _ _ _ _ _ _ _ _ _ _ _ _ _ _ _ _ _ _ _ _
    intro k vb text rest W' h1 h2 h3
    have hD : PP.dirL s.data.toList = if (PP.ixL t4.data.toList).2 = [] then (⟨2, 37 :: s.data.toList, f1, -1, -1, 0, nm1, nm2, PP.andI a2 (PP.ixL t4.data.toList).1⟩, [])
        else (⟨1, 37 :: s.data.toList.take (s.data.toList.length - ((PP.ixL t4.data.toList).2.drop (Utf.decL (PP.ixL t4.data.toList).2).2).length), f1, -1, -1, (Utf.decL (PP.ixL t4.data.toList).2).1, nm1, nm2, PP.andI a2 (PP.ixL t4.data.toList).1⟩, (PP.ixL t4.data.toList).2.drop (Utf.decL (PP.ixL t4.data.toList).2).2) := by
      unfold PP.dirL
      simp only [hF1, hI1, hN1, hpr]
    rcases h1 with ⟨e0, rfl, rfl, er⟩ | ⟨e0, rfl, rfl, er⟩
    · rw [if_pos e0] at hD
      refine ⟨text, rest, by rw [hD], ?_, by rw [hD, er], h3⟩
      rw [hD, h2, size_list er]
      simp only [List.length_nil, Nat.sub_zero]
      rw [List.take_of_length_le (by rw [← Utf.size_eq]; omega)]
    · rw [if_neg e0] at hD
      refine ⟨text, rest, by rw [hD], ?_, by rw [hD, er], h3⟩
      rw [hD, h2, size_list er, Utf.size_eq s]
end Go.Proofs.YtmfhoindfhmncaaDoor
