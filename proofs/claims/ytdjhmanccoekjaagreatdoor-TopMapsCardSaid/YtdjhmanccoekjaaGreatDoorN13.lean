/-
  Texts of this claim, joined: P9, PA, PB, TK.
-/
import Derived.Laws.AppendOwn
import Derived.Deep.CutBlock
import Derived.Test.YtdjhmanccoekjaaGreatDoorN12
import Derived.Test.YtdjhmanccoekjaaGreatDoorN9

section
namespace Go.Proofs.YtdjhmanccoekjaaGreatDoor.PR
open Go.RowKit Go.Proofs

set_option maxRecDepth 100000 in
set_option maxHeartbeats 4000000 in
theorem directive_any (s : ByteArray) (w : World) (hs : s.size ≤ 140737488355328) (hT : Tabs w) :
    Calls Tryz.prog 68 #[.string s] w fun e w' => ∃ text rest : ByteArray, e = .returned (.tuple #[.agg (pcV (PP.dirL s.data.toList).1 text), .string rest]) ∧
      text.data.toList = (PP.dirL s.data.toList).1.text ∧ rest.data.toList = (PP.dirL s.data.toList).2 ∧ Below w.heap.size w w' := by
  have RE := hid (reading_any s)
  obtain ⟨Q, hQ⟩ : ∃ Q, w.heap.size = Q := ⟨_, rfl⟩
  have q0 : Blk (w.alloc (.cells pc0 100)) Q pc0 100 := hQ ▸ Blk.new w _ _
  have p0' : Blk ((w.alloc (.cells pc0 100)).alloc (.cells pc0 100)) (Q + 1) pc0 100 := by
    have := Blk.new (w.alloc (.cells pc0 100)) pc0 100
    rwa [show (w.alloc (.cells pc0 100)).heap.size = Q + 1 by simp [hQ]] at this
  go_enter Tryz.func68, Tryz.ntmps68
  go_upto_region 1 with fail
  refine wp_region_list ?_
  refine wpList_buildTo rfl 94 _ rfl (some 10) rfl #[.bool false, .bool false, .bool false, .bool false, .bool false, .int .i64 (-1), .int .i64 (-1), .int .i32 0] (by kernel_rfl) ?_
  refine wpList_buildTo rfl 100 _ rfl (some 11) rfl (pcs 2 ⟨#[]⟩ fl0 0 nm0 nm0 ix0) (by kernel_rfl) ?_
  refine wpList_plain rfl fun K hK => ?_
  have HK := hid hK
  clear hK
  go_wp2_with fail
  refine HK.out _ _ ?_
  clear HK
  refine wpList_store_rowTo rfl 100 _ _ rfl rfl (Q + 1) (pcs 2 ⟨#[]⟩ fl0 0 nm0 nm0 ix0) rfl rfl 100 pc0 p0' piece_size rfl (pcs_one _ _ _ _ _ _ _) ?_
  refine wpList_nil ?_
  have q1 := (q0.alloc (.cells pc0 100)).row_far (g := Q + 1) (by omega) (pcs 2 ⟨#[]⟩ fl0 0 nm0 nm0 ix0)
  have p1 := p0'.setRow (pcs 2 ⟨#[]⟩ fl0 0 nm0 nm0 ix0)
  have b1 := below_setRow (((Below.refl w.heap.size w).alloc (Nat.le_refl _) (.cells pc0 100)).alloc (by simp) (.cells pc0 100)) (Q + 1) (by omega) (pcs 2 ⟨#[]⟩ fl0 0 nm0 nm0 ix0)
  have z1 : (((w.alloc (.cells pc0 100)).alloc (.cells pc0 100)).setRow (Q + 1) (pcs 2 ⟨#[]⟩ fl0 0 nm0 nm0 ix0)).heap.size = Q + 2 := by
    rw [setRow_size]; simp [hQ]
  clear p0' q0
  obtain ⟨W0, hW0⟩ : ∃ W0, (((w.alloc (.cells pc0 100)).alloc (.cells pc0 100)).setRow (Q + 1) (pcs 2 ⟨#[]⟩ fl0 0 nm0 nm0 ix0)) = W0 := ⟨_, rfl⟩
  rw [hW0] at q1 p1 b1 z1 ⊢
  clear hW0
  obtain ⟨P, hP⟩ : ∃ P, Q + 1 = P := ⟨_, rfl⟩
  obtain ⟨R, hR⟩ : ∃ R, W0.heap.size = R := ⟨_, rfl⟩
  rw [hP] at p1 ⊢
  have n : Dn w R (R + 1) P Q := ⟨by omega, by omega, by omega, by omega, by omega, by omega, by omega, by omega, by omega⟩
  have hR2 : W0.heap.size = R := hR
  have hQP := hid (show Q < P ∧ P ≤ R by omega)
  have X0 := hid (And.intro q1 (And.intro p1 (And.intro b1 hR2)))
  clear hR2
  have RE0 := hid (RE.out W0)
  rw [hR] at RE0
  clear q1 p1 b1 z1 hP hR hQ
  obtain ⟨V, hV⟩ : ∃ V, R + 1 = V := ⟨_, rfl⟩
  rw [hV] at n RE0
  clear hV
  go_wp2_with fail
  refine RE0.out.mono ?_
  rintro e W1 ⟨rfl, r1, c1, _⟩
  have S1 := hid (show Ds w R V P Q W1 s (pcs 2 ⟨#[]⟩ fl0 0 nm0 nm0 ix0) from by
    obtain ⟨q1, p1, b1, hR⟩ := X0.out
    rw [← hR] at r1 c1
    rw [← hR]
    exact ⟨r1, b1.trans (c1.mono b1.size), p1.below c1 p1.lt, q1.below c1 q1.lt⟩)
  clear r1 c1 X0 RE0
  -- flags
  obtain ⟨⟨f1, l1⟩, hF1⟩ : ∃ F, PP.flL fl0 s.data.toList = F := ⟨_, rfl⟩
  have FL := flags_any P R V P s fl0 W1 S1.out.rd S1.out.p hQP.out.2 (Nat.le_refl _) n.rp n.vp
  rw [hF1] at FL
  have FL := hid FL
  have hl1 : l1.length ≤ s.size := by
    have := PP.flL_len s.data.toList fl0
    rw [hF1, ← Utf.size_eq] at this
    exact this
  go_wp2_with fail
  refine FL.out.mono ?_
  rintro e W2 ⟨rfl, t1, ht1, r2, p2, c2⟩
  have S2 := hid (show Ds w R V P Q W2 t1 (pcs 2 ⟨#[]⟩ f1 0 nm0 nm0 ix0) from ⟨r2, S1.out.below.trans (c2.mono n.p), p2, S1.out.q.below c2 hQP.out.1⟩)
  clear r2 p2 c2 FL S1
  -- the index and the width
  have ht1' : t1.data.toList = l1 := ht1
  have hs1 : t1.size ≤ 140737488355328 := by rw [size_list ht1']; omega
  obtain ⟨⟨x1, l2⟩, hI1⟩ : ∃ F, PP.ixL l1 = F := ⟨_, rfl⟩
  have IX := index_any R V t1 W2 S2.out.rd hs1
  rw [ht1', hI1] at IX
  have IX := hid IX
  have hl2 : l2.length ≤ s.size := by
    have := PP.ixL_len l1
    rw [hI1] at this
    exact Nat.le_trans this hl1
  clear ht1
  have ht1 := hid ht1'
  clear ht1'
  go_wp2_with fail
  refine IX.out.mono ?_
  rintro e W3 ⟨rfl, t2, ht2, r3, o3⟩
  have S3 := hid (S2.out.moved n r3 o3)
  clear r3 o3 IX S2
  have hs2 : t2.size ≤ 140737488355328 := by rw [size_list ht2]; exact Nat.le_trans hl2 hs
  obtain ⟨⟨nm1, a1, l3⟩, hN1⟩ : ∃ F, PP.nmL x1 false l2 = F := ⟨_, rfl⟩
  have NM := num_any R V t2 x1 false W3 S3.out.rd hs2
  rw [ht2, hN1] at NM
  have NM := hid NM
  have hl3 : l3.length ≤ s.size := by
    have := PP.nmL_len x1 false l2
    rw [hN1] at this
    exact Nat.le_trans this hl2
  have ht2 := hid ht2
  go_wp2_with fail
  refine NM.out.mono ?_
  rintro e W4 ⟨rfl, t3, ht3, r4, o4⟩
  have S4 := hid (S3.out.moved n r4 o4)
  clear r4 o4 NM S3
  have hp10 : W4.cell? ⟨P, 10, none⟩ = some (.int .i64 0) := S4.out.p.cell 10
  have hp11 : W4.cell? ⟨P, 11, none⟩ = some (.int .i64 0) := S4.out.p.cell 11
  have hp12 : W4.cell? ⟨P, 12, none⟩ = some (.int .i64 0) := S4.out.p.cell 12
  have hp13 : W4.cell? ⟨P, 13, none⟩ = some (.int .i64 0) := S4.out.p.cell 13
  have hp18 : W4.cell? ⟨P, 18, none⟩ = some (.int .i64 0) := S4.out.p.cell 18
  have hp19 : W4.cell? ⟨P, 19, none⟩ = some (.int .i64 0) := S4.out.p.cell 19
  have hpf : ∀ i, W4.frozen? ⟨P, i, none⟩ = false := S4.out.p.frozen
  have hq0 : W4.cell? ⟨R, 0, none⟩ = some (.string t3) := S4.out.rd.1.cell 0
  have hq1 : W4.cell? ⟨R, 1, none⟩ = some (clo V) := S4.out.rd.1.cell 1
  have hqf : ∀ i, W4.frozen? ⟨R, i, none⟩ = false := S4.out.rd.1.frozen
  have hRP : R ≠ P := n.rp
  have hPR : P ≠ R := n.rp.symm
  obtain ⟨c3, hc3⟩ : ∃ c, PP.pk l3 = c := ⟨_, rfl⟩
  have PK := hid (peek_any R V t3)
  rw [ht3] at PK
  simp only [hc3] at PK
  have hc3b := pk_bound l3
  rw [hc3] at hc3b
  go_wp2_with fail
  obtain ⟨W5, hW5⟩ : ∃ W5, (((((W4.setCell ⟨P, 10, none⟩ (.int .i64 nm1.k)).setCell ⟨P, 11, none⟩ (.int .i64 nm1.n)).setCell ⟨P, 12, none⟩ (.int .i64 nm1.a.k)).setCell ⟨P, 13, none⟩ (.int .i64 nm1.a.n)).setCell ⟨P, 18, none⟩ (.int .i64 a1.k)).setCell ⟨P, 19, none⟩ (.int .i64 a1.n) = W5 := ⟨_, rfl⟩
  have S5 := hid (show Ds w R V P Q W5 t3 (pcs 2 ⟨#[]⟩ f1 0 nm1 nm0 a1) from hW5 ▸ ((((((S4.out.set_ n 10 _).set_ n 11 _).set_ n 12 _).set_ n 13 _).set_ n 18 _).set_ n 19 _))
  rw [hW5]
  clear hW5 S4 hp10 hp11 hp12 hp13 hp18 hp19 hpf hq0 hq1 hqf
  refine (PK.out _ S5.out.rd).mono ?_
  rintro e w' ⟨rfl, rfl⟩
  go_upto_if 31 with fail
  rename_i hK
  have HK := hid hK
  clear hK
  go_cut [0, 2, 3, 4, 5] from 6 (fun v0 v2 v3 v4 v5 wc => ∃ (t4 : ByteArray) (nm2 : PP.Nm) (a2 : PP.Ix), v0 = .string s ∧ v2 = .pointer (some ⟨Q, 0, none⟩) ∧ v3 = .string ⟨#[]⟩ ∧ v4 = .pointer (some ⟨P, 0, none⟩) ∧ v5 = .pointer (some ⟨R, 0, none⟩) ∧ Hid (Ds w R V P Q wc t4 (pcs 2 ⟨#[]⟩ f1 0 nm1 nm2 a2) ∧ PP.prL a1 l3 = (nm2, a2, t4.data.toList)))
  case first =>
    clear PK
    by_cases h46 : c3 = 46
    · have hpr : PP.prL a1 l3 = ((PP.nmL (PP.ixL (l3.drop 1)).1 true (PP.ixL (l3.drop 1)).2).1, PP.andI (PP.spoil a1) (PP.nmL (PP.ixL (l3.drop 1)).1 true (PP.ixL (l3.drop 1)).2).2.1, (PP.nmL (PP.ixL (l3.drop 1)).1 true (PP.ixL (l3.drop 1)).2).2.2) := by
        unfold PP.prL
        rw [if_pos (by rw [hc3]; exact h46)]
      have hpos : 0 < t3.size := pk_pos (by rw [ht3, hc3]; omega)
      obtain ⟨u, hu⟩ : ∃ u, t3.extract 1 t3.size = u := ⟨_, rfl⟩
      have hul : u.data.toList = l3.drop 1 := by rw [← hu, ext_drop, ht3]
      have hus : u.size ≤ 140737488355328 := by rw [← hu]; simp; rw [size_list ht3]; omega
      obtain ⟨⟨x2, m2⟩, hI2⟩ : ∃ F, PP.ixL (l3.drop 1) = F := ⟨_, rfl⟩
      rw [hI2] at hpr
      obtain ⟨⟨nm2, y2, m3⟩, hN2⟩ : ∃ F, PP.nmL x2 true m2 = F := ⟨_, rfl⟩
      simp only [hN2] at hpr
      obtain ⟨z2, hz2⟩ : ∃ z, PP.spoil a1 = z := ⟨_, rfl⟩
      rw [hz2] at hpr
      have hm2 : m2.length ≤ 140737488355328 := by
        have := PP.ixL_len (l3.drop 1)
        rw [hI2, ← hul, ← Utf.size_eq] at this
        exact Nat.le_trans this hus
      have HPR := hid hpr
      clear hpr
      have S6 := hid (S5.out.put n u)
      have SP := hid (fun W => spoilt_any a1 W)
      rw [hz2] at SP
      have IX := hid (fun W (h : Ds w R V P Q W u (pcs 2 ⟨#[]⟩ f1 0 nm1 nm0 z2)) => index_any R V u W h.rd hus)
      rw [hul, hI2] at IX
      have HUL := hid hul
      have hq0 : W5.cell? ⟨R, 0, none⟩ = some (.string t3) := S5.out.rd.1.cell 0
      have hqf : ∀ i, W5.frozen? ⟨R, i, none⟩ = false := S5.out.rd.1.frozen
      have hp18 : W5.cell? ⟨P, 18, none⟩ = some (.int .i64 a1.k) := S5.out.p.cell 18
      have hp19 : W5.cell? ⟨P, 19, none⟩ = some (.int .i64 a1.n) := S5.out.p.cell 19
      have NM := hid (show ∀ (W : World) (v : ByteArray), v.data.toList = m2 → Ds w R V P Q W v (pcs 2 ⟨#[]⟩ f1 0 nm1 nm0 z2) → Calls Tryz.prog 101 #[.pointer (some ⟨R, 0, none⟩), ixV x2, .bool true] W fun e w' => e = .returned (.tuple #[nmV nm2, ixV y2]) ∧ ∃ t', t'.data.toList = m3 ∧ Rd w' R V t' ∧ Only R W w' from by
        intro W v hv h
        have := num_any R V v x2 true W h.rd (by rw [size_list hv]; exact hm2)
        rw [hv, hN2] at this
        exact this)
      obtain ⟨a2, ha2⟩ : ∃ a, PP.andI z2 y2 = a := ⟨_, rfl⟩
      have AN := hid (show ∀ (NB XB : Nat) (W : World) (v : ByteArray), Ds w R V P Q W v (pcs 2 ⟨#[]⟩ f1 0 nm1 nm0 z2) → Blk W NB #[.int .i64 nm2.k, .int .i64 nm2.n, .int .i64 nm2.a.k, .int .i64 nm2.a.n] 98 → Blk W XB #[.int .i64 y2.k, .int .i64 y2.n] 96 → Calls Tryz.prog 104 #[ixV z2, ixV y2] W fun e w' => e = .returned (ixV a2) ∧ Ds w R V P Q w' v (pcs 2 ⟨#[]⟩ f1 0 nm1 nm0 z2) ∧
          w'.cell? ⟨P, 14, none⟩ = some (.int .i64 0) ∧ w'.cell? ⟨P, 15, none⟩ = some (.int .i64 0) ∧ w'.cell? ⟨P, 16, none⟩ = some (.int .i64 0) ∧ w'.cell? ⟨P, 17, none⟩ = some (.int .i64 0) ∧ w'.cell? ⟨P, 18, none⟩ = some (.int .i64 z2.k) ∧ w'.cell? ⟨P, 19, none⟩ = some (.int .i64 z2.n) ∧ (∀ i, w'.frozen? ⟨P, i, none⟩ = false) ∧
          w'.cell? ⟨NB, 0, none⟩ = some (.int .i64 nm2.k) ∧ w'.cell? ⟨NB, 1, none⟩ = some (.int .i64 nm2.n) ∧ w'.cell? ⟨NB, 2, none⟩ = some (.int .i64 nm2.a.k) ∧ w'.cell? ⟨NB, 3, none⟩ = some (.int .i64 nm2.a.n) ∧ w'.cell? ⟨XB, 0, none⟩ = some (.int .i64 y2.k) ∧ w'.cell? ⟨XB, 1, none⟩ = some (.int .i64 y2.n) from by
        intro NB XB W v h h2 h3
        refine (and_any z2 y2 W).mono ?_
        rintro e w' ⟨rfl, hb⟩
        rw [ha2]
        have := h.calm hb
        have q2 := h2.below hb h2.lt
        have q3 := h3.below hb h3.lt
        exact ⟨rfl, this, this.p.cell 14, this.p.cell 15, this.p.cell 16, this.p.cell 17, this.p.cell 18, this.p.cell 19, this.p.frozen, q2.cell 0, q2.cell 1, q2.cell 2, q2.cell 3, q3.cell 0, q3.cell 1⟩)
      rw [ha2] at HPR
      clear hI2 hN2 hz2 hul ht3 hc3 S5 ha2
      have HX := hid hN1
      clear hN1
      go_wp2_with fail
      refine (SP.out _).mono ?_
      rintro e W7 ⟨rfl, b7⟩
      have S7 := hid (S6.out.calm b7)
      clear b7 S6 SP
      have hp18 : W7.cell? ⟨P, 18, none⟩ = some (.int .i64 a1.k) := S7.out.p.cell 18
      have hp19 : W7.cell? ⟨P, 19, none⟩ = some (.int .i64 a1.n) := S7.out.p.cell 19
      have hpf : ∀ i, W7.frozen? ⟨P, i, none⟩ = false := S7.out.p.frozen
      go_wp2_with fail
      obtain ⟨W8, hW8⟩ : ∃ W8, (W7.setCell ⟨P, 18, none⟩ (.int .i64 z2.k)).setCell ⟨P, 19, none⟩ (.int .i64 z2.n) = W8 := ⟨_, rfl⟩
      have S8 := hid (show Ds w R V P Q W8 u (pcs 2 ⟨#[]⟩ f1 0 nm1 nm0 z2) from hW8 ▸ ((S7.out.set_ n 18 _).set_ n 19 _))
      rw [hW8]
      clear hW8 S7 hp18 hp19 hpf
      refine (IX.out W8 S8.out).mono ?_
      rintro e W9 ⟨rfl, u2, hu2, r9, o9⟩
      have S9 := hid (S8.out.moved n r9 o9)
      clear r9 o9 S8 IX
      go_wp2_with fail
      refine (NM.out W9 u2 hu2 S9.out).mono ?_
      rintro e W10 ⟨rfl, u3, hu3, r10, o10⟩
      have S10 := hid (S9.out.moved n r10 o10)
      clear r10 o10 S9 NM hu2
      have HU3 := hid hu3
      clear hu3
      go_wp2_with fail
      obtain ⟨NB, hNB⟩ : ∃ NB, W10.heap.size = NB := ⟨_, rfl⟩
      obtain ⟨W11, hW11⟩ : ∃ W11, (W10.alloc (.cells #[.int .i64 nm2.k, .int .i64 nm2.n, .int .i64 nm2.a.k, .int .i64 nm2.a.n] 98)).alloc (.cells #[.int .i64 y2.k, .int .i64 y2.n] 96) = W11 := ⟨_, rfl⟩
      have S11 := hid (show Ds w R V P Q W11 u3 (pcs 2 ⟨#[]⟩ f1 0 nm1 nm0 z2) from hW11 ▸ (S10.out.alloc _).alloc _)
      have B1 : Blk W11 NB #[.int .i64 nm2.k, .int .i64 nm2.n, .int .i64 nm2.a.k, .int .i64 nm2.a.n] 98 := by
        rw [← hW11, ← hNB]
        exact (Blk.new _ _ _).alloc _
      have B2 : Blk W11 (NB + 1) #[.int .i64 y2.k, .int .i64 y2.n] 96 := by
        rw [← hW11, ← hNB]
        have := Blk.new (W10.alloc (.cells #[.int .i64 nm2.k, .int .i64 nm2.n, .int .i64 nm2.a.k, .int .i64 nm2.a.n] 98)) #[.int .i64 y2.k, .int .i64 y2.n] 96
        rwa [show (W10.alloc (.cells #[.int .i64 nm2.k, .int .i64 nm2.n, .int .i64 nm2.a.k, .int .i64 nm2.a.n] 98)).heap.size = W10.heap.size + 1 by simp] at this
      have hlt := S10.out.p.lt
      rw [hNB] at hlt
      rw [hW11, hNB]
      obtain ⟨XB, hXB⟩ : ∃ XB, NB + 1 = XB := ⟨_, rfl⟩
      rw [hXB] at B2 ⊢
      have e1 : P ≠ NB := by omega
      have e2 : P ≠ XB := by omega
      have e3 : NB ≠ P := by omega
      have e4 : XB ≠ P := by omega
      clear hlt hXB hW11 hNB S10
      have hp14 : W11.cell? ⟨P, 14, none⟩ = some (.int .i64 0) := S11.out.p.cell 14
      have hp15 : W11.cell? ⟨P, 15, none⟩ = some (.int .i64 0) := S11.out.p.cell 15
      have hp16 : W11.cell? ⟨P, 16, none⟩ = some (.int .i64 0) := S11.out.p.cell 16
      have hp17 : W11.cell? ⟨P, 17, none⟩ = some (.int .i64 0) := S11.out.p.cell 17
      have hp18 : W11.cell? ⟨P, 18, none⟩ = some (.int .i64 z2.k) := S11.out.p.cell 18
      have hp19 : W11.cell? ⟨P, 19, none⟩ = some (.int .i64 z2.n) := S11.out.p.cell 19
      have hn0 : W11.cell? ⟨NB, 0, none⟩ = some (.int .i64 nm2.k) := B1.cell 0
      have hn1 : W11.cell? ⟨NB, 1, none⟩ = some (.int .i64 nm2.n) := B1.cell 1
      have hn2 : W11.cell? ⟨NB, 2, none⟩ = some (.int .i64 nm2.a.k) := B1.cell 2
      have hn3 : W11.cell? ⟨NB, 3, none⟩ = some (.int .i64 nm2.a.n) := B1.cell 3
      have hx0 : W11.cell? ⟨XB, 0, none⟩ = some (.int .i64 y2.k) := B2.cell 0
      have hx1 : W11.cell? ⟨XB, 1, none⟩ = some (.int .i64 y2.n) := B2.cell 1
      have hpf : ∀ i, W11.frozen? ⟨P, i, none⟩ = false := S11.out.p.frozen
      have AN := hid (fun W v h => AN.out NB XB W v h)
      have sd : Ds w R V P Q W11.drew u3 (pcs 2 ⟨#[]⟩ f1 0 nm1 nm0 z2) := S11.out.drew
      have sd1 : Blk W11.drew NB #[.int .i64 nm2.k, .int .i64 nm2.n, .int .i64 nm2.a.k, .int .i64 nm2.a.n] 98 := B1
      have sd2 : Blk W11.drew XB #[.int .i64 y2.k, .int .i64 y2.n] 96 := B2
      go_region_with (first | (go_at_call 104; refine (AN.out _ _ (by assumption) (by assumption) (by assumption)).mono ?_; rintro e w9 ⟨rfl, st, k1, k2, k3, k4, k5, k6, k7, k8, k9, k10, k11, k12, k13⟩))
      all_goals (
        go_wp2_with fail
        go_meet
        case rel => exact ⟨u3, nm2, a2, rfl, rfl, rfl, rfl, rfl, ⟨((((((st.set_ n 14 _).set_ n 15 _).set_ n 16 _).set_ n 17 _).set_ n 18 _).set_ n 19 _), by rw [HPR.out, HU3.out]⟩⟩)
    · have hpr : PP.prL a1 l3 = (nm0, a1, l3) := by
        unfold PP.prL
        rw [if_neg (by rw [hc3]; exact h46)]
      have HPR := hid hpr
      clear hpr
      go_wp2_with fail
      go_meet
      case rel => exact ⟨t3, nm0, a1, rfl, rfl, rfl, rfl, rfl, ⟨S5.out, by rw [HPR.out, ht3]⟩⟩
  case rest =>
    obtain ⟨t4, nm2, a2, rfl, rfl, rfl, rfl, rfl, hrel⟩ := hcut
    have hpr := hrel.out.2
    have hl4 : t4.size ≤ s.size := by
      have := PP.prL_len a1 l3
      rw [hpr, ← Utf.size_eq] at this
      exact Nat.le_trans this hl3
    refine HK.out _ _ ?_
    refine dtail10 _ s t4 w wc R V P Q n f1 nm1 nm2 a2 hrel.out.1 hs hl4 hT ?_ _ _ _ _ _ _ _ _ _ _ _ _ _ _ _ _ _ _ _ _ _ _ _ _ _ _ _ _ _ _ _ _ _ _ _ _ _ _ _ _ _ _ _ _ _ _ _ _ _ _ _ _ _ _ _ _ _ _ _ _ _ _ _ _ _ _ _ _ _ _ _ _ _ _ _ _ _ _ _ _ _ _ _ _ _ _ _ _ _ _ _ _ _ _ _ _ _ _ _ _ _
    intro k vb text rest W' h1 h2 h3
    have hD : PP.dirL s.data.toList = if (PP.ixL t4.data.toList).2 = [] then (⟨2, 37 :: s.data.toList, f1, -1, -1, 0, nm1, nm2, PP.andI a2 (PP.ixL t4.data.toList).1⟩, [])
        else (⟨1, 37 :: s.data.toList.take (s.data.toList.length - ((PP.ixL t4.data.toList).2.drop (Utf.decL (PP.ixL t4.data.toList).2).2).length), f1, -1, -1, (Utf.decL (PP.ixL t4.data.toList).2).1, nm1, nm2, PP.andI a2 (PP.ixL t4.data.toList).1⟩, (PP.ixL t4.data.toList).2.drop (Utf.decL (PP.ixL t4.data.toList).2).2) := by
      unfold PP.dirL
      simp only [hF1, hI1, hN1, hpr]
    rcases h1 with ⟨e0, rfl, rfl, er⟩ | ⟨e0, rfl, rfl, er⟩
    · rw [if_pos e0] at hD
      refine ⟨text, rest, by rw [hD], ?_, by rw [hD, er], h3⟩
      rw [hD, h2, size_list er]
      simp only [List.length_nil, Nat.sub_zero]
      rw [List.take_of_length_le (by rw [← Utf.size_eq]; omega)]
    · rw [if_neg e0] at hD
      refine ⟨text, rest, by rw [hD], ?_, by rw [hD, er], h3⟩
      rw [hD, h2, size_list er, Utf.size_eq s]
end Go.Proofs.YtdjhmanccoekjaaGreatDoor.PR
end

section
namespace Go.Proofs.YtdjhmanccoekjaaGreatDoor.PR
open Go.RowKit Go.Proofs

theorem piece_zero : ((Tryz.prog.info? 100).bind (·.zero)) = some (.agg pc0) := by kernel_rfl
theorem piece_bytes : (Tryz.prog.info? 100).map (·.bytes) = some 136 := by kernel_rfl

theorem wpList_push {ops : Array Oper} {rest : List Oper} {ob oa : Oper} {a : Act} {w : World} {Q : Exit → Act → World → Prop} (hgb : ob.guard = none) (hga : oa.guard = none) (x y : Operand) (b : Tmp)
    (hob : ob.op = .buildSlice 91 1 #[(0, x)]) (hdb : ob.dst = some b) (hoa : oa.op = .call { callee := .builtin .append, args := #[y, .tmp b], argTypes := #[91, 91] })
    (CS : Array Value) (hx : a.eval x = .agg CS) (hCS : CS.size = 20) (h1 : CS.all (·.oneCell') = true)
    (hf : Instr.fill (fun i => some (i * 20, 20)) ((Array.range (1 * 20)).map (pc0[· % pc0.size]!)) [(0, .agg CS)] = some CS)
    (B : Nat) (v : Value) (n : Nat) (xs : List Value) (sl : Value) (hsl : sl = .slice (some ⟨w.heap.size, 0, none⟩) 1 1) (hy : (a.put (some b) sl).eval y = v) (hbt : (a.put (some b) sl).eval (.tmp b) = sl) (hown : w.ownsRow B 100 20 v n xs) (hB : B ≤ w.heap.size) (hn : n ≤ 100000)
    (h : ∀ v' w', w'.ownsRow B 100 20 v' (n + 1) (xs ++ CS.toList) → Below B w w' → wpList Tryz.prog ops Q rest ((a.put (some b) sl).put oa.dst v') w') : wpList Tryz.prog ops Q (ob :: oa :: rest) a w := by
  have hz := piece_zero
  have hb := piece_bytes
  have hs := piece_size
  cases hie : Tryz.prog.info? 100 with
  | none => simp [hie] at hs
  | some ie =>
    rw [hie] at hz hb hs
    simp only [Option.bind_some, Option.map_some, Option.some.injEq] at hz hb hs
    refine wpList_buildSlice hgb 91 100 1 #[(0, x)] hob CS ie (.agg pc0) Tryz.underlying91 hie hz (by rw [hs]; decide) (by rw [hs]; decide) ?_ ?_
    · rw [hs]
      simp only [List.map_toArray, List.map_cons, List.map_nil, hx]
      exact hf
    · rw [hdb, ← hsl]
      have hown1 : (w.alloc (.cells CS 100)).ownsRow B 100 20 v n xs := by
        refine ⟨hown.1, ?_⟩
        rcases hown.2 with h0 | ⟨g, cap, cur, h1, h2, h3, h4⟩
        · exact Or.inl h0
        · exact Or.inr ⟨g, cap, cur, h1, h2, (Below.heap_alloc w _ g (by
            rcases Nat.lt_or_ge g w.heap.size with q | q
            · exact q
            · rw [Array.getElem?_eq_none q] at h3; cases h3)).trans h3, h4⟩
      refine wpList_append_own (P := Tryz.prog) (w := w.alloc (.cells CS 100)) hga y (.tmp b) 91 hoa B 100 ie (.agg pc0) 20 136 Tryz.underlying91 hie hz hs hb rfl (by decide) v n xs hy hown1 ⟨w.heap.size, 0, none⟩ 1 1 CS.toList (by rw [hbt, hsl]) (by simpa using hCS) ?_ ?_ (by unfold maxLen; omega) (by omega) (by simp; omega) ?_
      · intro j u hu
        rw [Addr.add_mid, Nat.zero_add, (Blk.new w CS 100).cell]
        simpa using hu
      · exact fun u hu => (Array.all_eq_true_iff_forall_mem.1 h1) u (by simpa using hu)
      · intro v' w' h2 h3 _
        refine h v' w' h2 (Below.grown ((Below.refl B w).alloc hB _) h3 (by simp; omega) ?_)
        intro k hk
        rcases hown.2 with h0 | ⟨g, cap, cur, e1, e2, _⟩
        · rw [h0.1] at hk; simp [Value.ownBlock] at hk
        · rw [e1] at hk
          simp [Value.ownBlock] at hk
          omega
end Go.Proofs.YtdjhmanccoekjaaGreatDoor.PR
end

section
namespace Go.Proofs.YtdjhmanccoekjaaGreatDoor.PR
open Go.RowKit Go.Proofs

/-- A text out of its bytes. -/
abbrev txt (l : List UInt8) : ByteArray := ⟨l.toArray⟩
def cellsL : List PP.Pc → List Value
  | [] => []
  | p :: ps => (pcV p (txt p.text)).toList ++ cellsL ps
theorem cellsL_append (a b : List PP.Pc) : cellsL (a ++ b) = cellsL a ++ cellsL b := by
  induction a with
  | nil => rfl
  | cons p ps ih => simp only [List.cons_append, cellsL, ih, List.append_assoc]
theorem cellsL_one (p : PP.Pc) : cellsL [p] = (pcV p (txt p.text)).toList := by simp only [cellsL, List.append_nil]
theorem txt_eq {t : ByteArray} {l : List UInt8} (h : t.data.toList = l) : txt l = t := bytes_ext (by simpa using h.symm)
def strLen9 : Value → Nat | .string t => t.size | _ => 0

theorem pct_index (l : List UInt8) : Lib.indexByte l 37 = if (l.takeWhile PP.notPct).length = l.length then (-1 : Int) else ((l.takeWhile PP.notPct).length : Int) := by
  induction l with
  | nil => rfl
  | cons a r ih =>
    have hle : (r.takeWhile PP.notPct).length ≤ r.length := (List.takeWhile_prefix PP.notPct).length_le
    unfold Lib.indexByte
    by_cases e : a = 37
    · subst e
      have hb : PP.notPct 37 = false := by decide
      rw [if_pos (by decide : ((37 : UInt8) == 37) = true), List.takeWhile_cons, hb]
      simp
    · have hn : PP.notPct a = true := by
        simp only [PP.notPct, Bool.not_eq_true', decide_eq_false_iff_not]
        intro h
        exact e (UInt8.toNat_inj.mp h)
      rw [List.takeWhile_cons, if_pos hn, if_neg (by simpa using e), ih]
      simp only [List.length_cons]
      by_cases h2 : (r.takeWhile PP.notPct).length = r.length
      · rw [if_pos h2, if_pos (by decide), if_pos (by omega)]
      · rw [if_neg h2, if_neg (by simp), if_neg (by omega)]
        omega

theorem lit_step {t d u : ByteArray} {done ALL : List PP.Pc} (hm : (t.data.toList.takeWhile PP.notPct).length ≠ 0) (HD : d.data.toList = t.data.toList.takeWhile PP.notPct) (HU : u.data.toList = t.data.toList.dropWhile PP.notPct) (h : done ++ PP.parseL t.data.toList = ALL) :
    (done ++ [PP.litP d.data.toList]) ++ PP.parseL u.data.toList = ALL ∧ cellsL (done ++ [PP.litP d.data.toList]) = cellsL done ++ (pcV (PP.litP []) d).toList := by
  constructor
  · rw [← h, HD, HU]
    cases e : t.data.toList with
    | nil => rw [e] at hm; exact absurd rfl hm
    | cons a r =>
      have ha : ¬ a.toNat = 37 := by
        intro ha
        rw [e, List.takeWhile_cons, if_neg (by simp [PP.notPct, ha])] at hm
        exact hm rfl
      rw [PP.parseL_lit ha, List.append_assoc]; try rfl
  · rw [cellsL_append, cellsL_one]
    have : txt d.data.toList = d := txt_eq rfl
    simp only [PP.litP] at this ⊢
    try rw [this]
theorem pcV_one (p : PP.Pc) (d : ByteArray) : (pcV p d).all (·.oneCell') = true := by simp [pcV, Value.oneCell']
theorem own_below {w W : World} {B n : Nat} {v : Value} {xs : List Value} (h : w.ownsRow B 100 20 v n xs) (hb : Below w.heap.size w W) : W.ownsRow B 100 20 v n xs := by
  refine ⟨h.1, ?_⟩
  rcases h.2 with h0 | ⟨g, cap, cur, h1, h2, h3, h4⟩
  · exact Or.inl h0
  · exact Or.inr ⟨g, cap, cur, h1, h2, (hb.block g (by
      rcases Nat.lt_or_ge g w.heap.size with q | q
      · exact q
      · rw [Array.getElem?_eq_none q] at h3; cases h3)).trans h3, h4⟩
theorem pcs_lit (d : ByteArray) : (pcV (PP.litP []) d).all (·.oneCell') = true := by simp [pcV, PP.litP, Value.oneCell']

set_option maxRecDepth 100000 in
set_option maxHeartbeats 4000000 in
theorem parse_any (s : ByteArray) (w : World) (hs : s.size ≤ 100000) (hT : Tabs w) :
    Calls Tryz.prog 45 #[.string s] w fun e w' => ∃ v, e = .returned v ∧ w'.ownsRow w.heap.size 100 20 v (PP.parseL s.data.toList).length (cellsL (PP.parseL s.data.toList)) ∧ Below w.heap.size w w' := by
  obtain ⟨ALL, hALL⟩ : ∃ L, PP.parseL s.data.toList = L := ⟨_, rfl⟩
  rw [hALL]
  have HA := hid hALL
  clear hALL
  go_enter Tryz.func45, Tryz.ntmps45
  go_wp2_with fail
  go_loopw [0, 3] (fun tv v wr => ∃ (t : ByteArray) (done : List PP.Pc), tv = .string t ∧ t.size + done.length ≤ s.size ∧ Hid (done ++ PP.parseL t.data.toList = ALL ∧ wr.ownsRow w.heap.size 100 20 v done.length (cellsL done) ∧ Below w.heap.size w wr)) (fun tv _ _ => strLen9 tv)
  case atStart => exact ⟨s, [], rfl, by simp, ⟨HA.out, ⟨rfl, Or.inl ⟨rfl, rfl⟩⟩, Below.refl _ _⟩⟩
  case round =>
    obtain ⟨t, done, rfl, hsz, hrel⟩ := hrel
    by_cases hp : 0 < t.size
    · have he := isE_pos hp
      have IB := hid (Tryz.strings_IndexByte t 37 wr)
      rw [show (37 : Int).toNat.toUInt8 = 37 from rfl, pct_index, ← Utf.size_eq] at IB
      have hmle : (t.data.toList.takeWhile PP.notPct).length ≤ t.size := by rw [Utf.size_eq]; exact (List.takeWhile_prefix PP.notPct).length_le
      obtain ⟨m, hm⟩ : ∃ m, (t.data.toList.takeWhile PP.notPct).length = m := ⟨_, rfl⟩
      rw [hm] at IB hmle
      have HM := hid hm
      obtain ⟨d, hd⟩ : ∃ d, t.extract 0 m = d := ⟨_, rfl⟩
      obtain ⟨u, hu⟩ : ∃ u, t.extract m t.size = u := ⟨_, rfl⟩
      have HD := hid (show d.data.toList = t.data.toList.takeWhile PP.notPct by
        have hw := List.takeWhile_append_dropWhile (p := PP.notPct) (l := t.data.toList)
        rw [← hd, ext_take, ← hm]
        conv => lhs; rw [← hw]
        rw [show (List.takeWhile PP.notPct (List.takeWhile PP.notPct t.data.toList ++ List.dropWhile PP.notPct t.data.toList)).length = (t.data.toList.takeWhile PP.notPct).length by rw [hw], List.take_left])
      have HU := hid (show u.data.toList = t.data.toList.dropWhile PP.notPct by
        have hw := List.takeWhile_append_dropWhile (p := PP.notPct) (l := t.data.toList)
        rw [← hu, ext_drop, ← hm]
        conv => lhs; rw [← hw]
        rw [show (List.takeWhile PP.notPct (List.takeWhile PP.notPct t.data.toList ++ List.dropWhile PP.notPct t.data.toList)).length = (t.data.toList.takeWhile PP.notPct).length by rw [hw], List.drop_left])
      have HUS := hid (show u.size = t.size - m by rw [← hu]; simp)
      clear hm
      by_cases hz : m = 0
      · have hpk : ∃ a r, t.data.toList = a :: r ∧ a.toNat = 37 := by
          obtain ⟨a, r, e⟩ := list_of_pos hp
          refine ⟨a, r, e, ?_⟩
          have := HM.out
          rw [hz, e, List.takeWhile_cons] at this
          by_cases h37 : a.toNat = 37
          · exact h37
          · rw [if_pos (by simp [PP.notPct, h37])] at this
            simp at this
        obtain ⟨a0, r0, hta, ha37⟩ := hpk
        subst hz
        have hne : ¬ 0 = t.size := by omega
        simp only [if_neg hne] at IB
        obtain ⟨q, hq⟩ : ∃ q, t.extract 1 t.size = q := ⟨_, rfl⟩
        have hql : q.data.toList = r0 := by rw [← hq, ext_drop, hta]; rfl
        have hqs : q.size ≤ 140737488355328 := by rw [← hq]; simp; omega
        have DI := hid (directive_any q wr hqs (hT.below hrel.out.2.2))
        have HQ := hid (And.intro hta (And.intro ha37 hql))
        clear hd hu HD HU HUS HM hta ha37 hql
        go_upto_region 3 with fail
        go_wp2_with fail
        refine IB.out.mono ?_
        rintro e w' ⟨rfl, rfl⟩
        go_upto_region 9 with fail
        refine wp_region_list ?_
        refine wpList_plain rfl fun K hK => ?_
        have HK := hid hK
        clear hK
        go_wp2_with fail
        refine HK.out _ _ ?_
        clear HK
        refine wpList_plain rfl fun K hK => ?_
        have HK := hid hK
        clear hK
        go_wp2_with fail
        refine HK.out _ _ ?_
        clear HK
        refine wpList_plain rfl fun K hK => ?_
        have HK := hid hK
        clear hK
        go_wp2_with fail
        refine DI.out.mono ?_
        rintro e W1 ⟨text, rest, rfl, h1, h2, hb⟩
        refine HK.out _ _ ?_
        clear HK
        refine wpList_plain rfl fun K hK => ?_
        have HK := hid hK
        clear hK
        go_wp2_with fail
        refine HK.out _ _ ?_
        clear HK
        refine wpList_plain rfl fun K hK => ?_
        have HK := hid hK
        clear hK
        go_wp2_with fail
        refine HK.out _ _ ?_
        clear HK
        refine wpList_plain rfl fun K hK => ?_
        have HK := hid hK
        clear hK
        go_wp2_with fail
        refine HK.out _ _ ?_
        clear HK
        refine wpList_plain rfl fun K hK => ?_
        have HK := hid hK
        clear hK
        go_wp2_with fail
        refine HK.out _ _ ?_
        clear HK
        obtain ⟨⟨D, dl⟩, hD⟩ : ∃ F, PP.dirL q.data.toList = F := ⟨_, rfl⟩
        rw [hD] at h1 h2 ⊢
        have b2 := hb.alloc hb.size (.cells pc0 100)
        have hG := Blk.new W1 pc0 100
        refine wpList_store_rowTo rfl 100 _ _ rfl rfl W1.heap.size (pcV D text) rfl rfl 100 pc0 hG piece_size rfl (pcV_one _ _) ?_
        have hG2 := hG.setRow (pcV D text)
        have b3 := below_setRow b2 W1.heap.size hb.size (pcV D text)
        obtain ⟨W2, hW2⟩ : ∃ W2, (W1.alloc (.cells pc0 100)).setRow W1.heap.size (pcV D text) = W2 := ⟨_, rfl⟩
        rw [hW2] at hG2 b3 ⊢
        obtain ⟨G, hGG⟩ : ∃ G, W1.heap.size = G := ⟨_, rfl⟩
        rw [hGG] at hG2 ⊢
        have X := hid (And.intro hG2 (And.intro b3 (And.intro h1 (And.intro h2 hD))))
        clear hG hG2 b2 b3 hb h1 h2 hW2 hGG hD DI
        refine wpList_plain rfl fun K hK => ?_
        have HK := hid hK
        clear hK
        go_wp2_with fail
        refine HK.out _ _ ?_
        clear HK
        refine wpList_nil ?_
        go_upto_region 10 with fail
        refine wp_region_list ?_
        refine wpList_plain rfl fun K hK => ?_
        have HK := hid hK
        clear hK
        go_wp2_with fail
        refine HK.out _ _ ?_
        clear HK
        refine wpList_load_mid rfl 100 (.tmp 5) rfl G 0 rfl (pcV D text).toList _ (fun j v hv => by rw [Nat.zero_add, X.out.1.cell]; simpa using hv) Tryz.underlying100 rfl piece_size ?_
        have own2 := own_below hrel.out.2.1 X.out.2.1
        have bel2 := hrel.out.2.2.trans (X.out.2.1.mono hrel.out.2.2.size)
        refine wpList_push rfl rfl (.tmp 34) (.tmp 33) 35 rfl rfl rfl (pcV D text) rfl rfl (pcV_one _ _) (by kernel_rfl) w.heap.size _ done.length (cellsL done) _ rfl rfl rfl own2 bel2.size (by omega) ?_
        intro v' w9 hown hb9
        obtain ⟨hG2, b3, h1, h2, hD⟩ := X.out
        obtain ⟨hta, ha37, hql⟩ := HQ.out
        have hlen := PP.dirL_len q.data.toList
        rw [hD, hql] at hlen
        have hrs : rest.size = dl.length := size_list h2
        have hts : t.size = r0.length + 1 := size_list hta
        have hlen' : dl.length ≤ r0.length := hlen
        have PA : Hid ((done ++ [D]) ++ PP.parseL rest.data.toList = ALL) := by
          have h := hrel.out.1
          rw [hta, PP.parseL_pct ha37, ← hql, hD] at h
          rw [h2, ← h, List.append_assoc]
          rfl
        have CE : Hid (cellsL (done ++ [D]) = cellsL done ++ (pcV D text).toList) := by
          have : txt D.text = text := txt_eq h1
          unfold Hid
          rw [cellsL_append, cellsL_one, this]
        have BE := hid (bel2.trans hb9)
        clear hG2 b3 h1 h2 hD hta ha37 hql hlen own2 bel2 hb9
        go_wp2_with fail
        refine ⟨⟨rest, done ++ [D], rfl, ?_, ⟨PA.out, ?_, BE.out⟩⟩, ?_⟩
        · simp; omega
        · rw [CE.out, List.length_append]
          exact hown
        · show rest.size < t.size
          omega
      · by_cases hall : m = t.size
        · have hdt : d = t := by rw [← hd, hall]; exact bytes_ext (by rw [ext_take, List.take_of_length_le (by rw [← Utf.size_eq]; omega)])
          have hue : u = ByteArray.empty := by rw [← hu, hall]; exact bytes_ext (by rw [ext_drop, List.drop_eq_nil_of_le (by rw [← Utf.size_eq]; omega)]; rfl)
          have LS := hid (lit_step (t := t) (d := d) (u := u) (by rw [HM.out]; exact hz) HD.out HU.out hrel.out.1)
          rw [hdt, hue] at LS
          simp only [if_pos hall] at IB
          clear hd hu hdt hue HD HU
          go_upto_region 3 with fail
          go_wp2_with fail
          refine IB.out.mono ?_
          rintro e w' ⟨rfl, rfl⟩
          go_upto_region 7 with fail
          refine wp_region_list ?_
          refine wpList_plain rfl fun K hK => ?_
          have HK := hid hK
          clear hK
          go_wp2_with fail
          refine HK.out _ _ ?_
          clear HK
          refine wpList_plain rfl fun K hK => ?_
          have HK := hid hK
          clear hK
          go_wp2_with fail
          refine HK.out _ _ ?_
          clear HK
          refine wpList_plain rfl fun K hK => ?_
          have HK := hid hK
          clear hK
          go_wp2_with fail
          refine HK.out _ _ ?_
          clear HK
          refine wpList_plain rfl fun K hK => ?_
          have HK := hid hK
          clear hK
          go_wp2_with fail
          refine HK.out _ _ ?_
          clear HK
          refine wpList_buildTo rfl 100 _ rfl (some 21) rfl (pcV (PP.litP []) t) (by kernel_rfl) ?_
          refine wpList_push rfl rfl (.tmp 21) (.tmp 17) 22 rfl rfl rfl (pcV (PP.litP []) t) rfl rfl (pcs_lit t) (by kernel_rfl) w.heap.size _ done.length (cellsL done) _ rfl rfl rfl hrel.out.2.1 hrel.out.2.2.size (by omega) ?_
          intro v' w' hown hb
          go_wp2_with fail
          refine ⟨⟨ByteArray.empty, done ++ [PP.litP t.data.toList], rfl, ?_, ⟨LS.out.1, ?_, hrel.out.2.2.trans hb⟩⟩, ?_⟩
          · simp; omega
          · rw [LS.out.2, List.length_append]
            exact hown
          · exact hp
        · have LS := hid (lit_step (t := t) (d := d) (u := u) (by rw [HM.out]; exact hz) HD.out HU.out hrel.out.1)
          have hlt : m < t.size := by omega
          simp only [if_neg hall] at IB
          clear HD HU
          go_upto_region 3 with fail
          go_wp2_with fail
          refine IB.out.mono ?_
          rintro e w' ⟨rfl, rfl⟩
          go_upto_region 7 with fail
          refine wp_region_list ?_
          refine wpList_plain rfl fun K hK => ?_
          have HK := hid hK
          clear hK
          go_wp2_with fail
          refine HK.out _ _ ?_
          clear HK
          refine wpList_plain rfl fun K hK => ?_
          have HK := hid hK
          clear hK
          go_wp2_with fail
          refine HK.out _ _ ?_
          clear HK
          refine wpList_plain rfl fun K hK => ?_
          have HK := hid hK
          clear hK
          go_wp2_with fail
          refine HK.out _ _ ?_
          clear HK
          refine wpList_plain rfl fun K hK => ?_
          have HK := hid hK
          clear hK
          go_wp2_with fail
          refine HK.out _ _ ?_
          clear HK
          refine wpList_buildTo rfl 100 _ rfl (some 21) rfl (pcV (PP.litP []) d) (by kernel_rfl) ?_
          refine wpList_push rfl rfl (.tmp 21) (.tmp 17) 22 rfl rfl rfl (pcV (PP.litP []) d) rfl rfl (pcs_lit d) (by kernel_rfl) w.heap.size _ done.length (cellsL done) _ rfl rfl rfl hrel.out.2.1 hrel.out.2.2.size (by omega) ?_
          intro v' w' hown hb
          go_wp2_with fail
          refine ⟨⟨u, done ++ [PP.litP d.data.toList], rfl, ?_, ⟨LS.out.1, ?_, hrel.out.2.2.trans hb⟩⟩, ?_⟩
          · have := HUS.out
            simp; omega
          · rw [LS.out.2, List.length_append]
            exact hown
          · have := HUS.out
            show u.size < t.size
            omega
    · have he := isE_zero hp
      go_wp2_with fail
      go_ret
      have e0 : t.data.toList = [] := List.eq_nil_of_length_eq_zero (by rw [← Utf.size_eq]; omega)
      have h := hrel.out.1
      rw [e0, PP.parseL_nil, List.append_nil] at h
      rw [← h]
      exact ⟨_, rfl, hrel.out.2.1, hrel.out.2.2⟩
end Go.Proofs.YtdjhmanccoekjaaGreatDoor.PR
end

section
namespace Go.Proofs.YtdjhmanccoekjaaGreatDoor
open Go.RowKit Go.Proofs

/-- Which argument an index means. -/
def takeAt (s : St) (x : PP.Ix) : Int := if x.k = 0 then s.next else x.n - 1
/-- The state behind a taking that finds one. -/
def takeSt (s : St) (x : PP.Ix) : St := { s with next := takeAt s x + 1, reo := if x.k = 0 then s.reo else true }
theorem StAt.arg_cell {w : World} {b : Nat} {s : St} {v va : Value} (h : StAt w b s v va) {i : Nat} {x : Value} (hx : s.args[i]? = some x) :
    ∃ g cap, va = .slice (some ⟨g, 0, none⟩) s.args.length cap ∧ w.cell? ⟨g, i, none⟩ = some x ∧ b < g := by
  have hne : s.args ≠ [] := by intro e; rw [e] at hx; cases hx
  rcases h.arg.2 with ⟨h0, h1⟩ | ⟨g, cap, cur, h1, h2, h3, h4⟩
  · exact absurd (List.eq_nil_of_length_eq_zero (by simpa using h1)) hne
  · exact ⟨g, cap, h1, by have := h.arg.cells (g := g) (by rw [h1]; rfl) i x hx; rw [Go.WideShapes.add_plain, Nat.zero_add] at this; exact this, by omega⟩
set_option maxRecDepth 100000 in
set_option maxHeartbeats 4000000 in
theorem take_next (b : Nat) (s : St) (v va x : Value) (n i : Nat) (w : World) (h : StAt w b s v va) (hn : s.next = n) (hx : s.args[n]? = some x) (hl : s.args.length ≤ 16) :
    Calls Tryz.prog 74 #[.pointer (some ⟨b, 0, none⟩), .agg #[.int .i64 0, .int .i64 i]] w fun e w' => e = .returned (.tuple #[x, .bool true]) ∧ StAt w' b (takeSt s ⟨0, i⟩) v va ∧ Kp b w w' := by
  obtain ⟨g, cap, hva, hc, hg⟩ := h.arg_cell hx
  obtain ⟨N, hN⟩ : ∃ N, s.args.length = N := ⟨_, rfl⟩
  have hnN : n < N := by
    rw [← hN]
    rcases Nat.lt_or_ge n s.args.length with q | q
    · exact q
    · rw [List.getElem?_eq_none q] at hx; cases hx
  rw [hN] at hva hl
  have a0 := h.below ((Below.refl w.heap.size w).alloc (Nat.le_refl _) (.cells #[.int .i64 0, .int .i64 i] 96))
  have k0 : Kp b w (w.alloc (.cells #[.int .i64 0, .int .i64 i] 96)) := (Kp.refl b w).alloc h.lt _
  have hgw : g < w.heap.size := World.block_lt_of_cell? w _ hc
  have hc0 : (w.alloc (.cells #[.int .i64 0, .int .i64 i] 96)).cell? ⟨g, n, none⟩ = some x := cell_keep ((Below.refl w.heap.size w).alloc (Nat.le_refl _) _) hc
  have hP0 := Blk.new w #[.int .i64 0, .int .i64 i] 96
  obtain ⟨P, hP⟩ : ∃ P, w.heap.size = P := ⟨_, rfl⟩
  obtain ⟨W0, hW0⟩ : ∃ W0, w.alloc (.cells #[.int .i64 0, .int .i64 i] 96) = W0 := ⟨_, rfl⟩
  rw [hW0] at a0 k0 hc0 hP0
  rw [hP] at hP0 hgw
  have c3 : W0.cell? ⟨b, 4, none⟩ = some (.slice (some ⟨g, 0, none⟩) N cap) := by have := a0.blk.cell 4; rw [hva] at this; exact this
  have c4 : W0.cell? ⟨b, 5, none⟩ = some (.int .i64 n) := by have := a0.blk.cell 5; rw [hn] at this; exact this
  have f4 := a0.blk.frozen 5
  have s1 : StAt (W0.setCell ⟨b, 5, none⟩ (.int .i64 ((n : Int) + 1))) b (takeSt s ⟨0, i⟩) v va := a0.set_ 5 _ _ (by unfold takeSt takeAt; simp [hn]) rfl rfl
  have k1 := k0.set_ 5 (.int .i64 ((n : Int) + 1))
  have N1 := hid (And.intro s1 k1)
  have hbg : b ≠ g := by omega
  have hcg : (W0.setCell ⟨b, 5, none⟩ (.int .i64 ((n : Int) + 1))).cell? ⟨g, n, none⟩ = some x := by rw [World.cell?_setCell_far _ _ _ _ (by show b ≠ g; omega)]; exact hc0
  have c3' : (W0.setCell ⟨b, 5, none⟩ (.int .i64 ((n : Int) + 1))).cell? ⟨b, 4, none⟩ = some (.slice (some ⟨g, 0, none⟩) N cap) := by have := s1.blk.cell 4; rw [hva] at this; exact this
  have p0 : W0.cell? ⟨P, 0, none⟩ = some (.int .i64 0) := hP0.cell 0
  clear s1 k1 a0 k0 hP0 h hx hN hn hva hc
  go_enter Tryz.func74, Tryz.ntmps74
  go_wp2_with fail
  go_ret2
  exact ⟨rfl, N1.out⟩
set_option maxRecDepth 100000 in
set_option maxHeartbeats 4000000 in
theorem take_good (b : Nat) (s : St) (v va x : Value) (n : Nat) (w : World) (h : StAt w b s v va) (hx : s.args[n]? = some x) (hl : s.args.length ≤ 16) :
    Calls Tryz.prog 74 #[.pointer (some ⟨b, 0, none⟩), .agg #[.int .i64 1, .int .i64 ((n : Int) + 1)]] w fun e w' => e = .returned (.tuple #[x, .bool true]) ∧ StAt w' b (takeSt s ⟨1, (n : Int) + 1⟩) v va ∧ Kp b w w' := by
  obtain ⟨g, cap, hva, hc, hg⟩ := h.arg_cell hx
  obtain ⟨N, hN⟩ : ∃ N, s.args.length = N := ⟨_, rfl⟩
  have hnN : n < N := by
    rw [← hN]
    rcases Nat.lt_or_ge n s.args.length with q | q
    · exact q
    · rw [List.getElem?_eq_none q] at hx; cases hx
  rw [hN] at hva hl
  obtain ⟨m, hm⟩ : ∃ m : Int, (n : Int) + 1 = m := ⟨_, rfl⟩
  rw [hm]
  have hm1 : m - 1 = n := by omega
  have a0 := h.below ((Below.refl w.heap.size w).alloc (Nat.le_refl _) (.cells #[.int .i64 1, .int .i64 m] 96))
  have k0 : Kp b w (w.alloc (.cells #[.int .i64 1, .int .i64 m] 96)) := (Kp.refl b w).alloc h.lt _
  have hgw : g < w.heap.size := World.block_lt_of_cell? w _ hc
  have hc0 : (w.alloc (.cells #[.int .i64 1, .int .i64 m] 96)).cell? ⟨g, n, none⟩ = some x := cell_keep ((Below.refl w.heap.size w).alloc (Nat.le_refl _) _) hc
  have hP0 := Blk.new w #[.int .i64 1, .int .i64 m] 96
  obtain ⟨P, hP⟩ : ∃ P, w.heap.size = P := ⟨_, rfl⟩
  obtain ⟨W0, hW0⟩ : ∃ W0, w.alloc (.cells #[.int .i64 1, .int .i64 m] 96) = W0 := ⟨_, rfl⟩
  have hbP : b ≠ P := by have := h.lt; omega
  rw [hW0] at a0 k0 hc0 hP0
  rw [hP] at hP0 hgw
  have f6 := a0.blk.frozen 6
  have f5 := a0.blk.frozen 5
  have c4 : W0.cell? ⟨b, 5, none⟩ = some (.int .i64 s.next) := a0.blk.cell 5
  have c6 : W0.cell? ⟨b, 6, none⟩ = some (.bool s.reo) := a0.blk.cell 6
  have s1 : StAt (W0.setCell ⟨b, 6, none⟩ (.bool true)) b { s with reo := true } v va := a0.set_ 6 _ _ (by simp) rfl rfl
  have g5 := s1.blk.frozen 5
  have g4 : (W0.setCell ⟨b, 6, none⟩ (.bool true)).cell? ⟨b, 4, none⟩ = some (.slice (some ⟨g, 0, none⟩) N cap) := by have := s1.blk.cell 4; rw [hva] at this; exact this
  have g5c : (W0.setCell ⟨b, 6, none⟩ (.bool true)).cell? ⟨b, 5, none⟩ = some (.int .i64 s.next) := s1.blk.cell 5
  have s2 : StAt ((W0.setCell ⟨b, 6, none⟩ (.bool true)).setCell ⟨b, 5, none⟩ (.int .i64 ((n : Int) + 1))) b (takeSt s ⟨1, m⟩) v va := s1.set_ 5 _ _ (by unfold takeSt takeAt; simp; omega) rfl rfl
  have k2 := (k0.set_ 6 (.bool true)).set_ 5 (.int .i64 ((n : Int) + 1))
  have N1 := hid (And.intro s2 k2)
  have hbg : b ≠ g := by omega
  have p1 : W0.cell? ⟨P, 1, none⟩ = some (.int .i64 m) := hP0.cell 1
  have p0 : W0.cell? ⟨P, 0, none⟩ = some (.int .i64 1) := hP0.cell 0
  have q0 : (W0.setCell ⟨b, 6, none⟩ (.bool true)).cell? ⟨P, 0, none⟩ = some (.int .i64 1) := by rw [World.cell?_setCell_far _ _ _ _ hbP]; exact p0
  have q1 : (W0.setCell ⟨b, 6, none⟩ (.bool true)).cell? ⟨P, 1, none⟩ = some (.int .i64 m) := by rw [World.cell?_setCell_far _ _ _ _ hbP]; exact p1
  have hcg : ((W0.setCell ⟨b, 6, none⟩ (.bool true)).setCell ⟨b, 5, none⟩ (.int .i64 ((n : Int) + 1))).cell? ⟨g, n, none⟩ = some x := by rw [World.cell?_setCell_far _ _ _ _ hbg, World.cell?_setCell_far _ _ _ _ hbg]; exact hc0
  have c3' : ((W0.setCell ⟨b, 6, none⟩ (.bool true)).setCell ⟨b, 5, none⟩ (.int .i64 ((n : Int) + 1))).cell? ⟨b, 4, none⟩ = some (.slice (some ⟨g, 0, none⟩) N cap) := by have := s2.blk.cell 4; rw [hva] at this; exact this
  have w1 : IntKind.i64.wrap (m - 1) = n := by rw [hm1]; exact IntWalk.i64_in _ (by omega)
  clear s1 s2 k2 a0 k0 hP0 h hx hN hva hc hm hm1
  go_enter Tryz.func74, Tryz.ntmps74
  go_wp2_with fail
  go_ret2
  exact ⟨rfl, N1.out⟩
set_option maxRecDepth 100000 in
set_option maxHeartbeats 4000000 in
theorem small_int (k : Int) (ty : ByteArray) (hk x : Int) (w : World) (h0 : -1000 ≤ x) (h1 : x ≤ 1000) :
    Calls Tryz.prog 106 #[.iface 181 (.agg #[.int .i64 k, .string ty, .int .i64 hk, .int .i64 x])] w fun e w' => e = .returned (.tuple #[.int .i64 x, .bool true]) ∧ Below w.heap.size w w' := by
  have q := ta_Int_Int
  have d0 : decide (-1000 ≤ x) = true := decide_eq_true h0
  have d1 : decide (x ≤ 1000) = true := decide_eq_true h1
  go_enter Tryz.func106, Tryz.ntmps106
  go_wp2_with fail
  go_quiet (fail)
  go_wp2_with fail
  go_ret2
  exact ⟨rfl, below_drewN (below_n (Below.refl _ _) _ _) _⟩
abbrev nmV (n : PP.Nm) : Array Value := #[.int .i64 n.k, .int .i64 n.n, .int .i64 n.a.k, .int .i64 n.a.n]
set_option maxRecDepth 100000 in
set_option maxHeartbeats 4000000 in
theorem number_unset (b : Nat) (s : St) (v va : Value) (n : Int) (a : PP.Ix) (least : Int) (w : World) (h : StAt w b s v va) :
    Calls Tryz.prog 70 #[.pointer (some ⟨b, 0, none⟩), .agg (nmV ⟨0, n, a⟩), .int .i64 least] w fun e w' => e = .returned (.tuple #[.int .i64 0, .bool false]) ∧ StAt w' b s v va ∧ Kp b w w' := by
  have a0 := h.below ((Below.refl w.heap.size w).alloc (Nat.le_refl _) (.cells (nmV ⟨0, n, a⟩) 98))
  have k0 : Kp b w (w.alloc (.cells (nmV ⟨0, n, a⟩) 98)) := (Kp.refl b w).alloc h.lt _
  have N1 := hid (And.intro a0 k0)
  clear a0 k0 h
  go_enter Tryz.func70, Tryz.ntmps70
  go_wp2_with fail
  go_ret2
  exact ⟨rfl, N1.out⟩
set_option maxRecDepth 100000 in
set_option maxHeartbeats 4000000 in
theorem number_star (b : Nat) (s s' : St) (v va : Value) (n : Int) (a : PP.Ix) (least : Int) (k : Int) (ty : ByteArray) (hk x : Int) (w : World) (h : StAt w b s v va) (h0 : -1000 ≤ x) (h1 : x ≤ 1000) (hl : least ≤ x)
    (TA : ∀ W, StAt W b s v va → Calls Tryz.prog 74 #[.pointer (some ⟨b, 0, none⟩), .agg #[.int .i64 a.k, .int .i64 a.n]] W fun e w' => e = .returned (.tuple #[.iface 181 (.agg #[.int .i64 k, .string ty, .int .i64 hk, .int .i64 x]), .bool true]) ∧ StAt w' b s' v va ∧ Kp b W w') :
    Calls Tryz.prog 70 #[.pointer (some ⟨b, 0, none⟩), .agg (nmV ⟨2, n, a⟩), .int .i64 least] w fun e w' => e = .returned (.tuple #[.int .i64 x, .bool true]) ∧ StAt w' b s' v va ∧ Kp b w w' := by
  have a0 := h.below ((Below.refl w.heap.size w).alloc (Nat.le_refl _) (.cells (nmV ⟨2, n, a⟩) 98))
  have k0 : Kp b w (w.alloc (.cells (nmV ⟨2, n, a⟩) 98)) := (Kp.refl b w).alloc h.lt _
  have T0 := hid (TA _ a0)
  have K0 := hid k0
  have SM := hid (fun W => small_int k ty hk x W h0 h1)
  have d0 : decide (least ≤ x) = true := decide_eq_true hl
  clear a0 k0 h TA h0 h1 hl
  go_enter Tryz.func70, Tryz.ntmps70
  go_wp2_with fail
  refine T0.out.mono ?_
  rintro e w1 ⟨rfl, hs, hkp⟩
  have N1 := hid (And.intro hs (K0.out.trans hkp))
  clear hs hkp
  go_wp2_with fail
  refine (SM.out _).mono ?_
  rintro e w2 ⟨rfl, hb⟩
  have N2 := hid (And.intro (N1.out.1.below hb) (N1.out.2.trans (Kp.of_below N1.out.1.lt hb)))
  clear hb
  go_wp2_with fail
  go_ret2
  exact ⟨rfl, N2.out⟩
end Go.Proofs.YtdjhmanccoekjaaGreatDoor
end
