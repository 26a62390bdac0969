/-
  Walks of layer 9: indices.
-/
import Derived.Test.YtmfhoindfhmncaaDoorP3
namespace Go.Proofs.YtmfhoindfhmncaaDoor
open Go.RowKit Go.Proofs

abbrev ixV (x : PP.Ix) : Value := .agg #[.int .i64 x.k, .int .i64 x.n]
abbrev nmV (x : PP.Nm) : Value := .agg #[.int .i64 x.k, .int .i64 x.n, .int .i64 x.a.k, .int .i64 x.a.n]

/-- The cell of a result that lives on the heap. -/
theorem spoilt_any (x : PP.Ix) (w : World) : Calls Tryd.prog 29 #[ixV x] w fun e w' => e = .returned (ixV (PP.spoil x)) ∧ Below w.heap.size w w' := by
  obtain ⟨k, n⟩ := x
  unfold PP.spoil
  by_cases h : k = 0
  · subst h
    go_enter Tryd.func29, Tryd.ntmps29
    go_wp2_with fail
    refine bodyPost_ret (v := .agg #[.int .i64 0, .int .i64 n]) (by simp [results, Tryd.results29, go_sem]) rfl ⟨?_, ?_⟩
    · simp
    · exact ((Below.refl _ _).alloc (Nat.le_refl _) _).alloc (by simp) _
  · go_enter Tryd.func29, Tryd.ntmps29
    go_wp2_with fail
    refine bodyPost_ret (v := .agg #[.int .i64 2, .int .i64 0]) (by simp [results, Tryd.results29, go_sem]) rfl ⟨?_, ?_⟩
    · simp
    · exact ((Below.refl _ _).alloc (Nat.le_refl _) _).alloc (by simp) _

theorem and_any (x y : PP.Ix) (w : World) : Calls Tryd.prog 30 #[ixV x, ixV y] w fun e w' => e = .returned (ixV (PP.andI x y)) ∧ Below w.heap.size w w' := by
  obtain ⟨k, n⟩ := x
  obtain ⟨l, m⟩ := y
  unfold PP.andI
  by_cases hl : l = 0
  · subst hl
    go_enter Tryd.func30, Tryd.ntmps30
    go_wp2_with fail
    refine bodyPost_ret (v := .agg #[.int .i64 k, .int .i64 n]) (by simp [results, Tryd.results30, go_sem]) rfl ⟨?_, ?_⟩
    · simp
    · exact (((Below.refl _ _).alloc (Nat.le_refl _) _).alloc (by simp) _).alloc (by simp; omega) _
  · by_cases hk : k = 0
    · subst hk
      go_enter Tryd.func30, Tryd.ntmps30
      go_wp2_with fail
      refine bodyPost_ret (v := .agg #[.int .i64 l, .int .i64 m]) (by simp [results, Tryd.results30, go_sem]) rfl ⟨?_, ?_⟩
      · simp
      · exact (((Below.refl _ _).alloc (Nat.le_refl _) _).alloc (by simp) _).alloc (by simp; omega) _
    · go_enter Tryd.func30, Tryd.ntmps30
      go_wp2_with fail
      refine bodyPost_ret (v := .agg #[.int .i64 2, .int .i64 0]) (by simp [results, Tryd.results30, go_sem]) rfl ⟨?_, ?_⟩
      · simp
      · exact (((Below.refl _ _).alloc (Nat.le_refl _) _).alloc (by simp) _).alloc (by simp; omega) _

/-- A fresh row may be set. -/
theorem Below.put_new {B : Nat} {a w : World} (h : Below B a w) {p : Addr} (hp : B ≤ p.block) (u : Value) : Below B a (w.setCell p u) := h.setCell hp u

theorem ix_head {t : ByteArray} (h : PP.pk t.data.toList = 91) : ∃ a : UInt8, a.toNat = 91 ∧ t.data.toList = a :: (t.extract 1 t.size).data.toList := by
  obtain ⟨a, r, e⟩ := list_of_pos (pk_pos (t := t) (by omega))
  refine ⟨a, ?_, ?_⟩
  · rw [e] at h
    simp only [PP.pk] at h
    omega
  · rw [ext_drop, e]; rfl
theorem ix_wrong {a : UInt8} {r : List UInt8} (h : a.toNat = 91) (hd : PP.dg r = [] ∨ PP.pk (PP.rs r) ≠ 93) : PP.ixL (a :: r) = (⟨2, 0⟩, r) := by
  unfold PP.ixL
  simp only []
  rw [if_pos h]
  split
  · rfl
  · rename_i hne
    split
    · rfl
    · rename_i b q e
      rw [e] at hd
      simp only [PP.pk] at hd
      rw [if_neg (by rcases hd with hd | hd; exact absurd hd hne; omega)]
theorem ix_closed {a : UInt8} {r : List UInt8} (h : a.toNat = 91) (hd : ¬ PP.dg r = []) (hp : PP.pk (PP.rs r) = 93) :
    PP.ixL (a :: r) = (if 0 < PP.valL 999999999 0 (PP.dg r) ∧ (PP.dg r).length ≤ 9 then (⟨1, PP.valL 999999999 0 (PP.dg r)⟩, (PP.rs r).drop 1) else (⟨2, 0⟩, (PP.rs r).drop 1)) := by
  unfold PP.ixL
  simp only []
  rw [if_pos h, if_neg hd]
  cases e : PP.rs r with
  | nil => rw [e] at hp; simp [PP.pk] at hp
  | cons b q =>
    rw [e] at hp
    simp only [PP.pk] at hp
    simp only []
    rw [if_pos (by omega)]
    rfl
theorem only_new {R : Nat} {a c : World} (h : Only R a c) {p : Addr} (hp : a.heap.size ≤ p.block) (u : Value) : Only R a (c.setCell p u) :=
  ⟨h.os, h.tape, h.output, by simpa [World.setCell] using h.size, fun k hk hb => (Below.heap_setCell c p u k (by omega)).trans (h.block k hk hb)⟩
theorem valL_ge : ∀ (l : List UInt8) (limit n : Int), 0 ≤ n → n ≤ limit → AllD l → -1 ≤ PP.valL limit n l ∧ PP.valL limit n l ≤ limit
  | [], limit, n, h, h2, _ => by unfold PP.valL; omega
  | a :: t, limit, n, h, h2, ha => by
    rw [valL_cons]
    have := ha a List.mem_cons_self
    split
    · omega
    · exact valL_ge t limit _ (by omega) (by omega) (fun b hb => ha b (List.mem_cons_of_mem _ hb))
theorem size_list {d : ByteArray} {l : List UInt8} (h : d.data.toList = l) : d.size = l.length := by rw [Utf.size_eq, h]

set_option maxRecDepth 100000 in
set_option maxHeartbeats 4000000 in
theorem index_any (R V : Nat) (t : ByteArray) (w : World) (h : Rd w R V t) (hs : t.size ≤ 140737488355328) :
    Calls Tryd.prog 28 #[.pointer (some ⟨R, 0, none⟩)] w fun e w' => e = .returned (ixV (PP.ixL t.data.toList).1) ∧ ∃ t', t'.data.toList = (PP.ixL t.data.toList).2 ∧ Rd w' R V t' ∧ Only R w w' := by
  have hr0 : w.cell? ⟨R, 0, none⟩ = some (.string t) := h.1.cell 0
  have hr1 : w.cell? ⟨R, 1, none⟩ = some (clo V) := h.1.cell 1
  have hfr : ∀ i, w.frozen? ⟨R, i, none⟩ = false := h.1.frozen
  have hR : R < w.heap.size := h.1.lt
  have hV : V < w.heap.size := h.2.lt
  have HR := hid h
  have PK := hid (peek_any R V)
  by_cases hc : PP.pk t.data.toList = 91
  · obtain ⟨a, ha, hta⟩ := ix_head hc
    have hpos : 0 < t.size := pk_pos (by omega)
    obtain ⟨u, hu⟩ : ∃ u, t.extract 1 t.size = u := ⟨_, rfl⟩
    have hus : u.size ≤ 140737488355328 := by rw [← hu]; simp; omega
    rw [hu] at hta
    have PK0 := hid (peek_any R V t)
    simp only [hc] at PK0
    rw [hta]
    obtain ⟨F, hF⟩ : ∃ F, PP.ixL (a :: u.data.toList) = F := ⟨_, rfl⟩
    rw [hF]
    have HA := hid (And.intro ha hF)
    clear ha hta hc h hF
    have DG := hid (fun W hW => digits_any R V u W hW hus)
    have NB := hid (fun d W h1 h2 => number_any d 999999999 W h1 (by decide) h2)
    go_enter Tryd.func28, Tryd.ntmps28
    go_wp2_with fail
    refine (PK0.out _ (HR.out.alloc _)).mono ?_
    rintro e w' ⟨rfl, rfl⟩
    go_wp2_with fail
    obtain ⟨W1, hW1⟩ : ∃ W1, (w.setCell ⟨R, 0, none⟩ (.string u)).alloc (.cells #[.int .i64 0, .int .i64 0] 36) = W1 := ⟨_, rfl⟩
    have HR1 : Rd W1 R V u := hW1 ▸ (HR.out.put u).alloc _
    have HO1 : Only R w W1 := hW1 ▸ ((Only.refl R w).set_ 0 _).alloc _
    have HB1 : Blk W1 w.heap.size #[.int .i64 0, .int .i64 0] 36 := by
      rw [← hW1]
      have := Blk.new (w.setCell ⟨R, 0, none⟩ (.string u)) #[.int .i64 0, .int .i64 0] 36
      simpa using this
    rw [hW1]
    refine (DG.out _ HR1).mono ?_
    rintro e W2 ⟨d, rfl, hd, u2, hu2, hr2, ho2⟩
    obtain ⟨B, hB⟩ : ∃ B, w.heap.size = B := ⟨_, rfl⟩
    rw [hB] at HB1 hR hV ⊢
    have HB2 := HB1.same (ho2.block B HB1.lt (by omega))
    have HO2 := hid (HO1.trans ho2)
    have hb0 : W2.cell? ⟨B, 0, none⟩ = some (.int .i64 0) := HB2.cell 0
    have hb1 : W2.cell? ⟨B, 1, none⟩ = some (.int .i64 0) := HB2.cell 1
    have hbf : ∀ i, W2.frozen? ⟨B, i, none⟩ = false := HB2.frozen
    have hq0 : W2.cell? ⟨R, 0, none⟩ = some (.string u2) := hr2.1.cell 0
    have hq1 : W2.cell? ⟨R, 1, none⟩ = some (clo V) := hr2.1.cell 1
    have hqf : ∀ i, W2.frozen? ⟨R, i, none⟩ = false := hr2.1.frozen
    have hBR : B ≠ R := by omega
    have hRB : R ≠ B := by omega
    have hVB : V ≠ B := by omega
    have HR2 := hid hr2
    have HBB := hid HB2
    have PK2 := hid (peek_any R V u2)
    clear hr0 hr1 hfr hW1 HR1 HO1 HB1 ho2 hr2 HB2
    by_cases hde : 0 < d.size
    · have hdi := isE_pos hde
      have hdn : ¬ PP.dg u.data.toList = [] := by
        intro e
        rw [← hd] at e
        have := size_list e
        rw [List.length_nil] at this
        omega
      by_cases hc2 : PP.pk u2.data.toList = 93
      · have HF := hid (HA.out.2.symm.trans (ix_closed HA.out.1 hdn (hu2 ▸ hc2)))
        simp only [hc2] at PK2
        have hpos2 : 0 < u2.size := pk_pos (by omega)
        obtain ⟨u3, hu3⟩ : ∃ u3, u2.extract 1 u2.size = u3 := ⟨_, rfl⟩
        have HU3 := hid (show u3.data.toList = (PP.rs u.data.toList).drop 1 by rw [← hu3, ext_drop, hu2])
        have hds : d.size = (PP.dg u.data.toList).length := size_list hd
        have hdsl : d.size ≤ 140737488355328 := by
          have h1 := congrArg List.length (PP.dg_rs u.data.toList)
          rw [List.length_append, ← Utf.size_eq] at h1
          omega
        have NB2 := hid (fun W => number_any d 999999999 W hdsl (by decide) (hd ▸ allD_dg _))
        rw [hd] at NB2
        have hvl := valL_ge (PP.dg u.data.toList) 999999999 0 (Int.le_refl _) (by decide) (allD_dg _)
        obtain ⟨v, hv⟩ : ∃ v, PP.valL 999999999 0 (PP.dg u.data.toList) = v := ⟨_, rfl⟩
        rw [hv] at NB2 HF hvl
        rw [← hds] at HF
        clear hdn hd hu2 hc2 hv hds
        go_wp2_with fail
        refine (PK2.out _ HR2.out).mono ?_
        rintro e w' ⟨rfl, rfl⟩
        go_wp2_with fail
        refine (NB2.out _).mono ?_
        rintro e W4 ⟨rfl, hb4⟩
        have HR4 := hid ((HR2.out.put u3).below hb4)
        have HB4 := hid ((HBB.out.far (p := ⟨R, 0, none⟩) (by simpa using hBR) (.string u3)).below hb4 (by simpa using HBB.out.lt))
        have HO4 := hid ((HO2.out.set_ 0 (.string u3)).trans (Only.of_below hb4))
        have hb0 : W4.cell? ⟨B, 0, none⟩ = some (.int .i64 0) := HB4.out.cell 0
        have hb1 : W4.cell? ⟨B, 1, none⟩ = some (.int .i64 0) := HB4.out.cell 1
        have hbf : ∀ i, W4.frozen? ⟨B, i, none⟩ = false := HB4.out.frozen
        clear hb4
        by_cases h1 : 0 < v
        · by_cases h2 : d.size ≤ 9
          · have HF := hid (HF.out.trans (if_pos ⟨h1, h2⟩))
            go_wp2_with fail
            obtain ⟨W5, hW5⟩ : ∃ W5, (W4.setCell ⟨B, 0, none⟩ (.int .i64 1)).setCell ⟨B, 1, none⟩ (.int .i64 v) = W5 := ⟨_, rfl⟩
            have HB5 := hid (show Blk W5 B #[.int .i64 1, .int .i64 v] 36 from hW5 ▸ (HB4.out.set_ 0 _).set_ 1 _)
            have HR5 := hid (show Rd W5 R V u3 from hW5 ▸ (HR4.out.far (by simpa using hRB) (by simpa using hVB) _).far (by simpa using hRB) (by simpa using hVB) _)
            have HO5 := hid (show Only R w W5 from hW5 ▸ only_new (only_new HO4.out (by simp; omega) _) (by simp; omega) _)
            rw [hW5]
            clear hW5
            have e0 : W5.cell? ⟨B, 0, none⟩ = some (.int .i64 1) := HB5.out.cell 0
            have e1 : W5.cell? ⟨B, 1, none⟩ = some (.int .i64 v) := HB5.out.cell 1
            exact bodyPost_ret (v := .agg #[.int .i64 1, .int .i64 v]) (by simp [results, Tryd.results28, go_sem, e0, e1]) rfl ⟨by rw [HF.out], u3, by rw [HF.out]; exact HU3.out, HR5.out, HO5.out⟩
          · have HF := hid (HF.out.trans (if_neg (fun h => h2 h.2)))
            go_wp2_with fail
            obtain ⟨W5, hW5⟩ : ∃ W5, (W4.setCell ⟨B, 0, none⟩ (.int .i64 2)).setCell ⟨B, 1, none⟩ (.int .i64 0) = W5 := ⟨_, rfl⟩
            have HB5 := hid (show Blk W5 B #[.int .i64 2, .int .i64 0] 36 from hW5 ▸ (HB4.out.set_ 0 _).set_ 1 _)
            have HR5 := hid (show Rd W5 R V u3 from hW5 ▸ (HR4.out.far (by simpa using hRB) (by simpa using hVB) _).far (by simpa using hRB) (by simpa using hVB) _)
            have HO5 := hid (show Only R w W5 from hW5 ▸ only_new (only_new HO4.out (by simp; omega) _) (by simp; omega) _)
            rw [hW5]
            clear hW5
            have e0 : W5.cell? ⟨B, 0, none⟩ = some (.int .i64 2) := HB5.out.cell 0
            have e1 : W5.cell? ⟨B, 1, none⟩ = some (.int .i64 0) := HB5.out.cell 1
            exact bodyPost_ret (v := .agg #[.int .i64 2, .int .i64 0]) (by simp [results, Tryd.results28, go_sem, e0, e1]) rfl ⟨by rw [HF.out], u3, by rw [HF.out]; exact HU3.out, HR5.out, HO5.out⟩
        · have HF := hid (HF.out.trans (if_neg (fun h => h1 h.1)))
          go_wp2_with fail
          obtain ⟨W5, hW5⟩ : ∃ W5, (W4.setCell ⟨B, 0, none⟩ (.int .i64 2)).setCell ⟨B, 1, none⟩ (.int .i64 0) = W5 := ⟨_, rfl⟩
          have HB5 := hid (show Blk W5 B #[.int .i64 2, .int .i64 0] 36 from hW5 ▸ (HB4.out.set_ 0 _).set_ 1 _)
          have HR5 := hid (show Rd W5 R V u3 from hW5 ▸ (HR4.out.far (by simpa using hRB) (by simpa using hVB) _).far (by simpa using hRB) (by simpa using hVB) _)
          have HO5 := hid (show Only R w W5 from hW5 ▸ only_new (only_new HO4.out (by simp; omega) _) (by simp; omega) _)
          rw [hW5]
          clear hW5
          have e0 : W5.cell? ⟨B, 0, none⟩ = some (.int .i64 2) := HB5.out.cell 0
          have e1 : W5.cell? ⟨B, 1, none⟩ = some (.int .i64 0) := HB5.out.cell 1
          exact bodyPost_ret (v := .agg #[.int .i64 2, .int .i64 0]) (by simp [results, Tryd.results28, go_sem, e0, e1]) rfl ⟨by rw [HF.out], u3, by rw [HF.out]; exact HU3.out, HR5.out, HO5.out⟩
      · have HF := hid (HA.out.2.symm.trans (ix_wrong HA.out.1 (Or.inr (hu2 ▸ hc2))))
        obtain ⟨c, hcc⟩ : ∃ c, PP.pk u2.data.toList = c := ⟨_, rfl⟩
        simp only [hcc] at PK2 hc2
        clear hdn hd hu2 hcc
        go_wp2_with fail
        refine (PK2.out _ HR2.out).mono ?_
        rintro e w' ⟨rfl, rfl⟩
        go_wp2_with fail
        obtain ⟨W3, hW3⟩ : ∃ W3, ((W2.setCell ⟨R, 0, none⟩ (.string u)).setCell ⟨B, 0, none⟩ (.int .i64 2)).setCell ⟨B, 1, none⟩ (.int .i64 0) = W3 := ⟨_, rfl⟩
        have HB3 := hid (show Blk W3 B #[.int .i64 2, .int .i64 0] 36 from hW3 ▸ ((HBB.out.far (by simpa using hBR) _).set_ 0 _).set_ 1 _)
        have HR3 := hid (show Rd W3 R V u from hW3 ▸ ((HR2.out.put u).far (by simpa using hRB) (by simpa using hVB) _).far (by simpa using hRB) (by simpa using hVB) _)
        have HO3 := hid (show Only R w W3 from hW3 ▸ only_new (only_new (HO2.out.set_ 0 _) (by simp; omega) _) (by simp; omega) _)
        rw [hW3]
        clear hW3
        have e0 : W3.cell? ⟨B, 0, none⟩ = some (.int .i64 2) := HB3.out.cell 0
        have e1 : W3.cell? ⟨B, 1, none⟩ = some (.int .i64 0) := HB3.out.cell 1
        exact bodyPost_ret (v := .agg #[.int .i64 2, .int .i64 0]) (by simp [results, Tryd.results28, go_sem, e0, e1]) rfl ⟨by rw [HF.out], u, by rw [HF.out], HR3.out, HO3.out⟩
    · have hdi := isE_zero hde
      have hdn : PP.dg u.data.toList = [] := by
        rw [← hd]
        exact List.eq_nil_of_length_eq_zero (by rw [← Utf.size_eq]; omega)
      have HF := hid (HA.out.2.symm.trans (ix_wrong HA.out.1 (Or.inl hdn)))
      clear hdn hd hu2
      go_wp2_with fail
      obtain ⟨W3, hW3⟩ : ∃ W3, ((W2.setCell ⟨R, 0, none⟩ (.string u)).setCell ⟨B, 0, none⟩ (.int .i64 2)).setCell ⟨B, 1, none⟩ (.int .i64 0) = W3 := ⟨_, rfl⟩
      have HB3 := hid (show Blk W3 B #[.int .i64 2, .int .i64 0] 36 from hW3 ▸ ((HBB.out.far (by simpa using hBR) _).set_ 0 _).set_ 1 _)
      have HR3 := hid (show Rd W3 R V u from hW3 ▸ ((HR2.out.put u).far (by simpa using hRB) (by simpa using hVB) _).far (by simpa using hRB) (by simpa using hVB) _)
      have HO3 := hid (show Only R w W3 from hW3 ▸ only_new (only_new (HO2.out.set_ 0 _) (by simp; omega) _) (by simp; omega) _)
      rw [hW3]
      clear hW3
      have e0 : W3.cell? ⟨B, 0, none⟩ = some (.int .i64 2) := HB3.out.cell 0
      have e1 : W3.cell? ⟨B, 1, none⟩ = some (.int .i64 0) := HB3.out.cell 1
      exact bodyPost_ret (v := .agg #[.int .i64 2, .int .i64 0]) (by simp [results, Tryd.results28, go_sem, e0, e1]) rfl ⟨by rw [HF.out], u, by rw [HF.out], HR3.out, HO3.out⟩
  · obtain ⟨F, hF⟩ : ∃ F, PP.ixL t.data.toList = F := ⟨_, rfl⟩
    have e : F = (⟨0, 0⟩, t.data.toList) := by
      rw [← hF]
      unfold PP.ixL
      split
      · rename_i e; rw [e]
      · rename_i a r e
        rw [if_neg (by rw [e] at hc; simp only [PP.pk] at hc; omega), e]
    rw [hF, e]
    clear hF e
    obtain ⟨c, hcc⟩ : ∃ c, PP.pk t.data.toList = c := ⟨_, rfl⟩
    have PK := hid (peek_any R V t)
    simp only [hcc] at PK hc
    clear hcc h
    go_enter Tryd.func28, Tryd.ntmps28
    go_wp2_with fail
    refine (PK.out _ (HR.out.alloc _)).mono ?_
    rintro e w' ⟨rfl, rfl⟩
    go_wp2_with fail
    refine bodyPost_ret (v := .agg #[.int .i64 0, .int .i64 0]) (by simp [results, Tryd.results28, go_sem]) rfl ⟨rfl, t, rfl, HR.out.alloc _, (Only.refl _ _).alloc _⟩
end Go.Proofs.YtmfhoindfhmncaaDoor
