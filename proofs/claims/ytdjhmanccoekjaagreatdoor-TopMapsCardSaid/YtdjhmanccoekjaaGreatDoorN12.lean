/-
  Texts of this claim, joined: P4, P5, P6, P7, P8, P8b, P8c.
-/
import Derived.Deep.RegionHeld3
import Derived.Deep.QuietTactic
import Derived.BigQuiet
import Derived.BigRegion
import Derived.RegionTactic
import Derived.ChangeAlike
import Derived.Deep.RegionWith
import Derived.Deep.MidRow
import Derived.Great.BuildSlice
import Derived.Deep.CutBlock
import Derived.Deep.Cut
import Derived.Test.YtdjhmanccoekjaaGreatDoorN11

section
namespace Go.Proofs.YtdjhmanccoekjaaGreatDoor.PR
open Go.RowKit Go.Proofs

abbrev ixV (x : PP.Ix) : Value := .agg #[.int .i64 x.k, .int .i64 x.n]
abbrev nmV (x : PP.Nm) : Value := .agg #[.int .i64 x.k, .int .i64 x.n, .int .i64 x.a.k, .int .i64 x.a.n]

/-- The cell of a result that lives on the heap. -/
theorem spoilt_any (x : PP.Ix) (w : World) : Calls Tryz.prog 103 #[ixV x] w fun e w' => e = .returned (ixV (PP.spoil x)) ∧ Below w.heap.size w w' := by
  obtain ⟨k, n⟩ := x
  unfold PP.spoil
  by_cases h : k = 0
  · subst h
    go_enter Tryz.func103, Tryz.ntmps103
    go_wp2_with fail
    refine bodyPost_ret (v := .agg #[.int .i64 0, .int .i64 n]) (by simp [results, Tryz.results103, go_sem]) rfl ⟨?_, ?_⟩
    · simp
    · exact ((Below.refl _ _).alloc (Nat.le_refl _) _).alloc (by simp) _
  · go_enter Tryz.func103, Tryz.ntmps103
    go_wp2_with fail
    refine bodyPost_ret (v := .agg #[.int .i64 2, .int .i64 0]) (by simp [results, Tryz.results103, go_sem]) rfl ⟨?_, ?_⟩
    · simp
    · exact ((Below.refl _ _).alloc (Nat.le_refl _) _).alloc (by simp) _

theorem and_any (x y : PP.Ix) (w : World) : Calls Tryz.prog 104 #[ixV x, ixV y] w fun e w' => e = .returned (ixV (PP.andI x y)) ∧ Below w.heap.size w w' := by
  obtain ⟨k, n⟩ := x
  obtain ⟨l, m⟩ := y
  unfold PP.andI
  by_cases hl : l = 0
  · subst hl
    go_enter Tryz.func104, Tryz.ntmps104
    go_wp2_with fail
    refine bodyPost_ret (v := .agg #[.int .i64 k, .int .i64 n]) (by simp [results, Tryz.results104, go_sem]) rfl ⟨?_, ?_⟩
    · simp
    · exact (((Below.refl _ _).alloc (Nat.le_refl _) _).alloc (by simp) _).alloc (by simp; omega) _
  · by_cases hk : k = 0
    · subst hk
      go_enter Tryz.func104, Tryz.ntmps104
      go_wp2_with fail
      refine bodyPost_ret (v := .agg #[.int .i64 l, .int .i64 m]) (by simp [results, Tryz.results104, go_sem]) rfl ⟨?_, ?_⟩
      · simp
      · exact (((Below.refl _ _).alloc (Nat.le_refl _) _).alloc (by simp) _).alloc (by simp; omega) _
    · go_enter Tryz.func104, Tryz.ntmps104
      go_wp2_with fail
      refine bodyPost_ret (v := .agg #[.int .i64 2, .int .i64 0]) (by simp [results, Tryz.results104, go_sem]) rfl ⟨?_, ?_⟩
      · simp
      · exact (((Below.refl _ _).alloc (Nat.le_refl _) _).alloc (by simp) _).alloc (by simp; omega) _

/-- A fresh row may be set. -/
theorem Below.put_new {B : Nat} {a w : World} (h : Below B a w) {p : Addr} (hp : B ≤ p.block) (u : Value) : Below B a (w.setCell p u) := h.setCell hp u

theorem ix_head {t : ByteArray} (h : PP.pk t.data.toList = 91) : ∃ a : UInt8, a.toNat = 91 ∧ t.data.toList = a :: (t.extract 1 t.size).data.toList := by
  obtain ⟨a, r, e⟩ := list_of_pos (pk_pos (t := t) (by omega))
  refine ⟨a, ?_, ?_⟩
  · rw [e] at h
    simp only [PP.pk] at h
    omega
  · rw [ext_drop, e]; rfl
theorem ix_wrong {a : UInt8} {r : List UInt8} (h : a.toNat = 91) (hd : PP.dg r = [] ∨ PP.pk (PP.rs r) ≠ 93) : PP.ixL (a :: r) = (⟨2, 0⟩, r) := by
  unfold PP.ixL
  simp only []
  rw [if_pos h]
  split
  · rfl
  · rename_i hne
    split
    · rfl
    · rename_i b q e
      rw [e] at hd
      simp only [PP.pk] at hd
      rw [if_neg (by rcases hd with hd | hd; exact absurd hd hne; omega)]
theorem ix_closed {a : UInt8} {r : List UInt8} (h : a.toNat = 91) (hd : ¬ PP.dg r = []) (hp : PP.pk (PP.rs r) = 93) :
    PP.ixL (a :: r) = (if 0 < PP.valL 999999999 0 (PP.dg r) ∧ (PP.dg r).length ≤ 9 then (⟨1, PP.valL 999999999 0 (PP.dg r)⟩, (PP.rs r).drop 1) else (⟨2, 0⟩, (PP.rs r).drop 1)) := by
  unfold PP.ixL
  simp only []
  rw [if_pos h, if_neg hd]
  cases e : PP.rs r with
  | nil => rw [e] at hp; simp [PP.pk] at hp
  | cons b q =>
    rw [e] at hp
    simp only [PP.pk] at hp
    simp only []
    rw [if_pos (by omega)]
    rfl
theorem only_new {R : Nat} {a c : World} (h : Only R a c) {p : Addr} (hp : a.heap.size ≤ p.block) (u : Value) : Only R a (c.setCell p u) :=
  ⟨h.os, h.tape, h.output, by simpa [World.setCell] using h.size, fun k hk hb => (Below.heap_setCell c p u k (by omega)).trans (h.block k hk hb)⟩
theorem valL_ge : ∀ (l : List UInt8) (limit n : Int), 0 ≤ n → n ≤ limit → AllD l → -1 ≤ PP.valL limit n l ∧ PP.valL limit n l ≤ limit
  | [], limit, n, h, h2, _ => by unfold PP.valL; omega
  | a :: t, limit, n, h, h2, ha => by
    rw [valL_cons]
    have := ha a List.mem_cons_self
    split
    · omega
    · exact valL_ge t limit _ (by omega) (by omega) (fun b hb => ha b (List.mem_cons_of_mem _ hb))
theorem size_list {d : ByteArray} {l : List UInt8} (h : d.data.toList = l) : d.size = l.length := by rw [Utf.size_eq, h]

set_option maxRecDepth 100000 in
set_option maxHeartbeats 4000000 in
theorem index_any (R V : Nat) (t : ByteArray) (w : World) (h : Rd w R V t) (hs : t.size ≤ 140737488355328) :
    Calls Tryz.prog 102 #[.pointer (some ⟨R, 0, none⟩)] w fun e w' => e = .returned (ixV (PP.ixL t.data.toList).1) ∧ ∃ t', t'.data.toList = (PP.ixL t.data.toList).2 ∧ Rd w' R V t' ∧ Only R w w' := by
  have hr0 : w.cell? ⟨R, 0, none⟩ = some (.string t) := h.1.cell 0
  have hr1 : w.cell? ⟨R, 1, none⟩ = some (clo V) := h.1.cell 1
  have hfr : ∀ i, w.frozen? ⟨R, i, none⟩ = false := h.1.frozen
  have hR : R < w.heap.size := h.1.lt
  have hV : V < w.heap.size := h.2.lt
  have HR := hid h
  have PK := hid (peek_any R V)
  by_cases hc : PP.pk t.data.toList = 91
  · obtain ⟨a, ha, hta⟩ := ix_head hc
    have hpos : 0 < t.size := pk_pos (by omega)
    obtain ⟨u, hu⟩ : ∃ u, t.extract 1 t.size = u := ⟨_, rfl⟩
    have hus : u.size ≤ 140737488355328 := by rw [← hu]; simp; omega
    rw [hu] at hta
    have PK0 := hid (peek_any R V t)
    simp only [hc] at PK0
    rw [hta]
    obtain ⟨F, hF⟩ : ∃ F, PP.ixL (a :: u.data.toList) = F := ⟨_, rfl⟩
    rw [hF]
    have HA := hid (And.intro ha hF)
    clear ha hta hc h hF
    have DG := hid (fun W hW => digits_any R V u W hW hus)
    have NB := hid (fun d W h1 h2 => number_any d 999999999 W h1 (by decide) h2)
    go_enter Tryz.func102, Tryz.ntmps102
    go_wp2_with fail
    refine (PK0.out _ (HR.out.alloc _)).mono ?_
    rintro e w' ⟨rfl, rfl⟩
    go_wp2_with fail
    obtain ⟨W1, hW1⟩ : ∃ W1, (w.setCell ⟨R, 0, none⟩ (.string u)).alloc (.cells #[.int .i64 0, .int .i64 0] 96) = W1 := ⟨_, rfl⟩
    have HR1 : Rd W1 R V u := hW1 ▸ (HR.out.put u).alloc _
    have HO1 : Only R w W1 := hW1 ▸ ((Only.refl R w).set_ 0 _).alloc _
    have HB1 : Blk W1 w.heap.size #[.int .i64 0, .int .i64 0] 96 := by
      rw [← hW1]
      have := Blk.new (w.setCell ⟨R, 0, none⟩ (.string u)) #[.int .i64 0, .int .i64 0] 96
      simpa using this
    rw [hW1]
    refine (DG.out _ HR1).mono ?_
    rintro e W2 ⟨d, rfl, hd, u2, hu2, hr2, ho2⟩
    obtain ⟨B, hB⟩ : ∃ B, w.heap.size = B := ⟨_, rfl⟩
    rw [hB] at HB1 hR hV ⊢
    have HB2 := HB1.same (ho2.block B HB1.lt (by omega))
    have HO2 := hid (HO1.trans ho2)
    have hb0 : W2.cell? ⟨B, 0, none⟩ = some (.int .i64 0) := HB2.cell 0
    have hb1 : W2.cell? ⟨B, 1, none⟩ = some (.int .i64 0) := HB2.cell 1
    have hbf : ∀ i, W2.frozen? ⟨B, i, none⟩ = false := HB2.frozen
    have hq0 : W2.cell? ⟨R, 0, none⟩ = some (.string u2) := hr2.1.cell 0
    have hq1 : W2.cell? ⟨R, 1, none⟩ = some (clo V) := hr2.1.cell 1
    have hqf : ∀ i, W2.frozen? ⟨R, i, none⟩ = false := hr2.1.frozen
    have hBR : B ≠ R := by omega
    have hRB : R ≠ B := by omega
    have hVB : V ≠ B := by omega
    have HR2 := hid hr2
    have HBB := hid HB2
    have PK2 := hid (peek_any R V u2)
    clear hr0 hr1 hfr hW1 HR1 HO1 HB1 ho2 hr2 HB2
    by_cases hde : 0 < d.size
    · have hdi := isE_pos hde
      have hdn : ¬ PP.dg u.data.toList = [] := by
        intro e
        rw [← hd] at e
        have := size_list e
        rw [List.length_nil] at this
        omega
      by_cases hc2 : PP.pk u2.data.toList = 93
      · have HF := hid (HA.out.2.symm.trans (ix_closed HA.out.1 hdn (hu2 ▸ hc2)))
        simp only [hc2] at PK2
        have hpos2 : 0 < u2.size := pk_pos (by omega)
        obtain ⟨u3, hu3⟩ : ∃ u3, u2.extract 1 u2.size = u3 := ⟨_, rfl⟩
        have HU3 := hid (show u3.data.toList = (PP.rs u.data.toList).drop 1 by rw [← hu3, ext_drop, hu2])
        have hds : d.size = (PP.dg u.data.toList).length := size_list hd
        have hdsl : d.size ≤ 140737488355328 := by
          have h1 := congrArg List.length (PP.dg_rs u.data.toList)
          rw [List.length_append, ← Utf.size_eq] at h1
          omega
        have NB2 := hid (fun W => number_any d 999999999 W hdsl (by decide) (hd ▸ allD_dg _))
        rw [hd] at NB2
        have hvl := valL_ge (PP.dg u.data.toList) 999999999 0 (Int.le_refl _) (by decide) (allD_dg _)
        obtain ⟨v, hv⟩ : ∃ v, PP.valL 999999999 0 (PP.dg u.data.toList) = v := ⟨_, rfl⟩
        rw [hv] at NB2 HF hvl
        rw [← hds] at HF
        clear hdn hd hu2 hc2 hv hds
        go_wp2_with fail
        refine (PK2.out _ HR2.out).mono ?_
        rintro e w' ⟨rfl, rfl⟩
        go_wp2_with fail
        refine (NB2.out _).mono ?_
        rintro e W4 ⟨rfl, hb4⟩
        have HR4 := hid ((HR2.out.put u3).below hb4)
        have HB4 := hid ((HBB.out.far (p := ⟨R, 0, none⟩) (by simpa using hBR) (.string u3)).below hb4 (by simpa using HBB.out.lt))
        have HO4 := hid ((HO2.out.set_ 0 (.string u3)).trans (Only.of_below hb4))
        have hb0 : W4.cell? ⟨B, 0, none⟩ = some (.int .i64 0) := HB4.out.cell 0
        have hb1 : W4.cell? ⟨B, 1, none⟩ = some (.int .i64 0) := HB4.out.cell 1
        have hbf : ∀ i, W4.frozen? ⟨B, i, none⟩ = false := HB4.out.frozen
        clear hb4
        by_cases h1 : 0 < v
        · by_cases h2 : d.size ≤ 9
          · have HF := hid (HF.out.trans (if_pos ⟨h1, h2⟩))
            go_wp2_with fail
            obtain ⟨W5, hW5⟩ : ∃ W5, (W4.setCell ⟨B, 0, none⟩ (.int .i64 1)).setCell ⟨B, 1, none⟩ (.int .i64 v) = W5 := ⟨_, rfl⟩
            have HB5 := hid (show Blk W5 B #[.int .i64 1, .int .i64 v] 96 from hW5 ▸ (HB4.out.set_ 0 _).set_ 1 _)
            have HR5 := hid (show Rd W5 R V u3 from hW5 ▸ (HR4.out.far (by simpa using hRB) (by simpa using hVB) _).far (by simpa using hRB) (by simpa using hVB) _)
            have HO5 := hid (show Only R w W5 from hW5 ▸ only_new (only_new HO4.out (by simp; omega) _) (by simp; omega) _)
            rw [hW5]
            clear hW5
            have e0 : W5.cell? ⟨B, 0, none⟩ = some (.int .i64 1) := HB5.out.cell 0
            have e1 : W5.cell? ⟨B, 1, none⟩ = some (.int .i64 v) := HB5.out.cell 1
            exact bodyPost_ret (v := .agg #[.int .i64 1, .int .i64 v]) (by simp [results, Tryz.results102, go_sem, e0, e1]) rfl ⟨by rw [HF.out], u3, by rw [HF.out]; exact HU3.out, HR5.out, HO5.out⟩
          · have HF := hid (HF.out.trans (if_neg (fun h => h2 h.2)))
            go_wp2_with fail
            obtain ⟨W5, hW5⟩ : ∃ W5, (W4.setCell ⟨B, 0, none⟩ (.int .i64 2)).setCell ⟨B, 1, none⟩ (.int .i64 0) = W5 := ⟨_, rfl⟩
            have HB5 := hid (show Blk W5 B #[.int .i64 2, .int .i64 0] 96 from hW5 ▸ (HB4.out.set_ 0 _).set_ 1 _)
            have HR5 := hid (show Rd W5 R V u3 from hW5 ▸ (HR4.out.far (by simpa using hRB) (by simpa using hVB) _).far (by simpa using hRB) (by simpa using hVB) _)
            have HO5 := hid (show Only R w W5 from hW5 ▸ only_new (only_new HO4.out (by simp; omega) _) (by simp; omega) _)
            rw [hW5]
            clear hW5
            have e0 : W5.cell? ⟨B, 0, none⟩ = some (.int .i64 2) := HB5.out.cell 0
            have e1 : W5.cell? ⟨B, 1, none⟩ = some (.int .i64 0) := HB5.out.cell 1
            exact bodyPost_ret (v := .agg #[.int .i64 2, .int .i64 0]) (by simp [results, Tryz.results102, go_sem, e0, e1]) rfl ⟨by rw [HF.out], u3, by rw [HF.out]; exact HU3.out, HR5.out, HO5.out⟩
        · have HF := hid (HF.out.trans (if_neg (fun h => h1 h.1)))
          go_wp2_with fail
          obtain ⟨W5, hW5⟩ : ∃ W5, (W4.setCell ⟨B, 0, none⟩ (.int .i64 2)).setCell ⟨B, 1, none⟩ (.int .i64 0) = W5 := ⟨_, rfl⟩
          have HB5 := hid (show Blk W5 B #[.int .i64 2, .int .i64 0] 96 from hW5 ▸ (HB4.out.set_ 0 _).set_ 1 _)
          have HR5 := hid (show Rd W5 R V u3 from hW5 ▸ (HR4.out.far (by simpa using hRB) (by simpa using hVB) _).far (by simpa using hRB) (by simpa using hVB) _)
          have HO5 := hid (show Only R w W5 from hW5 ▸ only_new (only_new HO4.out (by simp; omega) _) (by simp; omega) _)
          rw [hW5]
          clear hW5
          have e0 : W5.cell? ⟨B, 0, none⟩ = some (.int .i64 2) := HB5.out.cell 0
          have e1 : W5.cell? ⟨B, 1, none⟩ = some (.int .i64 0) := HB5.out.cell 1
          exact bodyPost_ret (v := .agg #[.int .i64 2, .int .i64 0]) (by simp [results, Tryz.results102, go_sem, e0, e1]) rfl ⟨by rw [HF.out], u3, by rw [HF.out]; exact HU3.out, HR5.out, HO5.out⟩
      · have HF := hid (HA.out.2.symm.trans (ix_wrong HA.out.1 (Or.inr (hu2 ▸ hc2))))
        obtain ⟨c, hcc⟩ : ∃ c, PP.pk u2.data.toList = c := ⟨_, rfl⟩
        simp only [hcc] at PK2 hc2
        clear hdn hd hu2 hcc
        go_wp2_with fail
        refine (PK2.out _ HR2.out).mono ?_
        rintro e w' ⟨rfl, rfl⟩
        go_wp2_with fail
        obtain ⟨W3, hW3⟩ : ∃ W3, ((W2.setCell ⟨R, 0, none⟩ (.string u)).setCell ⟨B, 0, none⟩ (.int .i64 2)).setCell ⟨B, 1, none⟩ (.int .i64 0) = W3 := ⟨_, rfl⟩
        have HB3 := hid (show Blk W3 B #[.int .i64 2, .int .i64 0] 96 from hW3 ▸ ((HBB.out.far (by simpa using hBR) _).set_ 0 _).set_ 1 _)
        have HR3 := hid (show Rd W3 R V u from hW3 ▸ ((HR2.out.put u).far (by simpa using hRB) (by simpa using hVB) _).far (by simpa using hRB) (by simpa using hVB) _)
        have HO3 := hid (show Only R w W3 from hW3 ▸ only_new (only_new (HO2.out.set_ 0 _) (by simp; omega) _) (by simp; omega) _)
        rw [hW3]
        clear hW3
        have e0 : W3.cell? ⟨B, 0, none⟩ = some (.int .i64 2) := HB3.out.cell 0
        have e1 : W3.cell? ⟨B, 1, none⟩ = some (.int .i64 0) := HB3.out.cell 1
        exact bodyPost_ret (v := .agg #[.int .i64 2, .int .i64 0]) (by simp [results, Tryz.results102, go_sem, e0, e1]) rfl ⟨by rw [HF.out], u, by rw [HF.out], HR3.out, HO3.out⟩
    · have hdi := isE_zero hde
      have hdn : PP.dg u.data.toList = [] := by
        rw [← hd]
        exact List.eq_nil_of_length_eq_zero (by rw [← Utf.size_eq]; omega)
      have HF := hid (HA.out.2.symm.trans (ix_wrong HA.out.1 (Or.inl hdn)))
      clear hdn hd hu2
      go_wp2_with fail
      obtain ⟨W3, hW3⟩ : ∃ W3, ((W2.setCell ⟨R, 0, none⟩ (.string u)).setCell ⟨B, 0, none⟩ (.int .i64 2)).setCell ⟨B, 1, none⟩ (.int .i64 0) = W3 := ⟨_, rfl⟩
      have HB3 := hid (show Blk W3 B #[.int .i64 2, .int .i64 0] 96 from hW3 ▸ ((HBB.out.far (by simpa using hBR) _).set_ 0 _).set_ 1 _)
      have HR3 := hid (show Rd W3 R V u from hW3 ▸ ((HR2.out.put u).far (by simpa using hRB) (by simpa using hVB) _).far (by simpa using hRB) (by simpa using hVB) _)
      have HO3 := hid (show Only R w W3 from hW3 ▸ only_new (only_new (HO2.out.set_ 0 _) (by simp; omega) _) (by simp; omega) _)
      rw [hW3]
      clear hW3
      have e0 : W3.cell? ⟨B, 0, none⟩ = some (.int .i64 2) := HB3.out.cell 0
      have e1 : W3.cell? ⟨B, 1, none⟩ = some (.int .i64 0) := HB3.out.cell 1
      exact bodyPost_ret (v := .agg #[.int .i64 2, .int .i64 0]) (by simp [results, Tryz.results102, go_sem, e0, e1]) rfl ⟨by rw [HF.out], u, by rw [HF.out], HR3.out, HO3.out⟩
  · obtain ⟨F, hF⟩ : ∃ F, PP.ixL t.data.toList = F := ⟨_, rfl⟩
    have e : F = (⟨0, 0⟩, t.data.toList) := by
      rw [← hF]
      unfold PP.ixL
      split
      · rename_i e; rw [e]
      · rename_i a r e
        rw [if_neg (by rw [e] at hc; simp only [PP.pk] at hc; omega), e]
    rw [hF, e]
    clear hF e
    obtain ⟨c, hcc⟩ : ∃ c, PP.pk t.data.toList = c := ⟨_, rfl⟩
    have PK := hid (peek_any R V t)
    simp only [hcc] at PK hc
    clear hcc h
    go_enter Tryz.func102, Tryz.ntmps102
    go_wp2_with fail
    refine (PK.out _ (HR.out.alloc _)).mono ?_
    rintro e w' ⟨rfl, rfl⟩
    go_wp2_with fail
    refine bodyPost_ret (v := .agg #[.int .i64 0, .int .i64 0]) (by simp [results, Tryz.results102, go_sem]) rfl ⟨rfl, t, rfl, HR.out.alloc _, (Only.refl _ _).alloc _⟩
end Go.Proofs.YtdjhmanccoekjaaGreatDoor.PR
end

section
namespace Go.Proofs.YtdjhmanccoekjaaGreatDoor.PR
open Go.RowKit Go.Proofs

/-- What holds while a number is read: the reader, the parameter's block, the two results' blocks. -/
structure St (w : World) (R V B C D : Nat) (xk xn : Int) (W : World) (u : ByteArray) : Prop where
  rd : Rd W R V u
  only : Only R w W
  b : Blk W B #[.int .i64 xk, .int .i64 xn] 96
  c : Blk W C #[.int .i64 0, .int .i64 0, .int .i64 0, .int .i64 0] 98
  d : Blk W D #[.int .i64 0, .int .i64 0] 96
def Cl (B C D : Nat) (xk xn : Int) (W : World) : Prop :=
  W.cell? ⟨B, 0, none⟩ = some (.int .i64 xk) ∧ W.cell? ⟨B, 1, none⟩ = some (.int .i64 xn) ∧ W.cell? ⟨C, 0, none⟩ = some (.int .i64 0) ∧ W.cell? ⟨C, 1, none⟩ = some (.int .i64 0) ∧ W.cell? ⟨C, 2, none⟩ = some (.int .i64 0) ∧ W.cell? ⟨C, 3, none⟩ = some (.int .i64 0) ∧
    W.cell? ⟨D, 0, none⟩ = some (.int .i64 0) ∧ W.cell? ⟨D, 1, none⟩ = some (.int .i64 0) ∧ (∀ i, W.frozen? ⟨C, i, none⟩ = false) ∧ (∀ i, W.frozen? ⟨D, i, none⟩ = false)
section
variable {w : World} {R V B C D : Nat} {xk xn : Int} {W : World} {u : ByteArray}
theorem St.cl (h : St w R V B C D xk xn W u) : Cl B C D xk xn W :=
  ⟨h.b.cell 0, h.b.cell 1, h.c.cell 0, h.c.cell 1, h.c.cell 2, h.c.cell 3, h.d.cell 0, h.d.cell 1, h.c.frozen, h.d.frozen⟩
theorem St.drew (h : St w R V B C D xk xn W u) : St w R V B C D xk xn W.drew u := ⟨h.rd.drew, h.only.drew, h.b, h.c, h.d⟩
theorem St.below (h : St w R V B C D xk xn W u) {W' : World} (hb : Below W.heap.size W W') : St w R V B C D xk xn W' u :=
  ⟨h.rd.below hb, h.only.trans (Only.of_below hb), h.b.below hb h.b.lt, h.c.below hb h.c.lt, h.d.below hb h.d.lt⟩
theorem St.moved (h : St w R V B C D xk xn W u) (nb : B ≠ R) (nc : C ≠ R) (nd : D ≠ R) {W' : World} {u' : ByteArray} (hr : Rd W' R V u') (ho : Only R W W') : St w R V B C D xk xn W' u' :=
  ⟨hr, h.only.trans ho, h.b.same (ho.block _ h.b.lt nb), h.c.same (ho.block _ h.c.lt nc), h.d.same (ho.block _ h.d.lt nd)⟩
end
/-- The two results are laid. -/
theorem bytes_ext {a b : ByteArray} (h : a.data.toList = b.data.toList) : a = b := by
  cases a; cases b; simp only at h; congr; exact Array.ext' h
theorem num_ends {w : World} {R V B C D : Nat} {xk xn : Int} {W : World} {u : ByteArray} (h : St w R V B C D xk xn W u) (n2 : R ≠ C) (n3 : R ≠ D) (n5 : V ≠ C) (n6 : V ≠ D) (n9 : C ≠ D) (hC : w.heap.size ≤ C) (hD : w.heap.size ≤ D) (k n ak an jk jn : Int) {W' : World}
    (hW : (((((W.setCell ⟨C, 0, none⟩ (.int .i64 k)).setCell ⟨C, 1, none⟩ (.int .i64 n)).setCell ⟨C, 2, none⟩ (.int .i64 ak)).setCell ⟨C, 3, none⟩ (.int .i64 an)).setCell ⟨D, 0, none⟩ (.int .i64 jk)).setCell ⟨D, 1, none⟩ (.int .i64 jn) = W') :
    (W'.cell? ⟨C, 0, none⟩ = some (.int .i64 k) ∧ W'.cell? ⟨C, 1, none⟩ = some (.int .i64 n) ∧ W'.cell? ⟨C, 2, none⟩ = some (.int .i64 ak) ∧ W'.cell? ⟨C, 3, none⟩ = some (.int .i64 an) ∧ W'.cell? ⟨D, 0, none⟩ = some (.int .i64 jk) ∧ W'.cell? ⟨D, 1, none⟩ = some (.int .i64 jn)) ∧ Rd W' R V u ∧ Only R w W' := by
  have hc : Blk W' C #[.int .i64 k, .int .i64 n, .int .i64 ak, .int .i64 an] 98 := hW ▸ ((((((h.c.set_ 0 _).set_ 1 _).set_ 2 _).set_ 3 _).far (by simpa using n9) _).far (by simpa using n9) _)
  have hd : Blk W' D #[.int .i64 jk, .int .i64 jn] 96 := hW ▸ ((((((h.d.far (by simpa using n9.symm) _).far (by simpa using n9.symm) _).far (by simpa using n9.symm) _).far (by simpa using n9.symm) _).set_ 0 _).set_ 1 _)
  have hr : Rd W' R V u := hW ▸ ((((((h.rd.far n2 n5 _).far n2 n5 _).far n2 n5 _).far n2 n5 _).far n3 n6 _).far n3 n6 _)
  have ho : Only R w W' := hW ▸ only_new (only_new (only_new (only_new (only_new (only_new h.only hC _) hC _) hC _) hC _) hD _) hD _
  exact ⟨⟨hc.cell 0, hc.cell 1, hc.cell 2, hc.cell 3, hd.cell 0, hd.cell 1⟩, hr, ho⟩

set_option maxRecDepth 100000 in
set_option maxHeartbeats 4000000 in
theorem num_any (R V : Nat) (t : ByteArray) (x : PP.Ix) (al : Bool) (w : World) (h : Rd w R V t) (hs : t.size ≤ 140737488355328) :
    Calls Tryz.prog 101 #[.pointer (some ⟨R, 0, none⟩), ixV x, .bool al] w fun e w' => e = .returned (.tuple #[nmV (PP.nmL x al t.data.toList).1, ixV (PP.nmL x al t.data.toList).2.1]) ∧
      ∃ t', t'.data.toList = (PP.nmL x al t.data.toList).2.2 ∧ Rd w' R V t' ∧ Only R w w' := by
  obtain ⟨xk, xn⟩ := x
  have hr0 : w.cell? ⟨R, 0, none⟩ = some (.string t) := h.1.cell 0
  have hr1 : w.cell? ⟨R, 1, none⟩ = some (clo V) := h.1.cell 1
  have hfr : ∀ i, w.frozen? ⟨R, i, none⟩ = false := h.1.frozen
  have hR : R < w.heap.size := h.1.lt
  have hV : V < w.heap.size := h.2.lt
  have hR1 : R < w.heap.size + 1 := by omega
  have hR2 : R < w.heap.size + 1 + 1 := by omega
  have HR := hid h
  obtain ⟨F, hF⟩ : ∃ F, PP.nmL ⟨xk, xn⟩ al t.data.toList = F := ⟨_, rfl⟩
  rw [hF]
  have HF := hid hF
  have PK := hid (peek_any R V t)
  have hpb := pk_bound t.data.toList
  have hpos' := hid (@pk_pos t)
  unfold PP.nmL at HF
  obtain ⟨c, hcc⟩ : ∃ c, PP.pk t.data.toList = c := ⟨_, rfl⟩
  simp only [hcc] at PK HF hpb hpos'
  clear hF h
  go_enter Tryz.func101, Tryz.ntmps101
  go_wp2_with fail
  obtain ⟨W1, hW1⟩ : ∃ W1, ((w.alloc (.cells #[.int .i64 xk, .int .i64 xn] 96)).alloc (.cells #[.int .i64 0, .int .i64 0, .int .i64 0, .int .i64 0] 98)).alloc (.cells #[.int .i64 0, .int .i64 0] 96) = W1 := ⟨_, rfl⟩
  have HR1 : Rd W1 R V t := hW1 ▸ ((HR.out.alloc _).alloc _).alloc _
  have HO1 : Only R w W1 := hW1 ▸ (((Only.refl R w).alloc _).alloc _).alloc _
  obtain ⟨B, hB⟩ : ∃ B, w.heap.size = B := ⟨_, rfl⟩
  have HB1 : Blk W1 B #[.int .i64 xk, .int .i64 xn] 96 := by
    rw [← hW1, ← hB]
    exact ((Blk.new _ _ _).alloc _).alloc _
  have HC1 : Blk W1 (B + 1) #[.int .i64 0, .int .i64 0, .int .i64 0, .int .i64 0] 98 := by
    rw [← hW1, ← hB]
    have := Blk.new (w.alloc (.cells #[.int .i64 xk, .int .i64 xn] 96)) #[.int .i64 0, .int .i64 0, .int .i64 0, .int .i64 0] 98
    rw [show (w.alloc (.cells #[.int .i64 xk, .int .i64 xn] 96)).heap.size = w.heap.size + 1 by simp] at this
    exact this.alloc _
  have HD1 : Blk W1 (B + 1 + 1) #[.int .i64 0, .int .i64 0] 96 := by
    rw [← hW1, ← hB]
    have := Blk.new ((w.alloc (.cells #[.int .i64 xk, .int .i64 xn] 96)).alloc (.cells #[.int .i64 0, .int .i64 0, .int .i64 0, .int .i64 0] 98)) #[.int .i64 0, .int .i64 0] 96
    rw [show ((w.alloc (.cells #[.int .i64 xk, .int .i64 xn] 96)).alloc (.cells #[.int .i64 0, .int .i64 0, .int .i64 0, .int .i64 0] 98)).heap.size = w.heap.size + 1 + 1 by simp] at this
    exact this
  rw [hW1, hB]
  obtain ⟨C, hC⟩ : ∃ C, B + 1 = C := ⟨_, rfl⟩
  rw [hC] at HC1 HD1 ⊢
  obtain ⟨D, hD⟩ : ∃ D, C + 1 = D := ⟨_, rfl⟩
  rw [hD] at HD1 ⊢
  have hN : R ≠ B ∧ R ≠ C ∧ R ≠ D ∧ V ≠ B ∧ V ≠ C ∧ V ≠ D ∧ B ≠ C ∧ B ≠ D ∧ C ≠ D ∧ B ≠ R ∧ C ≠ R ∧ D ≠ R ∧ C ≠ B ∧ D ≠ B ∧ D ≠ C := by omega
  have hG := hid (show w.heap.size ≤ B ∧ w.heap.size ≤ C ∧ w.heap.size ≤ D by omega)
  clear hW1 hr0 hr1 hfr hR hV hR1 hR2 hB hC hD
  refine (PK.out _ HR1).mono ?_
  rintro e w' ⟨rfl, rfl⟩
  have cr0 : W1.cell? ⟨R, 0, none⟩ = some (.string t) := HR1.1.cell 0
  have cr1 : W1.cell? ⟨R, 1, none⟩ = some (clo V) := HR1.1.cell 1
  have cb0 : W1.cell? ⟨B, 0, none⟩ = some (.int .i64 xk) := HB1.cell 0
  have cb1 : W1.cell? ⟨B, 1, none⟩ = some (.int .i64 xn) := HB1.cell 1
  have cc0 : W1.cell? ⟨C, 0, none⟩ = some (.int .i64 0) := HC1.cell 0
  have cc1 : W1.cell? ⟨C, 1, none⟩ = some (.int .i64 0) := HC1.cell 1
  have cc2 : W1.cell? ⟨C, 2, none⟩ = some (.int .i64 0) := HC1.cell 2
  have cc3 : W1.cell? ⟨C, 3, none⟩ = some (.int .i64 0) := HC1.cell 3
  have cd0 : W1.cell? ⟨D, 0, none⟩ = some (.int .i64 0) := HD1.cell 0
  have cd1 : W1.cell? ⟨D, 1, none⟩ = some (.int .i64 0) := HD1.cell 1
  have fr : ∀ i, W1.frozen? ⟨R, i, none⟩ = false := HR1.1.frozen
  have fc : ∀ i, W1.frozen? ⟨C, i, none⟩ = false := HC1.frozen
  have fd : ∀ i, W1.frozen? ⟨D, i, none⟩ = false := HD1.frozen
  have S1 := hid (St.mk (xk := xk) (xn := xn) HR1 HO1 HB1 HC1 HD1)
  clear HR1 HO1 HC1 HD1 HB1
  obtain ⟨n1, n2, n3, n4, n5, n6, n7, n8, n9, n10, n11, n12, n13, n14, n15⟩ := hN
  obtain ⟨d, hd0⟩ : ∃ d : ByteArray, d.data.toList = PP.dg t.data.toList := ⟨⟨(PP.dg t.data.toList).toArray⟩, by simp⟩
  obtain ⟨u, hu0⟩ : ∃ u : ByteArray, u.data.toList = PP.rs t.data.toList := ⟨⟨(PP.rs t.data.toList).toArray⟩, by simp⟩
  have hds : d.size ≤ 140737488355328 := by
    have h1 := congrArg List.length (PP.dg_rs t.data.toList)
    rw [List.length_append, ← Utf.size_eq] at h1
    rw [size_list hd0]
    omega
  have DG := hid (fun (W : World) (hW : St w R V B C D xk xn W t) => (digits_any R V t W hW.rd hs).mono (R' := fun e W' => e = .returned (.string d) ∧ St w R V B C D xk xn W' u ∧ Cl B C D xk xn W') (by
    rintro e W' ⟨d', rfl, hd', u', hu', hr', ho'⟩
    have e1 : d' = d := bytes_ext (hd'.trans hd0.symm)
    have e2 : u' = u := bytes_ext (hu'.trans hu0.symm)
    subst e1 e2
    have := hW.moved n10 n11 n12 hr' ho'
    exact ⟨rfl, this, this.cl⟩))
  obtain ⟨v, hv⟩ : ∃ v, PP.valL 1000 0 (PP.dg t.data.toList) = v := ⟨_, rfl⟩
  have NB := hid (fun (W : World) (z : ByteArray) (hW : St w R V B C D xk xn W z) => (number_any d 1000 W hds (by decide) (hd0 ▸ allD_dg _)).mono (R' := fun e W' => e = .returned (.int .i64 v) ∧ St w R V B C D xk xn W' z ∧ Cl B C D xk xn W') (by
    rintro e W' ⟨rfl, hb⟩
    rw [hd0, hv]
    exact ⟨rfl, hW.below hb, (hW.below hb).cl⟩))
  obtain ⟨⟨jk, jn⟩, hj⟩ : ∃ j, PP.spoil ⟨xk, xn⟩ = j := ⟨_, rfl⟩
  have SP := hid (fun (W : World) (z : ByteArray) (hW : St w R V B C D xk xn W z) => (spoilt_any ⟨xk, xn⟩ W).mono (R' := fun e W' => e = .returned (.agg #[.int .i64 jk, .int .i64 jn]) ∧ St w R V B C D xk xn W' z ∧ Cl B C D xk xn W') (by
    rintro e W' ⟨rfl, hb⟩
    rw [hj]
    exact ⟨rfl, hW.below hb, (hW.below hb).cl⟩))
  have HU := hid hu0
  rw [hv, hj] at HF
  clear hd0 hu0 hv hj hds
  have S0 : St w R V B C D xk xn W1.drew t := S1.out.drew
  by_cases hc : c = 42
  · subst hc
    have hpos : 0 < t.size := hpos'.out (by omega)
    obtain ⟨u, hu⟩ : ∃ u, t.extract 1 t.size = u := ⟨_, rfl⟩
    have HU := hid (show u.data.toList = t.data.toList.drop 1 by rw [← hu, ext_drop])
    have HZ := hid (show F = (⟨2, 0, ⟨xk, xn⟩⟩, ⟨0, 0⟩, t.data.toList.drop 1) by rw [← HF.out, if_pos rfl])
    clear HF
    have S2 := hid (St.moved S1.out n10 n11 n12 (S1.out.rd.put u) ((Only.refl R W1).set_ 0 _))
    go_wp2_with fail
    obtain ⟨W5, hW5⟩ : ∃ W5, ((((((W1.setCell ⟨R, 0, none⟩ (.string u)).setCell ⟨C, 0, none⟩ (.int .i64 (2))).setCell ⟨C, 1, none⟩ (.int .i64 (0))).setCell ⟨C, 2, none⟩ (.int .i64 (xk))).setCell ⟨C, 3, none⟩ (.int .i64 (xn))).setCell ⟨D, 0, none⟩ (.int .i64 (0))).setCell ⟨D, 1, none⟩ (.int .i64 (0)) = W5 := ⟨_, rfl⟩
    have HE := num_ends S2.out n2 n3 n5 n6 n9 hG.out.2.1 hG.out.2.2 _ _ _ _ _ _ hW5
    rw [hW5]
    obtain ⟨⟨e0, e1, e2, e3, e4, e5⟩, hre, hoe⟩ := HE
    clear hW5
    exact bodyPost_ret (v := .tuple #[.agg #[.int .i64 (2), .int .i64 (0), .int .i64 (xk), .int .i64 (xn)], .agg #[.int .i64 (0), .int .i64 (0)]]) (by simp [results, Tryz.results101, go_sem, e0, e1, e2, e3, e4, e5]) rfl ⟨by rw [HZ.out], u, by rw [HZ.out]; exact HU.out, hre, hoe⟩
  · have HF := hid (HF.out.symm.trans (if_neg hc))
    by_cases hd : 49 ≤ c ∧ c ≤ 57
    · have HZ := hid (show F = (⟨1, v, ⟨0, 0⟩⟩, ⟨jk, jn⟩, PP.rs t.data.toList) by rw [HF.out, if_pos (Or.inl hd)])
      clear HF
      obtain ⟨hd1, hd2⟩ := hd
      go_wp2_with fail
      go_region_with (first | (go_at_call 133; refine (DG.out _ (by assumption)).mono ?_; rintro e w9 ⟨rfl, st, k1, k2, k3, k4, k5, k6, k7, k8, k9, k10⟩) | (go_at_call 132; refine (NB.out _ _ (by assumption)).mono ?_; rintro e w9 ⟨rfl, st, k1, k2, k3, k4, k5, k6, k7, k8, k9, k10⟩) | (go_at_call 103; refine (SP.out _ _ (by assumption)).mono ?_; rintro e w9 ⟨rfl, st, k1, k2, k3, k4, k5, k6, k7, k8, k9, k10⟩))
      all_goals (
        go_wp2_with fail
        obtain ⟨W5, hW5⟩ : ∃ W5, (((((w9.setCell ⟨C, 0, none⟩ (.int .i64 1)).setCell ⟨C, 1, none⟩ (.int .i64 v)).setCell ⟨C, 2, none⟩ (.int .i64 0)).setCell ⟨C, 3, none⟩ (.int .i64 0)).setCell ⟨D, 0, none⟩ (.int .i64 jk)).setCell ⟨D, 1, none⟩ (.int .i64 jn) = W5 := ⟨_, rfl⟩
        have HE := num_ends st n2 n3 n5 n6 n9 hG.out.2.1 hG.out.2.2 _ _ _ _ _ _ hW5
        rw [hW5]
        obtain ⟨⟨e0, e1, e2, e3, e4, e5⟩, hre, hoe⟩ := HE
        clear hW5
        exact bodyPost_ret (v := .tuple #[.agg #[.int .i64 1, .int .i64 v, .int .i64 0, .int .i64 0], .agg #[.int .i64 jk, .int .i64 jn]]) (by simp [results, Tryz.results101, go_sem, e0, e1, e2, e3, e4, e5]) rfl ⟨by rw [HZ.out], u, by rw [HZ.out]; exact HU.out, hre, hoe⟩)
    · by_cases hz : al = true
      · subst hz
        by_cases hz : c = 48
        · have HZ := hid (show F = (⟨1, v, ⟨0, 0⟩⟩, ⟨jk, jn⟩, PP.rs t.data.toList) by rw [HF.out, if_pos (Or.inr ⟨rfl, hz⟩)])
          clear HF
          subst hz
          go_wp2_with fail
          go_region_with (first | (go_at_call 133; refine (DG.out _ (by assumption)).mono ?_; rintro e w9 ⟨rfl, st, k1, k2, k3, k4, k5, k6, k7, k8, k9, k10⟩) | (go_at_call 132; refine (NB.out _ _ (by assumption)).mono ?_; rintro e w9 ⟨rfl, st, k1, k2, k3, k4, k5, k6, k7, k8, k9, k10⟩) | (go_at_call 103; refine (SP.out _ _ (by assumption)).mono ?_; rintro e w9 ⟨rfl, st, k1, k2, k3, k4, k5, k6, k7, k8, k9, k10⟩))
          all_goals (
            go_wp2_with fail
            obtain ⟨W5, hW5⟩ : ∃ W5, (((((w9.setCell ⟨C, 0, none⟩ (.int .i64 1)).setCell ⟨C, 1, none⟩ (.int .i64 v)).setCell ⟨C, 2, none⟩ (.int .i64 0)).setCell ⟨C, 3, none⟩ (.int .i64 0)).setCell ⟨D, 0, none⟩ (.int .i64 jk)).setCell ⟨D, 1, none⟩ (.int .i64 jn) = W5 := ⟨_, rfl⟩
            have HE := num_ends st n2 n3 n5 n6 n9 hG.out.2.1 hG.out.2.2 _ _ _ _ _ _ hW5
            rw [hW5]
            obtain ⟨⟨e0, e1, e2, e3, e4, e5⟩, hre, hoe⟩ := HE
            clear hW5
            exact bodyPost_ret (v := .tuple #[.agg #[.int .i64 1, .int .i64 v, .int .i64 0, .int .i64 0], .agg #[.int .i64 jk, .int .i64 jn]]) (by simp [results, Tryz.results101, go_sem, e0, e1, e2, e3, e4, e5]) rfl ⟨by rw [HZ.out], u, by rw [HZ.out]; exact HU.out, hre, hoe⟩)
        · have HZ := hid (show F = (⟨1, 0, ⟨0, 0⟩⟩, ⟨xk, xn⟩, t.data.toList) by rw [HF.out, if_neg (by rintro (h | h); exact hd h; exact hz h.2), if_pos rfl])
          clear HF
          rcases (show c < 49 ∨ 57 < c by omega) with hlo | hlo
          · go_wp2_with fail
            go_region
            go_wp2_with fail
            obtain ⟨W5, hW5⟩ : ∃ W5, (((((W1.setCell ⟨C, 0, none⟩ (.int .i64 (1))).setCell ⟨C, 1, none⟩ (.int .i64 (0))).setCell ⟨C, 2, none⟩ (.int .i64 (0))).setCell ⟨C, 3, none⟩ (.int .i64 (0))).setCell ⟨D, 0, none⟩ (.int .i64 (xk))).setCell ⟨D, 1, none⟩ (.int .i64 (xn)) = W5 := ⟨_, rfl⟩
            have HE := num_ends S1.out n2 n3 n5 n6 n9 hG.out.2.1 hG.out.2.2 _ _ _ _ _ _ hW5
            rw [hW5]
            obtain ⟨⟨e0, e1, e2, e3, e4, e5⟩, hre, hoe⟩ := HE
            clear hW5
            exact bodyPost_ret (v := .tuple #[.agg #[.int .i64 (1), .int .i64 (0), .int .i64 (0), .int .i64 (0)], .agg #[.int .i64 (xk), .int .i64 (xn)]]) (by simp [results, Tryz.results101, go_sem, e0, e1, e2, e3, e4, e5]) rfl ⟨by rw [HZ.out], t, by rw [HZ.out], hre.drew, hoe.drew⟩
          · go_wp2_with fail
            go_region
            go_wp2_with fail
            obtain ⟨W5, hW5⟩ : ∃ W5, (((((W1.setCell ⟨C, 0, none⟩ (.int .i64 (1))).setCell ⟨C, 1, none⟩ (.int .i64 (0))).setCell ⟨C, 2, none⟩ (.int .i64 (0))).setCell ⟨C, 3, none⟩ (.int .i64 (0))).setCell ⟨D, 0, none⟩ (.int .i64 (xk))).setCell ⟨D, 1, none⟩ (.int .i64 (xn)) = W5 := ⟨_, rfl⟩
            have HE := num_ends S1.out n2 n3 n5 n6 n9 hG.out.2.1 hG.out.2.2 _ _ _ _ _ _ hW5
            rw [hW5]
            obtain ⟨⟨e0, e1, e2, e3, e4, e5⟩, hre, hoe⟩ := HE
            clear hW5
            exact bodyPost_ret (v := .tuple #[.agg #[.int .i64 (1), .int .i64 (0), .int .i64 (0), .int .i64 (0)], .agg #[.int .i64 (xk), .int .i64 (xn)]]) (by simp [results, Tryz.results101, go_sem, e0, e1, e2, e3, e4, e5]) rfl ⟨by rw [HZ.out], t, by rw [HZ.out], hre.drew, hoe.drew⟩
      · have hz : al = false := by simpa using hz
        subst hz
        have HZ := hid (show F = (⟨0, 0, ⟨0, 0⟩⟩, ⟨xk, xn⟩, t.data.toList) by rw [HF.out, if_neg (by rintro (h | h); exact hd h; exact absurd h.1 (by decide)), if_neg (by decide)])
        clear HF
        rcases (show c < 49 ∨ 57 < c by omega) with hlo | hlo
        · go_wp2_with fail
          go_region
          go_wp2_with fail
          obtain ⟨W5, hW5⟩ : ∃ W5, (((((W1.setCell ⟨C, 0, none⟩ (.int .i64 (0))).setCell ⟨C, 1, none⟩ (.int .i64 (0))).setCell ⟨C, 2, none⟩ (.int .i64 (0))).setCell ⟨C, 3, none⟩ (.int .i64 (0))).setCell ⟨D, 0, none⟩ (.int .i64 (xk))).setCell ⟨D, 1, none⟩ (.int .i64 (xn)) = W5 := ⟨_, rfl⟩
          have HE := num_ends S1.out n2 n3 n5 n6 n9 hG.out.2.1 hG.out.2.2 _ _ _ _ _ _ hW5
          rw [hW5]
          obtain ⟨⟨e0, e1, e2, e3, e4, e5⟩, hre, hoe⟩ := HE
          clear hW5
          exact bodyPost_ret (v := .tuple #[.agg #[.int .i64 (0), .int .i64 (0), .int .i64 (0), .int .i64 (0)], .agg #[.int .i64 (xk), .int .i64 (xn)]]) (by simp [results, Tryz.results101, go_sem, e0, e1, e2, e3, e4, e5]) rfl ⟨by rw [HZ.out], t, by rw [HZ.out], hre.drew, hoe.drew⟩
        · go_wp2_with fail
          go_region
          go_wp2_with fail
          obtain ⟨W5, hW5⟩ : ∃ W5, (((((W1.setCell ⟨C, 0, none⟩ (.int .i64 (0))).setCell ⟨C, 1, none⟩ (.int .i64 (0))).setCell ⟨C, 2, none⟩ (.int .i64 (0))).setCell ⟨C, 3, none⟩ (.int .i64 (0))).setCell ⟨D, 0, none⟩ (.int .i64 (xk))).setCell ⟨D, 1, none⟩ (.int .i64 (xn)) = W5 := ⟨_, rfl⟩
          have HE := num_ends S1.out n2 n3 n5 n6 n9 hG.out.2.1 hG.out.2.2 _ _ _ _ _ _ hW5
          rw [hW5]
          obtain ⟨⟨e0, e1, e2, e3, e4, e5⟩, hre, hoe⟩ := HE
          clear hW5
          exact bodyPost_ret (v := .tuple #[.agg #[.int .i64 (0), .int .i64 (0), .int .i64 (0), .int .i64 (0)], .agg #[.int .i64 (xk), .int .i64 (xn)]]) (by simp [results, Tryz.results101, go_sem, e0, e1, e2, e3, e4, e5]) rfl ⟨by rw [HZ.out], t, by rw [HZ.out], hre.drew, hoe.drew⟩
end Go.Proofs.YtdjhmanccoekjaaGreatDoor.PR
end

section
namespace Go.Proofs.YtdjhmanccoekjaaGreatDoor.PR
open Go.RowKit Go.Proofs

def setMany (cs : Array Value) (o : Nat) : List Value → Array Value
  | [] => cs
  | v :: r => setMany (cs.setIfInBounds o v) (o + 1) r
theorem setMany_size : ∀ (vs : List Value) (o : Nat) (cs : Array Value), (setMany cs o vs).size = cs.size
  | [], o, cs => rfl
  | v :: r, o, cs => by rw [setMany, setMany_size r]; simp
theorem setMany_get : ∀ (vs : List Value) (o : Nat) (cs : Array Value) (i : Nat), o + vs.length ≤ cs.size → (setMany cs o vs)[i]? = if o ≤ i ∧ i < o + vs.length then vs[i - o]? else cs[i]?
  | [], o, cs, i, h => by rw [setMany, if_neg (by simp only [List.length_nil]; omega)]
  | v :: r, o, cs, i, h => by
    simp only [List.length_cons] at h
    rw [setMany, setMany_get r (o + 1) _ i (by simp; omega)]
    simp only [List.length_cons]
    by_cases e : i = o
    · subst e
      rw [if_neg (by omega), if_pos (by omega), Nat.sub_self, List.getElem?_cons_zero, Array.getElem?_setIfInBounds_self_of_lt (by omega)]
    · by_cases h1 : o + 1 ≤ i ∧ i < o + 1 + r.length
      · rw [if_pos h1, if_pos (by omega), show i - o = (i - (o + 1)) + 1 by omega, List.getElem?_cons_succ]
      · rw [if_neg h1, if_neg (by omega), Array.getElem?_setIfInBounds_ne (by omega)]
theorem setMany_whole (cs : Array Value) (vs : List Value) (h : vs.length = cs.size) : setMany cs 0 vs = vs.toArray := by
  apply Array.ext_getElem?
  intro i
  rw [setMany_get vs 0 cs i (by omega)]
  simp only [Nat.zero_le, true_and, Nat.zero_add, Nat.sub_zero, List.getElem?_toArray]
  split
  · rfl
  · rw [Array.getElem?_eq_none (by omega), List.getElem?_eq_none (by omega)]
theorem Blk.setCells {g : Nat} {t : TypeId} : ∀ (vs : List Value) (o : Nat) (W : World) (cs : Array Value), Blk W g cs t → Blk (W.setCells g o vs) g (setMany cs o vs) t
  | [], _, _, _, h => h
  | v :: r, o, W, cs, h => by rw [World.setCells]; exact Blk.setCells r (o + 1) _ _ (h.set_ o v)
theorem setCells_far {g k : Nat} (hk : k ≠ g) : ∀ (vs : List Value) (o : Nat) (W : World), (W.setCells g o vs).heap[k]? = W.heap[k]?
  | [], _, _ => rfl
  | v :: r, o, W => by rw [World.setCells, setCells_far hk r]; exact Below.heap_setCell W _ v k hk
theorem setCells_rest (g : Nat) : ∀ (vs : List Value) (o : Nat) (W : World), (W.setCells g o vs).os = W.os ∧ (W.setCells g o vs).tape = W.tape ∧ (W.setCells g o vs).output = W.output ∧ (W.setCells g o vs).heap.size = W.heap.size
  | [], _, _ => ⟨rfl, rfl, rfl, rfl⟩
  | v :: r, o, W => by
    rw [World.setCells]
    obtain ⟨h1, h2, h3, h4⟩ := setCells_rest g r (o + 1) (W.setCell ⟨g, o, none⟩ v)
    exact ⟨h1, h2, h3, by rw [h4]; simp [World.setCell]⟩
theorem Blk.there {W : World} {g : Nat} {cs : Array Value} {t : TypeId} (h : Blk W g cs t) (o n : Nat) (hn : o + n ≤ cs.size) : W.there g o n := fun j hj => ⟨by rw [h.cell, Array.getElem?_eq_getElem (by omega)]; rfl, h.frozen _⟩
theorem Only.setCells {R : Nat} {a c : World} (h : Only R a c) (g : Nat) (hg : a.heap.size ≤ g ∨ g = R) (vs : List Value) (o : Nat) : Only R a (c.setCells g o vs) := by
  obtain ⟨h1, h2, h3, h4⟩ := setCells_rest g vs o c
  exact ⟨h1.trans h.os, h2.trans h.tape, h3.trans h.output, by rw [h4]; exact h.size, fun k hk hb => (setCells_far (by omega) vs o c).trans (h.block k hk hb)⟩
theorem below_setCells {B : Nat} {a c : World} (h : Below B a c) (g : Nat) (hg : B ≤ g) (vs : List Value) (o : Nat) : Below B a (c.setCells g o vs) := by
  obtain ⟨h1, h2, h3, h4⟩ := setCells_rest g vs o c
  exact ⟨h1.trans h.os, h2.trans h.tape, h3.trans h.output, by rw [h4]; exact h.size, fun k hk => (setCells_far (by omega) vs o c).trans (h.block k hk)⟩
theorem Blk.setRow {W : World} {g : Nat} {cs : Array Value} {t : TypeId} (h : Blk W g cs t) (vs : Array Value) : Blk (W.setRow g vs) g vs t := by
  unfold Blk at h ⊢
  simp [World.setRow, Array.getElem?_modify, h]
theorem setRow_far {g k : Nat} (hk : k ≠ g) (W : World) (vs : Array Value) : (W.setRow g vs).heap[k]? = W.heap[k]? := by
  simp [World.setRow, Array.getElem?_modify, Ne.symm hk]
theorem setRow_size (g : Nat) (W : World) (vs : Array Value) : (W.setRow g vs).heap.size = W.heap.size := by simp [World.setRow]
theorem Blk.row_far {W : World} {g k : Nat} {cs : Array Value} {t : TypeId} (h : Blk W k cs t) (hk : k ≠ g) (vs : Array Value) : Blk (W.setRow g vs) k cs t := (setRow_far hk W vs).trans h
theorem below_setRow {B : Nat} {a c : World} (h : Below B a c) (g : Nat) (hg : B ≤ g) (vs : Array Value) : Below B a (c.setRow g vs) :=
  ⟨h.os, h.tape, h.output, by rw [setRow_size]; exact h.size, fun k hk => (setRow_far (by omega) c vs).trans (h.block k hk)⟩
/-- A block's whole value is stored. -/
theorem store_whole (ty : TypeId) (W : World) (g : Nat) (cs vs : Array Value) (h : Blk W g cs ty) (hs : vs.size = cs.size) (hi : (Tryz.prog.info? ty).map (·.size) = some vs.size) (h1 : vs.all (·.oneCell') = true) :
    (Instr.storeAt ty (.pointer (some ⟨g, 0, none⟩)) (.agg vs)).run Tryz.prog W = .ok () (W.setCells g 0 vs.toList) ∧ Blk (W.setCells g 0 vs.toList) g vs ty := by
  refine ⟨run_storeAt_mid W g 0 ty vs (h.there 0 _ (by omega)) hi h1, ?_⟩
  have := h.setCells vs.toList 0 W cs
  rw [setMany_whole cs vs.toList (by simpa using hs)] at this
  simpa using this
/-- A block's whole value is read. -/
theorem load_whole (ty : TypeId) (d : TypeDesc) (W : World) (g : Nat) (cs : Array Value) (h : Blk W g cs ty) (hu : Tryz.prog.underlying ty = some d) (hd : d.isRow = true) (hi : (Tryz.prog.info? ty).map (·.size) = some cs.size) :
    (Instr.loadAt ty (.pointer (some ⟨g, 0, none⟩))).run Tryz.prog W = .ok (.agg cs) W := by
  have := run_loadAt_mid (P := Tryz.prog) W g 0 ty cs.toList d (fun j v hv => by rw [Nat.zero_add, h.cell]; simpa using hv) hu hd (by simpa using hi)
  simpa using this

/-- A piece's cells. -/
abbrev pcs (k : Int) (text : ByteArray) (f : PP.Fl) (verb : Int) (w p : PP.Nm) (a : PP.Ix) : Array Value :=
  #[.int .i64 k, .string text, .bool f.pl, .bool f.mi, .bool f.sh, .bool f.sp, .bool f.ze, .int .i64 (-1), .int .i64 (-1), .int .i32 verb, .int .i64 w.k, .int .i64 w.n, .int .i64 w.a.k, .int .i64 w.a.n, .int .i64 p.k, .int .i64 p.n, .int .i64 p.a.k, .int .i64 p.a.n, .int .i64 a.k, .int .i64 a.n]
/-- A fresh piece's cells. -/
abbrev pc0 : Array Value := #[.int .i64 0, .string ⟨#[]⟩, .bool false, .bool false, .bool false, .bool false, .bool false, .int .i64 0, .int .i64 0, .int .i32 0, .int .i64 0, .int .i64 0, .int .i64 0, .int .i64 0, .int .i64 0, .int .i64 0, .int .i64 0, .int .i64 0, .int .i64 0, .int .i64 0]
theorem piece_size : (Tryz.prog.info? 100).map (·.size) = some 20 := by kernel_rfl
theorem pcs_one (k : Int) (text : ByteArray) (f : PP.Fl) (verb : Int) (w p : PP.Nm) (a : PP.Ix) : (pcs k text f verb w p a).all (·.oneCell') = true := by simp [pcs, Value.oneCell']
theorem build_spec (w : World) : (Instr.build 94 #[(5, .int .i64 (-1)), (6, .int .i64 (-1))]).run Tryz.prog w = .ok (.agg #[.bool false, .bool false, .bool false, .bool false, .bool false, .int .i64 (-1), .int .i64 (-1), .int .i32 0]) w := run_build w _ _ _ (by kernel_rfl)
theorem build_piece (w : World) : (Instr.build 100 #[(0, .int .i64 2), (2, .agg #[.bool false, .bool false, .bool false, .bool false, .bool false, .int .i64 (-1), .int .i64 (-1), .int .i32 0])]).run Tryz.prog w = .ok (.agg (pcs 2 ⟨#[]⟩ ⟨false, false, false, false, false⟩ 0 ⟨0, 0, ⟨0, 0⟩⟩ ⟨0, 0, ⟨0, 0⟩⟩ ⟨0, 0⟩)) w := run_build w _ _ _ (by kernel_rfl)
end Go.Proofs.YtdjhmanccoekjaaGreatDoor.PR
end

section
namespace Go.Proofs.YtdjhmanccoekjaaGreatDoor.PR
open Go.RowKit Go.Proofs

abbrev fl0 : PP.Fl := ⟨false, false, false, false, false⟩
abbrev nm0 : PP.Nm := ⟨0, 0, ⟨0, 0⟩⟩
abbrev ix0 : PP.Ix := ⟨0, 0⟩

/-- What holds within a directive: the reader at t, the piece's cells, the result's block untouched. -/
structure Ds (w : World) (R V P Q : Nat) (W : World) (t : ByteArray) (cs : Array Value) : Prop where
  rd : Rd W R V t
  below : Below w.heap.size w W
  p : Blk W P cs 100
  q : Blk W Q pc0 100
structure Dn (w : World) (R V P Q : Nat) : Prop where
  r : w.heap.size ≤ R
  v : w.heap.size ≤ V
  p : w.heap.size ≤ P
  q : w.heap.size ≤ Q
  rp : R ≠ P
  rq : R ≠ Q
  vp : V ≠ P
  vq : V ≠ Q
  pq : P ≠ Q
section
variable {w : World} {R V P Q : Nat} {W W' : World} {t t' : ByteArray} {cs : Array Value}
theorem Ds.moved (h : Ds w R V P Q W t cs) (n : Dn w R V P Q) (hr : Rd W' R V t') (ho : Only R W W') : Ds w R V P Q W' t' cs :=
  ⟨hr, h.below.trans (ho.below h.below.size n.r), h.p.same (ho.block _ h.p.lt n.rp.symm), h.q.same (ho.block _ h.q.lt n.rq.symm)⟩
theorem Ds.calm (h : Ds w R V P Q W t cs) (hb : Below W.heap.size W W') : Ds w R V P Q W' t cs :=
  ⟨h.rd.below hb, h.below.trans (hb.mono h.below.size), h.p.below hb h.p.lt, h.q.below hb h.q.lt⟩
theorem Ds.drew (h : Ds w R V P Q W t cs) : Ds w R V P Q W.drew t cs := ⟨h.rd.drew, h.below.drew, h.p, h.q⟩
theorem Ds.alloc (h : Ds w R V P Q W t cs) (o : Obj) : Ds w R V P Q (W.alloc o) t cs := ⟨h.rd.alloc o, h.below.alloc h.below.size o, h.p.alloc o, h.q.alloc o⟩
theorem Ds.set_ (h : Ds w R V P Q W t cs) (n : Dn w R V P Q) (i : Nat) (u : Value) : Ds w R V P Q (W.setCell ⟨P, i, none⟩ u) t (cs.setIfInBounds i u) :=
  ⟨h.rd.far n.rp n.vp u, h.below.setCell n.p u, h.p.set_ i u, h.q.far n.pq.symm u⟩
theorem Ds.put (h : Ds w R V P Q W t cs) (n : Dn w R V P Q) (u : ByteArray) : Ds w R V P Q (W.setCell ⟨R, 0, none⟩ (.string u)) u cs :=
  ⟨h.rd.put u, h.below.setCell n.r _, h.p.far n.rp.symm _, h.q.far n.rq.symm _⟩
end

end Go.Proofs.YtdjhmanccoekjaaGreatDoor.PR
end

section
namespace Go.Proofs.YtdjhmanccoekjaaGreatDoor.PR
open Go.RowKit Go.Proofs

def dropSeq : Nat → Code → Code
  | 0, c => c
  | k + 1, .seq _ b => dropSeq k b
  | _, c => c
noncomputable def dtail (k : Nat) : Code := dropSeq k (Tryz.f68.body.getD .skip)

/-- A directive's cells. -/
abbrev pcV (p : PP.Pc) (text : ByteArray) : Array Value :=
  #[.int .i64 p.k, .string text, .bool p.f.pl, .bool p.f.mi, .bool p.f.sh, .bool p.f.sp, .bool p.f.ze, .int .i64 p.wid, .int .i64 p.prec, .int .i32 p.verb, .int .i64 p.w.k, .int .i64 p.w.n, .int .i64 p.w.a.k, .int .i64 p.w.a.n, .int .i64 p.p.k, .int .i64 p.p.n, .int .i64 p.p.a.k, .int .i64 p.p.a.n, .int .i64 p.a.k, .int .i64 p.a.n]

set_option maxRecDepth 1000000 in
set_option maxHeartbeats 400000 in
/-- The text, and the return. -/
theorem dtail14 (POST : Ending → World → Prop) (s t : ByteArray) (w W : World) (R V P Q : Nat) (n : Dn w R V P Q) (k vb : Int) (f : PP.Fl) (nw np : PP.Nm) (a : PP.Ix) (S : Ds w R V P Q W t (pcs k ⟨#[]⟩ f vb nw np a))
    (hs : s.size ≤ 140737488355328) (ht : t.size ≤ s.size)
    (hpost : ∀ (text : ByteArray) (W' : World), text.data.toList = 37 :: s.data.toList.take (s.size - t.size) → Below w.heap.size w W' → POST (.returned (.tuple #[.agg (pcs k text f vb nw np a), .string t])) W')
    (z6 z7 z8 z9 z10 z11 z12 z13 z14 z15 z16 z17 z18 z19 z20 z21 z22 z23 z24 z25 z26 z27 z28 z29 z30 z31 z32 z33 z34 z35 z36 z37 z38 z39 z40 z41 z42 z43 z44 z45 z46 z47 z48 z49 z50 z51 z52 z53 z54 z55 z56 z57 z58 z59 z60 z61 z62 z63 z64 z65 z66 z67 z68 z69 z70 z71 z72 z73 z74 z75 z76 z77 z78 z79 z80 z81 z82 z83 z84 z85 z86 z87 z88 z89 z90 z91 z92 z93 z94 z95 z96 z97 z98 z99 z100 z101 z102 z103 z104 z105 z106 : Value) :
    Code.wp Tryz.prog (dtail 8) (bodyPost Tryz.prog Tryz.f68 POST) ⟨#[.string s, undef, .pointer (some ⟨Q, 0, none⟩), .string ⟨#[]⟩, .pointer (some ⟨P, 0, none⟩), .pointer (some ⟨R, 0, none⟩), z6, z7, z8, z9, z10, z11, z12, z13, z14, z15, z16, z17, z18, z19, z20, z21, z22, z23, z24, z25, z26, z27, z28, z29, z30, z31, z32, z33, z34, z35, z36, z37, z38, z39, z40, z41, z42, z43, z44, z45, z46, z47, z48, z49, z50, z51, z52, z53, z54, z55, z56, z57, z58, z59, z60, z61, z62, z63, z64, z65, z66, z67, z68, z69, z70, z71, z72, z73, z74, z75, z76, z77, z78, z79, z80, z81, z82, z83, z84, z85, z86, z87, z88, z89, z90, z91, z92, z93, z94, z95, z96, z97, z98, z99, z100, z101, z102, z103, z104, z105, z106], []⟩ W := by
  conv => arg 2; whnf
  have S0 := hid S
  have hp1 : W.cell? ⟨P, 1, none⟩ = some (.string ⟨#[]⟩) := S.p.cell 1
  have hpf : ∀ i, W.frozen? ⟨P, i, none⟩ = false := S.p.frozen
  have hq0 : W.cell? ⟨R, 0, none⟩ = some (.string t) := S.rd.1.cell 0
  have hRP : R ≠ P := n.rp
  have hPR : P ≠ R := n.rp.symm
  clear S
  go_wp2_with fail
  obtain ⟨text, htx⟩ : ∃ text : ByteArray, (⟨#[37]⟩ : ByteArray) ++ s.extract 0 (s.size - t.size) = text := ⟨_, rfl⟩
  have TX := hid (show text.data.toList = 37 :: s.data.toList.take (s.size - t.size) from by
    rw [← htx, ByteArray.data_append, Array.toList_append, ext_take]; rfl)
  rw [htx]
  obtain ⟨W1, hW1⟩ : ∃ W1, W.setCell ⟨P, 1, none⟩ (.string text) = W1 := ⟨_, rfl⟩
  have S1 := hid (show Ds w R V P Q W1 t (pcs k text f vb nw np a) from hW1 ▸ S0.out.set_ n 1 _)
  rw [hW1]
  clear hW1 htx hp1 hpf hq0 S0
  refine wp_region_held_drew (S := fun w' => Rd w' R V t ∧ Below w.heap.size w w' ∧ Blk w' P (pcs k text f vb nw np a) 100 ∧ ∃ qc : Array Value, qc.size = 20 ∧ Blk w' Q qc 100) (by kernel_rfl) ⟨S1.out.rd.drew, S1.out.below.drew, S1.out.p, pc0, rfl, S1.out.q⟩ (fun hH => ?_)
  refine wpAnyH_take (i := 0) (fuel := 6) (v := _) rfl (by kernel_rfl) (by kernel_rfl) (by kernel_rfl) (fun _ _ _ h => h) (yieldsIf_load_mid (by rfl) 100 (.tmp 4) rfl P 0 rfl (pcs k text f vb nw np a).toList _ (fun w' h => fun j v hv => by rw [Nat.zero_add, h.2.2.1.cell]; simpa using hv) Tryz.underlying100 rfl piece_size) hH ?_
  simp only [Act.put, List.getElem_toArray, List.getElem_cons_zero, List.setIfInBounds_toArray, List.set_cons_zero, List.set_cons_succ]
  refine wpAnyH_take (i := 1) (fuel := 5) (v := .pointer (some ⟨R, 0, none⟩)) rfl (by kernel_rfl) (by kernel_rfl) (by kernel_rfl) (fun _ _ _ h => h) (Or.inl ⟨by rfl, by intro w' hw; go_simp⟩) hH ?_
  simp only [Act.put, List.getElem_toArray, List.getElem_cons_zero, List.getElem_cons_succ, List.setIfInBounds_toArray, List.set_cons_zero, List.set_cons_succ]
  refine wpAnyH_take (i := 2) (fuel := 4) (v := .pointer (some ⟨R, 0, none⟩)) rfl (by kernel_rfl) (by kernel_rfl) (by kernel_rfl) (fun _ _ _ h => h) (Or.inl ⟨by rfl, by intro w' hw; go_simp⟩) hH ?_
  simp only [Act.put, List.getElem_toArray, List.getElem_cons_zero, List.getElem_cons_succ, List.setIfInBounds_toArray, List.set_cons_zero, List.set_cons_succ]
  refine wpAnyH_take (i := 3) (fuel := 3) (v := .pointer (some ⟨R, 0, none⟩)) rfl (by kernel_rfl) (by kernel_rfl) (by kernel_rfl) (fun _ _ _ h => h) (Or.inl ⟨by rfl, by intro w' hw; go_simp⟩) hH ?_
  simp only [Act.put, List.getElem_toArray, List.getElem_cons_zero, List.getElem_cons_succ, List.setIfInBounds_toArray, List.set_cons_zero, List.set_cons_succ]
  refine wpAnyH_take (i := 4) (fuel := 2) (v := .string t) rfl (by kernel_rfl) (by kernel_rfl) (by kernel_rfl) (fun _ _ _ h => h) (Or.inl ⟨by rfl, by intro w' hw; have hq : w'.cell? ⟨R, 0, none⟩ = some (.string t) := hw.1.1.cell 0; go_simp⟩) hH ?_
  simp only [Act.put, List.getElem_toArray, List.getElem_cons_zero, List.getElem_cons_succ, List.setIfInBounds_toArray, List.set_cons_zero, List.set_cons_succ]
  refine wpAnyH_ready (fuel := 1) (rs := [5]) (by kernel_rfl) (by simp) ?_
  refine AllReadyH.cons rfl (fun K hK => ?_) AllReadyH.nil
  rw [if_pos (by rfl)]
  refine wp_store_mid 100 (.tmp 2) (.tmp 102) rfl Q 0 (pcs k text f vb nw np a) rfl rfl (Blk.there S1.out.q 0 20 (by decide)) piece_size (pcs_one _ _ _ _ _ _ _) ?_
  obtain ⟨W2, hW2⟩ : ∃ W2, W1.drew.setCells Q 0 (pcs k text f vb nw np a).toList = W2 := ⟨_, rfl⟩
  have S3 : Rd W2 R V t ∧ Below w.heap.size w W2 ∧ Blk W2 P (pcs k text f vb nw np a) 100 ∧ Blk W2 Q (pcs k text f vb nw np a) 100 := by
    subst hW2
    have hb := Blk.setCells (pcs k text f vb nw np a).toList 0 W1.drew pc0 S1.out.q
    rw [setMany_whole pc0 (pcs k text f vb nw np a).toList rfl] at hb
    exact ⟨⟨S1.out.rd.1.same (setCells_far n.rq _ _ _), S1.out.rd.2.same (setCells_far n.vq _ _ _)⟩, below_setCells S1.out.below.drew Q n.q _ _, S1.out.p.same (setCells_far n.pq _ _ _), hb⟩
  rw [hW2]
  clear hW2
  simp only [Act.put, List.getElem_toArray, List.getElem_cons_zero, List.getElem_cons_succ]
  refine hK.out _ _ ⟨S3.1, S3.2.1, S3.2.2.1, _, rfl, S3.2.2.2⟩ (fun hH2 => ?_)
  refine wpAnyH_take (i := 6) (fuel := 0) (v := .string t) rfl (by kernel_rfl) (by kernel_rfl) (by kernel_rfl) (fun _ _ _ h => h) (Or.inl ⟨by rfl, by intro w' hw; go_simp⟩) hH2 ?_
  simp only [Act.put, List.getElem_toArray, List.getElem_cons_zero, List.getElem_cons_succ, List.setIfInBounds_toArray, List.set_cons_zero, List.set_cons_succ]
  refine wpAnyH_done (by kernel_rfl) ?_ _
  clear hK hH hH2
  go_wp2_with fail
  have HL := run_loadVar_mid (P := Tryz.prog) W2 Q 0 100 (pcs k text f vb nw np a).toList _ (fun j v hv => by rw [Nat.zero_add, S3.2.2.2.cell]; simpa using hv) Tryz.underlying100 rfl piece_size
  refine bodyPost_ret (v := .tuple #[.agg (pcs k text f vb nw np a), .string t]) ?_ rfl (hpost text W2 TX.out S3.2.1)
  simp [results, Tryz.results68, asAddr, HL]
end Go.Proofs.YtdjhmanccoekjaaGreatDoor.PR
end

section
namespace Go.Proofs.YtdjhmanccoekjaaGreatDoor.PR
open Go.RowKit Go.Proofs

def Told (l : List UInt8) (k vb : Int) (rest : List UInt8) : Prop := (l = [] ∧ k = 2 ∧ vb = 0 ∧ rest = []) ∨ (l ≠ [] ∧ k = 1 ∧ vb = (Utf.decL l).1 ∧ rest = l.drop (Utf.decL l).2)

set_option maxRecDepth 1000000 in
set_option maxHeartbeats 4000000 in
/-- The verb, if one is there. -/
theorem dtail11 (POST : Ending → World → Prop) (s t : ByteArray) (w W : World) (R V P Q : Nat) (n : Dn w R V P Q) (f : PP.Fl) (nw np : PP.Nm) (a : PP.Ix) (S : Ds w R V P Q W t (pcs 2 ⟨#[]⟩ f 0 nw np a))
    (hs : s.size ≤ 140737488355328) (ht : t.size ≤ s.size) (hT : Tabs w)
    (hpost : ∀ (k vb : Int) (text rest : ByteArray) (W' : World), Told t.data.toList k vb rest.data.toList → text.data.toList = 37 :: s.data.toList.take (s.size - rest.size) → Below w.heap.size w W' → POST (.returned (.tuple #[.agg (pcs k text f vb nw np a), .string rest])) W')
    (z6 z7 z8 z9 z10 z11 z12 z13 z14 z15 z16 z17 z18 z19 z20 z21 z22 z23 z24 z25 z26 z27 z28 z29 z30 z31 z32 z33 z34 z35 z36 z37 z38 z39 z40 z41 z42 z43 z44 z45 z46 z47 z48 z49 z50 z51 z52 z53 z54 z55 z56 z57 z58 z59 z60 z61 z62 z63 z64 z65 z66 z67 z68 z69 z70 z71 z72 z73 z74 z75 z76 z77 z78 z79 z80 z81 z82 z83 z84 z85 z86 z87 z88 z89 z90 z91 z92 z93 z94 z95 z96 z97 z98 z99 z100 z101 z102 z103 z104 z105 z106 : Value) :
    Code.wp Tryz.prog (dtail 7) (bodyPost Tryz.prog Tryz.f68 POST) ⟨#[.string s, undef, .pointer (some ⟨Q, 0, none⟩), .string ⟨#[]⟩, .pointer (some ⟨P, 0, none⟩), .pointer (some ⟨R, 0, none⟩), z6, z7, z8, z9, z10, z11, z12, z13, z14, z15, z16, z17, z18, z19, z20, z21, z22, z23, z24, z25, z26, z27, z28, z29, z30, z31, z32, z33, z34, z35, z36, z37, z38, z39, z40, z41, z42, z43, z44, z45, z46, z47, z48, z49, z50, z51, z52, z53, z54, z55, z56, z57, z58, z59, z60, z61, z62, z63, z64, z65, z66, z67, z68, z69, z70, z71, z72, z73, z74, z75, z76, z77, z78, z79, z80, z81, z82, z83, z84, z85, z86, z87, z88, z89, z90, z91, z92, z93, z94, z95, z96, z97, z98, z99, z100, z101, z102, z103, z104, z105, z106], []⟩ W := by
  conv => arg 2; whnf
  have S0 := hid S
  have hq0 : W.cell? ⟨R, 0, none⟩ = some (.string t) := S.rd.1.cell 0
  have hRP : R ≠ P := n.rp
  have hPR : P ≠ R := n.rp.symm
  clear S
  by_cases hp : 0 < t.size
  · have he := isE_pos hp
    have hne : t.data.toList ≠ [] := by
      intro e
      rw [Utf.size_eq, e] at hp
      exact absurd hp (Nat.lt_irrefl 0)
    have hw := Utf.dec_width t.data.toList
    have hl := Utf.dec_le t.data.toList hne
    rw [← Utf.size_eq] at hl
    obtain ⟨c, hc⟩ : ∃ c : Int, ((Utf.decL t.data.toList).1 : Int) = c := ⟨_, rfl⟩
    obtain ⟨m, hm⟩ : ∃ m : Nat, (Utf.decL t.data.toList).2 = m := ⟨_, rfl⟩
    obtain ⟨u, hu⟩ : ∃ u, t.extract m t.size = u := ⟨_, rfl⟩
    have hul : u.data.toList = t.data.toList.drop m := by rw [← hu, ext_drop]
    have hus : u.size ≤ s.size := by rw [size_list hul, List.length_drop, ← Utf.size_eq]; omega
    have DE := hid (decode_any t W (hT.below S0.out.below))
    rw [dec0_ne hne, hc, hm] at DE
    rw [hm] at hw hl
    have TO : Hid (Told t.data.toList 1 c u.data.toList) := Or.inr ⟨hne, rfl, hc.symm, by rw [hul, hm]⟩
    clear hc hm hul hne
    go_upto_if 68 with fail
    rename_i hK
    have HK := hid hK
    clear hK
    go_wp2_with fail
    refine DE.out.mono ?_
    rintro e W1 ⟨rfl, b1⟩
    have S1 := hid (S0.out.calm b1)
    clear b1 S0 DE hq0
    have hq0 : W1.cell? ⟨R, 0, none⟩ = some (.string t) := S1.out.rd.1.cell 0
    have hqf : ∀ i, W1.frozen? ⟨R, i, none⟩ = false := S1.out.rd.1.frozen
    have hp0 : W1.cell? ⟨P, 0, none⟩ = some (.int .i64 2) := S1.out.p.cell 0
    have hp9 : W1.cell? ⟨P, 9, none⟩ = some (.int .i32 0) := S1.out.p.cell 9
    have hpf : ∀ i, W1.frozen? ⟨P, i, none⟩ = false := S1.out.p.frozen
    go_wp2_with fail
    go_region
    go_wp2_with fail
    have S2 := hid (show Ds w R V P Q ((((W1.setCell ⟨P, 0, none⟩ (.int .i64 1)).setCell ⟨P, 9, none⟩ (.int .i32 c)).setCell ⟨R, 0, none⟩ (.string u)).drew) u (pcs 1 ⟨#[]⟩ f c nw np a) from (((S1.out.set_ n 0 _).set_ n 9 _).put n u).drew)
    refine HK.out _ _ ?_
    exact dtail14 POST s u w _ R V P Q n 1 c f nw np a S2.out hs hus (fun text W' h1 h2 => hpost 1 c text u W' TO.out h1 h2) _ _ _ _ _ _ _ _ _ _ _ _ _ _ _ _ _ _ _ _ _ _ _ _ _ _ _ _ _ _ _ _ _ _ _ _ _ _ _ _ _ _ _ _ _ _ _ _ _ _ _ _ _ _ _ _ _ _ _ _ _ _ _ _ _ _ _ _ _ _ _ _ _ _ _ _ _ _ _ _ _ _ _ _ _ _ _ _ _ _ _ _ _ _ _ _ _ _ _ _ _
  · have he := isE_zero hp
    have h0 : t.data.toList = [] := List.eq_nil_of_length_eq_zero (by rw [← Utf.size_eq]; omega)
    have TO : Hid (Told t.data.toList 2 0 t.data.toList) := Or.inl ⟨h0, rfl, rfl, h0⟩
    clear h0
    go_upto_if 68 with fail
    rename_i hK
    have HK := hid hK
    clear hK
    go_wp2_with fail
    refine HK.out _ _ ?_
    exact dtail14 POST s t w W R V P Q n 2 0 f nw np a S0.out hs ht (fun text W' h1 h2 => hpost 2 0 text t W' TO.out h1 h2) _ _ _ _ _ _ _ _ _ _ _ _ _ _ _ _ _ _ _ _ _ _ _ _ _ _ _ _ _ _ _ _ _ _ _ _ _ _ _ _ _ _ _ _ _ _ _ _ _ _ _ _ _ _ _ _ _ _ _ _ _ _ _ _ _ _ _ _ _ _ _ _ _ _ _ _ _ _ _ _ _ _ _ _ _ _ _ _ _ _ _ _ _ _ _ _ _ _ _ _ _
end Go.Proofs.YtdjhmanccoekjaaGreatDoor.PR
end

section
namespace Go.Proofs.YtdjhmanccoekjaaGreatDoor.PR
open Go.RowKit Go.Proofs

set_option maxRecDepth 1000000 in
set_option maxHeartbeats 4000000 in
/-- The last index. -/
theorem dtail10 (POST : Ending → World → Prop) (s t4 : ByteArray) (w W : World) (R V P Q : Nat) (n : Dn w R V P Q) (f1 : PP.Fl) (nm1 nm2 : PP.Nm) (a2 : PP.Ix) (S : Ds w R V P Q W t4 (pcs 2 ⟨#[]⟩ f1 0 nm1 nm2 a2))
    (hs : s.size ≤ 140737488355328) (ht : t4.size ≤ s.size) (hT : Tabs w)
    (hpost : ∀ (k vb : Int) (text rest : ByteArray) (W' : World), Told (PP.ixL t4.data.toList).2 k vb rest.data.toList → text.data.toList = 37 :: s.data.toList.take (s.size - rest.size) → Below w.heap.size w W' → POST (.returned (.tuple #[.agg (pcs k text f1 vb nm1 nm2 (PP.andI a2 (PP.ixL t4.data.toList).1)), .string rest])) W')
    (z6 z7 z8 z9 z10 z11 z12 z13 z14 z15 z16 z17 z18 z19 z20 z21 z22 z23 z24 z25 z26 z27 z28 z29 z30 z31 z32 z33 z34 z35 z36 z37 z38 z39 z40 z41 z42 z43 z44 z45 z46 z47 z48 z49 z50 z51 z52 z53 z54 z55 z56 z57 z58 z59 z60 z61 z62 z63 z64 z65 z66 z67 z68 z69 z70 z71 z72 z73 z74 z75 z76 z77 z78 z79 z80 z81 z82 z83 z84 z85 z86 z87 z88 z89 z90 z91 z92 z93 z94 z95 z96 z97 z98 z99 z100 z101 z102 z103 z104 z105 z106 : Value) :
    Code.wp Tryz.prog (dtail 6) (bodyPost Tryz.prog Tryz.f68 POST) ⟨#[.string s, undef, .pointer (some ⟨Q, 0, none⟩), .string ⟨#[]⟩, .pointer (some ⟨P, 0, none⟩), .pointer (some ⟨R, 0, none⟩), z6, z7, z8, z9, z10, z11, z12, z13, z14, z15, z16, z17, z18, z19, z20, z21, z22, z23, z24, z25, z26, z27, z28, z29, z30, z31, z32, z33, z34, z35, z36, z37, z38, z39, z40, z41, z42, z43, z44, z45, z46, z47, z48, z49, z50, z51, z52, z53, z54, z55, z56, z57, z58, z59, z60, z61, z62, z63, z64, z65, z66, z67, z68, z69, z70, z71, z72, z73, z74, z75, z76, z77, z78, z79, z80, z81, z82, z83, z84, z85, z86, z87, z88, z89, z90, z91, z92, z93, z94, z95, z96, z97, z98, z99, z100, z101, z102, z103, z104, z105, z106], []⟩ W := by
  conv => arg 2; whnf
  have S10 := hid S
  have hs4 : t4.size ≤ 140737488355328 := by omega
  obtain ⟨⟨x3, l5⟩, hI3⟩ : ∃ F, PP.ixL t4.data.toList = F := ⟨_, rfl⟩
  obtain ⟨t5, ht5⟩ : ∃ t5 : ByteArray, t5.data.toList = l5 := ⟨⟨l5.toArray⟩, by simp⟩
  obtain ⟨a5, ha5⟩ : ∃ a, PP.andI a2 x3 = a := ⟨_, rfl⟩
  have hl5s : t5.size ≤ s.size := by
    have := PP.ixL_len t4.data.toList
    rw [hI3, ← Utf.size_eq] at this
    rw [size_list ht5]
    exact Nat.le_trans this ht
  have IX := hid (show ∀ W : World, Ds w R V P Q W t4 (pcs 2 ⟨#[]⟩ f1 0 nm1 nm2 a2) → Calls Tryz.prog 102 #[.pointer (some ⟨R, 0, none⟩)] W fun e w' => e = .returned (ixV x3) ∧ Ds w R V P Q w' t5 (pcs 2 ⟨#[]⟩ f1 0 nm1 nm2 a2) ∧
      w'.cell? ⟨P, 18, none⟩ = some (.int .i64 a2.k) ∧ w'.cell? ⟨P, 19, none⟩ = some (.int .i64 a2.n) ∧ (∀ i, w'.frozen? ⟨P, i, none⟩ = false) from by
    intro W h
    refine (index_any R V t4 W h.rd hs4).mono ?_
    rintro e w' ⟨rfl, t', ht', hr', ho'⟩
    rw [hI3] at ht' ⊢
    have e2 : t' = t5 := bytes_ext (ht'.trans ht5.symm)
    subst e2
    have := h.moved n hr' ho'
    exact ⟨rfl, this, this.p.cell 18, this.p.cell 19, this.p.frozen⟩)
  have AN := hid (show ∀ (W : World) (v : ByteArray), Ds w R V P Q W v (pcs 2 ⟨#[]⟩ f1 0 nm1 nm2 a2) → Calls Tryz.prog 104 #[ixV a2, ixV x3] W fun e w' => e = .returned (ixV a5) ∧ Ds w R V P Q w' v (pcs 2 ⟨#[]⟩ f1 0 nm1 nm2 a2) ∧
      w'.cell? ⟨P, 18, none⟩ = some (.int .i64 a2.k) ∧ w'.cell? ⟨P, 19, none⟩ = some (.int .i64 a2.n) ∧ (∀ i, w'.frozen? ⟨P, i, none⟩ = false) from by
    intro W v h
    refine (and_any a2 x3 W).mono ?_
    rintro e w' ⟨rfl, hb⟩
    rw [ha5]
    have := h.calm hb
    exact ⟨rfl, this, this.p.cell 18, this.p.cell 19, this.p.frozen⟩)
  rw [hI3, ha5, ← ht5] at hpost
  have HP := hid hpost
  clear hpost hI3 ha5 ht5
  have hp18 : W.cell? ⟨P, 18, none⟩ = some (.int .i64 a2.k) := S10.out.p.cell 18
  have hp19 : W.cell? ⟨P, 19, none⟩ = some (.int .i64 a2.n) := S10.out.p.cell 19
  have sd : Ds w R V P Q W.drew t4 (pcs 2 ⟨#[]⟩ f1 0 nm1 nm2 a2) := S10.out.drew
  clear S
  go_wp2_with fail
  rename_i hK
  have HK := hid hK
  clear hK
  go_region_with (first | (go_at_call 102; refine (IX.out _ (by assumption)).mono ?_; rintro e w9 ⟨rfl, st, k1, k2, k3⟩) | (go_at_call 104; refine (AN.out _ _ (by assumption)).mono ?_; rintro e w9 ⟨rfl, st, k1, k2, k3⟩))
  all_goals (
    go_wp2_with fail
    refine HK.out _ _ ?_
    exact dtail11 POST s t5 w _ R V P Q n f1 nm1 nm2 a5 ((st.set_ n 18 _).set_ n 19 _) hs hl5s hT HP.out _ _ _ _ _ _ _ _ _ _ _ _ _ _ _ _ _ _ _ _ _ _ _ _ _ _ _ _ _ _ _ _ _ _ _ _ _ _ _ _ _ _ _ _ _ _ _ _ _ _ _ _ _ _ _ _ _ _ _ _ _ _ _ _ _ _ _ _ _ _ _ _ _ _ _ _ _ _ _ _ _ _ _ _ _ _ _ _ _ _ _ _ _ _ _ _ _ _ _ _ _)
end Go.Proofs.YtdjhmanccoekjaaGreatDoor.PR
end
