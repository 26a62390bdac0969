/-
  The law QuoteWide, walked.
-/
import Derived.Test.YtfbekjgbijlcaaaDoorLV2
import Derived.Test.YtfbekjgbijlcaaaDoorPadL
namespace Go.Proofs.YtfbekjgbijlcaaaDoor
open Go.RowKit Go.Proofs

/-- With a width a text is what it is without one, padded. -/
theorem textS_wide (pl mi sh sp ze : Bool) (wid prec verb : Int) (s : ByteArray) : textS pl mi sh sp ze wid prec verb s = (textS pl mi sh sp ze (-1) prec verb s).map fun t => padS t mi ze wid := by
  unfold textS
  simp only [pad_off]
  split
  · rfl
  · split
    · rfl
    · split
      · rfl
      · split
        · rfl
        · rfl
theorem textS_size (pl mi sh sp ze : Bool) (prec verb : Int) (s t : ByteArray) (h : textS pl mi sh sp ze (-1) prec verb s = some t) (hs : s.size ≤ 2000) : t.size ≤ 30000 := by
  have hc := cutS_size s prec
  have h1 := quote_size false s
  have h2 := quote_size pl (cutS s prec)
  have h3 := rawQ_size (cutS s prec)
  have h4 := IP.hexS_len sh sp prec verb s.data.toList
  unfold textS at h
  simp only [pad_off] at h
  split at h
  · simp only [Option.some.injEq] at h
    rw [← h]
    split <;> omega
  · split at h
    · simp only [Option.some.injEq] at h
      rw [← h]; omega
    · split at h
      · simp only [Option.some.injEq] at h
        rw [← h]
        split <;> omega
      · split at h
        · simp only [Option.some.injEq] at h
          rw [← h, Utf.size_eq]
          rw [← Utf.size_eq s] at h4
          show (IP.hexS sh sp prec verb s.data.toList).length ≤ _
          omega
        · cases h
/-- The state within: two boxes. -/
structure Tw (w : World) (H G : Nat) (F E : Array Value) (W : World) : Prop where
  below : Below w.heap.size w W
  f : Blk W H F 28
  g : Blk W G E 28
theorem Tw.kept {w W W' : World} {H G : Nat} {F E : Array Value} (h : Tw w H G F E W) (hb : Below W.heap.size W W') : Tw w H G F E W' :=
  ⟨h.below.trans (hb.mono h.below.size), h.f.below hb h.f.lt, h.g.below hb h.g.lt⟩
theorem Tw.drew {w W : World} {H G : Nat} {F E : Array Value} (h : Tw w H G F E W) : Tw w H G F E W.drew := h.kept (Below.refl _ _).drew
theorem Tw.set {w W : World} {H G : Nat} {F E : Array Value} (h : Tw w H G F E W) (hw : w.heap.size ≤ G) (hn : H ≠ G) (i : Nat) (u : Value) : Tw w H G F (E.setIfInBounds i u) (W.setCell ⟨G, i, none⟩ u) :=
  ⟨h.below.setCell hw u, h.f.far hn u, h.g.set_ i u⟩
theorem tw_start (w : World) (F E : Array Value) : Tw w w.heap.size (w.heap.size + 1) F E ((w.alloc (.cells F 28)).alloc (.cells E 28)) := by
  have h1 := Blk.new w F 28
  have h2 := Blk.new (w.alloc (.cells F 28)) E 28
  refine ⟨((Below.refl _ _).alloc (Nat.le_refl _) _).alloc (by simp) _, h1.alloc _, ?_⟩
  simpa using h2
theorem Tw.lift {w : World} (hT : Tabs w) {H G : Nat} (pl mi sh sp ze : Bool) (wid prec verb : Int) {E : Array Value} {f : Nat} {args : Array Value} {r : Value} (h : ∀ W, Tabs W → Calls Tryd.prog f args W fun e w' => e = .returned r ∧ Below W.heap.size W w') :
    ∀ W, Tw w H G (sp8 pl mi sh sp ze wid prec verb) E W → Calls Tryd.prog f args W fun e w' => e = .returned r ∧ Tw w H G (sp8 pl mi sh sp ze wid prec verb) E w' ∧
      (w'.cell? ⟨H, 0, none⟩ = some (.bool pl) ∧ w'.cell? ⟨H, 1, none⟩ = some (.bool mi) ∧ w'.cell? ⟨H, 2, none⟩ = some (.bool sh) ∧ w'.cell? ⟨H, 3, none⟩ = some (.bool sp) ∧ w'.cell? ⟨H, 4, none⟩ = some (.bool ze) ∧ w'.cell? ⟨H, 5, none⟩ = some (.int .i64 wid) ∧ w'.cell? ⟨H, 6, none⟩ = some (.int .i64 prec) ∧ w'.cell? ⟨H, 7, none⟩ = some (.int .i32 verb)) :=
  fun W hW => (h W (hT.below hW.below)).mono fun _ _ ⟨he, hb⟩ => ⟨he, hW.kept hb, blk_cells _ _ _ _ _ _ _ _ (hW.kept hb).f⟩
abbrev zero8 : Array Value := sp8 false false false false false 0 0 0

set_option maxRecDepth 100000 in
set_option maxHeartbeats 8000000 in
theorem quoteWide_law (s : ByteArray) (pl mi sh sp ze : Bool) (wid prec verb : Int) (w : World) (hT : Tabs w) (hs : s.size ≤ 140737488355328) (hw0 : -9223372036854775808 ≤ wid) (hw1 : wid ≤ 9223372036854775807) (hp0 : -9223372036854775808 ≤ prec) (hp1 : prec ≤ 9223372036854775807) (_hr0 : -2147483648 ≤ verb) (_hr1 : verb ≤ 2147483647) :
    Calls Tryd.prog 8 #[.string s, .agg #[.bool pl, .bool mi, .bool sh, .bool sp, .bool ze, .int .i64 wid, .int .i64 prec, .int .i32 verb]] w fun e w' => e = .returned (.bool true) ∧ Below w.heap.size w w' := by
  have hz := lcut_size s
  have CU0 := fun W => lcut_any s W hs
  obtain ⟨c, hc⟩ : ∃ c, s.extract 0 1000 = c := ⟨_, rfl⟩
  rw [hc] at CU0 hz
  have CU := hid CU0
  have TA0 := fun W hT => text_any c pl mi sh sp ze wid prec verb W hT (by omega) hw0 hw1 hp0 hp1
  have TB0 := fun W hT => text_any c pl mi sh sp ze (-1) prec verb W hT (by omega) (by decide) (by decide) hp0 hp1
  rw [textS_wide] at TA0
  have hsz := fun t h => textS_size pl mi sh sp ze prec verb c t h (by omega)
  obtain ⟨r, hr⟩ : ∃ r, textS pl mi sh sp ze (-1) prec verb c = r := ⟨_, rfl⟩
  rw [hr] at TA0 TB0 hsz
  have LV := hid (Tw.lift (w := w) hT (H := w.heap.size) (G := w.heap.size + 1) pl mi sh sp ze wid prec verb (E := sp8 pl mi sh sp ze (-1) prec verb) (fun W hT => lives_any W hT))
  have T1 := hid (tw_start w (sp8 pl mi sh sp ze wid prec verb) (sp8 pl mi sh sp ze (-1) prec verb))
  clear hc hr CU0
  cases r with
  | none =>
    have TA := hid (Tw.lift (w := w) hT (H := w.heap.size) (G := w.heap.size + 1) pl mi sh sp ze wid prec verb (E := sp8 pl mi sh sp ze (-1) prec verb) TA0)
    have TB := hid (Tw.lift (w := w) hT (H := w.heap.size) (G := w.heap.size + 1) pl mi sh sp ze wid prec verb (E := sp8 pl mi sh sp ze (-1) prec verb) TB0)
    simp only [tupB, Option.map_none] at TA TB
    clear TA0 TB0 hsz hT
    go_enter Tryd.func8, Tryd.ntmps8
    go_wp2_with fail
    refine (CU.out _).mono ?_
    rintro e w0 ⟨rfl, rfl⟩
    go_wp2_with fail
    refine (TA.out _ T1.out).mono ?_
    rintro e w1 ⟨rfl, st1, k0, k1, k2, k3, k4, k5, k6, k7⟩
    obtain ⟨g0, g1, g2, g3, g4, g5, g6, g7⟩ := blk_cells _ _ _ _ _ _ _ _ st1.g
    have ST1 := hid st1
    clear st1
    go_wp2_with fail
    refine (TB.out _ ST1.out).mono ?_
    rintro e w2 ⟨rfl, st2, _⟩
    have ST2 := hid st2
    clear st2
    go_wp2_with fail
    refine (LV.out _ ST2.out).mono ?_
    rintro e w3 ⟨rfl, st3, _⟩
    have ST3 := hid st3
    clear st3
    go_wp2_with fail
    go_ret
    exact ⟨rfl, ST3.out.below⟩
  | some X =>
    have hXz := hsz X rfl
    obtain ⟨f, p, hp, hpz, hfz, hmi, hnm, _, hcp⟩ := padded X mi ze wid
    have TA := hid (Tw.lift (w := w) hT (H := w.heap.size) (G := w.heap.size + 1) pl mi sh sp ze wid prec verb (E := sp8 pl mi sh sp ze (-1) prec verb) TA0)
    have TB := hid (Tw.lift (w := w) hT (H := w.heap.size) (G := w.heap.size + 1) pl mi sh sp ze wid prec verb (E := sp8 pl mi sh sp ze (-1) prec verb) TB0)
    simp only [tupB, Option.map_some] at TA TB
    rw [hp] at TA
    have hkb : (Utf.count X.data.toList : Int) ≤ 30000 ∧ 0 ≤ (Utf.count X.data.toList : Int) := by
      have := Utf.count_le X.data.toList.length X.data.toList (Nat.le_refl _)
      rw [← Utf.size_eq] at this
      omega
    have C10 := fun W => count_any p W (by omega)
    have C20 := fun W => count_any X W (by omega)
    rw [hcp] at C10
    obtain ⟨k, hk⟩ : ∃ k : Int, (Utf.count X.data.toList : Int) = k := ⟨_, rfl⟩
    rw [hk] at C10 C20 hkb
    obtain ⟨hk1, hk2⟩ := hkb
    have C1 := hid (Tw.lift (w := w) hT (H := w.heap.size) (G := w.heap.size + 1) pl mi sh sp ze wid prec verb (E := sp8 pl mi sh sp ze (-1) prec verb) (fun W _ => C10 W))
    have C2 := hid (Tw.lift (w := w) hT (H := w.heap.size) (G := w.heap.size + 1) pl mi sh sp ze wid prec verb (E := sp8 pl mi sh sp ze (-1) prec verb) (fun W _ => C20 W))
    have HPZ := hid hpz
    have hple : X.size ≤ p.size := by omega
    have hps : p.size ≤ 31000 := by omega
    have hsub : (p.size : Int) - (X.size : Int) = (f.size : Int) := by omega
    have hfp : f.size ≤ p.size := by omega
    have hA := hid hmi
    have hB := hid hnm
    have hwd : -9223372036854775808 ≤ max k (min wid 1000) ∧ max k (min wid 1000) ≤ 30000 := by omega
    obtain ⟨hwd0, hwd1⟩ := hwd
    clear TA0 TB0 hsz hT hp hcp C10 C20 hk hpz hmi hnm
    cases mi
    · have hsl : p.extract f.size p.size = X := by rw [HPZ.out]; exact (hB.out rfl).2
      clear hA hB
      go_enter Tryd.func8, Tryd.ntmps8
      go_wp2_with fail
      refine (CU.out _).mono ?_
      rintro e w0 ⟨rfl, rfl⟩
      go_wp2_with fail
      refine (TA.out _ T1.out).mono ?_
      rintro e w1 ⟨rfl, st1, k0, k1, k2, k3, k4, k5, k6, k7⟩
      obtain ⟨g0, g1, g2, g3, g4, g5, g6, g7⟩ := blk_cells _ _ _ _ _ _ _ _ st1.g
      have ST1 := hid st1
      clear st1
      go_wp2_with fail
      refine (TB.out _ ST1.out).mono ?_
      rintro e w2 ⟨rfl, st2, j0, j1, j2, j3, j4, j5, j6, j7⟩
      have ST2 := hid st2
      clear st2
      go_upto_region 12 with fail
      have st0 := ST2.out.drew
      go_region_with (first | (go_at_call 21; (first | (with_reducible refine (C1.out _ (by assumption)).mono ?_) | (with_reducible refine (C2.out _ (by assumption)).mono ?_)); rintro e w9 ⟨rfl, st, k0, k1, k2, k3, k4, k5, k6, k7⟩) | (go_at_call 14; refine (LV.out _ (by assumption)).mono ?_; rintro e w9 ⟨rfl, st, k0, k1, k2, k3, k4, k5, k6, k7⟩))
      all_goals
        have ST := hid st
        clear st
        go_wp2_with fail
        go_ret
        exact ⟨rfl, ST.out.below⟩
    · have hsl : p.extract 0 X.size = X := (hA.out rfl).1
      clear hA hB
      go_enter Tryd.func8, Tryd.ntmps8
      go_wp2_with fail
      refine (CU.out _).mono ?_
      rintro e w0 ⟨rfl, rfl⟩
      go_wp2_with fail
      refine (TA.out _ T1.out).mono ?_
      rintro e w1 ⟨rfl, st1, k0, k1, k2, k3, k4, k5, k6, k7⟩
      obtain ⟨g0, g1, g2, g3, g4, g5, g6, g7⟩ := blk_cells _ _ _ _ _ _ _ _ st1.g
      have ST1 := hid st1
      clear st1
      go_wp2_with fail
      refine (TB.out _ ST1.out).mono ?_
      rintro e w2 ⟨rfl, st2, j0, j1, j2, j3, j4, j5, j6, j7⟩
      have ST2 := hid st2
      clear st2
      go_upto_region 12 with fail
      have st0 := ST2.out.drew
      go_region_with (first | (go_at_call 21; (first | (with_reducible refine (C1.out _ (by assumption)).mono ?_) | (with_reducible refine (C2.out _ (by assumption)).mono ?_)); rintro e w9 ⟨rfl, st, k0, k1, k2, k3, k4, k5, k6, k7⟩) | (go_at_call 14; refine (LV.out _ (by assumption)).mono ?_; rintro e w9 ⟨rfl, st, k0, k1, k2, k3, k4, k5, k6, k7⟩))
      all_goals
        have ST := hid st
        clear st
        go_wp2_with fail
        go_ret
        exact ⟨rfl, ST.out.below⟩
end Go.Proofs.YtfbekjgbijlcaaaDoor
