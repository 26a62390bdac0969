/-
  The law ParseFlags, walked.
-/
import Derived.Test.YtmfhoindfhmncaaDoorPS
import Derived.Test.YtmfhoindfhmncaaDoorPG
import Derived.Test.YtmfhoindfhmncaaDoorPD
import Derived.Deep.CutBlock
import Derived.Deep.DeepCutAuto
import Derived.Deep.RegionHeld3
namespace Go.Proofs.YtmfhoindfhmncaaDoor
open Go.RowKit Go.Proofs

/-- The state while the two parses are made. -/
structure Sd (w : World) (B0 : Nat) (S : Array Value) (W : World) : Prop where
  tabs : Tabs W
  below : Below w.heap.size w W
  spec : Blk W B0 S 28
theorem Sd.kept {w W W' : World} {B0 : Nat} {S : Array Value} (h : Sd w B0 S W) (hb : Below W.heap.size W W') : Sd w B0 S W' :=
  ⟨h.tabs.below hb, h.below.trans (hb.mono h.below.size), h.spec.below hb h.spec.lt⟩
theorem Sd.drew {w W : World} {B0 : Nat} {S : Array Value} (h : Sd w B0 S W) : Sd w B0 S W.drew := h.kept (Below.refl _ _).drew
abbrev sp8 (pl mi sh sp ze : Bool) (wid prec verb : Int) : Array Value := #[.bool pl, .bool mi, .bool sh, .bool sp, .bool ze, .int .i64 wid, .int .i64 prec, .int .i32 verb]
theorem Sd.cells {w W : World} {B0 : Nat} {pl mi sh sp ze : Bool} {wid prec verb : Int} (h : Sd w B0 (sp8 pl mi sh sp ze wid prec verb) W) :
    (W.cell? ⟨B0, 0, none⟩ = some (.bool pl) ∧ W.cell? ⟨B0, 1, none⟩ = some (.bool mi) ∧ W.cell? ⟨B0, 2, none⟩ = some (.bool sh) ∧ W.cell? ⟨B0, 3, none⟩ = some (.bool sp) ∧ W.cell? ⟨B0, 4, none⟩ = some (.bool ze) ∧ W.cell? ⟨B0, 5, none⟩ = some (.int .i64 wid) ∧ W.cell? ⟨B0, 6, none⟩ = some (.int .i64 prec) ∧ W.cell? ⟨B0, 7, none⟩ = some (.int .i32 verb)) ∧ Sd w B0 (sp8 pl mi sh sp ze wid prec verb) W :=
  ⟨⟨h.spec.cell 0, h.spec.cell 1, h.spec.cell 2, h.spec.cell 3, h.spec.cell 4, h.spec.cell 5, h.spec.cell 6, h.spec.cell 7⟩, h⟩
/-- The piece of flags, a width and a precision. -/
abbrev fpc (pl mi sh sp ze : Bool) (W P : Int) (X : ByteArray) : Array Value :=
  #[.int .i64 1, .string X, .bool pl, .bool mi, .bool sh, .bool sp, .bool ze, .int .i64 (-1), .int .i64 (-1), .int .i32 120, .int .i64 1, .int .i64 W, .int .i64 0, .int .i64 0, .int .i64 1, .int .i64 P, .int .i64 0, .int .i64 0, .int .i64 0, .int .i64 0]
/-- A list of one piece, in a block. -/
structure OneP (W : World) (CS : Array Value) (g c : Nat) : Prop where
  blk : ∃ cur, Blk W g cur 40 ∧ ∀ (j : Nat) u, CS[j]? = some u → cur[j]? = some u
  lt : g < W.heap.size
  cap : 1 ≤ c ∧ c ≤ maxLen
theorem OneP.kept {W W' : World} {CS : Array Value} {g c : Nat} (h : OneP W CS g c) (hb : Below W.heap.size W W') : OneP W' CS g c := by
  obtain ⟨cur, h1, h2⟩ := h.blk
  exact ⟨⟨cur, h1.below hb h.lt, h2⟩, Nat.lt_of_lt_of_le h.lt hb.size, h.cap⟩
theorem one_of_parse {s : ByteArray} {p : PP.Pc} {w : World} {B0 : Nat} {S : Array Value} (hs : s.size ≤ 100000) (hp : PP.parseL s.data.toList = [p]) (W : World) (h : Sd w B0 S W) :
    Calls Tryd.prog 11 #[.string s] W fun e W' => ∃ g c, e = .returned (.slice (some ⟨g, 0, none⟩) 1 c) ∧ Sd w B0 S W' ∧ Hid (Below W.heap.size W W' ∧ W.heap.size ≤ g ∧ OneP W' (pcV p (txt p.text)) g c) := by
  refine (parse_any s W hs h.tabs).mono ?_
  rintro e W' ⟨v, rfl, ho, hb⟩
  rw [hp, cellsL_one] at ho
  obtain ⟨g, cap, cur, rfl, q1, q2, q3, q4, q5, q6⟩ := own_blk ho (Nat.succ_pos _)
  exact ⟨g, cap, rfl, h.kept hb, hb, q1, ⟨cur, q5, fun j u hu => q6 j u (by simpa using hu)⟩, q2, q3, q4⟩

set_option maxRecDepth 100000 in
set_option maxHeartbeats 4000000 in
theorem parseFlags_law (pl mi sh sp ze : Bool) (wid prec verb x1 x2 : Int) (w : World) (hT : Tabs w) (_hw0 : -9223372036854775808 ≤ wid) (_hw1 : wid ≤ 9223372036854775807) (_hp0 : -9223372036854775808 ≤ prec) (_hp1 : prec ≤ 9223372036854775807) (_hr0 : -2147483648 ≤ verb) (_hr1 : verb ≤ 2147483647)
    (hx10 : -9223372036854775808 ≤ x1) (hx11 : x1 ≤ 9223372036854775807) (hx20 : -9223372036854775808 ≤ x2) (hx21 : x2 ≤ 9223372036854775807) :
    Calls Tryd.prog 6 #[.agg #[.bool pl, .bool mi, .bool sh, .bool sp, .bool ze, .int .i64 wid, .int .i64 prec, .int .i32 verb], .int .i64 x1, .int .i64 x2] w fun e w' => e = .returned (.bool true) ∧ Below w.heap.size w w' := by
  have LV := hid (fun W hT => lives_any W hT)
  obtain ⟨f, hf⟩ : ∃ f : PP.Fl, f = ⟨pl, mi, sh, sp, ze⟩ := ⟨_, rfl⟩
  have FL1 := hid (fun W => lflags_any f wid prec verb false W)
  have FL2 := hid (fun W => lflags_any f wid prec verb true W)
  obtain ⟨W1, hW1⟩ : ∃ W1 : Int, max 1 (min x1 2000) = W1 := ⟨_, rfl⟩
  obtain ⟨P1, hP1⟩ : ∃ P1 : Int, max 0 (min x2 2000) = P1 := ⟨_, rfl⟩
  have hWb : 1 ≤ W1 ∧ W1 ≤ 2000 := by omega
  have hPb : 0 ≤ P1 ∧ P1 ≤ 2000 := by omega
  have DW := hid (fun W => ldigits_any W1 W (by omega) (by omega))
  have DP := hid (fun W => ldigits_any P1 W (by omega) (by omega))
  obtain ⟨hWb1, hWb2⟩ := hWb
  obtain ⟨hPb1, hPb2⟩ := hPb
  have M1 := hid (PP.flags_pieces f false W1.toNat P1.toNat (by omega))
  have M2 := hid (PP.flags_pieces f true W1.toNat P1.toNat (by omega))
  have hl1 := PP.dgs_len W1.toNat 10 (by omega) (by omega)
  have hl2 := PP.dgs_len P1.toNat 10 (by omega) (by omega)
  have hf1 := PP.flT_len f false 5
  have hf2 := PP.flT_len f true 5
  obtain ⟨D1, hD1⟩ : ∃ D1 : ByteArray, ⟨(PP.dgs W1.toNat).toArray⟩ = D1 := ⟨_, rfl⟩
  obtain ⟨D2, hD2⟩ : ∃ D2 : ByteArray, ⟨(PP.dgs P1.toNat).toArray⟩ = D2 := ⟨_, rfl⟩
  obtain ⟨F1, hF1⟩ : ∃ F1 : ByteArray, ⟨(PP.flT f false 5).toArray⟩ = F1 := ⟨_, rfl⟩
  obtain ⟨F2, hF2⟩ : ∃ F2 : ByteArray, ⟨(PP.flT f true 5).toArray⟩ = F2 := ⟨_, rfl⟩
  rw [hD1] at DW
  rw [hD2] at DP
  rw [hF1] at FL1
  rw [hF2] at FL2
  have hsD1 : D1.size ≤ 10 := by rw [← hD1]; simpa [ByteArray.size] using hl1
  have hsD2 : D2.size ≤ 10 := by rw [← hD2]; simpa [ByteArray.size] using hl2
  have hsF1 : F1.size ≤ 10 := by rw [← hF1]; simpa [ByteArray.size] using hf1
  have hsF2 : F2.size ≤ 10 := by rw [← hF2]; simpa [ByteArray.size] using hf2
  have HW := hid (And.intro hW1 hP1)
  have HD := hid (And.intro hD1 (And.intro hD2 (And.intro hF1 hF2)))
  clear hl1 hl2 hf1 hf2 hD1 hD2 hF1 hF2 hW1 hP1
  go_enter Tryd.func6, Tryd.ntmps6
  go_upto_region 2 with fail
  rw [HW.out.1, HW.out.2]
  go_upto_region 3 with (first | (go_at_call_of 15 (Value.int .i64 W1); refine (DW.out _).mono ?_; rintro e w' ⟨rfl, hb⟩) | (go_at_call_of 15 (Value.int .i64 P1); refine (DP.out _).mono ?_; rintro e w'' ⟨rfl, hb'⟩))
  have S0 : Sd w w.heap.size (sp8 pl mi sh sp ze wid prec verb) w'' := by
    have h0 : Sd w w.heap.size (sp8 pl mi sh sp ze wid prec verb) (w.alloc (.cells (sp8 pl mi sh sp ze wid prec verb) 28)) :=
      ⟨hT.below ((Below.refl _ _).alloc (Nat.le_refl _) _), (Below.refl _ _).alloc (Nat.le_refl _) _, Blk.new _ _ _⟩
    exact (h0.kept hb).kept hb'
  have e1 : (((⟨#[37]⟩ : ByteArray) ++ F1) ++ (D1 ++ ⟨#[46]⟩ ++ D2 ++ ⟨#[120]⟩)).data.toList = 37 :: (PP.flT f false 5 ++ (PP.dgs W1.toNat ++ 46 :: (PP.dgs P1.toNat ++ [120]))) := by
    simp only [ByteArray.data_append, Array.toList_append, ← HD.out.1, ← HD.out.2.1, ← HD.out.2.2.1, List.append_assoc]
    rfl
  have hX1 := M1.out
  rw [← e1] at hX1
  have e2 : (((⟨#[37]⟩ : ByteArray) ++ F2) ++ (D1 ++ ⟨#[46]⟩ ++ D2 ++ ⟨#[120]⟩)).data.toList = 37 :: (PP.flT f true 5 ++ (PP.dgs W1.toNat ++ 46 :: (PP.dgs P1.toNat ++ [120]))) := by
    simp only [ByteArray.data_append, Array.toList_append, ← HD.out.1, ← HD.out.2.1, ← HD.out.2.2.2, List.append_assoc]
    rfl
  have hX2 := M2.out
  rw [← e2] at hX2
  have hRs : (D1 ++ ⟨#[46]⟩ ++ D2 ++ ⟨#[120]⟩ : ByteArray).size ≤ 22 := by
    simp only [ByteArray.size_append]
    have e1' : (⟨#[46]⟩ : ByteArray).size = 1 := rfl
    have e2' : (⟨#[120]⟩ : ByteArray).size = 1 := rfl
    omega
  have e3 : (⟨#[37]⟩ : ByteArray).size = 1 := rfl
  obtain ⟨R, hR⟩ : ∃ R, (D1 ++ ⟨#[46]⟩ ++ D2 ++ ⟨#[120]⟩ : ByteArray) = R := ⟨_, rfl⟩
  rw [hR] at hX1 hX2 hRs ⊢
  have PA1 := hid (one_of_parse (w := w) (B0 := w.heap.size) (S := sp8 pl mi sh sp ze wid prec verb) (by rw [ByteArray.size_append, ByteArray.size_append]; omega) hX1)
  have PA2 := hid (one_of_parse (w := w) (B0 := w.heap.size) (S := sp8 pl mi sh sp ze wid prec verb) (by rw [ByteArray.size_append, ByteArray.size_append]; omega) hX2)
  clear hX1 hX2 e1 e2 e3 hR M1 M2
  have SB := hid S0
  clear S0 hb hb'
  have FS1 := hid (show ∀ W, Sd w w.heap.size (sp8 pl mi sh sp ze wid prec verb) W → Calls Tryd.prog 16 #[.agg #[.bool pl, .bool mi, .bool sh, .bool sp, .bool ze, .int .i64 wid, .int .i64 prec, .int .i32 verb], .bool false] W fun e W' => e = .returned (.string F1) ∧ Sd w w.heap.size (sp8 pl mi sh sp ze wid prec verb) W' from fun W h => by
    have hc := FL1.out W
    rw [hf] at hc
    refine hc.mono ?_
    rintro e W' ⟨rfl, hb⟩
    exact ⟨rfl, h.kept hb⟩)
  have FS2 := hid (show ∀ W, Sd w w.heap.size (sp8 pl mi sh sp ze wid prec verb) W → Calls Tryd.prog 16 #[.agg #[.bool pl, .bool mi, .bool sh, .bool sp, .bool ze, .int .i64 wid, .int .i64 prec, .int .i32 verb], .bool true] W fun e W' => e = .returned (.string F2) ∧ Sd w w.heap.size (sp8 pl mi sh sp ze wid prec verb) W' ∧ Hid (Below W.heap.size W W') from fun W h => by
    have hc := FL2.out W
    rw [hf] at hc
    refine hc.mono ?_
    rintro e W' ⟨rfl, hb⟩
    exact ⟨rfl, h.kept hb, hb⟩)
  obtain ⟨B0, hB0⟩ : ∃ B0, w.heap.size = B0 := ⟨_, rfl⟩
  have HF := hid hf
  have sd0 := SB.out.drew
  have BW := hid SB.out.below.size
  rw [hB0] at sd0 FS1 FS2 PA1 PA2 SB BW ⊢
  clear SB FL1 FL2 hf hB0
  have z1 : ¬ 9223372036854775807 < 1 + F1.size := by omega
  have z2 : ¬ 9223372036854775807 < 1 + F1.size + R.size := by omega
  have z3 : ¬ 9223372036854775807 < 1 + F2.size := by omega
  have z4 : ¬ 9223372036854775807 < 1 + F2.size + R.size := by omega
  go_region_held3 (fun w' => (w'.cell? ⟨B0, 0, none⟩ = some (.bool pl) ∧ w'.cell? ⟨B0, 1, none⟩ = some (.bool mi) ∧ w'.cell? ⟨B0, 2, none⟩ = some (.bool sh) ∧ w'.cell? ⟨B0, 3, none⟩ = some (.bool sp) ∧ w'.cell? ⟨B0, 4, none⟩ = some (.bool ze) ∧ w'.cell? ⟨B0, 5, none⟩ = some (.int .i64 wid) ∧ w'.cell? ⟨B0, 6, none⟩ = some (.int .i64 prec) ∧ w'.cell? ⟨B0, 7, none⟩ = some (.int .i32 verb)) ∧ Sd w B0 (sp8 pl mi sh sp ze wid prec verb) w') (exact Sd.cells (by assumption))
    ((first
      | ((with_reducible refine (FS1.out _ (by assumption)).mono ?_); rintro e Wa ⟨rfl, sd1⟩)
      | ((with_reducible refine (FS2.out _ (by assumption)).mono ?_); rintro e Wc ⟨rfl, sd3, b3⟩)
      | ((with_reducible refine (PA1.out _ (by assumption)).mono ?_); rintro e Wb ⟨g1, c1, rfl, sd2, b2⟩)
      | ((with_reducible refine (PA2.out _ (by assumption)).mono ?_); rintro e Wd ⟨g2, c2, rfl, sd4, b4⟩)))
  obtain ⟨X1, hX1⟩ : ∃ X, txt ((⟨#[37]⟩ : ByteArray) ++ F1 ++ R).data.toList = X := ⟨_, rfl⟩
  obtain ⟨X2, hX2⟩ : ∃ X, txt ((⟨#[37]⟩ : ByteArray) ++ F2 ++ R).data.toList = X := ⟨_, rfl⟩
  obtain ⟨Wv, hWv⟩ : ∃ Wv : Int, (if W1.toNat ≤ 1000 then (W1.toNat : Int) else -1) = Wv := ⟨_, rfl⟩
  obtain ⟨Pv, hPv⟩ : ∃ Pv : Int, (if P1.toNat ≤ 1000 then (P1.toNat : Int) else -1) = Pv := ⟨_, rfl⟩
  have TW : Hid (OneP Wd (fpc pl mi sh sp ze Wv Pv X1) g1 c1 ∧ OneP Wd (fpc pl mi sh sp ze Wv Pv X2) g2 c2 ∧ g1 ≠ g2 ∧ g1 ≠ B0 ∧ g2 ≠ B0 ∧ Tabs Wd ∧ Below w.heap.size w Wd ∧ w.heap.size ≤ g2) := by
    have h1 := b2.out.2.2
    have h2 := b4.out.2.2
    rw [hX1, hWv, hPv] at h1
    rw [hX2, hWv, hPv] at h2
    have hf := HF.out
    subst hf
    have e1 := h1.lt
    have e2 := b3.out.size
    have e3 := b4.out.2.1
    have e4 := b2.out.2.1
    have e5 := sd1.spec.lt
    have e6 := b2.out.1.size
    have e7 := sd1.below.size
    exact ⟨(h1.kept b3.out).kept b4.out.1, h2, by omega, by omega, by omega, sd4.tabs, sd4.below, by omega⟩
  obtain ⟨d0, d1, d2, d3, d4, _, _, _⟩ := sd4.cells.1
  have cc1 := TW.out.1.cap
  have cc2 := TW.out.2.1.cap
  obtain ⟨cc11, cc12⟩ := cc1
  obtain ⟨cc21, cc22⟩ := cc2
  unfold maxLen at cc12 cc22
  clear PA1 PA2 FS1 FS2 sd0 sd1 sd2 sd3 sd4 b2 b3 b4 z1 z2 z3 z4 hX1 hX2 HF
  go_upto_region 7 with fail
  obtain ⟨W5, hW5⟩ : ∃ W5, Wd.alloc (.cells #[.bool pl, .bool mi, .bool sh, .bool sp, .bool ze, .int .i64 (-1), .int .i64 (-1), .int .i32 120] 28) = W5 := ⟨_, rfl⟩
  obtain ⟨H, hH⟩ : ∃ H, Wd.heap.size = H := ⟨_, rfl⟩
  rw [hW5, hH]
  have TX : Hid (Blk W5 H #[.bool pl, .bool mi, .bool sh, .bool sp, .bool ze, .int .i64 (-1), .int .i64 (-1), .int .i32 120] 28 ∧ OneP W5 (fpc pl mi sh sp ze Wv Pv X1) g1 c1 ∧ OneP W5 (fpc pl mi sh sp ze Wv Pv X2) g2 c2 ∧ g1 ≠ g2 ∧ Tabs W5 ∧ Below w.heap.size w W5 ∧ w.heap.size ≤ g2 ∧ g1 ≠ H ∧ g2 ≠ H) := by
    obtain ⟨a1, a2, a3, a4, a5, a6, a7, a8⟩ := TW.out
    have hb : Below Wd.heap.size Wd W5 := hW5 ▸ (Below.refl _ _).alloc (Nat.le_refl _) _
    have l1 := a1.lt
    have l2 := a2.lt
    refine ⟨?_, a1.kept hb, a2.kept hb, a3, a6.below hb, a7.trans (hb.mono a7.size), a8, by omega, by omega⟩
    rw [← hW5, ← hH]
    exact Blk.new _ _ _
  clear d0 d1 d2 d3 d4 hW5 hH TW
  have hWW : (W1 ≤ 1000 ∧ Wv = W1) ∨ (1000 < W1 ∧ Wv = -1) := by
    rw [← hWv]
    by_cases h : W1 ≤ 1000
    · exact Or.inl ⟨h, by rw [if_pos (by omega)]; omega⟩
    · exact Or.inr ⟨by omega, by rw [if_neg (by omega)]⟩
  have hPP : (P1 ≤ 1000 ∧ Pv = P1) ∨ (1000 < P1 ∧ Pv = -1) := by
    rw [← hPv]
    by_cases h : P1 ≤ 1000
    · exact Or.inl ⟨h, by rw [if_pos (by omega)]; omega⟩
    · exact Or.inr ⟨by omega, by rw [if_neg (by omega)]⟩
  clear hWv hPv
  have k1 : W5.cell? ⟨g1, 1, none⟩ = some (.string X1) := by
    obtain ⟨cur, h1, h2⟩ := TX.out.2.1.blk
    rw [h1.cell]; exact h2 1 _ rfl
  have k2 : W5.cell? ⟨g2, 1, none⟩ = some (.string X2) := by
    obtain ⟨cur, h1, h2⟩ := TX.out.2.2.1.blk
    rw [h1.cell]; exact h2 1 _ rfl
  have kf : W5.frozen? ⟨g2, 1, none⟩ = false := by
    obtain ⟨cur, h1, h2⟩ := TX.out.2.2.1.blk
    exact h1.frozen 1
  have TY : Hid (Tabs (W5.setCell ⟨g2, 1, none⟩ (.string X1)) ∧ Below w.heap.size w (W5.setCell ⟨g2, 1, none⟩ (.string X1))) :=
    ⟨hT.below (TX.out.2.2.2.2.2.1.setCell TX.out.2.2.2.2.2.2.1 _), TX.out.2.2.2.2.2.1.setCell TX.out.2.2.2.2.2.2.1 _⟩
  have GG : Hid ((∀ (j : Nat) v, (fpc pl mi sh sp ze Wv Pv X1)[j]? = some v → (W5.setCell ⟨g2, 1, none⟩ (.string X1)).cell? ⟨g1, j, none⟩ = some v) ∧
      (∀ (j : Nat) v, (fpc pl mi sh sp ze Wv Pv X1)[j]? = some v → (W5.setCell ⟨g2, 1, none⟩ (.string X1)).cell? ⟨g2, j, none⟩ = some v) ∧
      (∀ (j : Nat) v, (#[.bool pl, .bool mi, .bool sh, .bool sp, .bool ze, .int .i64 (-1), .int .i64 (-1), .int .i32 120] : Array Value)[j]? = some v → (W5.setCell ⟨g2, 1, none⟩ (.string X1)).cell? ⟨H, j, none⟩ = some v)) := by
    obtain ⟨a1, a2, a3, a4, _, _, _, a7, a8⟩ := TX.out
    obtain ⟨cur1, h1, h1'⟩ := a2.blk
    obtain ⟨cur2, h2, h2'⟩ := a3.blk
    refine ⟨fun j v hv => ?_, fun j v hv => ?_, fun j v hv => ?_⟩
    · rw [(h1.far (p := ⟨g2, 1, none⟩) a4 _).cell]; exact h1' j v hv
    · rw [(h2.set_ 1 _).cell]
      have hsz : 1 < cur2.size := by
        have := h2' 1 _ rfl
        rcases Nat.lt_or_ge 1 cur2.size with h | h
        · exact h
        · rw [Array.getElem?_eq_none h] at this; cases this
      by_cases e : j = 1
      · subst e
        rw [Array.getElem?_setIfInBounds_self_of_lt hsz, ← hv]; rfl
      · rw [Array.getElem?_setIfInBounds_ne (by omega)]
        refine h2' j v ?_
        rw [← hv]
        match j, e with
        | 0, _ => rfl
        | j + 2, _ => rfl
    · rw [(a1.far (p := ⟨g2, 1, none⟩) (Ne.symm a8) _).cell]; exact hv
  clear TX
  rcases hWW with ⟨hw, hv⟩ | ⟨hw, hv⟩ <;> rcases hPP with ⟨hp, hq⟩ | ⟨hp, hq⟩ <;> subst hv <;> subst hq
  · go_upto_region 12 with fail
    obtain ⟨W6, hW6⟩ : ∃ W6, W5.setCell ⟨g2, 1, none⟩ (.string X1) = W6 := ⟨_, rfl⟩
    rw [hW6] at TY GG ⊢
    clear hW6 k1 k2 kf
    refine wp_region_still_tail 49 (by kernel_rfl) (by kernel_rfl) ?_
    simp only [List.take_succ_cons, List.take_zero, List.drop_succ_cons, List.drop_zero]
    have g0 : W6.cell? ⟨g1, 0, none⟩ = some (.int .i64 1) := GG.out.1 0 _ rfl
    still_step
    still_step
    refine wpStill_wantLoad (by rfl) 40 (.tmp 67) rfl g1 0 rfl (fpc pl mi sh sp ze Wv Pv X1) _ (fun j v hv => GG.out.1 (0 + j) v (sub_get _ 0 20 _ rfl j v hv)) Tryd.underlying40 rfl piece_size ?_
    still_step
    still_step
    refine wpStill_wantLoad (by rfl) 40 (.tmp 70) rfl g2 0 rfl (fpc pl mi sh sp ze Wv Pv X1) _ (fun j v hv => GG.out.2.1 (0 + j) v (sub_get _ 0 20 _ rfl j v hv)) Tryd.underlying40 rfl piece_size ?_
    refine wpStill_wantEql (by rfl) 40 (.tmp 68) (.tmp 71) 40 rfl (fpc pl mi sh sp ze Wv Pv X1) (fpc pl mi sh sp ze Wv Pv X1) rfl rfl guard_piece true (run_eq_piece ⟨1, [], ⟨pl, mi, sh, sp, ze⟩, -1, -1, 120, ⟨1, Wv, ⟨0, 0⟩⟩, ⟨1, Pv, ⟨0, 0⟩⟩, ⟨0, 0⟩⟩ X1 _ _ rfl rfl _) ?_
    still_step
    still_step
    still_step
    still_step
    still_step
    still_step
    still_step
    still_step
    still_step
    still_step
    still_step
    refine wpStill_wantLoad (by rfl) 28 (.tmp 83) rfl g1 2 rfl #[.bool pl, .bool mi, .bool sh, .bool sp, .bool ze, .int .i64 (-1), .int .i64 (-1), .int .i32 120] _ (fun j v hv => GG.out.1 (2 + j) v (sub_get _ 2 8 _ rfl j v hv)) Tryd.underlying28 rfl spec_size ?_
    refine wpStill_wantLoad (by rfl) 28 (.tmp 10) rfl H 0 rfl #[.bool pl, .bool mi, .bool sh, .bool sp, .bool ze, .int .i64 (-1), .int .i64 (-1), .int .i32 120] _ (fun j v hv => GG.out.2.2 (0 + j) v (sub_get _ 0 8 _ rfl j v hv)) Tryd.underlying28 rfl spec_size ?_
    refine wpStill_wantEql (by rfl) 28 (.tmp 84) (.tmp 85) 28 rfl #[.bool pl, .bool mi, .bool sh, .bool sp, .bool ze, .int .i64 (-1), .int .i64 (-1), .int .i32 120] #[.bool pl, .bool mi, .bool sh, .bool sp, .bool ze, .int .i64 (-1), .int .i64 (-1), .int .i32 120] rfl rfl guard_spec true (eq_spec_same _ _ _ _ _ _ _ _ _) ?_
    still_step
    still_step
    still_step
    still_step
    still_step
    refine wpStill_wantLoad (by rfl) 38 (.tmp 91) rfl g1 10 rfl #[.int .i64 1, .int .i64 Wv, .int .i64 0, .int .i64 0] _ (fun j v hv => GG.out.1 (10 + j) v (sub_get _ 10 4 _ rfl j v hv)) Tryd.underlying38 rfl num_size ?_
    still_step
    refine wpStill_wantBuild (by rfl) 38 _ rfl #[.int .i64 1, .int .i64 Wv, .int .i64 0, .int .i64 0] (by kernel_rfl) ?_
    refine wpStill_wantEql (by rfl) 38 (.tmp 92) (.tmp 94) 38 rfl #[.int .i64 1, .int .i64 Wv, .int .i64 0, .int .i64 0] #[.int .i64 1, .int .i64 Wv, .int .i64 0, .int .i64 0] rfl rfl guard_num true (eq_num_same _ _ _ _ _) ?_
    still_step
    still_step
    still_step
    still_step
    still_step
    refine wpStill_wantLoad (by rfl) 38 (.tmp 100) rfl g1 14 rfl #[.int .i64 1, .int .i64 Pv, .int .i64 0, .int .i64 0] _ (fun j v hv => GG.out.1 (14 + j) v (sub_get _ 14 4 _ rfl j v hv)) Tryd.underlying38 rfl num_size ?_
    still_step
    refine wpStill_wantBuild (by rfl) 38 _ rfl #[.int .i64 1, .int .i64 Pv, .int .i64 0, .int .i64 0] (by kernel_rfl) ?_
    refine wpStill_wantEql (by rfl) 38 (.tmp 101) (.tmp 103) 38 rfl #[.int .i64 1, .int .i64 Pv, .int .i64 0, .int .i64 0] #[.int .i64 1, .int .i64 Pv, .int .i64 0, .int .i64 0] rfl rfl guard_num true (eq_num_same _ _ _ _ _) ?_
    still_step
    still_step
    still_step
    still_step
    still_step
    refine wpStill_wantLoad (by rfl) 36 (.tmp 109) rfl g1 18 rfl #[.int .i64 0, .int .i64 0] _ (fun j v hv => GG.out.1 (18 + j) v (sub_get _ 18 2 _ rfl j v hv)) Tryd.underlying36 rfl index_size ?_
    refine wpStill_wantBuild (by rfl) 36 _ rfl #[.int .i64 0, .int .i64 0] (by kernel_rfl) ?_
    refine wpStill_wantEql (by rfl) 36 (.tmp 110) (.tmp 111) 36 rfl #[.int .i64 0, .int .i64 0] #[.int .i64 0, .int .i64 0] rfl rfl guard_index true (eq_index_same _ _ _) ?_
    still_step
    still_step
    refine wpStill_nil ?_
    go_wp2_with fail
    refine (LV.out _ (TY.out.1.below (Below.refl _ _).drew)).mono ?_
    rintro e W8 ⟨rfl, b8⟩
    go_wp2_with fail
    go_ret
    exact ⟨rfl, TY.out.2.drew.trans (b8.mono TY.out.2.size)⟩
  · go_upto_region 12 with fail
    obtain ⟨W6, hW6⟩ : ∃ W6, W5.setCell ⟨g2, 1, none⟩ (.string X1) = W6 := ⟨_, rfl⟩
    rw [hW6] at TY GG ⊢
    clear hW6 k1 k2 kf
    refine wp_region_still_tail 49 (by kernel_rfl) (by kernel_rfl) ?_
    simp only [List.take_succ_cons, List.take_zero, List.drop_succ_cons, List.drop_zero]
    have g0 : W6.cell? ⟨g1, 0, none⟩ = some (.int .i64 1) := GG.out.1 0 _ rfl
    still_step
    still_step
    refine wpStill_wantLoad (by rfl) 40 (.tmp 67) rfl g1 0 rfl (fpc pl mi sh sp ze Wv (-1) X1) _ (fun j v hv => GG.out.1 (0 + j) v (sub_get _ 0 20 _ rfl j v hv)) Tryd.underlying40 rfl piece_size ?_
    still_step
    still_step
    refine wpStill_wantLoad (by rfl) 40 (.tmp 70) rfl g2 0 rfl (fpc pl mi sh sp ze Wv (-1) X1) _ (fun j v hv => GG.out.2.1 (0 + j) v (sub_get _ 0 20 _ rfl j v hv)) Tryd.underlying40 rfl piece_size ?_
    refine wpStill_wantEql (by rfl) 40 (.tmp 68) (.tmp 71) 40 rfl (fpc pl mi sh sp ze Wv (-1) X1) (fpc pl mi sh sp ze Wv (-1) X1) rfl rfl guard_piece true (run_eq_piece ⟨1, [], ⟨pl, mi, sh, sp, ze⟩, -1, -1, 120, ⟨1, Wv, ⟨0, 0⟩⟩, ⟨1, (-1), ⟨0, 0⟩⟩, ⟨0, 0⟩⟩ X1 _ _ rfl rfl _) ?_
    still_step
    still_step
    still_step
    still_step
    still_step
    still_step
    still_step
    still_step
    still_step
    still_step
    still_step
    refine wpStill_wantLoad (by rfl) 28 (.tmp 83) rfl g1 2 rfl #[.bool pl, .bool mi, .bool sh, .bool sp, .bool ze, .int .i64 (-1), .int .i64 (-1), .int .i32 120] _ (fun j v hv => GG.out.1 (2 + j) v (sub_get _ 2 8 _ rfl j v hv)) Tryd.underlying28 rfl spec_size ?_
    refine wpStill_wantLoad (by rfl) 28 (.tmp 10) rfl H 0 rfl #[.bool pl, .bool mi, .bool sh, .bool sp, .bool ze, .int .i64 (-1), .int .i64 (-1), .int .i32 120] _ (fun j v hv => GG.out.2.2 (0 + j) v (sub_get _ 0 8 _ rfl j v hv)) Tryd.underlying28 rfl spec_size ?_
    refine wpStill_wantEql (by rfl) 28 (.tmp 84) (.tmp 85) 28 rfl #[.bool pl, .bool mi, .bool sh, .bool sp, .bool ze, .int .i64 (-1), .int .i64 (-1), .int .i32 120] #[.bool pl, .bool mi, .bool sh, .bool sp, .bool ze, .int .i64 (-1), .int .i64 (-1), .int .i32 120] rfl rfl guard_spec true (eq_spec_same _ _ _ _ _ _ _ _ _) ?_
    still_step
    still_step
    still_step
    still_step
    still_step
    refine wpStill_wantLoad (by rfl) 38 (.tmp 91) rfl g1 10 rfl #[.int .i64 1, .int .i64 Wv, .int .i64 0, .int .i64 0] _ (fun j v hv => GG.out.1 (10 + j) v (sub_get _ 10 4 _ rfl j v hv)) Tryd.underlying38 rfl num_size ?_
    still_step
    refine wpStill_wantBuild (by rfl) 38 _ rfl #[.int .i64 1, .int .i64 Wv, .int .i64 0, .int .i64 0] (by kernel_rfl) ?_
    refine wpStill_wantEql (by rfl) 38 (.tmp 92) (.tmp 94) 38 rfl #[.int .i64 1, .int .i64 Wv, .int .i64 0, .int .i64 0] #[.int .i64 1, .int .i64 Wv, .int .i64 0, .int .i64 0] rfl rfl guard_num true (eq_num_same _ _ _ _ _) ?_
    still_step
    still_step
    still_step
    still_step
    still_step
    refine wpStill_wantLoad (by rfl) 38 (.tmp 100) rfl g1 14 rfl #[.int .i64 1, .int .i64 (-1), .int .i64 0, .int .i64 0] _ (fun j v hv => GG.out.1 (14 + j) v (sub_get _ 14 4 _ rfl j v hv)) Tryd.underlying38 rfl num_size ?_
    still_step
    refine wpStill_wantBuild (by rfl) 38 _ rfl #[.int .i64 1, .int .i64 (-1), .int .i64 0, .int .i64 0] (by kernel_rfl) ?_
    refine wpStill_wantEql (by rfl) 38 (.tmp 101) (.tmp 103) 38 rfl #[.int .i64 1, .int .i64 (-1), .int .i64 0, .int .i64 0] #[.int .i64 1, .int .i64 (-1), .int .i64 0, .int .i64 0] rfl rfl guard_num true (eq_num_same _ _ _ _ _) ?_
    still_step
    still_step
    still_step
    still_step
    still_step
    refine wpStill_wantLoad (by rfl) 36 (.tmp 109) rfl g1 18 rfl #[.int .i64 0, .int .i64 0] _ (fun j v hv => GG.out.1 (18 + j) v (sub_get _ 18 2 _ rfl j v hv)) Tryd.underlying36 rfl index_size ?_
    refine wpStill_wantBuild (by rfl) 36 _ rfl #[.int .i64 0, .int .i64 0] (by kernel_rfl) ?_
    refine wpStill_wantEql (by rfl) 36 (.tmp 110) (.tmp 111) 36 rfl #[.int .i64 0, .int .i64 0] #[.int .i64 0, .int .i64 0] rfl rfl guard_index true (eq_index_same _ _ _) ?_
    still_step
    still_step
    refine wpStill_nil ?_
    go_wp2_with fail
    refine (LV.out _ (TY.out.1.below (Below.refl _ _).drew)).mono ?_
    rintro e W8 ⟨rfl, b8⟩
    go_wp2_with fail
    go_ret
    exact ⟨rfl, TY.out.2.drew.trans (b8.mono TY.out.2.size)⟩
  · go_upto_region 12 with fail
    obtain ⟨W6, hW6⟩ : ∃ W6, W5.setCell ⟨g2, 1, none⟩ (.string X1) = W6 := ⟨_, rfl⟩
    rw [hW6] at TY GG ⊢
    clear hW6 k1 k2 kf
    refine wp_region_still_tail 49 (by kernel_rfl) (by kernel_rfl) ?_
    simp only [List.take_succ_cons, List.take_zero, List.drop_succ_cons, List.drop_zero]
    have g0 : W6.cell? ⟨g1, 0, none⟩ = some (.int .i64 1) := GG.out.1 0 _ rfl
    still_step
    still_step
    refine wpStill_wantLoad (by rfl) 40 (.tmp 67) rfl g1 0 rfl (fpc pl mi sh sp ze (-1) Pv X1) _ (fun j v hv => GG.out.1 (0 + j) v (sub_get _ 0 20 _ rfl j v hv)) Tryd.underlying40 rfl piece_size ?_
    still_step
    still_step
    refine wpStill_wantLoad (by rfl) 40 (.tmp 70) rfl g2 0 rfl (fpc pl mi sh sp ze (-1) Pv X1) _ (fun j v hv => GG.out.2.1 (0 + j) v (sub_get _ 0 20 _ rfl j v hv)) Tryd.underlying40 rfl piece_size ?_
    refine wpStill_wantEql (by rfl) 40 (.tmp 68) (.tmp 71) 40 rfl (fpc pl mi sh sp ze (-1) Pv X1) (fpc pl mi sh sp ze (-1) Pv X1) rfl rfl guard_piece true (run_eq_piece ⟨1, [], ⟨pl, mi, sh, sp, ze⟩, -1, -1, 120, ⟨1, (-1), ⟨0, 0⟩⟩, ⟨1, Pv, ⟨0, 0⟩⟩, ⟨0, 0⟩⟩ X1 _ _ rfl rfl _) ?_
    still_step
    still_step
    still_step
    still_step
    still_step
    still_step
    still_step
    still_step
    still_step
    still_step
    still_step
    refine wpStill_wantLoad (by rfl) 28 (.tmp 83) rfl g1 2 rfl #[.bool pl, .bool mi, .bool sh, .bool sp, .bool ze, .int .i64 (-1), .int .i64 (-1), .int .i32 120] _ (fun j v hv => GG.out.1 (2 + j) v (sub_get _ 2 8 _ rfl j v hv)) Tryd.underlying28 rfl spec_size ?_
    refine wpStill_wantLoad (by rfl) 28 (.tmp 10) rfl H 0 rfl #[.bool pl, .bool mi, .bool sh, .bool sp, .bool ze, .int .i64 (-1), .int .i64 (-1), .int .i32 120] _ (fun j v hv => GG.out.2.2 (0 + j) v (sub_get _ 0 8 _ rfl j v hv)) Tryd.underlying28 rfl spec_size ?_
    refine wpStill_wantEql (by rfl) 28 (.tmp 84) (.tmp 85) 28 rfl #[.bool pl, .bool mi, .bool sh, .bool sp, .bool ze, .int .i64 (-1), .int .i64 (-1), .int .i32 120] #[.bool pl, .bool mi, .bool sh, .bool sp, .bool ze, .int .i64 (-1), .int .i64 (-1), .int .i32 120] rfl rfl guard_spec true (eq_spec_same _ _ _ _ _ _ _ _ _) ?_
    still_step
    still_step
    still_step
    still_step
    still_step
    refine wpStill_wantLoad (by rfl) 38 (.tmp 91) rfl g1 10 rfl #[.int .i64 1, .int .i64 (-1), .int .i64 0, .int .i64 0] _ (fun j v hv => GG.out.1 (10 + j) v (sub_get _ 10 4 _ rfl j v hv)) Tryd.underlying38 rfl num_size ?_
    still_step
    refine wpStill_wantBuild (by rfl) 38 _ rfl #[.int .i64 1, .int .i64 (-1), .int .i64 0, .int .i64 0] (by kernel_rfl) ?_
    refine wpStill_wantEql (by rfl) 38 (.tmp 92) (.tmp 94) 38 rfl #[.int .i64 1, .int .i64 (-1), .int .i64 0, .int .i64 0] #[.int .i64 1, .int .i64 (-1), .int .i64 0, .int .i64 0] rfl rfl guard_num true (eq_num_same _ _ _ _ _) ?_
    still_step
    still_step
    still_step
    still_step
    still_step
    refine wpStill_wantLoad (by rfl) 38 (.tmp 100) rfl g1 14 rfl #[.int .i64 1, .int .i64 Pv, .int .i64 0, .int .i64 0] _ (fun j v hv => GG.out.1 (14 + j) v (sub_get _ 14 4 _ rfl j v hv)) Tryd.underlying38 rfl num_size ?_
    still_step
    refine wpStill_wantBuild (by rfl) 38 _ rfl #[.int .i64 1, .int .i64 Pv, .int .i64 0, .int .i64 0] (by kernel_rfl) ?_
    refine wpStill_wantEql (by rfl) 38 (.tmp 101) (.tmp 103) 38 rfl #[.int .i64 1, .int .i64 Pv, .int .i64 0, .int .i64 0] #[.int .i64 1, .int .i64 Pv, .int .i64 0, .int .i64 0] rfl rfl guard_num true (eq_num_same _ _ _ _ _) ?_
    still_step
    still_step
    still_step
    still_step
    still_step
    refine wpStill_wantLoad (by rfl) 36 (.tmp 109) rfl g1 18 rfl #[.int .i64 0, .int .i64 0] _ (fun j v hv => GG.out.1 (18 + j) v (sub_get _ 18 2 _ rfl j v hv)) Tryd.underlying36 rfl index_size ?_
    refine wpStill_wantBuild (by rfl) 36 _ rfl #[.int .i64 0, .int .i64 0] (by kernel_rfl) ?_
    refine wpStill_wantEql (by rfl) 36 (.tmp 110) (.tmp 111) 36 rfl #[.int .i64 0, .int .i64 0] #[.int .i64 0, .int .i64 0] rfl rfl guard_index true (eq_index_same _ _ _) ?_
    still_step
    still_step
    refine wpStill_nil ?_
    go_wp2_with fail
    refine (LV.out _ (TY.out.1.below (Below.refl _ _).drew)).mono ?_
    rintro e W8 ⟨rfl, b8⟩
    go_wp2_with fail
    go_ret
    exact ⟨rfl, TY.out.2.drew.trans (b8.mono TY.out.2.size)⟩
  · go_upto_region 12 with fail
    obtain ⟨W6, hW6⟩ : ∃ W6, W5.setCell ⟨g2, 1, none⟩ (.string X1) = W6 := ⟨_, rfl⟩
    rw [hW6] at TY GG ⊢
    clear hW6 k1 k2 kf
    refine wp_region_still_tail 49 (by kernel_rfl) (by kernel_rfl) ?_
    simp only [List.take_succ_cons, List.take_zero, List.drop_succ_cons, List.drop_zero]
    have g0 : W6.cell? ⟨g1, 0, none⟩ = some (.int .i64 1) := GG.out.1 0 _ rfl
    still_step
    still_step
    refine wpStill_wantLoad (by rfl) 40 (.tmp 67) rfl g1 0 rfl (fpc pl mi sh sp ze (-1) (-1) X1) _ (fun j v hv => GG.out.1 (0 + j) v (sub_get _ 0 20 _ rfl j v hv)) Tryd.underlying40 rfl piece_size ?_
    still_step
    still_step
    refine wpStill_wantLoad (by rfl) 40 (.tmp 70) rfl g2 0 rfl (fpc pl mi sh sp ze (-1) (-1) X1) _ (fun j v hv => GG.out.2.1 (0 + j) v (sub_get _ 0 20 _ rfl j v hv)) Tryd.underlying40 rfl piece_size ?_
    refine wpStill_wantEql (by rfl) 40 (.tmp 68) (.tmp 71) 40 rfl (fpc pl mi sh sp ze (-1) (-1) X1) (fpc pl mi sh sp ze (-1) (-1) X1) rfl rfl guard_piece true (run_eq_piece ⟨1, [], ⟨pl, mi, sh, sp, ze⟩, -1, -1, 120, ⟨1, (-1), ⟨0, 0⟩⟩, ⟨1, (-1), ⟨0, 0⟩⟩, ⟨0, 0⟩⟩ X1 _ _ rfl rfl _) ?_
    still_step
    still_step
    still_step
    still_step
    still_step
    still_step
    still_step
    still_step
    still_step
    still_step
    still_step
    refine wpStill_wantLoad (by rfl) 28 (.tmp 83) rfl g1 2 rfl #[.bool pl, .bool mi, .bool sh, .bool sp, .bool ze, .int .i64 (-1), .int .i64 (-1), .int .i32 120] _ (fun j v hv => GG.out.1 (2 + j) v (sub_get _ 2 8 _ rfl j v hv)) Tryd.underlying28 rfl spec_size ?_
    refine wpStill_wantLoad (by rfl) 28 (.tmp 10) rfl H 0 rfl #[.bool pl, .bool mi, .bool sh, .bool sp, .bool ze, .int .i64 (-1), .int .i64 (-1), .int .i32 120] _ (fun j v hv => GG.out.2.2 (0 + j) v (sub_get _ 0 8 _ rfl j v hv)) Tryd.underlying28 rfl spec_size ?_
    refine wpStill_wantEql (by rfl) 28 (.tmp 84) (.tmp 85) 28 rfl #[.bool pl, .bool mi, .bool sh, .bool sp, .bool ze, .int .i64 (-1), .int .i64 (-1), .int .i32 120] #[.bool pl, .bool mi, .bool sh, .bool sp, .bool ze, .int .i64 (-1), .int .i64 (-1), .int .i32 120] rfl rfl guard_spec true (eq_spec_same _ _ _ _ _ _ _ _ _) ?_
    still_step
    still_step
    still_step
    still_step
    still_step
    refine wpStill_wantLoad (by rfl) 38 (.tmp 91) rfl g1 10 rfl #[.int .i64 1, .int .i64 (-1), .int .i64 0, .int .i64 0] _ (fun j v hv => GG.out.1 (10 + j) v (sub_get _ 10 4 _ rfl j v hv)) Tryd.underlying38 rfl num_size ?_
    still_step
    refine wpStill_wantBuild (by rfl) 38 _ rfl #[.int .i64 1, .int .i64 (-1), .int .i64 0, .int .i64 0] (by kernel_rfl) ?_
    refine wpStill_wantEql (by rfl) 38 (.tmp 92) (.tmp 94) 38 rfl #[.int .i64 1, .int .i64 (-1), .int .i64 0, .int .i64 0] #[.int .i64 1, .int .i64 (-1), .int .i64 0, .int .i64 0] rfl rfl guard_num true (eq_num_same _ _ _ _ _) ?_
    still_step
    still_step
    still_step
    still_step
    still_step
    refine wpStill_wantLoad (by rfl) 38 (.tmp 100) rfl g1 14 rfl #[.int .i64 1, .int .i64 (-1), .int .i64 0, .int .i64 0] _ (fun j v hv => GG.out.1 (14 + j) v (sub_get _ 14 4 _ rfl j v hv)) Tryd.underlying38 rfl num_size ?_
    still_step
    refine wpStill_wantBuild (by rfl) 38 _ rfl #[.int .i64 1, .int .i64 (-1), .int .i64 0, .int .i64 0] (by kernel_rfl) ?_
    refine wpStill_wantEql (by rfl) 38 (.tmp 101) (.tmp 103) 38 rfl #[.int .i64 1, .int .i64 (-1), .int .i64 0, .int .i64 0] #[.int .i64 1, .int .i64 (-1), .int .i64 0, .int .i64 0] rfl rfl guard_num true (eq_num_same _ _ _ _ _) ?_
    still_step
    still_step
    still_step
    still_step
    still_step
    refine wpStill_wantLoad (by rfl) 36 (.tmp 109) rfl g1 18 rfl #[.int .i64 0, .int .i64 0] _ (fun j v hv => GG.out.1 (18 + j) v (sub_get _ 18 2 _ rfl j v hv)) Tryd.underlying36 rfl index_size ?_
    refine wpStill_wantBuild (by rfl) 36 _ rfl #[.int .i64 0, .int .i64 0] (by kernel_rfl) ?_
    refine wpStill_wantEql (by rfl) 36 (.tmp 110) (.tmp 111) 36 rfl #[.int .i64 0, .int .i64 0] #[.int .i64 0, .int .i64 0] rfl rfl guard_index true (eq_index_same _ _ _) ?_
    still_step
    still_step
    refine wpStill_nil ?_
    go_wp2_with fail
    refine (LV.out _ (TY.out.1.below (Below.refl _ _).drew)).mono ?_
    rintro e W8 ⟨rfl, b8⟩
    go_wp2_with fail
    go_ret
    exact ⟨rfl, TY.out.2.drew.trans (b8.mono TY.out.2.size)⟩
end Go.Proofs.YtmfhoindfhmncaaDoor
