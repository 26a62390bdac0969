/-
  The law BadFixed, walked.
-/
import Derived.Test.YteifnddblnaepaaDoorD6
namespace Go.Proofs.YteifnddblnaepaaDoor
open Go.RowKit Go.Proofs

theorem openEx : insS ⟨#[]⟩ (⟨#[78, 79, 86, 69, 82, 66]⟩ : ByteArray) = ⟨#[37, 33, 40, 78, 79, 86, 69, 82, 66, 41]⟩ := by
  refine dbytes_ext ?_
  decide
theorem widthEx : insS ⟨#[]⟩ (⟨#[66, 65, 68, 87, 73, 68, 84, 72]⟩ : ByteArray) = ⟨#[37, 33, 40, 66, 65, 68, 87, 73, 68, 84, 72, 41]⟩ := by
  refine dbytes_ext ?_
  decide
theorem precEx : insS ⟨#[]⟩ (⟨#[66, 65, 68, 80, 82, 69, 67]⟩ : ByteArray) = ⟨#[37, 33, 40, 66, 65, 68, 80, 82, 69, 67, 41]⟩ := by
  refine dbytes_ext ?_
  decide
theorem depthEx : insS ⟨#[]⟩ (⟨#[68, 69, 80, 84, 72]⟩ : ByteArray) = ⟨#[37, 33, 40, 68, 69, 80, 84, 72, 41]⟩ := by
  refine dbytes_ext ?_
  decide
theorem readO : readV [37, 33, 40, 78, 79, 86, 69, 82, 66, 41] = .tuple #[.int .i64 6, .int .i32 0, .string ⟨#[78, 79, 86, 69, 82, 66]⟩] := by
  unfold readV
  rw [show readA [37, 33, 40, 78, 79, 86, 69, 82, 66, 41] = (6, 0, [78, 79, 86, 69, 82, 66]) by decide]
  rfl
theorem readW : readV [37, 33, 40, 66, 65, 68, 87, 73, 68, 84, 72, 41] = .tuple #[.int .i64 7, .int .i32 0, .string ⟨#[66, 65, 68, 87, 73, 68, 84, 72]⟩] := by
  unfold readV
  rw [show readA [37, 33, 40, 66, 65, 68, 87, 73, 68, 84, 72, 41] = (7, 0, [66, 65, 68, 87, 73, 68, 84, 72]) by decide]
  rfl
theorem readP : readV [37, 33, 40, 66, 65, 68, 80, 82, 69, 67, 41] = .tuple #[.int .i64 8, .int .i32 0, .string ⟨#[66, 65, 68, 80, 82, 69, 67]⟩] := by
  unfold readV
  rw [show readA [37, 33, 40, 66, 65, 68, 80, 82, 69, 67, 41] = (8, 0, [66, 65, 68, 80, 82, 69, 67]) by decide]
  rfl
theorem readD : readV [37, 33, 40, 68, 69, 80, 84, 72, 41] = .tuple #[.int .i64 9, .int .i32 0, .string ⟨#[68, 69, 80, 84, 72]⟩] := by
  unfold readV
  rw [show readA [37, 33, 40, 68, 69, 80, 84, 72, 41] = (9, 0, [68, 69, 80, 84, 72]) by decide]
  rfl

theorem two_rows {w : World} (w4 : World) (h : Below w.heap.size w w4) :
    Below w.heap.size w ((w4.alloc (.cells #[.string ⟨#[37, 33, 40, 78, 79, 86, 69, 82, 66, 41]⟩, .string ⟨#[37, 33, 40, 66, 65, 68, 87, 73, 68, 84, 72, 41]⟩, .string ⟨#[37, 33, 40, 66, 65, 68, 80, 82, 69, 67, 41]⟩, .string ⟨#[37, 33, 40, 68, 69, 80, 84, 72, 41]⟩] 35)).alloc (.cells #[.string ⟨#[37, 33, 40, 78, 79, 86, 69, 82, 66, 41]⟩, .string ⟨#[37, 33, 40, 66, 65, 68, 87, 73, 68, 84, 72, 41]⟩, .string ⟨#[37, 33, 40, 66, 65, 68, 80, 82, 69, 67, 41]⟩, .string ⟨#[37, 33, 40, 68, 69, 80, 84, 72, 41]⟩] 35)) ∧
    (∀ i, ((w4.alloc (.cells #[.string ⟨#[37, 33, 40, 78, 79, 86, 69, 82, 66, 41]⟩, .string ⟨#[37, 33, 40, 66, 65, 68, 87, 73, 68, 84, 72, 41]⟩, .string ⟨#[37, 33, 40, 66, 65, 68, 80, 82, 69, 67, 41]⟩, .string ⟨#[37, 33, 40, 68, 69, 80, 84, 72, 41]⟩] 35)).alloc (.cells #[.string ⟨#[37, 33, 40, 78, 79, 86, 69, 82, 66, 41]⟩, .string ⟨#[37, 33, 40, 66, 65, 68, 87, 73, 68, 84, 72, 41]⟩, .string ⟨#[37, 33, 40, 66, 65, 68, 80, 82, 69, 67, 41]⟩, .string ⟨#[37, 33, 40, 68, 69, 80, 84, 72, 41]⟩] 35)).cell? ⟨w4.heap.size, i, none⟩ = (#[.string ⟨#[37, 33, 40, 78, 79, 86, 69, 82, 66, 41]⟩, .string ⟨#[37, 33, 40, 66, 65, 68, 87, 73, 68, 84, 72, 41]⟩, .string ⟨#[37, 33, 40, 66, 65, 68, 80, 82, 69, 67, 41]⟩, .string ⟨#[37, 33, 40, 68, 69, 80, 84, 72, 41]⟩] : Array Value)[i]?) ∧
    (∀ i, ((w4.alloc (.cells #[.string ⟨#[37, 33, 40, 78, 79, 86, 69, 82, 66, 41]⟩, .string ⟨#[37, 33, 40, 66, 65, 68, 87, 73, 68, 84, 72, 41]⟩, .string ⟨#[37, 33, 40, 66, 65, 68, 80, 82, 69, 67, 41]⟩, .string ⟨#[37, 33, 40, 68, 69, 80, 84, 72, 41]⟩] 35)).alloc (.cells #[.string ⟨#[37, 33, 40, 78, 79, 86, 69, 82, 66, 41]⟩, .string ⟨#[37, 33, 40, 66, 65, 68, 87, 73, 68, 84, 72, 41]⟩, .string ⟨#[37, 33, 40, 66, 65, 68, 80, 82, 69, 67, 41]⟩, .string ⟨#[37, 33, 40, 68, 69, 80, 84, 72, 41]⟩] 35)).cell? ⟨w4.heap.size + 1, i, none⟩ = (#[.string ⟨#[37, 33, 40, 78, 79, 86, 69, 82, 66, 41]⟩, .string ⟨#[37, 33, 40, 66, 65, 68, 87, 73, 68, 84, 72, 41]⟩, .string ⟨#[37, 33, 40, 66, 65, 68, 80, 82, 69, 67, 41]⟩, .string ⟨#[37, 33, 40, 68, 69, 80, 84, 72, 41]⟩] : Array Value)[i]?) := by
  have hsz : (w4.alloc (.cells #[.string ⟨#[37, 33, 40, 78, 79, 86, 69, 82, 66, 41]⟩, .string ⟨#[37, 33, 40, 66, 65, 68, 87, 73, 68, 84, 72, 41]⟩, .string ⟨#[37, 33, 40, 66, 65, 68, 80, 82, 69, 67, 41]⟩, .string ⟨#[37, 33, 40, 68, 69, 80, 84, 72, 41]⟩] 35)).heap.size = w4.heap.size + 1 := by simp
  refine ⟨(h.alloc h.size _).alloc (Nat.le_trans h.size (Nat.le_of_lt (alloc_lt _ _))) _, fun i => ((Blk.new w4 _ _).alloc _).cell i, fun i => ?_⟩
  rw [← hsz]
  exact (Blk.new _ _ _).cell i

/-- The law's two rows hold, at a place, the text. -/
structure FxS (w W : World) (H j : Nat) (X : ByteArray) : Prop where
  c1 : W.cell? ⟨H, j, none⟩ = some (.string X)
  c2 : W.cell? ⟨H + 1, j, none⟩ = some (.string X)
  below : Below w.heap.size w W
theorem FxS.kept {w W W' : World} {H j : Nat} {X : ByteArray} (h : FxS w W H j X) (hb : Below W.heap.size W W') : FxS w W' H j X :=
  ⟨(hb.cell (Lib.lt_of_cell h.c1)).trans h.c1, (hb.cell (Lib.lt_of_cell h.c2)).trans h.c2, h.below.trans (hb.mono h.below.size)⟩
theorem FxS.drew {w W : World} {H j : Nat} {X : ByteArray} (h : FxS w W H j X) : FxS w W.drew H j X := h.kept (Below.refl _ _).drew
theorem FxS.cells {w W : World} {H j : Nat} {X : ByteArray} (h : FxS w W H j X) : (W.cell? ⟨H, j, none⟩ = some (.string X) ∧ W.cell? ⟨H + 1, j, none⟩ = some (.string X)) ∧ FxS w W H j X := ⟨⟨h.c1, h.c2⟩, h⟩

set_option maxRecDepth 100000 in
set_option maxHeartbeats 1000000 in
theorem badFixed_law (k : Int) (w : World) (hT : TM w) (h0 : 0 ≤ k) (h1 : k ≤ 18446744073709551615) :
    Calls Tryd.prog 6 #[.int .u64 k] w fun e w' => e = .returned (.bool true) ∧ Below w.heap.size w w' := by
  have LV := hid (fun W hT => lives_any W hT)
  have OP := hid (fun W => open_any W)
  have WI := hid (fun W => width_any W)
  have PR := hid (fun W => prec_any W)
  have DP := hid (fun W => depth_any W)
  rw [openEx] at OP
  rw [widthEx] at WI
  rw [precEx] at PR
  rw [depthEx] at DP
  have HT := hid hT
  clear hT
  have hk : k % 4 = 0 ∨ k % 4 = 1 ∨ k % 4 = 2 ∨ k % 4 = 3 := by omega
  rcases hk with hk | hk | hk | hk
  · have RD := hid (fun W hT => read_any ⟨#[37, 33, 40, 78, 79, 86, 69, 82, 66, 41]⟩ W hT (by decide))
    have e1 : readV (⟨#[37, 33, 40, 78, 79, 86, 69, 82, 66, 41]⟩ : ByteArray).data.toList = _ := readO
    rw [e1] at RD
    obtain ⟨I, hI⟩ : ∃ I : ByteArray, I = ⟨#[78, 79, 86, 69, 82, 66]⟩ := ⟨_, rfl⟩
    rw [← hI] at RD
    have e2 : (((⟨#[37, 33, 40]⟩ : ByteArray) ++ I ++ (⟨#[41]⟩ : ByteArray)).toList == [37, 33, 40, 78, 79, 86, 69, 82, 66, 41]) = true := by rw [hI, beq_lit]; decide
    have q0 : I.size ≤ 10 := by rw [hI]; decide
    have q1 : ¬ 9223372036854775807 < 3 + I.size := by omega
    have q2 : ¬ 9223372036854775807 < 3 + I.size + 1 := by omega
    clear e1 hI
    go_enter Tryd.func6, Tryd.ntmps6
    go_wp2_with fail
    refine (OP.out _).mono ?_
    rintro e w1 ⟨rfl, b1⟩
    have B1 := hid b1
    clear b1
    go_wp2_with fail
    refine (WI.out _).mono ?_
    rintro e w2 ⟨rfl, b2⟩
    have B2 := hid (B1.out.trans (b2.mono B1.out.size))
    clear b2
    go_wp2_with fail
    refine (PR.out _).mono ?_
    rintro e w3 ⟨rfl, b3⟩
    have B3 := hid (B2.out.trans (b3.mono B2.out.size))
    clear b3
    go_wp2_with fail
    refine (DP.out _).mono ?_
    rintro e w4 ⟨rfl, b4⟩
    have B4 := hid (B3.out.trans (b4.mono B3.out.size))
    clear b4
    go_wp2_with fail
    obtain ⟨B5, W, d2⟩ := two_rows w4 B4.out
    refine (RD.out _ (HT.out.below B5)).mono ?_
    rintro e w6 ⟨rfl, b6⟩
    have B6 := hid (B5.trans (b6.mono B5.size))
    have c1 := (b6.cell (p := ⟨w4.heap.size, 0, none⟩) (by simp; omega)).trans (W 0)
    have c2 := (b6.cell (p := ⟨w4.heap.size + 1, 0, none⟩) (by simp)).trans (d2 0)
    have ix : ∀ W : World, (Instr.index 36 (.agg #[.int .i64 6, .int .i64 7, .int .i64 8, .int .i64 9]) (.int .i64 0)).run Tryd.prog W = .ok (.int .i64 6) W := fun W => by kernel_rfl
    obtain ⟨H, hH⟩ : ∃ H, w4.heap.size = H := ⟨_, rfl⟩
    rw [hH] at c1 c2 ⊢
    have LVF := hid (fun (W : World) (st : FxS w W H 0 ⟨#[37, 33, 40, 78, 79, 86, 69, 82, 66, 41]⟩) => (LV.out W (HT.out.below st.below)).mono (fun _ _ h => And.intro h.1 (st.kept h.2)))
    have sd : FxS w w6.drew H 0 ⟨#[37, 33, 40, 78, 79, 86, 69, 82, 66, 41]⟩ := FxS.drew ⟨c1, c2, B6.out⟩
    clear b6 W d2 hH c1 c2
    go_upto_region 5 with fail
    go_region_held3 (fun w' => (w'.cell? ⟨H, 0, none⟩ = some (.string ⟨#[37, 33, 40, 78, 79, 86, 69, 82, 66, 41]⟩) ∧ w'.cell? ⟨H + 1, 0, none⟩ = some (.string ⟨#[37, 33, 40, 78, 79, 86, 69, 82, 66, 41]⟩)) ∧ FxS w w' H 0 ⟨#[37, 33, 40, 78, 79, 86, 69, 82, 66, 41]⟩) (exact FxS.cells (by assumption))
      ((first
        | ((with_reducible refine (LVF.out _ (by assumption)).mono ?_); rintro e Wa ⟨rfl, sd1⟩)))
    all_goals
      clear sd
      go_wp2_with fail
      go_ret
      exact ⟨rfl, sd1.below⟩
  · have RD := hid (fun W hT => read_any ⟨#[37, 33, 40, 66, 65, 68, 87, 73, 68, 84, 72, 41]⟩ W hT (by decide))
    have e1 : readV (⟨#[37, 33, 40, 66, 65, 68, 87, 73, 68, 84, 72, 41]⟩ : ByteArray).data.toList = _ := readW
    rw [e1] at RD
    obtain ⟨I, hI⟩ : ∃ I : ByteArray, I = ⟨#[66, 65, 68, 87, 73, 68, 84, 72]⟩ := ⟨_, rfl⟩
    rw [← hI] at RD
    have e2 : (((⟨#[37, 33, 40]⟩ : ByteArray) ++ I ++ (⟨#[41]⟩ : ByteArray)).toList == [37, 33, 40, 66, 65, 68, 87, 73, 68, 84, 72, 41]) = true := by rw [hI, beq_lit]; decide
    have q0 : I.size ≤ 10 := by rw [hI]; decide
    have q1 : ¬ 9223372036854775807 < 3 + I.size := by omega
    have q2 : ¬ 9223372036854775807 < 3 + I.size + 1 := by omega
    clear e1 hI
    go_enter Tryd.func6, Tryd.ntmps6
    go_wp2_with fail
    refine (OP.out _).mono ?_
    rintro e w1 ⟨rfl, b1⟩
    have B1 := hid b1
    clear b1
    go_wp2_with fail
    refine (WI.out _).mono ?_
    rintro e w2 ⟨rfl, b2⟩
    have B2 := hid (B1.out.trans (b2.mono B1.out.size))
    clear b2
    go_wp2_with fail
    refine (PR.out _).mono ?_
    rintro e w3 ⟨rfl, b3⟩
    have B3 := hid (B2.out.trans (b3.mono B2.out.size))
    clear b3
    go_wp2_with fail
    refine (DP.out _).mono ?_
    rintro e w4 ⟨rfl, b4⟩
    have B4 := hid (B3.out.trans (b4.mono B3.out.size))
    clear b4
    go_wp2_with fail
    obtain ⟨B5, W, d2⟩ := two_rows w4 B4.out
    refine (RD.out _ (HT.out.below B5)).mono ?_
    rintro e w6 ⟨rfl, b6⟩
    have B6 := hid (B5.trans (b6.mono B5.size))
    have c1 := (b6.cell (p := ⟨w4.heap.size, 1, none⟩) (by simp; omega)).trans (W 1)
    have c2 := (b6.cell (p := ⟨w4.heap.size + 1, 1, none⟩) (by simp)).trans (d2 1)
    have ix : ∀ W : World, (Instr.index 36 (.agg #[.int .i64 6, .int .i64 7, .int .i64 8, .int .i64 9]) (.int .i64 1)).run Tryd.prog W = .ok (.int .i64 7) W := fun W => by kernel_rfl
    obtain ⟨H, hH⟩ : ∃ H, w4.heap.size = H := ⟨_, rfl⟩
    rw [hH] at c1 c2 ⊢
    have LVF := hid (fun (W : World) (st : FxS w W H 1 ⟨#[37, 33, 40, 66, 65, 68, 87, 73, 68, 84, 72, 41]⟩) => (LV.out W (HT.out.below st.below)).mono (fun _ _ h => And.intro h.1 (st.kept h.2)))
    have sd : FxS w w6.drew H 1 ⟨#[37, 33, 40, 66, 65, 68, 87, 73, 68, 84, 72, 41]⟩ := FxS.drew ⟨c1, c2, B6.out⟩
    clear b6 W d2 hH c1 c2
    go_upto_region 5 with fail
    go_region_held3 (fun w' => (w'.cell? ⟨H, 1, none⟩ = some (.string ⟨#[37, 33, 40, 66, 65, 68, 87, 73, 68, 84, 72, 41]⟩) ∧ w'.cell? ⟨H + 1, 1, none⟩ = some (.string ⟨#[37, 33, 40, 66, 65, 68, 87, 73, 68, 84, 72, 41]⟩)) ∧ FxS w w' H 1 ⟨#[37, 33, 40, 66, 65, 68, 87, 73, 68, 84, 72, 41]⟩) (exact FxS.cells (by assumption))
      ((first
        | ((with_reducible refine (LVF.out _ (by assumption)).mono ?_); rintro e Wa ⟨rfl, sd1⟩)))
    all_goals
      clear sd
      go_wp2_with fail
      go_ret
      exact ⟨rfl, sd1.below⟩
  · have RD := hid (fun W hT => read_any ⟨#[37, 33, 40, 66, 65, 68, 80, 82, 69, 67, 41]⟩ W hT (by decide))
    have e1 : readV (⟨#[37, 33, 40, 66, 65, 68, 80, 82, 69, 67, 41]⟩ : ByteArray).data.toList = _ := readP
    rw [e1] at RD
    obtain ⟨I, hI⟩ : ∃ I : ByteArray, I = ⟨#[66, 65, 68, 80, 82, 69, 67]⟩ := ⟨_, rfl⟩
    rw [← hI] at RD
    have e2 : (((⟨#[37, 33, 40]⟩ : ByteArray) ++ I ++ (⟨#[41]⟩ : ByteArray)).toList == [37, 33, 40, 66, 65, 68, 80, 82, 69, 67, 41]) = true := by rw [hI, beq_lit]; decide
    have q0 : I.size ≤ 10 := by rw [hI]; decide
    have q1 : ¬ 9223372036854775807 < 3 + I.size := by omega
    have q2 : ¬ 9223372036854775807 < 3 + I.size + 1 := by omega
    clear e1 hI
    go_enter Tryd.func6, Tryd.ntmps6
    go_wp2_with fail
    refine (OP.out _).mono ?_
    rintro e w1 ⟨rfl, b1⟩
    have B1 := hid b1
    clear b1
    go_wp2_with fail
    refine (WI.out _).mono ?_
    rintro e w2 ⟨rfl, b2⟩
    have B2 := hid (B1.out.trans (b2.mono B1.out.size))
    clear b2
    go_wp2_with fail
    refine (PR.out _).mono ?_
    rintro e w3 ⟨rfl, b3⟩
    have B3 := hid (B2.out.trans (b3.mono B2.out.size))
    clear b3
    go_wp2_with fail
    refine (DP.out _).mono ?_
    rintro e w4 ⟨rfl, b4⟩
    have B4 := hid (B3.out.trans (b4.mono B3.out.size))
    clear b4
    go_wp2_with fail
    obtain ⟨B5, W, d2⟩ := two_rows w4 B4.out
    refine (RD.out _ (HT.out.below B5)).mono ?_
    rintro e w6 ⟨rfl, b6⟩
    have B6 := hid (B5.trans (b6.mono B5.size))
    have c1 := (b6.cell (p := ⟨w4.heap.size, 2, none⟩) (by simp; omega)).trans (W 2)
    have c2 := (b6.cell (p := ⟨w4.heap.size + 1, 2, none⟩) (by simp)).trans (d2 2)
    have ix : ∀ W : World, (Instr.index 36 (.agg #[.int .i64 6, .int .i64 7, .int .i64 8, .int .i64 9]) (.int .i64 2)).run Tryd.prog W = .ok (.int .i64 8) W := fun W => by kernel_rfl
    obtain ⟨H, hH⟩ : ∃ H, w4.heap.size = H := ⟨_, rfl⟩
    rw [hH] at c1 c2 ⊢
    have LVF := hid (fun (W : World) (st : FxS w W H 2 ⟨#[37, 33, 40, 66, 65, 68, 80, 82, 69, 67, 41]⟩) => (LV.out W (HT.out.below st.below)).mono (fun _ _ h => And.intro h.1 (st.kept h.2)))
    have sd : FxS w w6.drew H 2 ⟨#[37, 33, 40, 66, 65, 68, 80, 82, 69, 67, 41]⟩ := FxS.drew ⟨c1, c2, B6.out⟩
    clear b6 W d2 hH c1 c2
    go_upto_region 5 with fail
    go_region_held3 (fun w' => (w'.cell? ⟨H, 2, none⟩ = some (.string ⟨#[37, 33, 40, 66, 65, 68, 80, 82, 69, 67, 41]⟩) ∧ w'.cell? ⟨H + 1, 2, none⟩ = some (.string ⟨#[37, 33, 40, 66, 65, 68, 80, 82, 69, 67, 41]⟩)) ∧ FxS w w' H 2 ⟨#[37, 33, 40, 66, 65, 68, 80, 82, 69, 67, 41]⟩) (exact FxS.cells (by assumption))
      ((first
        | ((with_reducible refine (LVF.out _ (by assumption)).mono ?_); rintro e Wa ⟨rfl, sd1⟩)))
    all_goals
      clear sd
      go_wp2_with fail
      go_ret
      exact ⟨rfl, sd1.below⟩
  · have RD := hid (fun W hT => read_any ⟨#[37, 33, 40, 68, 69, 80, 84, 72, 41]⟩ W hT (by decide))
    have e1 : readV (⟨#[37, 33, 40, 68, 69, 80, 84, 72, 41]⟩ : ByteArray).data.toList = _ := readD
    rw [e1] at RD
    obtain ⟨I, hI⟩ : ∃ I : ByteArray, I = ⟨#[68, 69, 80, 84, 72]⟩ := ⟨_, rfl⟩
    rw [← hI] at RD
    have e2 : (((⟨#[37, 33, 40]⟩ : ByteArray) ++ I ++ (⟨#[41]⟩ : ByteArray)).toList == [37, 33, 40, 68, 69, 80, 84, 72, 41]) = true := by rw [hI, beq_lit]; decide
    have q0 : I.size ≤ 10 := by rw [hI]; decide
    have q1 : ¬ 9223372036854775807 < 3 + I.size := by omega
    have q2 : ¬ 9223372036854775807 < 3 + I.size + 1 := by omega
    clear e1 hI
    go_enter Tryd.func6, Tryd.ntmps6
    go_wp2_with fail
    refine (OP.out _).mono ?_
    rintro e w1 ⟨rfl, b1⟩
    have B1 := hid b1
    clear b1
    go_wp2_with fail
    refine (WI.out _).mono ?_
    rintro e w2 ⟨rfl, b2⟩
    have B2 := hid (B1.out.trans (b2.mono B1.out.size))
    clear b2
    go_wp2_with fail
    refine (PR.out _).mono ?_
    rintro e w3 ⟨rfl, b3⟩
    have B3 := hid (B2.out.trans (b3.mono B2.out.size))
    clear b3
    go_wp2_with fail
    refine (DP.out _).mono ?_
    rintro e w4 ⟨rfl, b4⟩
    have B4 := hid (B3.out.trans (b4.mono B3.out.size))
    clear b4
    go_wp2_with fail
    obtain ⟨B5, W, d2⟩ := two_rows w4 B4.out
    refine (RD.out _ (HT.out.below B5)).mono ?_
    rintro e w6 ⟨rfl, b6⟩
    have B6 := hid (B5.trans (b6.mono B5.size))
    have c1 := (b6.cell (p := ⟨w4.heap.size, 3, none⟩) (by simp; omega)).trans (W 3)
    have c2 := (b6.cell (p := ⟨w4.heap.size + 1, 3, none⟩) (by simp)).trans (d2 3)
    have ix : ∀ W : World, (Instr.index 36 (.agg #[.int .i64 6, .int .i64 7, .int .i64 8, .int .i64 9]) (.int .i64 3)).run Tryd.prog W = .ok (.int .i64 9) W := fun W => by kernel_rfl
    obtain ⟨H, hH⟩ : ∃ H, w4.heap.size = H := ⟨_, rfl⟩
    rw [hH] at c1 c2 ⊢
    have LVF := hid (fun (W : World) (st : FxS w W H 3 ⟨#[37, 33, 40, 68, 69, 80, 84, 72, 41]⟩) => (LV.out W (HT.out.below st.below)).mono (fun _ _ h => And.intro h.1 (st.kept h.2)))
    have sd : FxS w w6.drew H 3 ⟨#[37, 33, 40, 68, 69, 80, 84, 72, 41]⟩ := FxS.drew ⟨c1, c2, B6.out⟩
    clear b6 W d2 hH c1 c2
    go_upto_region 5 with fail
    go_region_held3 (fun w' => (w'.cell? ⟨H, 3, none⟩ = some (.string ⟨#[37, 33, 40, 68, 69, 80, 84, 72, 41]⟩) ∧ w'.cell? ⟨H + 1, 3, none⟩ = some (.string ⟨#[37, 33, 40, 68, 69, 80, 84, 72, 41]⟩)) ∧ FxS w w' H 3 ⟨#[37, 33, 40, 68, 69, 80, 84, 72, 41]⟩) (exact FxS.cells (by assumption))
      ((first
        | ((with_reducible refine (LVF.out _ (by assumption)).mono ?_); rintro e Wa ⟨rfl, sd1⟩)))
    all_goals
      clear sd
      go_wp2_with fail
      go_ret
      exact ⟨rfl, sd1.below⟩
end Go.Proofs.YteifnddblnaepaaDoor
