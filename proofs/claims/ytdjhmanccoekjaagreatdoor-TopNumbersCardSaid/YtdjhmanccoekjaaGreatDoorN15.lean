/-
  Texts of this claim, joined: TU, TV, TW, TX.
-/
import Derived.Test.YtdjhmanccoekjaaGreatDoorN14

section
namespace Go.Proofs.YtdjhmanccoekjaaGreatDoor
open Go.RowKit Go.Proofs

def greatB (k : Int) : Bool := decide (18 ≤ k ∧ k ≤ 22)
set_option maxHeartbeats 1000000 in
theorem rgreat_no (k : Int) (w : World) (h : ¬ (18 ≤ k ∧ k ≤ 22)) : Calls Tryz.prog 35 #[.int .i64 k] w fun e w' => e = .returned (.bool false) ∧ w = w' := by
  by_cases h1 : 18 ≤ k
  · have d1 : decide (18 ≤ k) = true := decide_eq_true h1
    have d2 : decide (k ≤ 22) = false := decide_eq_false (by omega)
    go_enter Tryz.func35, Tryz.ntmps35
    go_wp2_with fail
    go_ret
    exact ⟨rfl, rfl⟩
  · have d1 : decide (18 ≤ k) = false := decide_eq_false h1
    go_enter Tryz.func35, Tryz.ntmps35
    go_wp2_with fail
    go_ret
    exact ⟨rfl, rfl⟩
set_option maxRecDepth 100000 in
set_option maxHeartbeats 4000000 in
theorem rall_leaf (d : De) (w : World) (h : ¬ (18 ≤ d.k ∧ d.k ≤ 22)) :
    Calls Tryz.prog 30 #[.agg (deV d)] w fun e w' => ∃ g g2, e = .returned (.tuple #[.slice (some ⟨g, 0, none⟩) 1 1, .slice (some ⟨g2, 0, none⟩) 1 1]) ∧ Blk w' g (deV d) 29 ∧ Blk w' g2 #[.int .i64 0] 3 ∧ Below w.heap.size w w' := by
  have GR := hid (fun W => rgreat_no d.k W h)
  clear h
  go_enter Tryz.func30, Tryz.ntmps30
  go_wp2_with fail
  refine wp_loop_rounds 2 ?_
  rw [rounds_succ]
  go_wp2_with fail
  refine (GR.out _).mono ?_
  rintro e w1 ⟨rfl, hw⟩
  subst hw
  go_wp2_with fail
  rw [rounds_succ]
  go_wp2_with fail
  go_ret2
  refine ⟨w.heap.size + 1, w.heap.size + 1 + 1, rfl, ?_, ?_, below_n (below_n (below_n (Below.refl _ _) _ _) _ _) _ _⟩
  · have := (Blk.new (w.alloc (.cells (deV d) 29)) (deV d) 29).alloc (.cells #[.int .i64 0] 3)
    rw [World.size_alloc] at this
    exact this
  · have := Blk.new ((w.alloc (.cells (deV d) 29)).alloc (.cells (deV d) 29)) #[.int .i64 0] 3
    rw [World.size_alloc, World.size_alloc] at this
    exact this
set_option maxRecDepth 100000 in
set_option maxHeartbeats 1000000 in
theorem rtyped_any (s : ByteArray) (w : World) (hs : s.size ≤ 140737488355328) :
    Calls Tryz.prog 54 #[.string s] w fun e w' => e = .returned (.bool (typedB s)) ∧ w = w' := by
  obtain ⟨N, hN⟩ : ∃ N, typedB s = N := ⟨_, rfl⟩
  rw [hN]
  have HN := hid hN
  clear hN
  go_enter Tryz.func54, Tryz.ntmps54
  go_wp2_with fail
  go_loopw [3] (fun iv wr => ∃ (i : Nat), iv = .int .i64 i ∧ i ≤ s.size ∧ wr = w ∧ Hid ((typedL (s.data.toList.drop i) && decide (s.size ≤ 32)) = N)) (fun iv _ => s.size - (match iv with | .int _ n => n.toNat | _ => 0))
  case atStart => exact ⟨0, rfl, Nat.zero_le _, rfl, HN⟩
  case round =>
    obtain ⟨i, rfl, hi, rfl, hk⟩ := hrel
    by_cases hp : i < s.size
    · have hlen : i < s.data.toList.length := by rw [← Utf.size_eq]; exact hp
      have E0 := bt_at s i hp
      have hst := hk.out
      rw [drop_get hlen, typedL_cons] at hst
      have hc : ((s.data.toList.getD i 0).toNat : Int) = bt s i := by unfold bt; rw [List.getD_eq_getElem?_getD]
      obtain ⟨c, hcc⟩ : ∃ c, bt s i = c := ⟨_, rfl⟩
      rw [hcc] at E0 hc
      have hcb : 0 ≤ c ∧ c ≤ 255 := by have := bt_bound s i; omega
      have hd : decide (33 ≤ (s.data.toList.getD i 0).toNat ∧ (s.data.toList.getD i 0).toNat ≤ 126) = decide (33 ≤ c ∧ c ≤ 126) := by congr 1; apply propext; omega
      rw [hd] at hst
      clear hc hd hcc
      have HST := hid hst
      clear hst
      by_cases h1 : c < 33
      · go_wp2_with fail
        go_ret
        have := HST.out
        rw [decide_eq_false (by omega)] at this
        simp only [Bool.false_and] at this
        subst this
        exact ⟨rfl, rfl⟩
      by_cases h2 : 126 < c
      · go_wp2_with fail
        go_ret
        have := HST.out
        rw [decide_eq_false (by omega)] at this
        simp only [Bool.false_and] at this
        subst this
        exact ⟨rfl, rfl⟩
      · go_wp2_with fail
        go_roundw
        case rel =>
          refine ⟨i + 1, by first | rfl | go_num, hp, by first | trivial | rfl, ?_⟩
          have := HST.out
          rw [decide_eq_true (by omega)] at this
          exact hid (by simpa using this)
        case measure => go_num
    · go_wp2_with fail
      go_ret
      have e : s.data.toList.drop i = [] := List.drop_eq_nil_of_le (by rw [← Utf.size_eq]; omega)
      have := hk.out
      rw [e] at this
      refine ⟨?_, rfl⟩
      rw [← this]
      show Ending.returned (.bool (decide ((s.size : Int) ≤ 32))) = .returned (.bool (true && decide (s.size ≤ 32)))
      rw [Bool.true_and]
      congr 2
      simp
      omega
set_option maxRecDepth 100000 in
set_option maxHeartbeats 1000000 in
theorem rform_leaf (d : De) (w : World) (hs : d.ty.size ≤ 140737488355328) (h : ¬ (18 ≤ d.k ∧ d.k ≤ 22)) :
    Calls Tryz.prog 31 #[.agg (deV d)] w fun e w' => e = .returned (.bool (formB d)) ∧ Below w.heap.size w w' := by
  obtain ⟨k, ty, b, im, t, nm, pa, hk⟩ := d
  simp only at hs h ⊢
  have TY := hid (fun W => rtyped_any ty W hs)
  have g1 : (k == 18) = false := by simp; omega
  have g2 : (k == 21) = false := by simp; omega
  have g3 : (k == 22) = false := by simp; omega
  by_cases h0 : k = 0
  · subst h0
    clear h
    go_enter Tryz.func31, Tryz.ntmps31
    go_wp2_with fail
    go_ret
    exact ⟨rfl, (Below.refl _ _).alloc (Nat.le_refl _) _⟩
  · have h00 : (k == 0) = false := by simpa using h0
    have h01 : (k != 0) = true := by simpa using h0
    have hf : formB ⟨k, ty, b, im, t, nm, pa, hk⟩ = typedB ty := by
      unfold formB
      simp [h0]
    rw [hf]
    obtain ⟨x, hx⟩ : ∃ x, typedB ty = x := ⟨_, rfl⟩
    rw [hx] at TY ⊢
    clear h h0 hf hx
    cases x
    · go_enter Tryz.func31, Tryz.ntmps31
      go_wp2_with fail
      refine (TY.out _).mono ?_
      rintro e w1 ⟨rfl, hb⟩
      subst hb
      go_wp2_with fail
      go_ret
      exact ⟨rfl, (Below.refl _ _).alloc (Nat.le_refl _) _⟩
    · go_enter Tryz.func31, Tryz.ntmps31
      go_wp2_with fail
      refine (TY.out _).mono ?_
      rintro e w1 ⟨rfl, hb⟩
      subst hb
      go_wp2_with fail
      go_ret
      exact ⟨rfl, (Below.refl _ _).alloc (Nat.le_refl _) _⟩
set_option maxRecDepth 100000 in
set_option maxHeartbeats 1000000 in
theorem rtwice_leaf (d : De) (w : World) (h : ¬ (18 ≤ d.k ∧ d.k ≤ 22)) :
    Calls Tryz.prog 32 #[.agg (deV d)] w fun e w' => e = .returned (.bool false) ∧ Below w.heap.size w w' := by
  obtain ⟨k, ty, b, im, t, nm, pa, hk⟩ := d
  simp only at h ⊢
  have g1 : (k == 18) = false := by simp; omega
  have g2 : (k == 21) = false := by simp; omega
  clear h
  go_enter Tryz.func32, Tryz.ntmps32
  go_wp2_with fail
  go_ret
  exact ⟨rfl, (Below.refl _ _).alloc (Nat.le_refl _) _⟩
/-- The checked list. -/
structure Ck (w : World) (g g2 : Nat) (d : De) (W : World) : Prop where
  low : Below w.heap.size w W
  row : Blk W g (deV d) 29
  dep : Blk W g2 #[.int .i64 0] 3
theorem Ck.kept {w : World} {g g2 : Nat} {d : De} {W W' : World} (h : Ck w g g2 d W) (hb : Below W.heap.size W W') : Ck w g g2 d W' :=
  ⟨h.low.trans (hb.mono h.low.size), h.row.below hb h.row.lt, h.dep.below hb h.dep.lt⟩
set_option maxRecDepth 100000 in
set_option maxHeartbeats 4000000 in
theorem rcheck_num (d : De) (w : World) (hk : (0 ≤ d.k ∧ d.k ≤ 17) ∧ d.k ≠ 16 ∧ d.k ≠ 17) (ht : d.t.size ≤ 1024) (hs : d.ty.size ≤ 140737488355328) (hf : formB d = true) :
    Calls Tryz.prog 20 #[.agg (deV d)] w fun e w' => e = .returned (.int .i64 0) ∧ Below w.heap.size w w' := by
  have hl : ¬ (18 ≤ d.k ∧ d.k ≤ 22) := by omega
  have AL := hid (fun W => rall_leaf d W hl)
  have FO := hid (fun W => rform_leaf d W hs hl)
  have TW := hid (fun W => rtwice_leaf d W hl)
  rw [hf] at FO
  have l0 := (Below.refl w.heap.size w).alloc (Nat.le_refl _) (.cells (deV d) 29)
  have L0 := hid l0
  have dt2 : decide (1024 < (d.t.size : Int)) = false := decide_eq_false (by omega)
  have dk1 : decide (d.k < 0) = false := decide_eq_false (by omega)
  have dk2 : decide (22 < d.k) = false := decide_eq_false (by omega)
  have g1 : (d.k == 16) = false := by simp; omega
  have g2' : (d.k == 17) = false := by simp; omega
  clear l0 hl hs hf
  obtain ⟨k, ty, b, im, t, nm, pa, hh⟩ := d
  simp only at *
  go_enter Tryz.func20, Tryz.ntmps20
  go_wp2_with fail
  refine (AL.out _).mono ?_
  rintro e W1 ⟨g, g2, rfl, hg, hg2, hb⟩
  have C1 := hid (show Ck w g g2 _ W1 from ⟨L0.out.trans (hb.mono L0.out.size), hg, hg2⟩)
  clear hg hg2 hb
  have c0 := C1.out.row.cell 0
  have c1 := C1.out.row.cell 1
  have c2 := C1.out.row.cell 2
  have c3 := C1.out.row.cell 3
  have c4 := C1.out.row.cell 4
  have c5 := C1.out.row.cell 5
  have c6 := C1.out.row.cell 6
  have c7 := C1.out.row.cell 7
  have e0 := C1.out.dep.cell 0
  go_wp2_with fail
  refine wp_loop_rounds 2 ?_
  rw [rounds_succ]
  go_wp2_with fail
  obtain ⟨W2, hW2⟩ : ∃ W', World.alloc W1 (.cells #[.int .i64 k, .string ty, .int .u64 b, .int .u64 im, .string t, slV nm, slV pa, .int .i64 hh] 29) = W' := ⟨_, rfl⟩
  have C2 := hid (show Ck w g g2 _ W2 from hW2 ▸ C1.out.kept ((Below.refl _ _).alloc (Nat.le_refl _) _))
  rw [hW2]
  clear hW2
  clear c0 c1 c2 c3 c4 c5 c6 c7 e0
  have c0 := C2.out.row.cell 0
  have c1 := C2.out.row.cell 1
  have c2 := C2.out.row.cell 2
  have c3 := C2.out.row.cell 3
  have c4 := C2.out.row.cell 4
  have c5 := C2.out.row.cell 5
  have c6 := C2.out.row.cell 6
  have c7 := C2.out.row.cell 7
  have e0 := C2.out.dep.cell 0
  rw [rounds_succ]
  go_wp2_with fail
  refine wp_loop_rounds 2 ?_
  rw [rounds_succ]
  go_wp2_with fail
  rw [rounds_succ]
  go_wp2_with fail
  refine wp_loop_rounds 2 ?_
  rw [rounds_succ]
  go_wp2_with fail
  obtain ⟨W3, hW3⟩ : ∃ W', World.alloc W2 (.cells #[.int .i64 k, .string ty, .int .u64 b, .int .u64 im, .string t, slV nm, slV pa, .int .i64 hh] 29) = W' := ⟨_, rfl⟩
  have C3 := hid (show Ck w g g2 _ W3 from hW3 ▸ C2.out.kept ((Below.refl _ _).alloc (Nat.le_refl _) _))
  rw [hW3]
  clear hW3
  clear c0 c1 c2 c3 c4 c5 c6 c7 e0
  have c0 := C3.out.row.cell 0
  have c1 := C3.out.row.cell 1
  have c2 := C3.out.row.cell 2
  have c3 := C3.out.row.cell 3
  have c4 := C3.out.row.cell 4
  have c5 := C3.out.row.cell 5
  have c6 := C3.out.row.cell 6
  have c7 := C3.out.row.cell 7
  have e0 := C3.out.dep.cell 0
  rw [rounds_succ]
  go_wp2_with fail
  refine wp_loop_rounds 2 ?_
  rw [rounds_succ]
  go_wp2_with fail
  refine (FO.out _).mono ?_
  obtain ⟨W4, hW4⟩ : ∃ W', World.alloc W3 (.cells #[.int .i64 k, .string ty, .int .u64 b, .int .u64 im, .string t, slV nm, slV pa, .int .i64 hh] 29) = W' := ⟨_, rfl⟩
  rw [hW4]
  rintro e W5 ⟨rfl, hb⟩
  have C5 := hid ((show Ck w g g2 _ W4 from hW4 ▸ C3.out.kept ((Below.refl _ _).alloc (Nat.le_refl _) _)).kept hb)
  clear hW4 hb
  clear c0 c1 c2 c3 c4 c5 c6 c7 e0
  have c0 := C5.out.row.cell 0
  have c1 := C5.out.row.cell 1
  have c2 := C5.out.row.cell 2
  have c3 := C5.out.row.cell 3
  have c4 := C5.out.row.cell 4
  have c5 := C5.out.row.cell 5
  have c6 := C5.out.row.cell 6
  have c7 := C5.out.row.cell 7
  have e0 := C5.out.dep.cell 0
  go_wp2_with fail
  rw [rounds_succ]
  go_wp2_with fail
  refine wp_loop_rounds 2 ?_
  rw [rounds_succ]
  go_wp2_with fail
  refine (TW.out _).mono ?_
  obtain ⟨W6, hW6⟩ : ∃ W', World.alloc W5 (.cells #[.int .i64 k, .string ty, .int .u64 b, .int .u64 im, .string t, slV nm, slV pa, .int .i64 hh] 29) = W' := ⟨_, rfl⟩
  rw [hW6]
  rintro e W7 ⟨rfl, hb⟩
  have C7 := hid ((show Ck w g g2 _ W6 from hW6 ▸ C5.out.kept ((Below.refl _ _).alloc (Nat.le_refl _) _)).kept hb)
  clear hW6 hb
  clear c0 c1 c2 c3 c4 c5 c6 c7 e0
  go_wp2_with fail
  rw [rounds_succ]
  go_wp2_with fail
  go_ret
  exact ⟨rfl, C7.out.low⟩
set_option maxRecDepth 100000 in
set_option maxHeartbeats 4000000 in
theorem rcheck_t16 (d : De) (w : World) (hk : d.k = 16) (ht : d.t.size ≤ 1024) (hs : d.ty.size ≤ 140737488355328) (hf : formB d = true) :
    Calls Tryz.prog 20 #[.agg (deV d)] w fun e w' => e = .returned (.int .i64 0) ∧ Below w.heap.size w w' := by
  have hl : ¬ (18 ≤ d.k ∧ d.k ≤ 22) := by omega
  have AL := hid (fun W => rall_leaf d W hl)
  have FO := hid (fun W => rform_leaf d W hs hl)
  have TW := hid (fun W => rtwice_leaf d W hl)
  rw [hf] at FO
  have l0 := (Below.refl w.heap.size w).alloc (Nat.le_refl _) (.cells (deV d) 29)
  have L0 := hid l0
  have dt2 : decide (1024 < (d.t.size : Int)) = false := decide_eq_false (by omega)
  have dk1 : decide (d.k < 0) = false := decide_eq_false (by omega)
  have dk2 : decide (22 < d.k) = false := decide_eq_false (by omega)
  clear l0 hl hs hf
  obtain ⟨k, ty, b, im, t, nm, pa, hh⟩ := d
  simp only at *
  subst hk
  go_enter Tryz.func20, Tryz.ntmps20
  go_wp2_with fail
  refine (AL.out _).mono ?_
  rintro e W1 ⟨g, g2, rfl, hg, hg2, hb⟩
  have C1 := hid (show Ck w g g2 _ W1 from ⟨L0.out.trans (hb.mono L0.out.size), hg, hg2⟩)
  clear hg hg2 hb
  have c0 := C1.out.row.cell 0
  have c1 := C1.out.row.cell 1
  have c2 := C1.out.row.cell 2
  have c3 := C1.out.row.cell 3
  have c4 := C1.out.row.cell 4
  have c5 := C1.out.row.cell 5
  have c6 := C1.out.row.cell 6
  have c7 := C1.out.row.cell 7
  have e0 := C1.out.dep.cell 0
  go_wp2_with fail
  refine wp_loop_rounds 2 ?_
  rw [rounds_succ]
  go_wp2_with fail
  obtain ⟨W2, hW2⟩ : ∃ W', World.alloc W1 (.cells #[.int .i64 16, .string ty, .int .u64 b, .int .u64 im, .string t, slV nm, slV pa, .int .i64 hh] 29) = W' := ⟨_, rfl⟩
  have C2 := hid (show Ck w g g2 _ W2 from hW2 ▸ C1.out.kept ((Below.refl _ _).alloc (Nat.le_refl _) _))
  rw [hW2]
  clear hW2
  clear c0 c1 c2 c3 c4 c5 c6 c7 e0
  have c0 := C2.out.row.cell 0
  have c1 := C2.out.row.cell 1
  have c2 := C2.out.row.cell 2
  have c3 := C2.out.row.cell 3
  have c4 := C2.out.row.cell 4
  have c5 := C2.out.row.cell 5
  have c6 := C2.out.row.cell 6
  have c7 := C2.out.row.cell 7
  have e0 := C2.out.dep.cell 0
  rw [rounds_succ]
  go_wp2_with fail
  refine wp_loop_rounds 2 ?_
  rw [rounds_succ]
  go_wp2_with fail
  rw [rounds_succ]
  go_wp2_with fail
  refine wp_loop_rounds 2 ?_
  rw [rounds_succ]
  go_wp2_with fail
  obtain ⟨W3, hW3⟩ : ∃ W', World.alloc W2 (.cells #[.int .i64 16, .string ty, .int .u64 b, .int .u64 im, .string t, slV nm, slV pa, .int .i64 hh] 29) = W' := ⟨_, rfl⟩
  have C3 := hid (show Ck w g g2 _ W3 from hW3 ▸ C2.out.kept ((Below.refl _ _).alloc (Nat.le_refl _) _))
  rw [hW3]
  clear hW3
  clear c0 c1 c2 c3 c4 c5 c6 c7 e0
  have c0 := C3.out.row.cell 0
  have c1 := C3.out.row.cell 1
  have c2 := C3.out.row.cell 2
  have c3 := C3.out.row.cell 3
  have c4 := C3.out.row.cell 4
  have c5 := C3.out.row.cell 5
  have c6 := C3.out.row.cell 6
  have c7 := C3.out.row.cell 7
  have e0 := C3.out.dep.cell 0
  rw [rounds_succ]
  go_wp2_with fail
  refine wp_loop_rounds 2 ?_
  rw [rounds_succ]
  go_wp2_with fail
  refine (FO.out _).mono ?_
  obtain ⟨W4, hW4⟩ : ∃ W', World.alloc W3 (.cells #[.int .i64 16, .string ty, .int .u64 b, .int .u64 im, .string t, slV nm, slV pa, .int .i64 hh] 29) = W' := ⟨_, rfl⟩
  rw [hW4]
  rintro e W5 ⟨rfl, hb⟩
  have C5 := hid ((show Ck w g g2 _ W4 from hW4 ▸ C3.out.kept ((Below.refl _ _).alloc (Nat.le_refl _) _)).kept hb)
  clear hW4 hb
  clear c0 c1 c2 c3 c4 c5 c6 c7 e0
  have c0 := C5.out.row.cell 0
  have c1 := C5.out.row.cell 1
  have c2 := C5.out.row.cell 2
  have c3 := C5.out.row.cell 3
  have c4 := C5.out.row.cell 4
  have c5 := C5.out.row.cell 5
  have c6 := C5.out.row.cell 6
  have c7 := C5.out.row.cell 7
  have e0 := C5.out.dep.cell 0
  go_wp2_with fail
  rw [rounds_succ]
  go_wp2_with fail
  refine wp_loop_rounds 2 ?_
  rw [rounds_succ]
  go_wp2_with fail
  refine (TW.out _).mono ?_
  obtain ⟨W6, hW6⟩ : ∃ W', World.alloc W5 (.cells #[.int .i64 16, .string ty, .int .u64 b, .int .u64 im, .string t, slV nm, slV pa, .int .i64 hh] 29) = W' := ⟨_, rfl⟩
  rw [hW6]
  rintro e W7 ⟨rfl, hb⟩
  have C7 := hid ((show Ck w g g2 _ W6 from hW6 ▸ C5.out.kept ((Below.refl _ _).alloc (Nat.le_refl _) _)).kept hb)
  clear hW6 hb
  clear c0 c1 c2 c3 c4 c5 c6 c7 e0
  go_wp2_with fail
  rw [rounds_succ]
  go_wp2_with fail
  go_ret
  exact ⟨rfl, C7.out.low⟩
set_option maxRecDepth 100000 in
set_option maxHeartbeats 4000000 in
theorem rcheck_t17 (d : De) (w : World) (hk : d.k = 17) (ht : d.t.size ≤ 1024) (hs : d.ty.size ≤ 140737488355328) (hf : formB d = true) :
    Calls Tryz.prog 20 #[.agg (deV d)] w fun e w' => e = .returned (.int .i64 0) ∧ Below w.heap.size w w' := by
  have hl : ¬ (18 ≤ d.k ∧ d.k ≤ 22) := by omega
  have AL := hid (fun W => rall_leaf d W hl)
  have FO := hid (fun W => rform_leaf d W hs hl)
  have TW := hid (fun W => rtwice_leaf d W hl)
  rw [hf] at FO
  have l0 := (Below.refl w.heap.size w).alloc (Nat.le_refl _) (.cells (deV d) 29)
  have L0 := hid l0
  have dt2 : decide (1024 < (d.t.size : Int)) = false := decide_eq_false (by omega)
  have dk1 : decide (d.k < 0) = false := decide_eq_false (by omega)
  have dk2 : decide (22 < d.k) = false := decide_eq_false (by omega)
  clear l0 hl hs hf
  obtain ⟨k, ty, b, im, t, nm, pa, hh⟩ := d
  simp only at *
  subst hk
  go_enter Tryz.func20, Tryz.ntmps20
  go_wp2_with fail
  refine (AL.out _).mono ?_
  rintro e W1 ⟨g, g2, rfl, hg, hg2, hb⟩
  have C1 := hid (show Ck w g g2 _ W1 from ⟨L0.out.trans (hb.mono L0.out.size), hg, hg2⟩)
  clear hg hg2 hb
  have c0 := C1.out.row.cell 0
  have c1 := C1.out.row.cell 1
  have c2 := C1.out.row.cell 2
  have c3 := C1.out.row.cell 3
  have c4 := C1.out.row.cell 4
  have c5 := C1.out.row.cell 5
  have c6 := C1.out.row.cell 6
  have c7 := C1.out.row.cell 7
  have e0 := C1.out.dep.cell 0
  go_wp2_with fail
  refine wp_loop_rounds 2 ?_
  rw [rounds_succ]
  go_wp2_with fail
  obtain ⟨W2, hW2⟩ : ∃ W', World.alloc W1 (.cells #[.int .i64 17, .string ty, .int .u64 b, .int .u64 im, .string t, slV nm, slV pa, .int .i64 hh] 29) = W' := ⟨_, rfl⟩
  have C2 := hid (show Ck w g g2 _ W2 from hW2 ▸ C1.out.kept ((Below.refl _ _).alloc (Nat.le_refl _) _))
  rw [hW2]
  clear hW2
  clear c0 c1 c2 c3 c4 c5 c6 c7 e0
  have c0 := C2.out.row.cell 0
  have c1 := C2.out.row.cell 1
  have c2 := C2.out.row.cell 2
  have c3 := C2.out.row.cell 3
  have c4 := C2.out.row.cell 4
  have c5 := C2.out.row.cell 5
  have c6 := C2.out.row.cell 6
  have c7 := C2.out.row.cell 7
  have e0 := C2.out.dep.cell 0
  rw [rounds_succ]
  go_wp2_with fail
  refine wp_loop_rounds 2 ?_
  rw [rounds_succ]
  go_wp2_with fail
  rw [rounds_succ]
  go_wp2_with fail
  refine wp_loop_rounds 2 ?_
  rw [rounds_succ]
  go_wp2_with fail
  obtain ⟨W3, hW3⟩ : ∃ W', World.alloc W2 (.cells #[.int .i64 17, .string ty, .int .u64 b, .int .u64 im, .string t, slV nm, slV pa, .int .i64 hh] 29) = W' := ⟨_, rfl⟩
  have C3 := hid (show Ck w g g2 _ W3 from hW3 ▸ C2.out.kept ((Below.refl _ _).alloc (Nat.le_refl _) _))
  rw [hW3]
  clear hW3
  clear c0 c1 c2 c3 c4 c5 c6 c7 e0
  have c0 := C3.out.row.cell 0
  have c1 := C3.out.row.cell 1
  have c2 := C3.out.row.cell 2
  have c3 := C3.out.row.cell 3
  have c4 := C3.out.row.cell 4
  have c5 := C3.out.row.cell 5
  have c6 := C3.out.row.cell 6
  have c7 := C3.out.row.cell 7
  have e0 := C3.out.dep.cell 0
  rw [rounds_succ]
  go_wp2_with fail
  refine wp_loop_rounds 2 ?_
  rw [rounds_succ]
  go_wp2_with fail
  refine (FO.out _).mono ?_
  obtain ⟨W4, hW4⟩ : ∃ W', World.alloc W3 (.cells #[.int .i64 17, .string ty, .int .u64 b, .int .u64 im, .string t, slV nm, slV pa, .int .i64 hh] 29) = W' := ⟨_, rfl⟩
  rw [hW4]
  rintro e W5 ⟨rfl, hb⟩
  have C5 := hid ((show Ck w g g2 _ W4 from hW4 ▸ C3.out.kept ((Below.refl _ _).alloc (Nat.le_refl _) _)).kept hb)
  clear hW4 hb
  clear c0 c1 c2 c3 c4 c5 c6 c7 e0
  have c0 := C5.out.row.cell 0
  have c1 := C5.out.row.cell 1
  have c2 := C5.out.row.cell 2
  have c3 := C5.out.row.cell 3
  have c4 := C5.out.row.cell 4
  have c5 := C5.out.row.cell 5
  have c6 := C5.out.row.cell 6
  have c7 := C5.out.row.cell 7
  have e0 := C5.out.dep.cell 0
  go_wp2_with fail
  rw [rounds_succ]
  go_wp2_with fail
  refine wp_loop_rounds 2 ?_
  rw [rounds_succ]
  go_wp2_with fail
  refine (TW.out _).mono ?_
  obtain ⟨W6, hW6⟩ : ∃ W', World.alloc W5 (.cells #[.int .i64 17, .string ty, .int .u64 b, .int .u64 im, .string t, slV nm, slV pa, .int .i64 hh] 29) = W' := ⟨_, rfl⟩
  rw [hW6]
  rintro e W7 ⟨rfl, hb⟩
  have C7 := hid ((show Ck w g g2 _ W6 from hW6 ▸ C5.out.kept ((Below.refl _ _).alloc (Nat.le_refl _) _)).kept hb)
  clear hW6 hb
  clear c0 c1 c2 c3 c4 c5 c6 c7 e0
  go_wp2_with fail
  rw [rounds_succ]
  go_wp2_with fail
  go_ret
  exact ⟨rfl, C7.out.low⟩
theorem rcheck_leaf (d : De) (w : World) (hk : 0 ≤ d.k ∧ d.k ≤ 17) (ht : d.t.size ≤ 1024) (hs : d.ty.size ≤ 140737488355328) (hf : formB d = true) :
    Calls Tryz.prog 20 #[.agg (deV d)] w fun e w' => e = .returned (.int .i64 0) ∧ Below w.heap.size w w' := by
  by_cases h1 : d.k = 16
  · exact rcheck_t16 d w h1 ht hs hf
  by_cases h2 : d.k = 17
  · exact rcheck_t17 d w h2 ht hs hf
  exact rcheck_num d w ⟨hk, h1, h2⟩ ht hs hf
end Go.Proofs.YtdjhmanccoekjaaGreatDoor
end

section
namespace Go.Proofs.YtdjhmanccoekjaaGreatDoor
open Go.RowKit Go.Proofs

/-- The 64 bits of a whole number. -/
def numB (k b : Int) : Int := if k ≤ 6 then sxI k b % 18446744073709551616 else zxI k b
theorem rbits_of (k : Int) (w : World) (h : 2 ≤ k ∧ k ≤ 11) : Calls Tryz.prog 57 #[.int .i64 k] w fun x w' => x = .returned (.int .i64 (wBits k)) ∧ w = w' := by
  have hk : k = 2 ∨ k = 3 ∨ k = 4 ∨ k = 5 ∨ k = 6 ∨ k = 7 ∨ k = 8 ∨ k = 9 ∨ k = 10 ∨ k = 11 := by omega
  rcases hk with rfl | rfl | rfl | rfl | rfl | rfl | rfl | rfl | rfl | rfl
  all_goals go_enter Tryz.func57, Tryz.ntmps57
  all_goals go_wp2_with fail
  all_goals go_ret
  all_goals exact ⟨rfl, rfl⟩
theorem rsigned_of (k : Int) (w : World) (h : 2 ≤ k ∧ k ≤ 11) : Calls Tryz.prog 58 #[.int .i64 k] w fun x w' => x = .returned (.bool (decide (k ≤ 6))) ∧ w = w' := by
  have hk : k = 2 ∨ k = 3 ∨ k = 4 ∨ k = 5 ∨ k = 6 ∨ k = 7 ∨ k = 8 ∨ k = 9 ∨ k = 10 ∨ k = 11 := by omega
  rcases hk with rfl | rfl | rfl | rfl | rfl | rfl | rfl | rfl | rfl | rfl
  all_goals go_enter Tryz.func58, Tryz.ntmps58
  all_goals go_wp2_with fail
  all_goals go_ret
  all_goals exact ⟨rfl, rfl⟩
set_option maxHeartbeats 1000000 in
theorem rnumber2 (b : Int) (w : World) (h0 : 0 ≤ b) (h1 : b ≤ 18446744073709551615) : Calls Tryz.prog 34 #[.int .i64 2, .int .u64 b] w fun x w' => x = .returned (.int .u64 (numB 2 b)) ∧ w = w' := by
  have BI := hid (fun W => rbits_of 2 W (by decide))
  have SI := hid (fun W => rsigned_of 2 W (by decide))
  obtain ⟨y, hy⟩ : ∃ y, b % 256 = y := ⟨_, rfl⟩
  have hy0 : 0 ≤ y ∧ y < 256 := by omega
  by_cases hh : 128 ≤ y
  · have hv : numB 2 b = IntKind.u64.wrap (y - 256) := by
      rw [IntKind.wrap_u64]
      show ((b + 128) % 256 - 128) % 18446744073709551616 = _
      omega
    have dh : decide (y ≥ 128) = true := decide_eq_true hh
    have dh2 : decide (128 ≤ y) = true := decide_eq_true hh
    rw [hv]
    clear hv
    go_enter Tryz.func34, Tryz.ntmps34
    go_wp2_with fail
    refine (BI.out _).mono ?_
    rintro e w1 ⟨rfl, hw⟩
    subst hw
    rw [show wBits 2 = 8 from rfl]
    go_wp2_with fail
    refine (SI.out _).mono ?_
    rintro e w1 ⟨rfl, hw⟩
    subst hw
    rw [show decide ((2 : Int) ≤ 6) = true by decide]
    go_wp2_with fail
    go_ret
    exact ⟨rfl, rfl⟩
  · have hv : numB 2 b = y := by
      show ((b + 128) % 256 - 128) % 18446744073709551616 = _
      omega
    have dh : decide (y ≥ 128) = false := decide_eq_false hh
    have dh2 : decide (128 ≤ y) = false := decide_eq_false hh
    rw [hv]
    clear hv
    go_enter Tryz.func34, Tryz.ntmps34
    go_wp2_with fail
    refine (BI.out _).mono ?_
    rintro e w1 ⟨rfl, hw⟩
    subst hw
    rw [show wBits 2 = 8 from rfl]
    go_wp2_with fail
    refine (SI.out _).mono ?_
    rintro e w1 ⟨rfl, hw⟩
    subst hw
    rw [show decide ((2 : Int) ≤ 6) = true by decide]
    go_wp2_with fail
    go_ret
    exact ⟨rfl, rfl⟩
set_option maxHeartbeats 1000000 in
theorem rnumber3 (b : Int) (w : World) (h0 : 0 ≤ b) (h1 : b ≤ 18446744073709551615) : Calls Tryz.prog 34 #[.int .i64 3, .int .u64 b] w fun x w' => x = .returned (.int .u64 (numB 3 b)) ∧ w = w' := by
  have BI := hid (fun W => rbits_of 3 W (by decide))
  have SI := hid (fun W => rsigned_of 3 W (by decide))
  obtain ⟨y, hy⟩ : ∃ y, b % 65536 = y := ⟨_, rfl⟩
  have hy0 : 0 ≤ y ∧ y < 65536 := by omega
  by_cases hh : 32768 ≤ y
  · have hv : numB 3 b = IntKind.u64.wrap (y - 65536) := by
      rw [IntKind.wrap_u64]
      show ((b + 32768) % 65536 - 32768) % 18446744073709551616 = _
      omega
    have dh : decide (y ≥ 32768) = true := decide_eq_true hh
    have dh2 : decide (32768 ≤ y) = true := decide_eq_true hh
    rw [hv]
    clear hv
    go_enter Tryz.func34, Tryz.ntmps34
    go_wp2_with fail
    refine (BI.out _).mono ?_
    rintro e w1 ⟨rfl, hw⟩
    subst hw
    rw [show wBits 3 = 16 from rfl]
    go_wp2_with fail
    refine (SI.out _).mono ?_
    rintro e w1 ⟨rfl, hw⟩
    subst hw
    rw [show decide ((3 : Int) ≤ 6) = true by decide]
    go_wp2_with fail
    go_ret
    exact ⟨rfl, rfl⟩
  · have hv : numB 3 b = y := by
      show ((b + 32768) % 65536 - 32768) % 18446744073709551616 = _
      omega
    have dh : decide (y ≥ 32768) = false := decide_eq_false hh
    have dh2 : decide (32768 ≤ y) = false := decide_eq_false hh
    rw [hv]
    clear hv
    go_enter Tryz.func34, Tryz.ntmps34
    go_wp2_with fail
    refine (BI.out _).mono ?_
    rintro e w1 ⟨rfl, hw⟩
    subst hw
    rw [show wBits 3 = 16 from rfl]
    go_wp2_with fail
    refine (SI.out _).mono ?_
    rintro e w1 ⟨rfl, hw⟩
    subst hw
    rw [show decide ((3 : Int) ≤ 6) = true by decide]
    go_wp2_with fail
    go_ret
    exact ⟨rfl, rfl⟩
set_option maxHeartbeats 1000000 in
theorem rnumber4 (b : Int) (w : World) (h0 : 0 ≤ b) (h1 : b ≤ 18446744073709551615) : Calls Tryz.prog 34 #[.int .i64 4, .int .u64 b] w fun x w' => x = .returned (.int .u64 (numB 4 b)) ∧ w = w' := by
  have BI := hid (fun W => rbits_of 4 W (by decide))
  have SI := hid (fun W => rsigned_of 4 W (by decide))
  obtain ⟨y, hy⟩ : ∃ y, b % 4294967296 = y := ⟨_, rfl⟩
  have hy0 : 0 ≤ y ∧ y < 4294967296 := by omega
  by_cases hh : 2147483648 ≤ y
  · have hv : numB 4 b = IntKind.u64.wrap (y - 4294967296) := by
      rw [IntKind.wrap_u64]
      show ((b + 2147483648) % 4294967296 - 2147483648) % 18446744073709551616 = _
      omega
    have dh : decide (y ≥ 2147483648) = true := decide_eq_true hh
    have dh2 : decide (2147483648 ≤ y) = true := decide_eq_true hh
    rw [hv]
    clear hv
    go_enter Tryz.func34, Tryz.ntmps34
    go_wp2_with fail
    refine (BI.out _).mono ?_
    rintro e w1 ⟨rfl, hw⟩
    subst hw
    rw [show wBits 4 = 32 from rfl]
    go_wp2_with fail
    refine (SI.out _).mono ?_
    rintro e w1 ⟨rfl, hw⟩
    subst hw
    rw [show decide ((4 : Int) ≤ 6) = true by decide]
    go_wp2_with fail
    go_ret
    exact ⟨rfl, rfl⟩
  · have hv : numB 4 b = y := by
      show ((b + 2147483648) % 4294967296 - 2147483648) % 18446744073709551616 = _
      omega
    have dh : decide (y ≥ 2147483648) = false := decide_eq_false hh
    have dh2 : decide (2147483648 ≤ y) = false := decide_eq_false hh
    rw [hv]
    clear hv
    go_enter Tryz.func34, Tryz.ntmps34
    go_wp2_with fail
    refine (BI.out _).mono ?_
    rintro e w1 ⟨rfl, hw⟩
    subst hw
    rw [show wBits 4 = 32 from rfl]
    go_wp2_with fail
    refine (SI.out _).mono ?_
    rintro e w1 ⟨rfl, hw⟩
    subst hw
    rw [show decide ((4 : Int) ≤ 6) = true by decide]
    go_wp2_with fail
    go_ret
    exact ⟨rfl, rfl⟩
set_option maxHeartbeats 1000000 in
theorem rnumber5 (b : Int) (w : World) (h0 : 0 ≤ b) (h1 : b ≤ 18446744073709551615) : Calls Tryz.prog 34 #[.int .i64 5, .int .u64 b] w fun x w' => x = .returned (.int .u64 (numB 5 b)) ∧ w = w' := by
  have BI := hid (fun W => rbits_of 5 W (by decide))
  have SI := hid (fun W => rsigned_of 5 W (by decide))
  have hv : numB 5 b = b := by
    show ((b + 9223372036854775808) % 18446744073709551616 - 9223372036854775808) % 18446744073709551616 = b
    omega
  rw [hv]
  go_enter Tryz.func34, Tryz.ntmps34
  go_wp2_with fail
  refine (BI.out _).mono ?_
  rintro e w1 ⟨rfl, hw⟩
  subst hw
  rw [show wBits 5 = 64 from rfl]
  go_wp2_with fail
  go_ret
  exact ⟨rfl, rfl⟩
set_option maxHeartbeats 1000000 in
theorem rnumber6 (b : Int) (w : World) (h0 : 0 ≤ b) (h1 : b ≤ 18446744073709551615) : Calls Tryz.prog 34 #[.int .i64 6, .int .u64 b] w fun x w' => x = .returned (.int .u64 (numB 6 b)) ∧ w = w' := by
  have BI := hid (fun W => rbits_of 6 W (by decide))
  have SI := hid (fun W => rsigned_of 6 W (by decide))
  have hv : numB 6 b = b := by
    show ((b + 9223372036854775808) % 18446744073709551616 - 9223372036854775808) % 18446744073709551616 = b
    omega
  rw [hv]
  go_enter Tryz.func34, Tryz.ntmps34
  go_wp2_with fail
  refine (BI.out _).mono ?_
  rintro e w1 ⟨rfl, hw⟩
  subst hw
  rw [show wBits 6 = 64 from rfl]
  go_wp2_with fail
  go_ret
  exact ⟨rfl, rfl⟩
set_option maxHeartbeats 1000000 in
theorem rnumber7 (b : Int) (w : World) (h0 : 0 ≤ b) (h1 : b ≤ 18446744073709551615) : Calls Tryz.prog 34 #[.int .i64 7, .int .u64 b] w fun x w' => x = .returned (.int .u64 (numB 7 b)) ∧ w = w' := by
  have BI := hid (fun W => rbits_of 7 W (by decide))
  have SI := hid (fun W => rsigned_of 7 W (by decide))
  have hv : numB 7 b = b % 256 := rfl
  rw [hv]
  go_enter Tryz.func34, Tryz.ntmps34
  go_wp2_with fail
  refine (BI.out _).mono ?_
  rintro e w1 ⟨rfl, hw⟩
  subst hw
  rw [show wBits 7 = 8 from rfl]
  go_wp2_with fail
  refine (SI.out _).mono ?_
  rintro e w1 ⟨rfl, hw⟩
  subst hw
  rw [show decide ((7 : Int) ≤ 6) = false by decide]
  go_wp2_with fail
  go_ret
  exact ⟨rfl, rfl⟩
set_option maxHeartbeats 1000000 in
theorem rnumber8 (b : Int) (w : World) (h0 : 0 ≤ b) (h1 : b ≤ 18446744073709551615) : Calls Tryz.prog 34 #[.int .i64 8, .int .u64 b] w fun x w' => x = .returned (.int .u64 (numB 8 b)) ∧ w = w' := by
  have BI := hid (fun W => rbits_of 8 W (by decide))
  have SI := hid (fun W => rsigned_of 8 W (by decide))
  have hv : numB 8 b = b % 65536 := rfl
  rw [hv]
  go_enter Tryz.func34, Tryz.ntmps34
  go_wp2_with fail
  refine (BI.out _).mono ?_
  rintro e w1 ⟨rfl, hw⟩
  subst hw
  rw [show wBits 8 = 16 from rfl]
  go_wp2_with fail
  refine (SI.out _).mono ?_
  rintro e w1 ⟨rfl, hw⟩
  subst hw
  rw [show decide ((8 : Int) ≤ 6) = false by decide]
  go_wp2_with fail
  go_ret
  exact ⟨rfl, rfl⟩
set_option maxHeartbeats 1000000 in
theorem rnumber9 (b : Int) (w : World) (h0 : 0 ≤ b) (h1 : b ≤ 18446744073709551615) : Calls Tryz.prog 34 #[.int .i64 9, .int .u64 b] w fun x w' => x = .returned (.int .u64 (numB 9 b)) ∧ w = w' := by
  have BI := hid (fun W => rbits_of 9 W (by decide))
  have SI := hid (fun W => rsigned_of 9 W (by decide))
  have hv : numB 9 b = b % 4294967296 := rfl
  rw [hv]
  go_enter Tryz.func34, Tryz.ntmps34
  go_wp2_with fail
  refine (BI.out _).mono ?_
  rintro e w1 ⟨rfl, hw⟩
  subst hw
  rw [show wBits 9 = 32 from rfl]
  go_wp2_with fail
  refine (SI.out _).mono ?_
  rintro e w1 ⟨rfl, hw⟩
  subst hw
  rw [show decide ((9 : Int) ≤ 6) = false by decide]
  go_wp2_with fail
  go_ret
  exact ⟨rfl, rfl⟩
set_option maxHeartbeats 1000000 in
theorem rnumber10 (b : Int) (w : World) (_h0 : 0 ≤ b) (_h1 : b ≤ 18446744073709551615) : Calls Tryz.prog 34 #[.int .i64 10, .int .u64 b] w fun x w' => x = .returned (.int .u64 (numB 10 b)) ∧ w = w' := by
  have BI := hid (fun W => rbits_of 10 W (by decide))
  have SI := hid (fun W => rsigned_of 10 W (by decide))
  have hv : numB 10 b = b := by
    rfl
  rw [hv]
  go_enter Tryz.func34, Tryz.ntmps34
  go_wp2_with fail
  refine (BI.out _).mono ?_
  rintro e w1 ⟨rfl, hw⟩
  subst hw
  rw [show wBits 10 = 64 from rfl]
  go_wp2_with fail
  go_ret
  exact ⟨rfl, rfl⟩
set_option maxHeartbeats 1000000 in
theorem rnumber11 (b : Int) (w : World) (_h0 : 0 ≤ b) (_h1 : b ≤ 18446744073709551615) : Calls Tryz.prog 34 #[.int .i64 11, .int .u64 b] w fun x w' => x = .returned (.int .u64 (numB 11 b)) ∧ w = w' := by
  have BI := hid (fun W => rbits_of 11 W (by decide))
  have SI := hid (fun W => rsigned_of 11 W (by decide))
  have hv : numB 11 b = b := by
    rfl
  rw [hv]
  go_enter Tryz.func34, Tryz.ntmps34
  go_wp2_with fail
  refine (BI.out _).mono ?_
  rintro e w1 ⟨rfl, hw⟩
  subst hw
  rw [show wBits 11 = 64 from rfl]
  go_wp2_with fail
  go_ret
  exact ⟨rfl, rfl⟩
theorem rnumber_any (k b : Int) (w : World) (h : 2 ≤ k ∧ k ≤ 11) (h0 : 0 ≤ b) (h1 : b ≤ 18446744073709551615) : Calls Tryz.prog 34 #[.int .i64 k, .int .u64 b] w fun x w' => x = .returned (.int .u64 (numB k b)) ∧ w = w' := by
  have hk : k = 2 ∨ k = 3 ∨ k = 4 ∨ k = 5 ∨ k = 6 ∨ k = 7 ∨ k = 8 ∨ k = 9 ∨ k = 10 ∨ k = 11 := by omega
  rcases hk with rfl | rfl | rfl | rfl | rfl | rfl | rfl | rfl | rfl | rfl
  · exact rnumber2 b w h0 h1
  · exact rnumber3 b w h0 h1
  · exact rnumber4 b w h0 h1
  · exact rnumber5 b w h0 h1
  · exact rnumber6 b w h0 h1
  · exact rnumber7 b w h0 h1
  · exact rnumber8 b w h0 h1
  · exact rnumber9 b w h0 h1
  · exact rnumber10 b w h0 h1
  · exact rnumber11 b w h0 h1
set_option maxHeartbeats 1000000 in
theorem rwhole_yes (k : Int) (w : World) (h : 2 ≤ k ∧ k ≤ 11) : Calls Tryz.prog 33 #[.int .i64 k] w fun x w' => x = .returned (.bool true) ∧ w = w' := by
  have d1 : decide (2 ≤ k) = true := decide_eq_true h.1
  have d2 : decide (k ≤ 11) = true := decide_eq_true h.2
  go_enter Tryz.func33, Tryz.ntmps33
  go_wp2_with fail
  go_ret
  exact ⟨rfl, rfl⟩
set_option maxHeartbeats 1000000 in
theorem rwhole_no (k : Int) (w : World) (h : ¬ (2 ≤ k ∧ k ≤ 11)) : Calls Tryz.prog 33 #[.int .i64 k] w fun x w' => x = .returned (.bool false) ∧ w = w' := by
  by_cases h1 : 2 ≤ k
  · have d1 : decide (2 ≤ k) = true := decide_eq_true h1
    have d2 : decide (k ≤ 11) = false := decide_eq_false (by omega)
    go_enter Tryz.func33, Tryz.ntmps33
    go_wp2_with fail
    go_ret
    exact ⟨rfl, rfl⟩
  · have d1 : decide (2 ≤ k) = false := decide_eq_false h1
    go_enter Tryz.func33, Tryz.ntmps33
    go_wp2_with fail
    go_ret
    exact ⟨rfl, rfl⟩
/-- A descriptor of a whole number in form. -/
abbrev inW (d : De) : De := ⟨d.k, d.ty, numB d.k d.b, 0, ⟨#[]⟩, sl0, sl0, d.hk⟩
set_option maxRecDepth 100000 in
set_option maxHeartbeats 4000000 in
theorem rin_whole (d : De) (w : World) (h : 2 ≤ d.k ∧ d.k ≤ 11) (hB : DeB d) :
    Calls Tryz.prog 21 #[.agg (deV d)] w fun e w' => e = .returned (.agg (deV (inW d))) ∧ Below w.heap.size w w' := by
  have WH := hid (fun W => rwhole_yes d.k W h)
  have NU := hid (fun W => rnumber_any d.k d.b W h hB.b0 hB.b1)
  have GR := hid (fun W => rgreat_no d.k W (by omega))
  have g0 : (d.k == 0) = false := by simp; omega
  have g1 : (d.k == 1) = false := by simp; omega
  have g14 : (d.k == 14) = false := by simp; omega
  have g15 : (d.k == 15) = false := by simp; omega
  obtain ⟨k, ty, b, im, t, nm, pa, hk⟩ := d
  simp only at *
  unfold inW
  simp only
  obtain ⟨x, hx⟩ : ∃ x, numB k b = x := ⟨_, rfl⟩
  rw [hx] at NU ⊢
  clear hx hB h
  go_enter Tryz.func21, Tryz.ntmps21
  go_wp2_with fail
  refine (WH.out _).mono ?_
  rintro e w1 ⟨rfl, hw⟩
  subst hw
  go_wp2_with fail
  refine (NU.out _).mono ?_
  rintro e w1 ⟨rfl, hw⟩
  subst hw
  go_wp2_with fail
  refine (GR.out _).mono ?_
  rintro e w1 ⟨rfl, hw⟩
  subst hw
  go_wp2_with fail
  refine bodyPost_ret (v := .agg (deV ⟨k, ty, x, 0, ⟨#[]⟩, sl0, sl0, hk⟩)) (by simp [results, Tryz.results21, go_sem]) rfl ⟨rfl, ?_⟩
  exact below_n (below_n (below_n (Below.refl _ _) _ _) _ _) _ _
theorem rblk_two (w : World) (cs cs' : Array Value) (t t' : TypeId) : Blk ((w.alloc (.cells cs t)).alloc (.cells cs' t')) w.heap.size cs t ∧ Blk ((w.alloc (.cells cs t)).alloc (.cells cs' t')) (w.heap.size + 1) cs' t' := by
  refine ⟨(Blk.new w _ _).alloc _, ?_⟩
  have := Blk.new (w.alloc (.cells cs t)) cs' t'
  rw [World.size_alloc] at this
  exact this
set_option maxRecDepth 100000 in
set_option maxHeartbeats 4000000 in
theorem rbuild_ok (d x : De) (w : World) (CK : ∀ W, Below w.heap.size w W → Calls Tryz.prog 20 #[.agg (deV d)] W fun e w' => e = .returned (.int .i64 0) ∧ Below W.heap.size W w')
    (IN : ∀ W, Below w.heap.size w W → Calls Tryz.prog 21 #[.agg (deV d)] W fun e w' => e = .returned (.agg (deV x)) ∧ Below W.heap.size W w') :
    Calls Tryz.prog 13 #[.agg (deV d)] w fun e w' => e = .returned (.tuple #[.agg (deV x), .int .i64 0]) ∧ Below w.heap.size w w' := by
  have CK := hid CK
  have IN := hid IN
  obtain ⟨a0, a1⟩ := rblk_two w (deV d) de0 29 29
  have lp : Below w.heap.size w ((w.alloc (.cells (deV d) 29)).alloc (.cells de0 29)) := below_n (below_n (Below.refl _ _) _ _) _ _
  have A0 := hid a0
  have A1 := hid a1
  have LP := hid lp
  clear a0 a1 lp
  go_enter Tryz.func13, Tryz.ntmps13
  go_wp2_with fail
  obtain ⟨W0, hW0⟩ : ∃ W0, ((w.alloc (.cells (deV d) 29)).alloc (.cells de0 29)) = W0 := ⟨_, rfl⟩
  obtain ⟨B, hB⟩ : ∃ B, w.heap.size = B := ⟨_, rfl⟩
  rw [hW0, hB] at A0 A1
  rw [hW0] at LP ⊢
  rw [hB]
  have HBB := hid hB
  clear hW0 hB
  refine (CK.out _ LP.out).mono ?_
  rintro e W1 ⟨rfl, hb⟩
  have A0 := hid (A0.out.below hb A0.out.lt)
  have A1 := hid (A1.out.below hb A1.out.lt)
  have LP := hid (LP.out.trans (hb.mono LP.out.size))
  clear hb
  have c0 := A0.out.cell 0
  have c1 := A0.out.cell 1
  have c2 := A0.out.cell 2
  have c3 := A0.out.cell 3
  have c4 := A0.out.cell 4
  have c5 := A0.out.cell 5
  have c6 := A0.out.cell 6
  have c7 := A0.out.cell 7
  go_upto_region 4 with fail
  refine wp_region_list ?_
  refine wpList_plain rfl fun K hK => ?_
  have HK := hid hK
  clear hK
  go_wp2_with fail
  refine HK.out _ _ ?_
  clear HK
  refine wpList_plain rfl fun K hK => ?_
  have HK := hid hK
  clear hK
  go_wp2_with fail
  refine (IN.out _ LP.out).mono ?_
  rintro e W2 ⟨rfl, hb⟩
  have a1 := A1.out.below hb A1.out.lt
  have LP := hid (LP.out.trans (hb.mono LP.out.size))
  clear hb c0 c1 c2 c3 c4 c5 c6 c7
  refine HK.out _ _ ?_
  clear HK
  refine wpList_store_rowTo rfl 29 _ _ rfl rfl (B + 1) (deV x) rfl rfl 29 de0 a1 desc_size rfl (deV_one x) ?_
  have hG2 := a1.setRow (deV x)
  have b3 := below_setRow LP.out (B + 1) (by have := HBB.out; omega) (deV x)
  obtain ⟨W3, hW3⟩ : ∃ W3, W2.setRow (B + 1) (deV x) = W3 := ⟨_, rfl⟩
  rw [hW3] at hG2 b3 ⊢
  have RL := hid hG2
  have LP := hid b3
  clear hG2 b3 hW3 a1
  refine wpList_plain rfl fun K hK => ?_
  have HK := hid hK
  clear hK
  go_wp2_with fail
  refine HK.out _ _ ?_
  clear HK
  refine wpList_nil ?_
  go_wp2_with fail
  have HL := run_loadVar_mid (P := Tryz.prog) W3 (B + 1) 0 29 (deV x).toList _ (fun j v hv => by rw [Nat.zero_add, RL.out.cell]; simpa using hv) Tryz.underlying29 rfl desc_size
  refine bodyPost_ret (v := .tuple #[.agg (deV x), .int .i64 0]) ?_ rfl ⟨rfl, LP.out⟩
  simp [results, Tryz.results13, asAddr, HL]
theorem rbuild_whole (d : De) (w : World) (h : 2 ≤ d.k ∧ d.k ≤ 11) (hB : DeB d) (ht : d.t.size ≤ 1024) (hs : d.ty.size ≤ 140737488355328) (hf : formB d = true) :
    Calls Tryz.prog 13 #[.agg (deV d)] w fun e w' => e = .returned (.tuple #[.agg (deV (inW d)), .int .i64 0]) ∧ Below w.heap.size w w' :=
  rbuild_ok d (inW d) w (fun W _ => rcheck_leaf d W (by omega) ht hs hf) (fun W _ => rin_whole d W h hB)
end Go.Proofs.YtdjhmanccoekjaaGreatDoor
end

section
namespace Go.Proofs.YtdjhmanccoekjaaGreatDoor
open Go.RowKit Go.Proofs

/-- What the reader makes of a text: the number, the sign, was there a digit; none: a byte that may not be. -/
def rd (b : Int) : List UInt8 → Int → Bool → Bool → Option (Int × Bool × Bool)
  | [], n, g, s => some (n, g, s)
  | c :: r, n, g, s =>
    if c.toNat = 45 then rd b r n true s
    else if c.toNat = 32 ∨ c.toNat = 43 then rd b r n g s
    else if (IP.digV c : Int) < b then rd b r ((n * b + IP.digV c) % 18446744073709551616) g true
    else none
theorem rd_blank (b : Int) : ∀ (k : Nat) (l : List UInt8) (n : Int) (g s : Bool), rd b (List.replicate k 32 ++ l) n g s = rd b l n g s
  | 0, l, n, g, s => rfl
  | k + 1, l, n, g, s => by
    rw [List.replicate_succ, List.cons_append, rd, if_neg (by decide), if_pos (by decide)]
    exact rd_blank b k l n g s
theorem rd_sign (b : Int) (neg pl : Bool) (l : List UInt8) (n : Int) (s : Bool) : rd b (IP.signL neg pl false ++ l) n false s = rd b l n neg s := by
  cases neg
  · cases pl
    · rfl
    · show rd b (43 :: l) n false s = _
      rw [rd, if_neg (by decide), if_pos (by decide)]
  · show rd b (45 :: l) n false s = _
    rw [rd, if_pos (by decide)]
theorem dig_not {x : UInt8} (h : IP.digV x < 16) : x.toNat ≠ 45 ∧ ¬ (x.toNat = 32 ∨ x.toNat = 43) := by
  unfold IP.digV at h
  split at h
  · omega
  · split at h
    · omega
    · split at h
      · omega
      · omega
/-- The number of digits, behind a number, of 64 bits. -/
def fm (b : Int) (n : Int) (l : List UInt8) : Int := l.foldl (fun n a => (n * b + IP.digV a) % 18446744073709551616) n
theorem rd_digs (b : Nat) (hb : b ≤ 16) : ∀ (D l : List UInt8) (n : Int) (g s : Bool), (∀ x ∈ D, IP.digV x < b) → rd b (D ++ l) n g s = rd b l (fm b n D) g (if D = [] then s else true)
  | [], l, n, g, s, _ => rfl
  | x :: D, l, n, g, s, h => by
    have hx := h x (List.mem_cons_self ..)
    have hn := dig_not (x := x) (by omega)
    have e1 : (if x :: D = [] then s else true) = true := if_neg (List.cons_ne_nil x D)
    have e2 : (if D = [] then true else true) = true := by split <;> rfl
    have ih := rd_digs b hb D l ((n * b + IP.digV x) % 18446744073709551616) g true (fun y hy => h y (List.mem_cons_of_mem _ hy))
    rw [e2] at ih
    rw [List.cons_append, rd, if_neg hn.1, if_neg hn.2, if_pos (by omega), ih, e1]
    rfl
theorem fm_val (b : Nat) : ∀ (D : List UInt8) (m : Nat), fm b ((m : Int) % 18446744073709551616) D = (IP.valB b m D : Int) % 18446744073709551616
  | [], m => rfl
  | x :: D, m => by
    show fm b ((((m : Int) % 18446744073709551616) * b + IP.digV x) % 18446744073709551616) D = (IP.valB b (m * b + IP.digV x) D : Int) % 18446744073709551616
    rw [← fm_val b D (m * b + IP.digV x)]
    congr 1
    push_cast
    rw [Int.add_emod, Int.mul_emod, Int.emod_emod, ← Int.mul_emod, ← Int.add_emod]
theorem valB_zeros (b : Nat) (k : Nat) (D : List UInt8) : IP.valB b 0 (List.replicate k 48 ++ D) = IP.valB b 0 D := by
  induction k with
  | zero => rfl
  | succ k ih =>
    rw [List.replicate_succ, List.cons_append]
    show IP.valB b (0 * b + IP.digV 48) _ = _
    rw [show 0 * b + IP.digV 48 = 0 by rw [Nat.zero_mul]; decide]
    exact ih
theorem wbase (neg uns : Bool) (n bits : Nat) (pl mi sp ze : Bool) (wid prec verb : Int) (b : Nat) (m : List UInt8) (al g : Bool) (h : IP.baseOf verb = some (b, m, al, g)) :
    IN.writeS neg uns n bits pl mi false sp ze wid prec verb = some (padS ⟨(IP.bodyL neg n b g (if al then m else []) pl mi sp ze wid prec).toArray⟩ mi false wid) := by
  have h1 : ¬ verb = 99 := by rintro rfl; revert h; unfold IP.baseOf; simp
  have h2 : ¬ verb = 113 := by rintro rfl; revert h; unfold IP.baseOf; simp
  have h3 : ¬ verb = 85 := by rintro rfl; revert h; unfold IP.baseOf; simp
  unfold IN.writeS
  rw [if_neg h1, if_neg h2, if_neg h3, if_neg (by simp), h]
  simp [IN.basedS]
theorem body_form (neg : Bool) (n b : Nat) (g pl mi ze : Bool) (wid : Int) : ∃ k : Nat, IP.bodyL neg n b g [] pl mi false ze wid (-1) = IP.signL neg pl false ++ (List.replicate k 48 ++ IP.dgb b g n) ∧ k ≤ 1000 := by
  unfold IP.bodyL
  have e : IP.limI (-1) = -1 := by decide
  rw [e, if_neg (by omega), IP.zerosTo_done (by omega)]
  simp only []
  have hm : IP.markL [] (IP.dgb b g n) = [] := by unfold IP.markL; rw [if_neg (by simp)]
  rw [hm]
  by_cases h : ze = true ∧ mi = false ∧ (-1 : Int) < 0
  · rw [if_pos h]
    refine ⟨_, by rw [List.append_nil]; rfl, ?_⟩
    have : IP.limI wid ≤ 1000 := by unfold IP.limI; omega
    omega
  · rw [if_neg h]
    exact ⟨0, by simp, by decide⟩
theorem dig_lt {x : UInt8} (h : IP.digV x < 16) : x.toNat < 128 := by
  unfold IP.digV at h
  split at h
  · omega
  · split at h
    · omega
    · split at h
      · omega
      · omega
set_option maxHeartbeats 1000000 in
theorem num_law (neg uns : Bool) (n bits b : Nat) (g pl mi ze : Bool) (wd verb : Int) (m : List UInt8) (h : IP.baseOf verb = some (b, m, false, g)) (h2 : 2 ≤ b) (h16 : b ≤ 16) (hn : n < 18446744073709551616) (hw0 : 0 ≤ wd) (hw1 : wd ≤ 1000) :
    ∃ t : ByteArray, IN.writeS neg uns n bits pl mi false false ze wd (-1) verb = some t ∧ t.size ≤ 3500 ∧ wd ≤ t.size ∧ rd b t.data.toList 0 false false = some ((n : Int), neg, true) := by
  obtain ⟨k, hk, hk1⟩ := body_form neg n b g pl mi ze wd
  have hdl : (IP.dgb b g n).length ≤ 64 := IP.dgb_len64 b g h2 n hn
  have hd := IP.digs_dgb b g h2 h16 n
  have hz : ∀ x ∈ List.replicate k (48 : UInt8) ++ IP.dgb b g n, IP.digV x < b := by
    intro x hx
    rcases List.mem_append.1 hx with hx | hx
    · rw [(List.mem_replicate.1 hx).2]
      show (0 : Nat) < b
      omega
    · exact hd x hx
  have hne : List.replicate k (48 : UInt8) ++ IP.dgb b g n ≠ [] := by
    intro e
    exact IP.dgb_ne b n g (List.append_eq_nil_iff.1 e).2
  have hrd : ∀ Q : Nat, rd b (IP.signL neg pl false ++ ((List.replicate k 48 ++ IP.dgb b g n) ++ List.replicate Q 32)) 0 false false = some ((n : Int), neg, true) := by
    intro Q
    rw [rd_sign, rd_digs b h16 _ _ _ _ _ hz, if_neg hne]
    have h0 := fm_val b (List.replicate k 48 ++ IP.dgb b g n) 0
    rw [show (((0 : Nat) : Int) % 18446744073709551616) = 0 from rfl, valB_zeros, IP.valB_dgb b g h2 h16 n] at h0
    rw [h0, Int.emod_eq_of_lt (by omega) (by omega)]
    have := rd_blank b Q [] (n : Int) neg true
    rw [List.append_nil] at this
    exact this
  obtain ⟨B, hB⟩ : ∃ B, IP.bodyL neg n b g [] pl mi false ze wd (-1) = B := ⟨_, rfl⟩
  rw [hB] at hk
  have hsl := IP.signL_len neg pl false
  have hBl : B.length ≤ 1065 := by
    rw [hk, List.length_append, List.length_append, List.length_replicate]
    omega
  have hasc : Utf.count B = B.length := by
    refine IP.count_all_ascii B fun a ha => ?_
    rw [hk] at ha
    rcases List.mem_append.1 ha with ha | ha
    · revert ha
      cases neg <;> cases pl <;> simp [IP.signL]
      · intro h; subst h; decide
      · intro h; subst h; decide
      · intro h; subst h; decide
    · exact dig_lt (by have := hz a ha; omega)
  refine ⟨_, wbase neg uns n bits pl mi false ze wd (-1) verb b m false g h, ?_⟩
  simp only [Bool.false_eq_true, if_false]
  rw [hB]
  unfold padS
  simp only []
  rw [hasc]
  have hmx : max 0 (min wd 1000) = wd := by omega
  rw [hmx]
  have hBs : (⟨B.toArray⟩ : ByteArray).size = B.length := by simp [ByteArray.size]
  have hfl : ∀ q : Int, (fillS 32 q).size = (min q 1000).toNat := fun q => by rw [Utf.size_eq]; show (fillL 32 q).length = _; rw [fillL_length]
  have hfd : ∀ q : Int, (fillS 32 q).data.toList = List.replicate (min q 1000).toNat 32 := fun q => by show (fillL 32 q) = _; rfl
  by_cases hle : wd - (B.length : Int) ≤ 0
  · rw [if_pos hle]
    refine ⟨by omega, by omega, ?_⟩
    rw [show (⟨B.toArray⟩ : ByteArray).data.toList = B by simp, hk]
    have := hrd 0
    rw [List.replicate_zero, List.append_nil] at this
    exact this
  · rw [if_neg hle]
    cases mi
    · rw [if_neg (by decide), if_neg (by decide)]
      refine ⟨by rw [ByteArray.size_append, hfl, hBs]; omega, by rw [ByteArray.size_append, hfl, hBs]; omega, ?_⟩
      rw [show (fillS 32 (wd - ↑B.length) ++ (⟨B.toArray⟩ : ByteArray)).data.toList = (fillS 32 (wd - ↑B.length)).data.toList ++ B by simp, hfd, rd_blank, hk]
      have := hrd 0
      rw [List.replicate_zero, List.append_nil] at this
      exact this
    · rw [if_pos rfl]
      refine ⟨by rw [ByteArray.size_append, hfl, hBs]; omega, by rw [ByteArray.size_append, hfl, hBs]; omega, ?_⟩
      rw [show ((⟨B.toArray⟩ : ByteArray) ++ fillS 32 (wd - ↑B.length)).data.toList = B ++ (fillS 32 (wd - ↑B.length)).data.toList by simp, hfd, hk, List.append_assoc]
      exact hrd _
end Go.Proofs.YtdjhmanccoekjaaGreatDoor
end

section
namespace Go.Proofs.YtdjhmanccoekjaaGreatDoor
open Go.RowKit Go.Proofs

abbrev deK (K b : Int) : De := ⟨K, ⟨#[]⟩, b, 0, ⟨#[]⟩, sl0, sl0, 0⟩
def flagL (f : Nat) : List UInt8 := if f = 1 then [48] else if f = 2 then [43] else []
def verbN (j : Nat) : Int := [100, 98, 111, 120, 88].getD j 100
def verbU (j : Nat) : UInt8 := [100, 98, 111, 120, 88].getD j 100
def baseN (j : Nat) : Nat := [10, 2, 8, 16, 16].getD j 10
def numF (f j : Nat) : List UInt8 := 37 :: (flagL f ++ [42, verbU j])
def numPc (f j : Nat) : PP.Pc := ⟨1, numF f j, ⟨decide (f = 2), false, false, false, decide (f = 1)⟩, -1, -1, verbN j, ⟨2, 0, ⟨0, 0⟩⟩, ⟨0, 0, ⟨0, 0⟩⟩, ⟨0, 0⟩⟩
theorem num_dir (f j : Nat) (hf : f < 3) (hj : j < 5) : PP.dirL (flagL f ++ [42, verbU j]) = (numPc f j, []) := by
  match f, hf, j, hj with
  | 0, _, 0, _ | 0, _, 1, _ | 0, _, 2, _ | 0, _, 3, _ | 0, _, 4, _ => rfl
  | 1, _, 0, _ | 1, _, 1, _ | 1, _, 2, _ | 1, _, 3, _ | 1, _, 4, _ => rfl
  | 2, _, 0, _ | 2, _, 1, _ | 2, _, 2, _ | 2, _, 3, _ | 2, _, 4, _ => rfl
theorem num_pieces (f j : Nat) (hf : f < 3) (hj : j < 5) : PP.parseL (numF f j) = [numPc f j] := by
  unfold numF
  rw [PP.parseL_pct (by decide), num_dir f j hf hj, PP.parseL_nil]
theorem verb_base (j : Nat) (hj : j < 5) : ∃ m g, IP.baseOf (verbN j) = some (baseN j, m, false, g) ∧ 2 ≤ baseN j ∧ baseN j ≤ 16 ∧ verbN j ≠ 118 ∧ verbN j ≠ 84 ∧ verbN j ≠ 37 := by
  match j, hj with
  | 0, _ => exact ⟨[], false, rfl, by decide⟩
  | 1, _ => exact ⟨[48, 98], false, rfl, by decide⟩
  | 2, _ => exact ⟨[48], false, rfl, by decide⟩
  | 3, _ => exact ⟨[48, 120], false, rfl, by decide⟩
  | 4, _ => exact ⟨[48, 88], true, rfl, by decide⟩
theorem sx_bound (K b : Int) : -9223372036854775808 ≤ sxI K b ∧ sxI K b ≤ 9223372036854775807 := by
  unfold sxI
  split
  · omega
  · split
    · omega
    · split
      · omega
      · omega
theorem zx_bound (K b : Int) (h0 : 0 ≤ b) (h1 : b ≤ 18446744073709551615) : 0 ≤ zxI K b ∧ zxI K b ≤ 18446744073709551615 := by
  unfold zxI
  split
  · omega
  · split
    · omega
    · split
      · omega
      · omega
/-- The sign and the size of a whole number. -/
def nNeg (K b : Int) : Bool := decide (K ≤ 6) && decide (sxI K b < 0)
def nAbs (K b : Int) : Nat := if K ≤ 6 then (sxI K b).natAbs else (zxI K b).toNat
theorem num_same (K b : Int) (h0 : 0 ≤ b) (h1 : b ≤ 18446744073709551615) : (if nNeg K b then (-(nAbs K b : Int)) % 18446744073709551616 else (nAbs K b : Int)) = numB K b := by
  unfold nNeg nAbs numB
  by_cases h : K ≤ 6
  · have := sx_bound K b
    rw [decide_eq_true h, if_pos h, if_pos h]
    by_cases hn : sxI K b < 0
    · rw [decide_eq_true hn, if_pos (by rfl)]
      congr 1
      omega
    · rw [decide_eq_false hn, if_neg (by decide)]
      omega
  · have := zx_bound K b h0 h1
    rw [decide_eq_false h, if_neg h, if_neg h, if_neg (by simp)]
    omega
theorem leaf_show (f j : Nat) (hj : j < 5) (K b wd : Int) (mi : Bool) (h : 2 ≤ K ∧ K ≤ 11) (h0 : 0 ≤ b) (h1 : b ≤ 18446744073709551615) (hw0 : 0 ≤ wd) (hw1 : wd ≤ 1000) :
    ∃ t : ByteArray, (t.size ≤ 3500 ∧ wd ≤ t.size ∧ rd (baseN j) t.data.toList 0 false false = some ((nAbs K b : Int), nNeg K b, true)) ∧
      ∀ (bb : Nat) (s : St) (v' va : Value) (W : World), StAt W bb s v' va → s.tab = sliceN → Calls Tryz.prog 50 #[leafV (deK K b), .agg (sp8 (decide (f = 2)) mi false false (decide (f = 1)) wd (-1) (verbN j)), askF bb] W fun e w' => e = .returned (.string t) ∧ Below W.heap.size W w' := by
  obtain ⟨m, g, hb, hb2, hb16, hv118, hv84, _⟩ := verb_base j hj
  have hpn : plusN (verbN j) (decide (f = 2)) = decide (f = 2) := by unfold plusN; rw [if_neg hv118]
  by_cases hK : K ≤ 6
  · have hs := sx_bound K b
    obtain ⟨t, ht, ht1, ht2, ht3⟩ := num_law (decide (sxI K b < 0)) false (sxI K b).natAbs (IN.bitsI (sxI K b)) (baseN j) g (decide (f = 2)) mi (decide (f = 1)) wd (verbN j) m hb hb2 hb16 (by omega) hw0 hw1
    refine ⟨t, ⟨ht1, ht2, ?_⟩, fun bb s v' va W hst htab => ?_⟩
    · rw [ht3]
      unfold nAbs nNeg
      rw [if_pos hK, decide_eq_true hK, Bool.true_and]
    · rw [leafV_int _ (by exact ⟨h.1, hK⟩)]
      refine show_ok (known_int K ⟨#[]⟩ 0 (sxI K b) (by omega) (by omega) (by decide) (by decide)) none 0 0 htab (by decide) (by decide) (decide (f = 2)) mi false false (decide (f = 1)) wd (-1) (verbN j) hv84 t ⟨#[]⟩ true (by decide) (by decide) W hst (fun W2 _ => ?_) (fun h => by cases h)
      have hk := kind_int K ⟨#[]⟩ 0 (sxI K b) (decide (f = 2)) mi false false (decide (f = 1)) wd (-1) (verbN j) (askF bb) 0 W2 hs.1 hs.2 (by omega) (by omega)
      rw [hpn] at hk
      unfold IN.signedS at hk
      rw [ht] at hk
      exact hk
  · have hz := zx_bound K b h0 h1
    obtain ⟨t, ht, ht1, ht2, ht3⟩ := num_law false true (zxI K b).toNat (zxI K b).toNat (baseN j) g (decide (f = 2)) mi (decide (f = 1)) wd (verbN j) m hb hb2 hb16 (by omega) hw0 hw1
    refine ⟨t, ⟨ht1, ht2, ?_⟩, fun bb s v' va W hst htab => ?_⟩
    · rw [ht3]
      unfold nAbs nNeg
      rw [if_neg hK, decide_eq_false hK, Bool.false_and]
    · rw [leafV_uint _ (by exact ⟨by show 7 ≤ K; omega, h.2⟩)]
      refine show_ok (known_uint K ⟨#[]⟩ 0 (zxI K b) (by omega) (by omega) (by decide) (by decide)) none 0 0 htab (by decide) (by decide) (decide (f = 2)) mi false false (decide (f = 1)) wd (-1) (verbN j) hv84 t ⟨#[]⟩ true (by decide) (by decide) W hst (fun W2 _ => ?_) (fun h => by cases h)
      have hk := kind_uint K ⟨#[]⟩ 0 (zxI K b) (decide (f = 2)) mi false false (decide (f = 1)) wd (-1) (verbN j) (askF bb) 0 W2 hz.1 hz.2 (by omega) (by omega)
      rw [hpn] at hk
      unfold IN.unsignedS at hk
      rw [ht] at hk
      exact hk
theorem deK_b (K b : Int) (h0 : 0 ≤ b) (h1 : b ≤ 18446744073709551615) : DeB (deK K b) := ⟨h0, h1, by show (0 : Int) ≤ 0; decide, by show (0 : Int) ≤ _; decide⟩
theorem build_K (K b : Int) (h : 2 ≤ K ∧ K ≤ 11) (h0 : 0 ≤ b) (h1 : b ≤ 18446744073709551615) (w : World) : Calls Tryz.prog 65 #[.agg (deV (deK K b))] w fun e w' => e = .returned (.tuple #[leafV (deK K b), .int .i64 0]) ∧ Below w.heap.size w w' :=
  build_leaf (deK K b) w (deK_b K b h0 h1) (by show 0 ≤ K ∧ K ≤ 17; omega) (by show (0 : Nat) ≤ _; decide) (by show (0 : Nat) ≤ _; decide) (by show (decide (K = 0) || typedB ⟨#[]⟩) = true; rw [show typedB ⟨#[]⟩ = true by decide]; simp)
def numU (wid K b : Int) : List Value := [intV (deN wid) wid, leafV (deK K b)]
def numS (t : ByteArray) (wid K b : Int) : Nat → St
  | 0 => ⟨[], 0, sliceN, numU wid K b, 0, false⟩
  | _ => ⟨t.data.toList, 0, sliceN, numU wid K b, 2, false⟩
theorem numF_len (f j : Nat) : (numF f j).length ≤ 5 := by
  unfold numF flagL
  split
  · simp
  · split <;> simp
theorem nprint_any (f j : Nat) (hf : f < 3) (hj : j < 5) (wid K b : Int) (h : 2 ≤ K ∧ K ≤ 11) (h0 : 0 ≤ b) (h1 : b ≤ 18446744073709551615) (hw0 : -1000 ≤ wid) (hw1 : wid ≤ 1000) :
    ∃ t : ByteArray, (t.size ≤ 3500 ∧ max wid (-wid) ≤ t.size ∧ rd (baseN j) t.data.toList 0 false false = some ((nAbs K b : Int), nNeg K b, true)) ∧
      ∀ (sl : Sl) (w : World), Tabs w → ArgsAt w sl [deN wid, deK K b] → 2 ≤ sl.cap → Calls Tryz.prog 9 #[sliceN, .string ⟨(numF f j).toArray⟩, slV sl] w fun e w' => e = .returned (.string t) ∧ Below w.heap.size w w' := by
  obtain ⟨t, ht, hsh⟩ := leaf_show f j hj K b (max wid (-wid)) (decide (wid < 0)) h h0 h1 (by omega) (by omega)
  obtain ⟨_, _, _, _, _, _, _, hv37⟩ := verb_base j hj
  refine ⟨t, ht, fun sl w hT hA hcap => ?_⟩
  have hst : stText t.data.toList = t.data.toList := by unfold stText; rw [if_neg (by rw [← Utf.size_eq]; omega)]
  have key := tprint_any none 0 0 sliceN sl ⟨(numF f j).toArray⟩ t.data.toList w ((copied_nil w).mono fun _ _ h => ⟨h.1, h.2 ▸ Below.refl _ _⟩) (fun bb W hW hb st => by
    have tb : TabsB bb W := ⟨w, hT, hb, hW⟩
    have hgb : ∀ g o, sl.a = some ⟨g, o, none⟩ → g < bb := fun g o hg => by
      obtain ⟨g', o', e, hl, _⟩ := hA.2 (by simp)
      rw [hg] at e
      cases e
      omega
    have hA2 : ArgsAt W sl [deN wid, deK K b] := hA.below hW
    refine ⟨numS t wid K b 0, numS t wid K b 1, fun _ _ => True, rfl, ?_, fun W' va hs _ hl => ?_⟩
    · refine (begin_leaf bb none 0 0 sl [deN wid, deK K b] (numU wid K b) W st hA2 (by show (2 : Nat) ≤ 16; decide) hcap rfl (fun g o hg _ => hgb g o hg) fun i d u hd hu => ?_).mono fun e w' ⟨h1, va, h2, h3⟩ => ⟨h1, va, h2, trivial, h3⟩
      match i, hd, hu with
      | 0, hd, hu =>
        cases hd; cases hu
        exact ⟨⟨_, _, rfl⟩, fun W _ => build_num wid W (by omega) (by omega)⟩
      | 1, hd, hu =>
        cases hd; cases hu
        exact ⟨leafV_iface _, fun W _ => build_K K b h h0 h1 W⟩
      | i + 2, hd, _ => simp at hd
    · refine format_any bb ⟨(numF f j).toArray⟩ [numPc f j] (numS t wid K b) sliceN va W' (tb.below hl).tabs (by rw [Utf.size_eq]; have := numF_len f j; show (numF f j).length ≤ _; omega) (num_pieces f j hf hj) (by simp) hs (fun i p hp => ?_) (Or.inr (by show (2 : Nat) ≤ (2 : Int); decide))
      match i, hp with
      | 0, hp =>
        cases hp
        refine ⟨by show (0 : Nat) ≤ _; decide, by have := numF_len f j; show (numF f j).length ≤ _; omega, Or.inr ⟨rfl, fun W2 v hs2 _ => ?_⟩⟩
        refine directive_star bb (numS t wid K b 0) (takeSt (numS t wid K b 0) ⟨0, 0⟩) (takeSt (numS t wid K b 0) ⟨0, 0⟩) (takeSt (takeSt (numS t wid K b 0) ⟨0, 0⟩) ⟨0, 0⟩) v va (leafV (deK K b)) 1 _ (decide (f = 2)) false false (decide (f = 1)) (-1) (-1) (verbN j) 0 0 0 0 0 0 0 wid t W2 hs2
          (fun W hW => number_star bb _ _ v va 0 ⟨0, 0⟩ (-1000) 6 ⟨#[]⟩ 0 wid W hW hw0 hw1 hw0 fun W hW => take_next bb _ v va _ 0 0 W hW rfl rfl (by show (2 : Nat) ≤ 16; decide))
          (fun W hW => number_unset bb _ v va 0 ⟨0, 0⟩ _ W hW) hv37 ⟨hw0, hw1⟩ 1 2 rfl rfl (by decide)
          (fun W hW => take_next bb _ v va _ 1 0 W hW rfl rfl (by show (2 : Nat) ≤ 16; decide)) (by show (0 : Nat) ≤ _; decide) (by omega) fun W3 hW3 _ => ?_
        exact hsh bb _ v va W3 hW3 rfl
      | i + 1, hp => simp at hp)
  rw [hst] at key
  exact key
end Go.Proofs.YtdjhmanccoekjaaGreatDoor
end
