/-
  Texts of this claim, joined: TU, TV, VO, VP.
-/
import Derived.Test.YtdjhmanccoekjaaGreatDoorN18
import Derived.Test.YtdjhmanccoekjaaGreatDoorN10
import Derived.Test.YtdjhmanccoekjaaGreatDoorN17

section
namespace Go.Proofs.YtdjhmanccoekjaaGreatDoor
open Go.RowKit Go.Proofs

def greatB (k : Int) : Bool := decide (18 ≤ k ∧ k ≤ 22)
set_option maxHeartbeats 1000000 in
theorem rgreat_no (k : Int) (w : World) (h : ¬ (18 ≤ k ∧ k ≤ 22)) : Calls Tryz.prog 35 #[.int .i64 k] w fun e w' => e = .returned (.bool false) ∧ w = w' := by
  by_cases h1 : 18 ≤ k
  · have d1 : decide (18 ≤ k) = true := decide_eq_true h1
    have d2 : decide (k ≤ 22) = false := decide_eq_false (by omega)
    go_enter Tryz.func35, Tryz.ntmps35
    go_wp2_with fail
    go_ret
    exact ⟨rfl, rfl⟩
  · have d1 : decide (18 ≤ k) = false := decide_eq_false h1
    go_enter Tryz.func35, Tryz.ntmps35
    go_wp2_with fail
    go_ret
    exact ⟨rfl, rfl⟩
set_option maxRecDepth 100000 in
set_option maxHeartbeats 4000000 in
theorem rall_leaf (d : De) (w : World) (h : ¬ (18 ≤ d.k ∧ d.k ≤ 22)) :
    Calls Tryz.prog 30 #[.agg (deV d)] w fun e w' => ∃ g g2, e = .returned (.tuple #[.slice (some ⟨g, 0, none⟩) 1 1, .slice (some ⟨g2, 0, none⟩) 1 1]) ∧ Blk w' g (deV d) 29 ∧ Blk w' g2 #[.int .i64 0] 3 ∧ Below w.heap.size w w' := by
  have GR := hid (fun W => rgreat_no d.k W h)
  clear h
  go_enter Tryz.func30, Tryz.ntmps30
  go_wp2_with fail
  refine wp_loop_rounds 2 ?_
  rw [rounds_succ]
  go_wp2_with fail
  refine (GR.out _).mono ?_
  rintro e w1 ⟨rfl, hw⟩
  subst hw
  go_wp2_with fail
  rw [rounds_succ]
  go_wp2_with fail
  go_ret2
  refine ⟨w.heap.size + 1, w.heap.size + 1 + 1, rfl, ?_, ?_, below_n (below_n (below_n (Below.refl _ _) _ _) _ _) _ _⟩
  · have := (Blk.new (w.alloc (.cells (deV d) 29)) (deV d) 29).alloc (.cells #[.int .i64 0] 3)
    rw [World.size_alloc] at this
    exact this
  · have := Blk.new ((w.alloc (.cells (deV d) 29)).alloc (.cells (deV d) 29)) #[.int .i64 0] 3
    rw [World.size_alloc, World.size_alloc] at this
    exact this
set_option maxRecDepth 100000 in
set_option maxHeartbeats 1000000 in
theorem rtyped_any (s : ByteArray) (w : World) (hs : s.size ≤ 140737488355328) :
    Calls Tryz.prog 54 #[.string s] w fun e w' => e = .returned (.bool (typedB s)) ∧ w = w' := by
  obtain ⟨N, hN⟩ : ∃ N, typedB s = N := ⟨_, rfl⟩
  rw [hN]
  have HN := hid hN
  clear hN
  go_enter Tryz.func54, Tryz.ntmps54
  go_wp2_with fail
  go_loopw [3] (fun iv wr => ∃ (i : Nat), iv = .int .i64 i ∧ i ≤ s.size ∧ wr = w ∧ Hid ((typedL (s.data.toList.drop i) && decide (s.size ≤ 32)) = N)) (fun iv _ => s.size - (match iv with | .int _ n => n.toNat | _ => 0))
  case atStart => exact ⟨0, rfl, Nat.zero_le _, rfl, HN⟩
  case round =>
    obtain ⟨i, rfl, hi, rfl, hk⟩ := hrel
    by_cases hp : i < s.size
    · have hlen : i < s.data.toList.length := by rw [← Utf.size_eq]; exact hp
      have E0 := bt_at s i hp
      have hst := hk.out
      rw [drop_get hlen, typedL_cons] at hst
      have hc : ((s.data.toList.getD i 0).toNat : Int) = bt s i := by unfold bt; rw [List.getD_eq_getElem?_getD]
      obtain ⟨c, hcc⟩ : ∃ c, bt s i = c := ⟨_, rfl⟩
      rw [hcc] at E0 hc
      have hcb : 0 ≤ c ∧ c ≤ 255 := by have := bt_bound s i; omega
      have hd : decide (33 ≤ (s.data.toList.getD i 0).toNat ∧ (s.data.toList.getD i 0).toNat ≤ 126) = decide (33 ≤ c ∧ c ≤ 126) := by congr 1; apply propext; omega
      rw [hd] at hst
      clear hc hd hcc
      have HST := hid hst
      clear hst
      by_cases h1 : c < 33
      · go_wp2_with fail
        go_ret
        have := HST.out
        rw [decide_eq_false (by omega)] at this
        simp only [Bool.false_and] at this
        subst this
        exact ⟨rfl, rfl⟩
      by_cases h2 : 126 < c
      · go_wp2_with fail
        go_ret
        have := HST.out
        rw [decide_eq_false (by omega)] at this
        simp only [Bool.false_and] at this
        subst this
        exact ⟨rfl, rfl⟩
      · go_wp2_with fail
        go_roundw
        case rel =>
          refine ⟨i + 1, by first | rfl | go_num, hp, by first | trivial | rfl, ?_⟩
          have := HST.out
          rw [decide_eq_true (by omega)] at this
          exact hid (by simpa using this)
        case measure => go_num
    · go_wp2_with fail
      go_ret
      have e : s.data.toList.drop i = [] := List.drop_eq_nil_of_le (by rw [← Utf.size_eq]; omega)
      have := hk.out
      rw [e] at this
      refine ⟨?_, rfl⟩
      rw [← this]
      show Ending.returned (.bool (decide ((s.size : Int) ≤ 32))) = .returned (.bool (true && decide (s.size ≤ 32)))
      rw [Bool.true_and]
      congr 2
      simp
      omega
set_option maxRecDepth 100000 in
set_option maxHeartbeats 1000000 in
theorem rform_leaf (d : De) (w : World) (hs : d.ty.size ≤ 140737488355328) (h : ¬ (18 ≤ d.k ∧ d.k ≤ 22)) :
    Calls Tryz.prog 31 #[.agg (deV d)] w fun e w' => e = .returned (.bool (formB d)) ∧ Below w.heap.size w w' := by
  obtain ⟨k, ty, b, im, t, nm, pa, hk⟩ := d
  simp only at hs h ⊢
  have TY := hid (fun W => rtyped_any ty W hs)
  have g1 : (k == 18) = false := by simp; omega
  have g2 : (k == 21) = false := by simp; omega
  have g3 : (k == 22) = false := by simp; omega
  by_cases h0 : k = 0
  · subst h0
    clear h
    go_enter Tryz.func31, Tryz.ntmps31
    go_wp2_with fail
    go_ret
    exact ⟨rfl, (Below.refl _ _).alloc (Nat.le_refl _) _⟩
  · have h00 : (k == 0) = false := by simpa using h0
    have h01 : (k != 0) = true := by simpa using h0
    have hf : formB ⟨k, ty, b, im, t, nm, pa, hk⟩ = typedB ty := by
      unfold formB
      simp [h0]
    rw [hf]
    obtain ⟨x, hx⟩ : ∃ x, typedB ty = x := ⟨_, rfl⟩
    rw [hx] at TY ⊢
    clear h h0 hf hx
    cases x
    · go_enter Tryz.func31, Tryz.ntmps31
      go_wp2_with fail
      refine (TY.out _).mono ?_
      rintro e w1 ⟨rfl, hb⟩
      subst hb
      go_wp2_with fail
      go_ret
      exact ⟨rfl, (Below.refl _ _).alloc (Nat.le_refl _) _⟩
    · go_enter Tryz.func31, Tryz.ntmps31
      go_wp2_with fail
      refine (TY.out _).mono ?_
      rintro e w1 ⟨rfl, hb⟩
      subst hb
      go_wp2_with fail
      go_ret
      exact ⟨rfl, (Below.refl _ _).alloc (Nat.le_refl _) _⟩
set_option maxRecDepth 100000 in
set_option maxHeartbeats 1000000 in
theorem rtwice_leaf (d : De) (w : World) (h : ¬ (18 ≤ d.k ∧ d.k ≤ 22)) :
    Calls Tryz.prog 32 #[.agg (deV d)] w fun e w' => e = .returned (.bool false) ∧ Below w.heap.size w w' := by
  obtain ⟨k, ty, b, im, t, nm, pa, hk⟩ := d
  simp only at h ⊢
  have g1 : (k == 18) = false := by simp; omega
  have g2 : (k == 21) = false := by simp; omega
  clear h
  go_enter Tryz.func32, Tryz.ntmps32
  go_wp2_with fail
  go_ret
  exact ⟨rfl, (Below.refl _ _).alloc (Nat.le_refl _) _⟩
/-- The checked list. -/
structure Ck (w : World) (g g2 : Nat) (d : De) (W : World) : Prop where
  low : Below w.heap.size w W
  row : Blk W g (deV d) 29
  dep : Blk W g2 #[.int .i64 0] 3
theorem Ck.kept {w : World} {g g2 : Nat} {d : De} {W W' : World} (h : Ck w g g2 d W) (hb : Below W.heap.size W W') : Ck w g g2 d W' :=
  ⟨h.low.trans (hb.mono h.low.size), h.row.below hb h.row.lt, h.dep.below hb h.dep.lt⟩
set_option maxRecDepth 100000 in
set_option maxHeartbeats 4000000 in
theorem rcheck_num (d : De) (w : World) (hk : (0 ≤ d.k ∧ d.k ≤ 17) ∧ d.k ≠ 16 ∧ d.k ≠ 17) (ht : d.t.size ≤ 1024) (hs : d.ty.size ≤ 140737488355328) (hf : formB d = true) :
    Calls Tryz.prog 20 #[.agg (deV d)] w fun e w' => e = .returned (.int .i64 0) ∧ Below w.heap.size w w' := by
  have hl : ¬ (18 ≤ d.k ∧ d.k ≤ 22) := by omega
  have AL := hid (fun W => rall_leaf d W hl)
  have FO := hid (fun W => rform_leaf d W hs hl)
  have TW := hid (fun W => rtwice_leaf d W hl)
  rw [hf] at FO
  have l0 := (Below.refl w.heap.size w).alloc (Nat.le_refl _) (.cells (deV d) 29)
  have L0 := hid l0
  have dt2 : decide (1024 < (d.t.size : Int)) = false := decide_eq_false (by omega)
  have dk1 : decide (d.k < 0) = false := decide_eq_false (by omega)
  have dk2 : decide (22 < d.k) = false := decide_eq_false (by omega)
  have g1 : (d.k == 16) = false := by simp; omega
  have g2' : (d.k == 17) = false := by simp; omega
  clear l0 hl hs hf
  obtain ⟨k, ty, b, im, t, nm, pa, hh⟩ := d
  simp only at *
  go_enter Tryz.func20, Tryz.ntmps20
  go_wp2_with fail
  refine (AL.out _).mono ?_
  rintro e W1 ⟨g, g2, rfl, hg, hg2, hb⟩
  have C1 := hid (show Ck w g g2 _ W1 from ⟨L0.out.trans (hb.mono L0.out.size), hg, hg2⟩)
  clear hg hg2 hb
  have c0 := C1.out.row.cell 0
  have c1 := C1.out.row.cell 1
  have c2 := C1.out.row.cell 2
  have c3 := C1.out.row.cell 3
  have c4 := C1.out.row.cell 4
  have c5 := C1.out.row.cell 5
  have c6 := C1.out.row.cell 6
  have c7 := C1.out.row.cell 7
  have e0 := C1.out.dep.cell 0
  go_wp2_with fail
  refine wp_loop_rounds 2 ?_
  rw [rounds_succ]
  go_wp2_with fail
  obtain ⟨W2, hW2⟩ : ∃ W', World.alloc W1 (.cells #[.int .i64 k, .string ty, .int .u64 b, .int .u64 im, .string t, slV nm, slV pa, .int .i64 hh] 29) = W' := ⟨_, rfl⟩
  have C2 := hid (show Ck w g g2 _ W2 from hW2 ▸ C1.out.kept ((Below.refl _ _).alloc (Nat.le_refl _) _))
  rw [hW2]
  clear hW2
  clear c0 c1 c2 c3 c4 c5 c6 c7 e0
  have c0 := C2.out.row.cell 0
  have c1 := C2.out.row.cell 1
  have c2 := C2.out.row.cell 2
  have c3 := C2.out.row.cell 3
  have c4 := C2.out.row.cell 4
  have c5 := C2.out.row.cell 5
  have c6 := C2.out.row.cell 6
  have c7 := C2.out.row.cell 7
  have e0 := C2.out.dep.cell 0
  rw [rounds_succ]
  go_wp2_with fail
  refine wp_loop_rounds 2 ?_
  rw [rounds_succ]
  go_wp2_with fail
  rw [rounds_succ]
  go_wp2_with fail
  refine wp_loop_rounds 2 ?_
  rw [rounds_succ]
  go_wp2_with fail
  obtain ⟨W3, hW3⟩ : ∃ W', World.alloc W2 (.cells #[.int .i64 k, .string ty, .int .u64 b, .int .u64 im, .string t, slV nm, slV pa, .int .i64 hh] 29) = W' := ⟨_, rfl⟩
  have C3 := hid (show Ck w g g2 _ W3 from hW3 ▸ C2.out.kept ((Below.refl _ _).alloc (Nat.le_refl _) _))
  rw [hW3]
  clear hW3
  clear c0 c1 c2 c3 c4 c5 c6 c7 e0
  have c0 := C3.out.row.cell 0
  have c1 := C3.out.row.cell 1
  have c2 := C3.out.row.cell 2
  have c3 := C3.out.row.cell 3
  have c4 := C3.out.row.cell 4
  have c5 := C3.out.row.cell 5
  have c6 := C3.out.row.cell 6
  have c7 := C3.out.row.cell 7
  have e0 := C3.out.dep.cell 0
  rw [rounds_succ]
  go_wp2_with fail
  refine wp_loop_rounds 2 ?_
  rw [rounds_succ]
  go_wp2_with fail
  refine (FO.out _).mono ?_
  obtain ⟨W4, hW4⟩ : ∃ W', World.alloc W3 (.cells #[.int .i64 k, .string ty, .int .u64 b, .int .u64 im, .string t, slV nm, slV pa, .int .i64 hh] 29) = W' := ⟨_, rfl⟩
  rw [hW4]
  rintro e W5 ⟨rfl, hb⟩
  have C5 := hid ((show Ck w g g2 _ W4 from hW4 ▸ C3.out.kept ((Below.refl _ _).alloc (Nat.le_refl _) _)).kept hb)
  clear hW4 hb
  clear c0 c1 c2 c3 c4 c5 c6 c7 e0
  have c0 := C5.out.row.cell 0
  have c1 := C5.out.row.cell 1
  have c2 := C5.out.row.cell 2
  have c3 := C5.out.row.cell 3
  have c4 := C5.out.row.cell 4
  have c5 := C5.out.row.cell 5
  have c6 := C5.out.row.cell 6
  have c7 := C5.out.row.cell 7
  have e0 := C5.out.dep.cell 0
  go_wp2_with fail
  rw [rounds_succ]
  go_wp2_with fail
  refine wp_loop_rounds 2 ?_
  rw [rounds_succ]
  go_wp2_with fail
  refine (TW.out _).mono ?_
  obtain ⟨W6, hW6⟩ : ∃ W', World.alloc W5 (.cells #[.int .i64 k, .string ty, .int .u64 b, .int .u64 im, .string t, slV nm, slV pa, .int .i64 hh] 29) = W' := ⟨_, rfl⟩
  rw [hW6]
  rintro e W7 ⟨rfl, hb⟩
  have C7 := hid ((show Ck w g g2 _ W6 from hW6 ▸ C5.out.kept ((Below.refl _ _).alloc (Nat.le_refl _) _)).kept hb)
  clear hW6 hb
  clear c0 c1 c2 c3 c4 c5 c6 c7 e0
  go_wp2_with fail
  rw [rounds_succ]
  go_wp2_with fail
  go_ret
  exact ⟨rfl, C7.out.low⟩
set_option maxRecDepth 100000 in
set_option maxHeartbeats 4000000 in
theorem rcheck_t16 (d : De) (w : World) (hk : d.k = 16) (ht : d.t.size ≤ 1024) (hs : d.ty.size ≤ 140737488355328) (hf : formB d = true) :
    Calls Tryz.prog 20 #[.agg (deV d)] w fun e w' => e = .returned (.int .i64 0) ∧ Below w.heap.size w w' := by
  have hl : ¬ (18 ≤ d.k ∧ d.k ≤ 22) := by omega
  have AL := hid (fun W => rall_leaf d W hl)
  have FO := hid (fun W => rform_leaf d W hs hl)
  have TW := hid (fun W => rtwice_leaf d W hl)
  rw [hf] at FO
  have l0 := (Below.refl w.heap.size w).alloc (Nat.le_refl _) (.cells (deV d) 29)
  have L0 := hid l0
  have dt2 : decide (1024 < (d.t.size : Int)) = false := decide_eq_false (by omega)
  have dk1 : decide (d.k < 0) = false := decide_eq_false (by omega)
  have dk2 : decide (22 < d.k) = false := decide_eq_false (by omega)
  clear l0 hl hs hf
  obtain ⟨k, ty, b, im, t, nm, pa, hh⟩ := d
  simp only at *
  subst hk
  go_enter Tryz.func20, Tryz.ntmps20
  go_wp2_with fail
  refine (AL.out _).mono ?_
  rintro e W1 ⟨g, g2, rfl, hg, hg2, hb⟩
  have C1 := hid (show Ck w g g2 _ W1 from ⟨L0.out.trans (hb.mono L0.out.size), hg, hg2⟩)
  clear hg hg2 hb
  have c0 := C1.out.row.cell 0
  have c1 := C1.out.row.cell 1
  have c2 := C1.out.row.cell 2
  have c3 := C1.out.row.cell 3
  have c4 := C1.out.row.cell 4
  have c5 := C1.out.row.cell 5
  have c6 := C1.out.row.cell 6
  have c7 := C1.out.row.cell 7
  have e0 := C1.out.dep.cell 0
  go_wp2_with fail
  refine wp_loop_rounds 2 ?_
  rw [rounds_succ]
  go_wp2_with fail
  obtain ⟨W2, hW2⟩ : ∃ W', World.alloc W1 (.cells #[.int .i64 16, .string ty, .int .u64 b, .int .u64 im, .string t, slV nm, slV pa, .int .i64 hh] 29) = W' := ⟨_, rfl⟩
  have C2 := hid (show Ck w g g2 _ W2 from hW2 ▸ C1.out.kept ((Below.refl _ _).alloc (Nat.le_refl _) _))
  rw [hW2]
  clear hW2
  clear c0 c1 c2 c3 c4 c5 c6 c7 e0
  have c0 := C2.out.row.cell 0
  have c1 := C2.out.row.cell 1
  have c2 := C2.out.row.cell 2
  have c3 := C2.out.row.cell 3
  have c4 := C2.out.row.cell 4
  have c5 := C2.out.row.cell 5
  have c6 := C2.out.row.cell 6
  have c7 := C2.out.row.cell 7
  have e0 := C2.out.dep.cell 0
  rw [rounds_succ]
  go_wp2_with fail
  refine wp_loop_rounds 2 ?_
  rw [rounds_succ]
  go_wp2_with fail
  rw [rounds_succ]
  go_wp2_with fail
  refine wp_loop_rounds 2 ?_
  rw [rounds_succ]
  go_wp2_with fail
  obtain ⟨W3, hW3⟩ : ∃ W', World.alloc W2 (.cells #[.int .i64 16, .string ty, .int .u64 b, .int .u64 im, .string t, slV nm, slV pa, .int .i64 hh] 29) = W' := ⟨_, rfl⟩
  have C3 := hid (show Ck w g g2 _ W3 from hW3 ▸ C2.out.kept ((Below.refl _ _).alloc (Nat.le_refl _) _))
  rw [hW3]
  clear hW3
  clear c0 c1 c2 c3 c4 c5 c6 c7 e0
  have c0 := C3.out.row.cell 0
  have c1 := C3.out.row.cell 1
  have c2 := C3.out.row.cell 2
  have c3 := C3.out.row.cell 3
  have c4 := C3.out.row.cell 4
  have c5 := C3.out.row.cell 5
  have c6 := C3.out.row.cell 6
  have c7 := C3.out.row.cell 7
  have e0 := C3.out.dep.cell 0
  rw [rounds_succ]
  go_wp2_with fail
  refine wp_loop_rounds 2 ?_
  rw [rounds_succ]
  go_wp2_with fail
  refine (FO.out _).mono ?_
  obtain ⟨W4, hW4⟩ : ∃ W', World.alloc W3 (.cells #[.int .i64 16, .string ty, .int .u64 b, .int .u64 im, .string t, slV nm, slV pa, .int .i64 hh] 29) = W' := ⟨_, rfl⟩
  rw [hW4]
  rintro e W5 ⟨rfl, hb⟩
  have C5 := hid ((show Ck w g g2 _ W4 from hW4 ▸ C3.out.kept ((Below.refl _ _).alloc (Nat.le_refl _) _)).kept hb)
  clear hW4 hb
  clear c0 c1 c2 c3 c4 c5 c6 c7 e0
  have c0 := C5.out.row.cell 0
  have c1 := C5.out.row.cell 1
  have c2 := C5.out.row.cell 2
  have c3 := C5.out.row.cell 3
  have c4 := C5.out.row.cell 4
  have c5 := C5.out.row.cell 5
  have c6 := C5.out.row.cell 6
  have c7 := C5.out.row.cell 7
  have e0 := C5.out.dep.cell 0
  go_wp2_with fail
  rw [rounds_succ]
  go_wp2_with fail
  refine wp_loop_rounds 2 ?_
  rw [rounds_succ]
  go_wp2_with fail
  refine (TW.out _).mono ?_
  obtain ⟨W6, hW6⟩ : ∃ W', World.alloc W5 (.cells #[.int .i64 16, .string ty, .int .u64 b, .int .u64 im, .string t, slV nm, slV pa, .int .i64 hh] 29) = W' := ⟨_, rfl⟩
  rw [hW6]
  rintro e W7 ⟨rfl, hb⟩
  have C7 := hid ((show Ck w g g2 _ W6 from hW6 ▸ C5.out.kept ((Below.refl _ _).alloc (Nat.le_refl _) _)).kept hb)
  clear hW6 hb
  clear c0 c1 c2 c3 c4 c5 c6 c7 e0
  go_wp2_with fail
  rw [rounds_succ]
  go_wp2_with fail
  go_ret
  exact ⟨rfl, C7.out.low⟩
set_option maxRecDepth 100000 in
set_option maxHeartbeats 4000000 in
theorem rcheck_t17 (d : De) (w : World) (hk : d.k = 17) (ht : d.t.size ≤ 1024) (hs : d.ty.size ≤ 140737488355328) (hf : formB d = true) :
    Calls Tryz.prog 20 #[.agg (deV d)] w fun e w' => e = .returned (.int .i64 0) ∧ Below w.heap.size w w' := by
  have hl : ¬ (18 ≤ d.k ∧ d.k ≤ 22) := by omega
  have AL := hid (fun W => rall_leaf d W hl)
  have FO := hid (fun W => rform_leaf d W hs hl)
  have TW := hid (fun W => rtwice_leaf d W hl)
  rw [hf] at FO
  have l0 := (Below.refl w.heap.size w).alloc (Nat.le_refl _) (.cells (deV d) 29)
  have L0 := hid l0
  have dt2 : decide (1024 < (d.t.size : Int)) = false := decide_eq_false (by omega)
  have dk1 : decide (d.k < 0) = false := decide_eq_false (by omega)
  have dk2 : decide (22 < d.k) = false := decide_eq_false (by omega)
  clear l0 hl hs hf
  obtain ⟨k, ty, b, im, t, nm, pa, hh⟩ := d
  simp only at *
  subst hk
  go_enter Tryz.func20, Tryz.ntmps20
  go_wp2_with fail
  refine (AL.out _).mono ?_
  rintro e W1 ⟨g, g2, rfl, hg, hg2, hb⟩
  have C1 := hid (show Ck w g g2 _ W1 from ⟨L0.out.trans (hb.mono L0.out.size), hg, hg2⟩)
  clear hg hg2 hb
  have c0 := C1.out.row.cell 0
  have c1 := C1.out.row.cell 1
  have c2 := C1.out.row.cell 2
  have c3 := C1.out.row.cell 3
  have c4 := C1.out.row.cell 4
  have c5 := C1.out.row.cell 5
  have c6 := C1.out.row.cell 6
  have c7 := C1.out.row.cell 7
  have e0 := C1.out.dep.cell 0
  go_wp2_with fail
  refine wp_loop_rounds 2 ?_
  rw [rounds_succ]
  go_wp2_with fail
  obtain ⟨W2, hW2⟩ : ∃ W', World.alloc W1 (.cells #[.int .i64 17, .string ty, .int .u64 b, .int .u64 im, .string t, slV nm, slV pa, .int .i64 hh] 29) = W' := ⟨_, rfl⟩
  have C2 := hid (show Ck w g g2 _ W2 from hW2 ▸ C1.out.kept ((Below.refl _ _).alloc (Nat.le_refl _) _))
  rw [hW2]
  clear hW2
  clear c0 c1 c2 c3 c4 c5 c6 c7 e0
  have c0 := C2.out.row.cell 0
  have c1 := C2.out.row.cell 1
  have c2 := C2.out.row.cell 2
  have c3 := C2.out.row.cell 3
  have c4 := C2.out.row.cell 4
  have c5 := C2.out.row.cell 5
  have c6 := C2.out.row.cell 6
  have c7 := C2.out.row.cell 7
  have e0 := C2.out.dep.cell 0
  rw [rounds_succ]
  go_wp2_with fail
  refine wp_loop_rounds 2 ?_
  rw [rounds_succ]
  go_wp2_with fail
  rw [rounds_succ]
  go_wp2_with fail
  refine wp_loop_rounds 2 ?_
  rw [rounds_succ]
  go_wp2_with fail
  obtain ⟨W3, hW3⟩ : ∃ W', World.alloc W2 (.cells #[.int .i64 17, .string ty, .int .u64 b, .int .u64 im, .string t, slV nm, slV pa, .int .i64 hh] 29) = W' := ⟨_, rfl⟩
  have C3 := hid (show Ck w g g2 _ W3 from hW3 ▸ C2.out.kept ((Below.refl _ _).alloc (Nat.le_refl _) _))
  rw [hW3]
  clear hW3
  clear c0 c1 c2 c3 c4 c5 c6 c7 e0
  have c0 := C3.out.row.cell 0
  have c1 := C3.out.row.cell 1
  have c2 := C3.out.row.cell 2
  have c3 := C3.out.row.cell 3
  have c4 := C3.out.row.cell 4
  have c5 := C3.out.row.cell 5
  have c6 := C3.out.row.cell 6
  have c7 := C3.out.row.cell 7
  have e0 := C3.out.dep.cell 0
  rw [rounds_succ]
  go_wp2_with fail
  refine wp_loop_rounds 2 ?_
  rw [rounds_succ]
  go_wp2_with fail
  refine (FO.out _).mono ?_
  obtain ⟨W4, hW4⟩ : ∃ W', World.alloc W3 (.cells #[.int .i64 17, .string ty, .int .u64 b, .int .u64 im, .string t, slV nm, slV pa, .int .i64 hh] 29) = W' := ⟨_, rfl⟩
  rw [hW4]
  rintro e W5 ⟨rfl, hb⟩
  have C5 := hid ((show Ck w g g2 _ W4 from hW4 ▸ C3.out.kept ((Below.refl _ _).alloc (Nat.le_refl _) _)).kept hb)
  clear hW4 hb
  clear c0 c1 c2 c3 c4 c5 c6 c7 e0
  have c0 := C5.out.row.cell 0
  have c1 := C5.out.row.cell 1
  have c2 := C5.out.row.cell 2
  have c3 := C5.out.row.cell 3
  have c4 := C5.out.row.cell 4
  have c5 := C5.out.row.cell 5
  have c6 := C5.out.row.cell 6
  have c7 := C5.out.row.cell 7
  have e0 := C5.out.dep.cell 0
  go_wp2_with fail
  rw [rounds_succ]
  go_wp2_with fail
  refine wp_loop_rounds 2 ?_
  rw [rounds_succ]
  go_wp2_with fail
  refine (TW.out _).mono ?_
  obtain ⟨W6, hW6⟩ : ∃ W', World.alloc W5 (.cells #[.int .i64 17, .string ty, .int .u64 b, .int .u64 im, .string t, slV nm, slV pa, .int .i64 hh] 29) = W' := ⟨_, rfl⟩
  rw [hW6]
  rintro e W7 ⟨rfl, hb⟩
  have C7 := hid ((show Ck w g g2 _ W6 from hW6 ▸ C5.out.kept ((Below.refl _ _).alloc (Nat.le_refl _) _)).kept hb)
  clear hW6 hb
  clear c0 c1 c2 c3 c4 c5 c6 c7 e0
  go_wp2_with fail
  rw [rounds_succ]
  go_wp2_with fail
  go_ret
  exact ⟨rfl, C7.out.low⟩
theorem rcheck_leaf (d : De) (w : World) (hk : 0 ≤ d.k ∧ d.k ≤ 17) (ht : d.t.size ≤ 1024) (hs : d.ty.size ≤ 140737488355328) (hf : formB d = true) :
    Calls Tryz.prog 20 #[.agg (deV d)] w fun e w' => e = .returned (.int .i64 0) ∧ Below w.heap.size w w' := by
  by_cases h1 : d.k = 16
  · exact rcheck_t16 d w h1 ht hs hf
  by_cases h2 : d.k = 17
  · exact rcheck_t17 d w h2 ht hs hf
  exact rcheck_num d w ⟨hk, h1, h2⟩ ht hs hf
end Go.Proofs.YtdjhmanccoekjaaGreatDoor
end

section
namespace Go.Proofs.YtdjhmanccoekjaaGreatDoor
open Go.RowKit Go.Proofs

/-- The 64 bits of a whole number. -/
def numB (k b : Int) : Int := if k ≤ 6 then sxI k b % 18446744073709551616 else zxI k b
theorem rbits_of (k : Int) (w : World) (h : 2 ≤ k ∧ k ≤ 11) : Calls Tryz.prog 57 #[.int .i64 k] w fun x w' => x = .returned (.int .i64 (wBits k)) ∧ w = w' := by
  have hk : k = 2 ∨ k = 3 ∨ k = 4 ∨ k = 5 ∨ k = 6 ∨ k = 7 ∨ k = 8 ∨ k = 9 ∨ k = 10 ∨ k = 11 := by omega
  rcases hk with rfl | rfl | rfl | rfl | rfl | rfl | rfl | rfl | rfl | rfl
  all_goals go_enter Tryz.func57, Tryz.ntmps57
  all_goals go_wp2_with fail
  all_goals go_ret
  all_goals exact ⟨rfl, rfl⟩
theorem rsigned_of (k : Int) (w : World) (h : 2 ≤ k ∧ k ≤ 11) : Calls Tryz.prog 58 #[.int .i64 k] w fun x w' => x = .returned (.bool (decide (k ≤ 6))) ∧ w = w' := by
  have hk : k = 2 ∨ k = 3 ∨ k = 4 ∨ k = 5 ∨ k = 6 ∨ k = 7 ∨ k = 8 ∨ k = 9 ∨ k = 10 ∨ k = 11 := by omega
  rcases hk with rfl | rfl | rfl | rfl | rfl | rfl | rfl | rfl | rfl | rfl
  all_goals go_enter Tryz.func58, Tryz.ntmps58
  all_goals go_wp2_with fail
  all_goals go_ret
  all_goals exact ⟨rfl, rfl⟩
set_option maxHeartbeats 1000000 in
theorem rnumber2 (b : Int) (w : World) (h0 : 0 ≤ b) (h1 : b ≤ 18446744073709551615) : Calls Tryz.prog 34 #[.int .i64 2, .int .u64 b] w fun x w' => x = .returned (.int .u64 (numB 2 b)) ∧ w = w' := by
  have BI := hid (fun W => rbits_of 2 W (by decide))
  have SI := hid (fun W => rsigned_of 2 W (by decide))
  obtain ⟨y, hy⟩ : ∃ y, b % 256 = y := ⟨_, rfl⟩
  have hy0 : 0 ≤ y ∧ y < 256 := by omega
  by_cases hh : 128 ≤ y
  · have hv : numB 2 b = IntKind.u64.wrap (y - 256) := by
      rw [IntKind.wrap_u64]
      show ((b + 128) % 256 - 128) % 18446744073709551616 = _
      omega
    have dh : decide (y ≥ 128) = true := decide_eq_true hh
    have dh2 : decide (128 ≤ y) = true := decide_eq_true hh
    rw [hv]
    clear hv
    go_enter Tryz.func34, Tryz.ntmps34
    go_wp2_with fail
    refine (BI.out _).mono ?_
    rintro e w1 ⟨rfl, hw⟩
    subst hw
    rw [show wBits 2 = 8 from rfl]
    go_wp2_with fail
    refine (SI.out _).mono ?_
    rintro e w1 ⟨rfl, hw⟩
    subst hw
    rw [show decide ((2 : Int) ≤ 6) = true by decide]
    go_wp2_with fail
    go_ret
    exact ⟨rfl, rfl⟩
  · have hv : numB 2 b = y := by
      show ((b + 128) % 256 - 128) % 18446744073709551616 = _
      omega
    have dh : decide (y ≥ 128) = false := decide_eq_false hh
    have dh2 : decide (128 ≤ y) = false := decide_eq_false hh
    rw [hv]
    clear hv
    go_enter Tryz.func34, Tryz.ntmps34
    go_wp2_with fail
    refine (BI.out _).mono ?_
    rintro e w1 ⟨rfl, hw⟩
    subst hw
    rw [show wBits 2 = 8 from rfl]
    go_wp2_with fail
    refine (SI.out _).mono ?_
    rintro e w1 ⟨rfl, hw⟩
    subst hw
    rw [show decide ((2 : Int) ≤ 6) = true by decide]
    go_wp2_with fail
    go_ret
    exact ⟨rfl, rfl⟩
set_option maxHeartbeats 1000000 in
theorem rnumber3 (b : Int) (w : World) (h0 : 0 ≤ b) (h1 : b ≤ 18446744073709551615) : Calls Tryz.prog 34 #[.int .i64 3, .int .u64 b] w fun x w' => x = .returned (.int .u64 (numB 3 b)) ∧ w = w' := by
  have BI := hid (fun W => rbits_of 3 W (by decide))
  have SI := hid (fun W => rsigned_of 3 W (by decide))
  obtain ⟨y, hy⟩ : ∃ y, b % 65536 = y := ⟨_, rfl⟩
  have hy0 : 0 ≤ y ∧ y < 65536 := by omega
  by_cases hh : 32768 ≤ y
  · have hv : numB 3 b = IntKind.u64.wrap (y - 65536) := by
      rw [IntKind.wrap_u64]
      show ((b + 32768) % 65536 - 32768) % 18446744073709551616 = _
      omega
    have dh : decide (y ≥ 32768) = true := decide_eq_true hh
    have dh2 : decide (32768 ≤ y) = true := decide_eq_true hh
    rw [hv]
    clear hv
    go_enter Tryz.func34, Tryz.ntmps34
    go_wp2_with fail
    refine (BI.out _).mono ?_
    rintro e w1 ⟨rfl, hw⟩
    subst hw
    rw [show wBits 3 = 16 from rfl]
    go_wp2_with fail
    refine (SI.out _).mono ?_
    rintro e w1 ⟨rfl, hw⟩
    subst hw
    rw [show decide ((3 : Int) ≤ 6) = true by decide]
    go_wp2_with fail
    go_ret
    exact ⟨rfl, rfl⟩
  · have hv : numB 3 b = y := by
      show ((b + 32768) % 65536 - 32768) % 18446744073709551616 = _
      omega
    have dh : decide (y ≥ 32768) = false := decide_eq_false hh
    have dh2 : decide (32768 ≤ y) = false := decide_eq_false hh
    rw [hv]
    clear hv
    go_enter Tryz.func34, Tryz.ntmps34
    go_wp2_with fail
    refine (BI.out _).mono ?_
    rintro e w1 ⟨rfl, hw⟩
    subst hw
    rw [show wBits 3 = 16 from rfl]
    go_wp2_with fail
    refine (SI.out _).mono ?_
    rintro e w1 ⟨rfl, hw⟩
    subst hw
    rw [show decide ((3 : Int) ≤ 6) = true by decide]
    go_wp2_with fail
    go_ret
    exact ⟨rfl, rfl⟩
set_option maxHeartbeats 1000000 in
theorem rnumber4 (b : Int) (w : World) (h0 : 0 ≤ b) (h1 : b ≤ 18446744073709551615) : Calls Tryz.prog 34 #[.int .i64 4, .int .u64 b] w fun x w' => x = .returned (.int .u64 (numB 4 b)) ∧ w = w' := by
  have BI := hid (fun W => rbits_of 4 W (by decide))
  have SI := hid (fun W => rsigned_of 4 W (by decide))
  obtain ⟨y, hy⟩ : ∃ y, b % 4294967296 = y := ⟨_, rfl⟩
  have hy0 : 0 ≤ y ∧ y < 4294967296 := by omega
  by_cases hh : 2147483648 ≤ y
  · have hv : numB 4 b = IntKind.u64.wrap (y - 4294967296) := by
      rw [IntKind.wrap_u64]
      show ((b + 2147483648) % 4294967296 - 2147483648) % 18446744073709551616 = _
      omega
    have dh : decide (y ≥ 2147483648) = true := decide_eq_true hh
    have dh2 : decide (2147483648 ≤ y) = true := decide_eq_true hh
    rw [hv]
    clear hv
    go_enter Tryz.func34, Tryz.ntmps34
    go_wp2_with fail
    refine (BI.out _).mono ?_
    rintro e w1 ⟨rfl, hw⟩
    subst hw
    rw [show wBits 4 = 32 from rfl]
    go_wp2_with fail
    refine (SI.out _).mono ?_
    rintro e w1 ⟨rfl, hw⟩
    subst hw
    rw [show decide ((4 : Int) ≤ 6) = true by decide]
    go_wp2_with fail
    go_ret
    exact ⟨rfl, rfl⟩
  · have hv : numB 4 b = y := by
      show ((b + 2147483648) % 4294967296 - 2147483648) % 18446744073709551616 = _
      omega
    have dh : decide (y ≥ 2147483648) = false := decide_eq_false hh
    have dh2 : decide (2147483648 ≤ y) = false := decide_eq_false hh
    rw [hv]
    clear hv
    go_enter Tryz.func34, Tryz.ntmps34
    go_wp2_with fail
    refine (BI.out _).mono ?_
    rintro e w1 ⟨rfl, hw⟩
    subst hw
    rw [show wBits 4 = 32 from rfl]
    go_wp2_with fail
    refine (SI.out _).mono ?_
    rintro e w1 ⟨rfl, hw⟩
    subst hw
    rw [show decide ((4 : Int) ≤ 6) = true by decide]
    go_wp2_with fail
    go_ret
    exact ⟨rfl, rfl⟩
set_option maxHeartbeats 1000000 in
theorem rnumber5 (b : Int) (w : World) (h0 : 0 ≤ b) (h1 : b ≤ 18446744073709551615) : Calls Tryz.prog 34 #[.int .i64 5, .int .u64 b] w fun x w' => x = .returned (.int .u64 (numB 5 b)) ∧ w = w' := by
  have BI := hid (fun W => rbits_of 5 W (by decide))
  have SI := hid (fun W => rsigned_of 5 W (by decide))
  have hv : numB 5 b = b := by
    show ((b + 9223372036854775808) % 18446744073709551616 - 9223372036854775808) % 18446744073709551616 = b
    omega
  rw [hv]
  go_enter Tryz.func34, Tryz.ntmps34
  go_wp2_with fail
  refine (BI.out _).mono ?_
  rintro e w1 ⟨rfl, hw⟩
  subst hw
  rw [show wBits 5 = 64 from rfl]
  go_wp2_with fail
  go_ret
  exact ⟨rfl, rfl⟩
set_option maxHeartbeats 1000000 in
theorem rnumber6 (b : Int) (w : World) (h0 : 0 ≤ b) (h1 : b ≤ 18446744073709551615) : Calls Tryz.prog 34 #[.int .i64 6, .int .u64 b] w fun x w' => x = .returned (.int .u64 (numB 6 b)) ∧ w = w' := by
  have BI := hid (fun W => rbits_of 6 W (by decide))
  have SI := hid (fun W => rsigned_of 6 W (by decide))
  have hv : numB 6 b = b := by
    show ((b + 9223372036854775808) % 18446744073709551616 - 9223372036854775808) % 18446744073709551616 = b
    omega
  rw [hv]
  go_enter Tryz.func34, Tryz.ntmps34
  go_wp2_with fail
  refine (BI.out _).mono ?_
  rintro e w1 ⟨rfl, hw⟩
  subst hw
  rw [show wBits 6 = 64 from rfl]
  go_wp2_with fail
  go_ret
  exact ⟨rfl, rfl⟩
set_option maxHeartbeats 1000000 in
theorem rnumber7 (b : Int) (w : World) (h0 : 0 ≤ b) (h1 : b ≤ 18446744073709551615) : Calls Tryz.prog 34 #[.int .i64 7, .int .u64 b] w fun x w' => x = .returned (.int .u64 (numB 7 b)) ∧ w = w' := by
  have BI := hid (fun W => rbits_of 7 W (by decide))
  have SI := hid (fun W => rsigned_of 7 W (by decide))
  have hv : numB 7 b = b % 256 := rfl
  rw [hv]
  go_enter Tryz.func34, Tryz.ntmps34
  go_wp2_with fail
  refine (BI.out _).mono ?_
  rintro e w1 ⟨rfl, hw⟩
  subst hw
  rw [show wBits 7 = 8 from rfl]
  go_wp2_with fail
  refine (SI.out _).mono ?_
  rintro e w1 ⟨rfl, hw⟩
  subst hw
  rw [show decide ((7 : Int) ≤ 6) = false by decide]
  go_wp2_with fail
  go_ret
  exact ⟨rfl, rfl⟩
set_option maxHeartbeats 1000000 in
theorem rnumber8 (b : Int) (w : World) (h0 : 0 ≤ b) (h1 : b ≤ 18446744073709551615) : Calls Tryz.prog 34 #[.int .i64 8, .int .u64 b] w fun x w' => x = .returned (.int .u64 (numB 8 b)) ∧ w = w' := by
  have BI := hid (fun W => rbits_of 8 W (by decide))
  have SI := hid (fun W => rsigned_of 8 W (by decide))
  have hv : numB 8 b = b % 65536 := rfl
  rw [hv]
  go_enter Tryz.func34, Tryz.ntmps34
  go_wp2_with fail
  refine (BI.out _).mono ?_
  rintro e w1 ⟨rfl, hw⟩
  subst hw
  rw [show wBits 8 = 16 from rfl]
  go_wp2_with fail
  refine (SI.out _).mono ?_
  rintro e w1 ⟨rfl, hw⟩
  subst hw
  rw [show decide ((8 : Int) ≤ 6) = false by decide]
  go_wp2_with fail
  go_ret
  exact ⟨rfl, rfl⟩
set_option maxHeartbeats 1000000 in
theorem rnumber9 (b : Int) (w : World) (h0 : 0 ≤ b) (h1 : b ≤ 18446744073709551615) : Calls Tryz.prog 34 #[.int .i64 9, .int .u64 b] w fun x w' => x = .returned (.int .u64 (numB 9 b)) ∧ w = w' := by
  have BI := hid (fun W => rbits_of 9 W (by decide))
  have SI := hid (fun W => rsigned_of 9 W (by decide))
  have hv : numB 9 b = b % 4294967296 := rfl
  rw [hv]
  go_enter Tryz.func34, Tryz.ntmps34
  go_wp2_with fail
  refine (BI.out _).mono ?_
  rintro e w1 ⟨rfl, hw⟩
  subst hw
  rw [show wBits 9 = 32 from rfl]
  go_wp2_with fail
  refine (SI.out _).mono ?_
  rintro e w1 ⟨rfl, hw⟩
  subst hw
  rw [show decide ((9 : Int) ≤ 6) = false by decide]
  go_wp2_with fail
  go_ret
  exact ⟨rfl, rfl⟩
set_option maxHeartbeats 1000000 in
theorem rnumber10 (b : Int) (w : World) (_h0 : 0 ≤ b) (_h1 : b ≤ 18446744073709551615) : Calls Tryz.prog 34 #[.int .i64 10, .int .u64 b] w fun x w' => x = .returned (.int .u64 (numB 10 b)) ∧ w = w' := by
  have BI := hid (fun W => rbits_of 10 W (by decide))
  have SI := hid (fun W => rsigned_of 10 W (by decide))
  have hv : numB 10 b = b := by
    rfl
  rw [hv]
  go_enter Tryz.func34, Tryz.ntmps34
  go_wp2_with fail
  refine (BI.out _).mono ?_
  rintro e w1 ⟨rfl, hw⟩
  subst hw
  rw [show wBits 10 = 64 from rfl]
  go_wp2_with fail
  go_ret
  exact ⟨rfl, rfl⟩
set_option maxHeartbeats 1000000 in
theorem rnumber11 (b : Int) (w : World) (_h0 : 0 ≤ b) (_h1 : b ≤ 18446744073709551615) : Calls Tryz.prog 34 #[.int .i64 11, .int .u64 b] w fun x w' => x = .returned (.int .u64 (numB 11 b)) ∧ w = w' := by
  have BI := hid (fun W => rbits_of 11 W (by decide))
  have SI := hid (fun W => rsigned_of 11 W (by decide))
  have hv : numB 11 b = b := by
    rfl
  rw [hv]
  go_enter Tryz.func34, Tryz.ntmps34
  go_wp2_with fail
  refine (BI.out _).mono ?_
  rintro e w1 ⟨rfl, hw⟩
  subst hw
  rw [show wBits 11 = 64 from rfl]
  go_wp2_with fail
  go_ret
  exact ⟨rfl, rfl⟩
theorem rnumber_any (k b : Int) (w : World) (h : 2 ≤ k ∧ k ≤ 11) (h0 : 0 ≤ b) (h1 : b ≤ 18446744073709551615) : Calls Tryz.prog 34 #[.int .i64 k, .int .u64 b] w fun x w' => x = .returned (.int .u64 (numB k b)) ∧ w = w' := by
  have hk : k = 2 ∨ k = 3 ∨ k = 4 ∨ k = 5 ∨ k = 6 ∨ k = 7 ∨ k = 8 ∨ k = 9 ∨ k = 10 ∨ k = 11 := by omega
  rcases hk with rfl | rfl | rfl | rfl | rfl | rfl | rfl | rfl | rfl | rfl
  · exact rnumber2 b w h0 h1
  · exact rnumber3 b w h0 h1
  · exact rnumber4 b w h0 h1
  · exact rnumber5 b w h0 h1
  · exact rnumber6 b w h0 h1
  · exact rnumber7 b w h0 h1
  · exact rnumber8 b w h0 h1
  · exact rnumber9 b w h0 h1
  · exact rnumber10 b w h0 h1
  · exact rnumber11 b w h0 h1
set_option maxHeartbeats 1000000 in
theorem rwhole_yes (k : Int) (w : World) (h : 2 ≤ k ∧ k ≤ 11) : Calls Tryz.prog 33 #[.int .i64 k] w fun x w' => x = .returned (.bool true) ∧ w = w' := by
  have d1 : decide (2 ≤ k) = true := decide_eq_true h.1
  have d2 : decide (k ≤ 11) = true := decide_eq_true h.2
  go_enter Tryz.func33, Tryz.ntmps33
  go_wp2_with fail
  go_ret
  exact ⟨rfl, rfl⟩
set_option maxHeartbeats 1000000 in
theorem rwhole_no (k : Int) (w : World) (h : ¬ (2 ≤ k ∧ k ≤ 11)) : Calls Tryz.prog 33 #[.int .i64 k] w fun x w' => x = .returned (.bool false) ∧ w = w' := by
  by_cases h1 : 2 ≤ k
  · have d1 : decide (2 ≤ k) = true := decide_eq_true h1
    have d2 : decide (k ≤ 11) = false := decide_eq_false (by omega)
    go_enter Tryz.func33, Tryz.ntmps33
    go_wp2_with fail
    go_ret
    exact ⟨rfl, rfl⟩
  · have d1 : decide (2 ≤ k) = false := decide_eq_false h1
    go_enter Tryz.func33, Tryz.ntmps33
    go_wp2_with fail
    go_ret
    exact ⟨rfl, rfl⟩
/-- A descriptor of a whole number in form. -/
abbrev inW (d : De) : De := ⟨d.k, d.ty, numB d.k d.b, 0, ⟨#[]⟩, sl0, sl0, d.hk⟩
set_option maxRecDepth 100000 in
set_option maxHeartbeats 4000000 in
theorem rin_whole (d : De) (w : World) (h : 2 ≤ d.k ∧ d.k ≤ 11) (hB : DeB d) :
    Calls Tryz.prog 21 #[.agg (deV d)] w fun e w' => e = .returned (.agg (deV (inW d))) ∧ Below w.heap.size w w' := by
  have WH := hid (fun W => rwhole_yes d.k W h)
  have NU := hid (fun W => rnumber_any d.k d.b W h hB.b0 hB.b1)
  have GR := hid (fun W => rgreat_no d.k W (by omega))
  have g0 : (d.k == 0) = false := by simp; omega
  have g1 : (d.k == 1) = false := by simp; omega
  have g14 : (d.k == 14) = false := by simp; omega
  have g15 : (d.k == 15) = false := by simp; omega
  obtain ⟨k, ty, b, im, t, nm, pa, hk⟩ := d
  simp only at *
  unfold inW
  simp only
  obtain ⟨x, hx⟩ : ∃ x, numB k b = x := ⟨_, rfl⟩
  rw [hx] at NU ⊢
  clear hx hB h
  go_enter Tryz.func21, Tryz.ntmps21
  go_wp2_with fail
  refine (WH.out _).mono ?_
  rintro e w1 ⟨rfl, hw⟩
  subst hw
  go_wp2_with fail
  refine (NU.out _).mono ?_
  rintro e w1 ⟨rfl, hw⟩
  subst hw
  go_wp2_with fail
  refine (GR.out _).mono ?_
  rintro e w1 ⟨rfl, hw⟩
  subst hw
  go_wp2_with fail
  refine bodyPost_ret (v := .agg (deV ⟨k, ty, x, 0, ⟨#[]⟩, sl0, sl0, hk⟩)) (by simp [results, Tryz.results21, go_sem]) rfl ⟨rfl, ?_⟩
  exact below_n (below_n (below_n (Below.refl _ _) _ _) _ _) _ _
theorem rblk_two (w : World) (cs cs' : Array Value) (t t' : TypeId) : Blk ((w.alloc (.cells cs t)).alloc (.cells cs' t')) w.heap.size cs t ∧ Blk ((w.alloc (.cells cs t)).alloc (.cells cs' t')) (w.heap.size + 1) cs' t' := by
  refine ⟨(Blk.new w _ _).alloc _, ?_⟩
  have := Blk.new (w.alloc (.cells cs t)) cs' t'
  rw [World.size_alloc] at this
  exact this
set_option maxRecDepth 100000 in
set_option maxHeartbeats 4000000 in
theorem rbuild_ok (d x : De) (w : World) (CK : ∀ W, Below w.heap.size w W → Calls Tryz.prog 20 #[.agg (deV d)] W fun e w' => e = .returned (.int .i64 0) ∧ Below W.heap.size W w')
    (IN : ∀ W, Below w.heap.size w W → Calls Tryz.prog 21 #[.agg (deV d)] W fun e w' => e = .returned (.agg (deV x)) ∧ Below W.heap.size W w') :
    Calls Tryz.prog 13 #[.agg (deV d)] w fun e w' => e = .returned (.tuple #[.agg (deV x), .int .i64 0]) ∧ Below w.heap.size w w' := by
  have CK := hid CK
  have IN := hid IN
  obtain ⟨a0, a1⟩ := rblk_two w (deV d) de0 29 29
  have lp : Below w.heap.size w ((w.alloc (.cells (deV d) 29)).alloc (.cells de0 29)) := below_n (below_n (Below.refl _ _) _ _) _ _
  have A0 := hid a0
  have A1 := hid a1
  have LP := hid lp
  clear a0 a1 lp
  go_enter Tryz.func13, Tryz.ntmps13
  go_wp2_with fail
  obtain ⟨W0, hW0⟩ : ∃ W0, ((w.alloc (.cells (deV d) 29)).alloc (.cells de0 29)) = W0 := ⟨_, rfl⟩
  obtain ⟨B, hB⟩ : ∃ B, w.heap.size = B := ⟨_, rfl⟩
  rw [hW0, hB] at A0 A1
  rw [hW0] at LP ⊢
  rw [hB]
  have HBB := hid hB
  clear hW0 hB
  refine (CK.out _ LP.out).mono ?_
  rintro e W1 ⟨rfl, hb⟩
  have A0 := hid (A0.out.below hb A0.out.lt)
  have A1 := hid (A1.out.below hb A1.out.lt)
  have LP := hid (LP.out.trans (hb.mono LP.out.size))
  clear hb
  have c0 := A0.out.cell 0
  have c1 := A0.out.cell 1
  have c2 := A0.out.cell 2
  have c3 := A0.out.cell 3
  have c4 := A0.out.cell 4
  have c5 := A0.out.cell 5
  have c6 := A0.out.cell 6
  have c7 := A0.out.cell 7
  go_upto_region 4 with fail
  refine wp_region_list ?_
  refine wpList_plain rfl fun K hK => ?_
  have HK := hid hK
  clear hK
  go_wp2_with fail
  refine HK.out _ _ ?_
  clear HK
  refine wpList_plain rfl fun K hK => ?_
  have HK := hid hK
  clear hK
  go_wp2_with fail
  refine (IN.out _ LP.out).mono ?_
  rintro e W2 ⟨rfl, hb⟩
  have a1 := A1.out.below hb A1.out.lt
  have LP := hid (LP.out.trans (hb.mono LP.out.size))
  clear hb c0 c1 c2 c3 c4 c5 c6 c7
  refine HK.out _ _ ?_
  clear HK
  refine wpList_store_rowTo rfl 29 _ _ rfl rfl (B + 1) (deV x) rfl rfl 29 de0 a1 desc_size rfl (deV_one x) ?_
  have hG2 := a1.setRow (deV x)
  have b3 := below_setRow LP.out (B + 1) (by have := HBB.out; omega) (deV x)
  obtain ⟨W3, hW3⟩ : ∃ W3, W2.setRow (B + 1) (deV x) = W3 := ⟨_, rfl⟩
  rw [hW3] at hG2 b3 ⊢
  have RL := hid hG2
  have LP := hid b3
  clear hG2 b3 hW3 a1
  refine wpList_plain rfl fun K hK => ?_
  have HK := hid hK
  clear hK
  go_wp2_with fail
  refine HK.out _ _ ?_
  clear HK
  refine wpList_nil ?_
  go_wp2_with fail
  have HL := run_loadVar_mid (P := Tryz.prog) W3 (B + 1) 0 29 (deV x).toList _ (fun j v hv => by rw [Nat.zero_add, RL.out.cell]; simpa using hv) Tryz.underlying29 rfl desc_size
  refine bodyPost_ret (v := .tuple #[.agg (deV x), .int .i64 0]) ?_ rfl ⟨rfl, LP.out⟩
  simp [results, Tryz.results13, asAddr, HL]
theorem rbuild_whole (d : De) (w : World) (h : 2 ≤ d.k ∧ d.k ≤ 11) (hB : DeB d) (ht : d.t.size ≤ 1024) (hs : d.ty.size ≤ 140737488355328) (hf : formB d = true) :
    Calls Tryz.prog 13 #[.agg (deV d)] w fun e w' => e = .returned (.tuple #[.agg (deV (inW d)), .int .i64 0]) ∧ Below w.heap.size w w' :=
  rbuild_ok d (inW d) w (fun W _ => rcheck_leaf d W (by omega) ht hs hf) (fun W _ => rin_whole d W h hB)
end Go.Proofs.YtdjhmanccoekjaaGreatDoor
end

section
namespace Go.Proofs.YtdjhmanccoekjaaGreatDoor
open Go.RowKit Go.Proofs

/-- What is written of a whole number by v and by d. -/
def numS (x : Int) : ByteArray := IN.basedS (decide (x < 0)) x.natAbs 10 false [] false false false false (-1) (-1)
theorem signed_v (x verb : Int) (h : verb = 118 ∨ verb = 100) : IN.signedS x (plusN verb false) false false false false (-1) (-1) verb = some (numS x) := by
  have hp : plusN verb false = false := by unfold plusN; split <;> rfl
  rw [hp]
  unfold IN.signedS IN.writeS numS
  rw [if_neg (by omega), if_neg (by omega), if_neg (by omega), if_neg (by simp)]
  have hb : IP.baseOf verb = some (10, [], false, false) := by unfold IP.baseOf; rw [if_pos (by omega)]
  rw [hb]
  rfl
theorem numS_size (x : Int) (h : I64 x) : (numS x).size ≤ 70 := by
  have hdl : (IP.dgb 10 false x.natAbs).length ≤ 64 := IP.dgb_len64 10 false (by decide) x.natAbs (by omega)
  have hsl := IP.signL_len (decide (x < 0)) false false
  have hbody : (IP.bodyL (decide (x < 0)) x.natAbs 10 false [] false false false false (-1) (-1)).length ≤ 65 := by
    unfold IP.bodyL
    have e : IP.limI (-1) = -1 := by decide
    rw [e, if_neg (by omega)]
    simp only []
    rw [if_neg (by simp), IP.zerosTo_done (by omega)]
    have hm : IP.markL [] (IP.dgb 10 false x.natAbs) = [] := by unfold IP.markL; rw [if_neg (by simp)]
    rw [hm, List.append_nil, List.length_append]
    omega
  unfold numS IN.basedS padS
  simp only []
  rw [if_pos (by omega)]
  show (⟨(IP.bodyL _ _ _ _ _ _ _ _ _ _ _).toArray⟩ : ByteArray).size ≤ 70
  rw [Utf.size_eq]
  show (IP.bodyL _ _ _ _ _ _ _ _ _ _ _).length ≤ 70
  omega
/-- A whole number is shown within another value. -/
theorem shows_num {bb : Nat} {s : St} {v' va : Value} {w : World} (hst : StAt w bb s v' va) (htab : s.tab = .slice none 0 0) (x verb dp : Int) (hx : I64 x) (hv : verb = 118 ∨ verb = 100) :
    Shows w false false false false false (-1) (-1) verb (askF bb) dp (intV (deN x) x) (numS x) := by
  intro W hW
  have hst' := hst.below hW
  refine value_asked bb ⟨#[]⟩ false 181 _ false false false false false (-1) (-1) verb dp W (numS x) ⟨#[]⟩ true (known_int 6 ⟨#[]⟩ 0 x (by decide) (by decide) (by decide) (by decide)).nn (fun W2 hW2 => ?_) rfl (fun W2 hW2 => ?_) (fun h => by cases h)
  · exact ask_no bb s v' va _ 6 0 ⟨#[]⟩ true none 0 0 false false false false false (-1) (-1) verb W2 (hst'.below hW2) htab (by decide) (known_int 6 ⟨#[]⟩ 0 x (by decide) (by decide) (by decide) (by decide)).base (by decide) (by decide) (by decide)
  · have hk := kind_int 6 ⟨#[]⟩ 0 x false false false false false (-1) (-1) verb (askF bb) dp W2 hx.1 hx.2 (by decide) (by decide)
    rw [signed_v x verb hv] at hk
    exact hk
/-- An item of a map. -/
def itemS (k : Int) : ByteArray := (numS k ++ (⟨#[58]⟩ : ByteArray)) ++ numS (negI k)
def itemT (k : Int) : Tx6 := if h : (itemS k).size ≤ 1000000 then ⟨itemS k, h⟩ else ⟨⟨#[]⟩, Nat.zero_le _⟩
theorem itemS_size (k : Int) (h : I64 k) : (itemS k).size ≤ 141 := by
  unfold itemS
  rw [ByteArray.size_append, ByteArray.size_append]
  have h1 := numS_size k h
  have h2 := numS_size (negI k) (negI_b k)
  have h3 : (⟨#[58]⟩ : ByteArray).size = 1 := rfl
  omega
theorem itemT_val (k : Int) (h : I64 k) : (itemT k).1 = itemS k := by
  unfold itemT
  rw [dif_pos (by have := itemS_size k h; omega)]
theorem flat_get : ∀ (l : List Int) (i : Nat) (k : Int), l[i]? = some k → (flatT (l.map entN))[i * 2]? = some (.leaf (kvV (kvOf (deN k)))) ∧ (flatT (l.map entN))[i * 2 + 1]? = some (numV (negI k))
  | [], i, k, h => by simp at h
  | a :: r, 0, k, h => by
    simp only [List.getElem?_cons_zero, Option.some.injEq] at h
    subst h
    exact ⟨rfl, rfl⟩
  | a :: r, i + 1, k, h => by
    rw [List.getElem?_cons_succ] at h
    have ih := flat_get r i k h
    rw [show (i + 1) * 2 = i * 2 + 1 + 1 by omega]
    exact ih
theorem flat_len2 (l : List Int) : (flatT (l.map entN)).length = 2 * l.length := by
  induction l with
  | nil => rfl
  | cons a r ih =>
    show (flatT (r.map entN)).length + 1 + 1 = _
    rw [ih, List.length_cons]
    omega
theorem known_map (k : Int) (ty : ByteArray) (hk : Int) (A : Option Addr) (n c : Nat) (h0 : 0 ≤ k) (h1 : k ≤ 22) (h2 : -9223372036854775808 ≤ hk) (h3 : hk ≤ 9223372036854775807) : Known 198 (.agg #[.int .i64 k, .string ty, .int .i64 hk, .slice A n c]) k ty hk :=
  ⟨⟨tn_Map _, ta_Map_Nil _⟩, base_Map k ty hk A n c, h0, h1, h2, h3⟩
theorem getElem_item (l : List Int) (i : Nat) (t : Tx6) (h : (l.map itemT)[i]? = some t) : ∃ k, l[i]? = some k ∧ t = itemT k := by
  rw [List.getElem?_map] at h
  cases hl : l[i]? with
  | none => rw [hl] at h; cases h
  | some k => rw [hl] at h; exact ⟨k, rfl, (Option.some.inj h).symm⟩
/-- The map is shown. -/
theorem sh_map (l : List Int) (hl : l.length ≤ 10) (hi : ∀ k ∈ l, I64 k) (verb : Int) (hv : verb = 118 ∨ verb = 100) (bb : Nat) (s : St) (v' va u : Value) (W : World) (S : Nat → Prop) (hst : StAt W bb s v' va) (htab : s.tab = .slice none 0 0) (hV : VAt W S u (mapV l)) :
    Calls Tryz.prog 50 #[u, .agg (sp8 false false false false false (-1) (-1) verb), askF bb] W fun e w' => e = .returned (.string (mapS (l.map itemT))) ∧ Below W.heap.size W w' := by
  obtain ⟨sl, us, hlen, hr, hc, rfl⟩ : ∃ sl us, us.length = (flatT (l.map entN)).length ∧ RowAt W S sl (itemN 21 us) us ∧ (∀ (i : Nat) u x, us[i]? = some u → (flatT (l.map entN))[i]? = some x → VAt W S u x) ∧ u = .iface 198 (.agg #[.int .i64 21, .string ⟨#[]⟩, .int .i64 0, sl]) := by
    cases hV with
    | node _ _ _ _ _ _ sl us hlen hr hc => exact ⟨sl, us, hlen, hr (by decide), hc, rfl⟩
  rw [flat_len2] at hlen
  obtain ⟨A, cap, rfl, hrow⟩ := hr
  have hn : itemN 21 us = (l.map itemT).length := by
    unfold itemN
    rw [if_pos rfl, hlen, List.length_map, Nat.mul_div_cancel_left _ (by decide)]
  rw [hn]
  refine show_ok (known_map 21 ⟨#[]⟩ 0 A _ cap (by decide) (by decide) (by decide) (by decide)) none 0 0 htab (by decide) (by decide) false false false false false (-1) (-1) verb (by omega) (mapS (l.map itemT)) ⟨#[]⟩ true (by decide) (by decide) W hst (fun W2 hW2 => ?_) (fun h => by cases h)
  refine kind_map false false false false (-1) (-1) verb (askF bb) 0 21 ⟨#[]⟩ 0 A cap us (l.map itemT) W2 (by decide) (by decide) (by rw [List.length_map]; omega) (fun hne => ?_) (fun i t ht => ?_)
  · have hus : us ≠ [] := by
      intro e
      rw [e] at hlen
      have : l = [] := List.eq_nil_of_length_eq_zero (by simp at hlen; omega)
      rw [this] at hne
      exact hne rfl
    obtain ⟨g, cur, T, e1, _, e3, _, e5⟩ := hrow hus
    have hb := e3.below hW2 e3.lt
    exact ⟨g, e1, hb.lt, fun j v hj => by rw [hb.cell]; exact e5 j v hj⟩
  · obtain ⟨k, hk, rfl⟩ := getElem_item l i t ht
    have hik := hi k (List.mem_of_getElem? hk)
    have hil : i < l.length := (List.getElem?_eq_some_iff.1 hk).1
    obtain ⟨f1, f2⟩ := flat_get l i k hk
    obtain ⟨u1, hu1⟩ : ∃ u, us[i * 2]? = some u := ⟨_, List.getElem?_eq_getElem (by omega)⟩
    obtain ⟨u2, hu2⟩ : ∃ u, us[i * 2 + 1]? = some u := ⟨_, List.getElem?_eq_getElem (by omega)⟩
    have q1 := (hc _ _ _ hu1 f1).leaf_eq
    have q2 := (hc _ _ _ hu2 f2).leaf_eq
    rw [kvOf_val (deN k) (by show keyB 6 = true; decide), leaf_num k hik.1 hik.2] at q1
    subst q1 q2
    have hst2 := hst.below hW2
    refine ⟨_, _, numS k, numS (negI k), hu1, hu2, ⟨_, _, rfl⟩, ⟨_, _, rfl⟩, itemT_val k hik, ?_, ?_, shows_num hst2 htab k verb (0 + 1) hik hv, shows_num hst2 htab (negI k) verb (0 + 1) (negI_b k) hv⟩
    · have := numS_size k hik; omega
    · have := numS_size (negI k) (negI_b k); omega
theorem mapS_size (l : List Int) (hl : l.length ≤ 10) (hi : ∀ k ∈ l, I64 k) : (mapS (l.map itemT)).size ≤ 1500 := by
  have key : ∀ l : List Int, (∀ k ∈ l, I64 k) → (((l.map itemT).map (fun t : Tx6 => t.1)).flatMap fun y : ByteArray => [32] ++ y.data.toList).length ≤ 142 * l.length := by
    intro l
    induction l with
    | nil => intro _; simp
    | cons a r ih =>
      intro h
      have ha := itemS_size a (h a (List.mem_cons_self ..))
      have := ih fun k hk => h k (List.mem_cons_of_mem _ hk)
      rw [List.map_cons, List.map_cons, List.flatMap_cons, List.length_append, List.length_append, ← Utf.size_eq, itemT_val a (h a (List.mem_cons_self ..))]
      show 1 + (itemS a).size + _ ≤ 142 * (r.length + 1)
      omega
  unfold mapS
  rw [Utf.size_eq]
  show (_ ++ joinT (l.map itemT) ++ _).length ≤ 1500
  rw [List.length_append, List.length_append]
  have hj : (joinT (l.map itemT)).length ≤ 1420 := by
    unfold joinT
    cases l with
    | nil => simp [joinB]
    | cons a r =>
      have ha := itemS_size a (hi a (List.mem_cons_self ..))
      have := key r fun k hk => hi k (List.mem_cons_of_mem _ hk)
      rw [List.map_cons, List.map_cons, joinB, List.length_append, ← Utf.size_eq, itemT_val a (hi a (List.mem_cons_self ..))]
      simp only [List.length_cons] at hl
      omega
  show 4 + _ + 1 ≤ 1500
  omega
end Go.Proofs.YtdjhmanccoekjaaGreatDoor
end

section
namespace Go.Proofs.YtdjhmanccoekjaaGreatDoor
open Go.RowKit Go.Proofs

set_option maxRecDepth 100000 in
set_option maxHeartbeats 4000000 in
theorem begin_one (b : Nat) (A : Option Addr) (N cap : Nat) (sl : Sl) (ds : List De) (w : World) (V : VT) (h : StAt w b ⟨[], 0, sliceN, [], 0, false⟩ sliceN sliceN) (hA : ArgsAt w sl ds) (hn : ds.length = 1) (hcap : ds.length ≤ sl.cap)
    (hgb : ∀ g o, sl.a = some ⟨g, o, none⟩ → ds ≠ [] → g < b)
    (BU : ∀ d, ds[0]? = some d → ∀ W, Below b w W → Calls Tryz.prog 65 #[.agg (deV d)] W fun e w' => ∃ T x, e = .returned (.tuple #[.iface T x, .int .i64 0]) ∧ VAt w' (fun k => W.heap.size ≤ k) (.iface T x) V ∧ Below W.heap.size W w') :
    Calls Tryz.prog 42 #[.pointer (some ⟨b, 0, none⟩), .int .i64 0, .slice A N cap, slV sl] w fun e w' => e = .returned (.tuple #[]) ∧ ∃ va u, StAt w' b ⟨[], 0, .slice A N cap, [u], 0, false⟩ sliceN va ∧ VAt w' (fun k => b < k) u V ∧ Below b w w' := by
  obtain ⟨Aa, na, capa⟩ := sl
  obtain ⟨hAn, hA2⟩ := hA
  simp only at hAn hA2 hgb hcap
  subst hAn
  obtain ⟨m, hm⟩ : ∃ m, ds.length = m := ⟨_, rfl⟩
  have HM := hid hm
  rw [hm] at hn hcap ⊢
  clear hm
  have RE := hid (sreset b w _ h rfl)
  have BU := hid BU
  have HA := hid (And.intro hA2 hgb)
  have hlt := h.lt
  clear h hA2 hgb
  have hmin : min (m : Int) 16 = m := by omega
  have hcp : ((m : Nat) : Int).toNat ≤ capa := by omega
  show Calls Tryz.prog _ #[.pointer (some ⟨b, 0, none⟩), .int .i64 0, .slice A N cap, .slice Aa m capa] w _
  go_enter Tryz.func42, Tryz.ntmps42
  go_wp2_with fail
  refine RE.out.mono ?_
  rintro e w1 ⟨rfl, hs, hk⟩
  have f2 := hs.blk.frozen 2
  have st1 := hs
  have s2 := st1.set_ 2 (.int .i64 0) ⟨[], 0, sliceN, [], 0, false⟩ rfl rfl rfl
  have s3 := s2.set_ 3 (.slice A N cap) ⟨[], 0, .slice A N cap, [], 0, false⟩ rfl rfl rfl
  have s5 := s3.set_ 5 (.int .i64 0) ⟨[], 0, .slice A N cap, [], 0, false⟩ rfl rfl rfl
  have s6 := s5.set_ 6 (.bool false) ⟨[], 0, .slice A N cap, [], 0, false⟩ rfl rfl rfl
  have s4 := s6.set_ 4 sliceN ⟨[], 0, .slice A N cap, [], 0, false⟩ rfl rfl rfl
  have k4 := ((((hk.set_ 2 (.int .i64 0)).set_ 3 (.slice A N cap)).set_ 5 (.int .i64 0)).set_ 6 (.bool false)).set_ 4 sliceN
  have c2 : w1.cell? ⟨b, 2, none⟩ = some (.int .i64 0) := st1.blk.cell 2
  have c3 := s2.blk.cell 3
  have f3 := s2.blk.frozen 3
  have c5 := s3.blk.cell 5
  have f5 := s3.blk.frozen 5
  have c6 := s5.blk.cell 6
  have f6 := s5.blk.frozen 6
  have c4 := s6.blk.cell 4
  have f4 := s6.blk.frozen 4
  have N0 := hid (And.intro s4 k4)
  clear st1 s2 s3 s5 s6 s4 k4 hs hk
  go_wp2_with fail
  obtain ⟨W2, hW2⟩ : ∃ W2, ((((w1.setCell ⟨b, 2, none⟩ (.int .i64 0)).setCell ⟨b, 3, none⟩ (.slice A N cap)).setCell ⟨b, 5, none⟩ (.int .i64 0)).setCell ⟨b, 6, none⟩ (.bool false)).setCell ⟨b, 4, none⟩ sliceN = W2 := ⟨_, rfl⟩
  rw [hW2] at N0 ⊢
  have I0 : Hid (StAt W2 b ⟨[], 0, .slice A N cap, [], 0, false⟩ sliceN sliceN ∧ Below b w W2) := ⟨N0.out.1, N0.out.2.below (Nat.le_refl _)⟩
  clear hW2 f2 c2 c3 f3 c5 f5 c6 f6 c4 f4 N0
  subst hn
  go_loopw [44] (fun iv wr => ∃ (i : Nat) (va : Value), iv = .int .i64 i ∧ i ≤ 1 ∧ Hid ((i = 0 ∧ va = sliceN ∧ StAt wr b ⟨[], 0, .slice A N cap, [], 0, false⟩ sliceN va ∧ Below b w wr) ∨ (i = 1 ∧ ∃ u, StAt wr b ⟨[], 0, .slice A N cap, [u], 0, false⟩ sliceN va ∧ VAt wr (fun k => b < k) u V ∧ Below b w wr))) (fun iv _ => 1 - (intOf iv).toNat)
  case atStart => exact ⟨0, sliceN, rfl, Nat.zero_le _, Or.inl ⟨rfl, rfl, I0.out.1, I0.out.2⟩⟩
  case round =>
    obtain ⟨i, va, rfl, hi, hII⟩ := hrel
    by_cases him : i < 1
    · have hI : Hid (StAt wr b ⟨[], 0, .slice A N cap, [], 0, false⟩ sliceN va ∧ Below b w wr) := hid (by
        rcases hII.out with h | h
        · exact h.2.2
        · omega)
      have hva : va = sliceN := by
        rcases hII.out with h | h
        · exact h.2.1
        · omega
      have HI0 := hid (show i = 0 by omega)
      have HVA := hid hva
      clear hva hII
      obtain ⟨d, hd⟩ : ∃ d, ds[i]? = some d := ⟨_, List.getElem?_eq_getElem (by rw [HM.out]; exact him)⟩
      have BUd := BU.out d (by rw [← hd, HI0.out])
      have hne : ds ≠ [] := by intro e; rw [e] at hd; simp at hd
      obtain ⟨g, o, rfl, hg, hc⟩ := HA.out.1 hne
      have hgb := HA.out.2 g o rfl hne
      have HCL := hid (fun (j : Nat) v (hv : (deV d)[j]? = some v) => show wr.cell? ⟨g, o + i * 8 + j, none⟩ = some v from (hI.out.2.cell (p := ⟨g, o + i * 8 + j, none⟩) hgb).trans (hc i d hd j v hv))
      have BD := hid BUd
      clear hd BUd hc hg hne
      go_upto_region 5 with fail
      refine wp_region_list ?_
      refine wpList_plain rfl fun K hK => ?_
      have HK := hid hK
      clear hK
      go_wp2_with fail
      refine HK.out _ _ ?_
      clear HK
      refine wpList_load_mid rfl 29 (.tmp 46) rfl g (o + i * 8) rfl (deV d).toList _ (fun j v hv => HCL.out j v (by simpa using hv)) Tryz.underlying29 rfl desc_size ?_
      refine wpList_plain rfl fun K hK => ?_
      have HK := hid hK
      clear hK
      go_wp2_with fail
      refine HK.out _ _ ?_
      clear HK
      have hG := Blk.new wr de0 29
      refine wpList_store_rowTo rfl 29 _ _ rfl rfl wr.heap.size (deV d) rfl rfl 29 de0 hG desc_size rfl (deV_one _) ?_
      have hG2 := hG.setRow (deV d)
      have b3 : Below wr.heap.size wr ((wr.alloc (.cells de0 29)).setRow wr.heap.size (deV d)) := below_setRow ((Below.refl _ _).alloc (Nat.le_refl _) _) wr.heap.size (Nat.le_refl _) _
      obtain ⟨W3, hW3⟩ : ∃ W3, (wr.alloc (.cells de0 29)).setRow wr.heap.size (deV d) = W3 := ⟨_, rfl⟩
      rw [hW3] at hG2 b3 ⊢
      have hbw := hI.out.1.lt
      obtain ⟨G, hGG⟩ : ∃ G, wr.heap.size = G := ⟨_, rfl⟩
      rw [hGG] at hG2 ⊢
      have S3 := hid (show StAt W3 b ⟨[], 0, .slice A N cap, [], 0, false⟩ sliceN va ∧ Below b w W3 from ⟨hI.out.1.below b3, hI.out.2.trans (b3.mono (by omega))⟩)
      have e0 := hG2.cell 0
      have e1 := hG2.cell 1
      have e2 := hG2.cell 2
      have e3 := hG2.cell 3
      have e4 := hG2.cell 4
      have e5 := hG2.cell 5
      have e6 := hG2.cell 6
      have e7 := hG2.cell 7
      clear hG hG2 hW3 hGG b3 hbw HCL
      refine wpList_nil ?_
      go_wp2_with fail
      refine (BD.out _ S3.out.2).mono ?_
      rintro e W4 ⟨T, x, rfl, hV4, hb⟩
      have S4 := hid (show StAt W4 b ⟨[], 0, .slice A N cap, [], 0, false⟩ sliceN va ∧ Below b w W4 from ⟨S3.out.1.below hb, S3.out.2.trans (hb.mono (by have := S3.out.1.lt; omega))⟩)
      have HV4 := hid (hV4.mono (S' := fun k => b < k) fun q hq _ => ⟨by have := S3.out.1.lt; have : W3.heap.size ≤ q := hq; omega, rfl⟩)
      clear hV4 hb e0 e1 e2 e3 e4 e5 e6 e7
      have c4 := S4.out.1.blk.cell 4
      go_upto_region 7 with fail
      refine wp_region_list ?_
      refine wpList_plain rfl fun K hK => ?_
      have HK := hid hK
      clear hK
      go_wp2_with fail
      refine HK.out _ _ ?_
      clear HK
      refine wpList_plain rfl fun K hK => ?_
      have HK := hid hK
      clear hK
      go_wp2_with fail
      refine HK.out _ _ ?_
      clear HK
      refine wpList_plain rfl fun K hK => ?_
      have HK := hid hK
      clear hK
      go_wp2_with fail
      refine HK.out _ _ ?_
      clear HK
      refine wpList_plain rfl fun K hK => ?_
      have HK := hid hK
      clear hK
      go_wp2_with fail
      refine HK.out _ _ ?_
      clear HK
      refine wpList_plain rfl fun K hK => ?_
      have HK := hid hK
      clear hK
      go_wp2_with fail
      refine HK.out _ _ ?_
      clear HK
      refine wpList_plain rfl fun K hK => ?_
      have HK := hid hK
      clear hK
      go_wp2_with fail
      refine HK.out _ _ ?_
      clear HK
      have hown : W4.ownsRow (b + 1) 103 1 va i [] := by
        rw [HI0.out]
        exact S4.out.1.arg
      refine wpList_pushV rfl rfl (.tmp 58) (.tmp 57) 59 rfl rfl rfl (.iface T x) rfl rfl (fill_iface T x) (b + 1) va i [] _ rfl rfl rfl hown (by have := S4.out.1.lt; omega) (by omega) ?_
      intro va' W5 ho5 hg5
      have hb5 : Below (b + 1) W4 W5 := own_grown hown ((Below.refl (b + 1) W4).alloc (by have := S4.out.1.lt; omega) _) (by have := S4.out.1.lt; simp; omega) hg5
      obtain ⟨A5, c5, rfl⟩ := sl_form ho5
      have bk5 := S4.out.1.blk.below hb5 (by omega)
      have f4 := bk5.frozen 4
      have k4 := bk5.cell 4
      have S6 : StAt (W5.setCell ⟨b, 4, none⟩ (.slice A5 (i + 1) c5)) b ⟨[], 0, .slice A N cap, [.iface T x], 0, false⟩ sliceN (.slice A5 (i + 1) c5) := by
        refine ⟨bk5.set_ 4 _, ⟨by simp [bc], .inl ⟨rfl, by simp⟩⟩, ?_⟩
        have := own_set' ho5 (p := ⟨b, 4, none⟩) (by show b < b + 1; omega) (.slice A5 (i + 1) c5)
        rw [HI0.out] at this ⊢
        exact this
      have hgr : ∀ q, q < W4.heap.size → q ≠ b → (W5.setCell ⟨b, 4, none⟩ (.slice A5 (i + 1) c5)).heap[q]? = W4.heap[q]? := fun q hq hne => by
        rw [Below.heap_setCell _ _ _ _ (by exact hne)]
        have h1 := hg5.block q (by simp; omega) (by rw [HVA.out]; simp [Value.ownBlock])
        exact h1.trans (Below.heap_alloc _ _ _ hq)
      have HV6 := hid (HV4.out.mono (w' := W5.setCell ⟨b, 4, none⟩ (.slice A5 (i + 1) c5)) (S' := fun k => b < k) fun q hq hlt => ⟨hq, hgr q hlt (by have : b < q := hq; omega)⟩)
      have N6 := hid (And.intro S6 (S4.out.2.trans ((hb5.mono (by omega)).trans ((Below.refl b W5).setCell (p := ⟨b, 4, none⟩) (Nat.le_refl _) (.slice A5 (i + 1) c5)))))
      clear S6 bk5 hb5 ho5 hg5 hown c4 hgr
      refine wpList_plain rfl fun K hK => ?_
      have HK := hid hK
      clear hK
      go_wp2_with fail
      refine HK.out _ _ ?_
      clear HK
      refine wpList_plain rfl fun K hK => ?_
      have HK := hid hK
      clear hK
      go_wp2_with fail
      refine HK.out _ _ ?_
      clear HK
      refine wpList_plain rfl fun K hK => ?_
      have HK := hid hK
      clear hK
      go_wp2_with fail
      refine HK.out _ _ ?_
      clear HK
      refine wpList_nil ?_
      go_wp2_with fail
      go_roundw
      case rel => exact ⟨i + 1, _, by go_num, by omega, Or.inr ⟨by have := HI0.out; omega, _, N6.out.1, HV6.out, N6.out.2⟩⟩
      case measure => simp [intOf]; omega
    · obtain rfl : i = 1 := by omega
      have hF : ∃ u, StAt wr b ⟨[], 0, .slice A N cap, [u], 0, false⟩ sliceN va ∧ VAt wr (fun k => b < k) u V ∧ Below b w wr := by
        rcases hII.out with h | h
        · exact absurd h.1 (by decide)
        · exact h.2
      obtain ⟨u, hF⟩ := hF
      have HF := hid hF
      clear hF
      go_wp2_with fail
      go_end0
      exact ⟨rfl, va, u, HF.out⟩
end Go.Proofs.YtdjhmanccoekjaaGreatDoor
end
