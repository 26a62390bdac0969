/-
  Walks of layer 1: Width and Pad.
-/
import Derived.Test.YtfbekjgbijlcaaaDoorB5
namespace Go.Proofs.YtfbekjgbijlcaaaDoor
open Go.RowKit Go.Proofs

/-- A width: at most a thousand; below 0: none. -/
def widthI (n : Int) : Int := if n < 0 then -1 else if 1000 < n then 1000 else n
theorem width_any (n : Int) (w : World) : Calls Tryd.prog 51 #[.int .i64 n] w fun e w' => e = .returned (.int .i64 (widthI n)) ∧ w = w' := by
  rcases (show n < 0 ∨ (0 ≤ n ∧ 1000 < n) ∨ (0 ≤ n ∧ n ≤ 1000) by omega) with h | ⟨h, h2⟩ | ⟨h, h2⟩
  · have hr : widthI n = -1 := by unfold widthI; rw [if_pos h]
    rw [hr]; clear hr
    go_enter Tryd.func51, Tryd.ntmps51
    go_wp2_with fail
    go_ret
    exact ⟨rfl, rfl⟩
  · have hr : widthI n = 1000 := by unfold widthI; rw [if_neg (by omega), if_pos h2]
    rw [hr]; clear hr
    go_enter Tryd.func51, Tryd.ntmps51
    go_wp2_with fail
    go_ret
    exact ⟨rfl, rfl⟩
  · have hr : widthI n = n := by unfold widthI; rw [if_neg (by omega), if_neg (by omega)]
    rw [hr]; clear hr
    go_enter Tryd.func51, Tryd.ntmps51
    go_wp2_with fail
    go_ret
    exact ⟨rfl, rfl⟩

/-- A text filled up to a width. -/
def padS (s : ByteArray) (mi ze : Bool) (wid : Int) : ByteArray :=
  let n := max 0 (min wid 1000) - (Utf.count s.data.toList : Int)
  if n ≤ 0 then s else if mi then s ++ fillS 32 n else if ze then fillS 48 n ++ s else fillS 32 n ++ s

theorem fillS_size (c n : Int) : (fillS c n).size ≤ 1000 := by
  rw [Utf.size_eq]
  show (fillL c n).length ≤ 1000
  rw [fillL_length]
  omega

theorem box_cell {w w1 : World} {cs : Array Value} {T : TypeId} {fr : Nat × Nat} {B : Nat} (hb : Below B (w.alloc (.cells cs T fr)) w1) (hB : w.heap.size < B) (j : Nat) {v : Value} (hv : cs[j]? = some v) :
    w1.cell? ⟨w.heap.size, j, none⟩ = some v := by
  rw [hb.cell (p := ⟨w.heap.size, j, none⟩) hB, World.cell?_alloc_mark]
  exact hv
theorem box_cell_drew {w w1 : World} {cs : Array Value} {T : TypeId} {fr : Nat × Nat} {B : Nat} (hb : Below B (w.alloc (.cells cs T fr)).drew w1) (hB : w.heap.size < B) (j : Nat) {v : Value} (hv : cs[j]? = some v) :
    w1.cell? ⟨w.heap.size, j, none⟩ = some v :=
  box_cell (w := w) ⟨hb.os, hb.tape, hb.output, hb.size, hb.block⟩ hB j hv

set_option maxRecDepth 100000 in
theorem pad_any (s : ByteArray) (pl mi sh sp ze : Bool) (wid prec verb : Int) (w : World) (hs : s.size ≤ 140737488355328) (hw0 : -9223372036854775808 ≤ wid) (hw1 : wid ≤ 9223372036854775807) :
    Calls Tryd.prog 32 #[.string s, .agg #[.bool pl, .bool mi, .bool sh, .bool sp, .bool ze, .int .i64 wid, .int .i64 prec, .int .i32 verb]] w fun e w' => e = .returned (.string (padS s mi ze wid)) ∧ Below w.heap.size w w' := by
  have hcb := Utf.count_le s.data.toList.length s.data.toList (Nat.le_refl _)
  rw [← Utf.size_eq] at hcb
  have hC := fun W => count_any s W hs
  obtain ⟨N, hN⟩ : ∃ N, Utf.count s.data.toList = N := ⟨_, rfl⟩
  obtain ⟨m, hm⟩ : ∃ m : Int, m = max 0 (min wid 1000) := ⟨_, rfl⟩
  obtain ⟨r, hr⟩ : ∃ r, padS s mi ze wid = r := ⟨_, rfl⟩
  rw [hN] at hC hcb
  rw [hr]
  have HC := hid hC
  have HM := hid hm
  have HR : Hid (r = if m - (N : Int) ≤ 0 then s else if mi then s ++ fillS 32 (m - N) else if ze then fillS 48 (m - N) ++ s else fillS 32 (m - N) ++ s) := by
    rw [← hr, hm, ← hN]; rfl
  obtain ⟨d, hd⟩ : ∃ d, m - (N : Int) = d := ⟨_, rfl⟩
  have HD : Hid (r = if d ≤ 0 then s else if mi then s ++ fillS 32 d else if ze then fillS 48 d ++ s else fillS 32 d ++ s) := by
    rw [← hd]
    exact HR.out
  have hd1 : d ≤ 1000 ∧ -140737488355328 ≤ d := by omega
  obtain ⟨hd1, hd2⟩ := hd1
  have hwr : IntKind.i64.wrap (max 0 (min wid 1000) - (N : Int)) = d := by rw [← hm, hd]; exact IntWalk.i64_in _ (by omega)
  clear hC hN hr hm hd HR HM
  go_enter Tryd.func32, Tryd.ntmps32
  go_wp2_with fail
  go_region_held3 (fun w' => w'.cell? ⟨w.heap.size, 5, none⟩ = some (.int .i64 wid)) (first | exact (by simp) | exact (hb2.cell (p := ⟨w.heap.size, 5, none⟩) (by simp)).trans (by simp)) ((first | (go_at_call 21; refine (HC.out _).mono ?_; rintro e w' ⟨rfl, hb2⟩)))
  all_goals
    have c1 : w'.cell? ⟨w.heap.size, 1, none⟩ = some (.bool mi) := box_cell_drew hb2 (by simp) 1 rfl
    have c4 : w'.cell? ⟨w.heap.size, 4, none⟩ = some (.bool ze) := box_cell_drew hb2 (by simp) 4 rfl
    have hbw : Below w.heap.size w w' := (((Below.refl w.heap.size w).alloc (Nat.le_refl _) _).drew).trans (hb2.mono (by simp))
    clear hb2 hwr
    by_cases h0 : d ≤ 0
    · have hr : r = s := by rw [HD.out, if_pos h0]
      subst hr
      go_wp2_with fail
      go_ret
      exact ⟨rfl, hbw⟩
    · have z32 := fillS_size 32 d
      have z48 := fillS_size 48 d
      cases mi
      · cases ze
        · have hr : r = fillS 32 d ++ s := by rw [HD.out, if_neg h0]; rfl
          have HF := hid hr
          clear hr
          go_wp2_with (go_at_call 50; refine (fill_any _ _ _ (by omega) (by omega)).mono ?_; rintro e w1 ⟨rfl, hb3⟩)
          go_ret
          exact ⟨ret_str HF.out.symm, hbw.trans (hb3.mono hbw.size)⟩
        · have hr : r = fillS 48 d ++ s := by rw [HD.out, if_neg h0]; rfl
          have HF := hid hr
          clear hr
          go_wp2_with (go_at_call 50; refine (fill_any _ _ _ (by omega) (by omega)).mono ?_; rintro e w1 ⟨rfl, hb3⟩)
          go_ret
          exact ⟨ret_str HF.out.symm, hbw.trans (hb3.mono hbw.size)⟩
      · have hr : r = s ++ fillS 32 d := by rw [HD.out, if_neg h0]; rfl
        have HF := hid hr
        clear hr
        go_wp2_with (go_at_call 50; refine (fill_any _ _ _ (by omega) (by omega)).mono ?_; rintro e w1 ⟨rfl, hb3⟩)
        go_ret
        exact ⟨ret_str HF.out.symm, hbw.trans (hb3.mono hbw.size)⟩

set_option maxRecDepth 100000 in
theorem refpad_any (s : ByteArray) (pl mi sh sp ze : Bool) (wid prec verb : Int) (w : World) (hs : s.size ≤ 140737488355328) (hw0 : -9223372036854775808 ≤ wid) (hw1 : wid ≤ 9223372036854775807) :
    Calls Tryd.prog 34 #[.string s, .agg #[.bool pl, .bool mi, .bool sh, .bool sp, .bool ze, .int .i64 wid, .int .i64 prec, .int .i32 verb]] w fun e w' => e = .returned (.string (padS s mi ze wid)) ∧ Below w.heap.size w w' := by
  have hcb := Utf.count_le s.data.toList.length s.data.toList (Nat.le_refl _)
  rw [← Utf.size_eq] at hcb
  have hC := fun W => refcount_any s W hs
  obtain ⟨N, hN⟩ : ∃ N, Utf.count s.data.toList = N := ⟨_, rfl⟩
  obtain ⟨r, hr⟩ : ∃ r, padS s mi ze wid = r := ⟨_, rfl⟩
  obtain ⟨m, hm⟩ : ∃ m : Int, widthI wid = m := ⟨_, rfl⟩
  have hW := fun W => width_any wid W
  rw [hN] at hC hcb
  rw [hm] at hW
  rw [hr]
  have HC := hid hC
  have HW := hid hW
  have hm1 : m ≤ 1000 := by rw [← hm]; unfold widthI; split <;> (try split) <;> omega
  have hm0 : -1 ≤ m := by rw [← hm]; unfold widthI; split <;> (try split) <;> omega
  have HR : Hid (r = if m - (N : Int) ≤ 0 then s else if mi then s ++ fillS 32 (m - N) else if ze then fillS 48 (m - N) ++ s else fillS 32 (m - N) ++ s) := by
    have e : max 0 (min wid 1000) = if m = -1 then 0 else m := by
      rw [← hm]; unfold widthI; split <;> (try split) <;> omega
    rw [← hr]
    unfold padS
    rw [hN, e]
    by_cases hz : m = -1
    · rw [if_pos hz, hz]
      show (if (0 : Int) - N ≤ 0 then s else _) = if (-1 : Int) - N ≤ 0 then s else _
      rw [if_pos (by omega), if_pos (by omega)]
    · rw [if_neg hz]; rfl
  clear hC hN hr hm hW
  go_enter Tryd.func34, Tryd.ntmps34
  go_wp2_with fail
  refine (HW.out _).mono ?_
  rintro e w' ⟨rfl, rfl⟩
  go_wp2_with fail
  refine (HC.out _).mono ?_
  rintro e w1 ⟨rfl, hb2⟩
  have c1 : w1.cell? ⟨w.heap.size, 1, none⟩ = some (.bool mi) := box_cell hb2 (by simp) 1 rfl
  have c4 : w1.cell? ⟨w.heap.size, 4, none⟩ = some (.bool ze) := box_cell hb2 (by simp) 4 rfl
  have hbw : Below w.heap.size w w1 := ((Below.refl w.heap.size w).alloc (Nat.le_refl _) _).trans (hb2.mono (by simp))
  clear hb2
  obtain ⟨d, hd⟩ : ∃ d, m - (N : Int) = d := ⟨_, rfl⟩
  have HD : Hid (r = if d ≤ 0 then s else if mi then s ++ fillS 32 d else if ze then fillS 48 d ++ s else fillS 32 d ++ s) := by
    rw [← hd]
    exact HR.out
  have hd1 : d ≤ 1000 ∧ -140737488355329 ≤ d := by omega
  obtain ⟨hd1, hd2⟩ := hd1
  have hwr : wrap64 (m - (N : Int)) = d := by unfold wrap64; omega
  by_cases h0 : d ≤ 0
  · have hr : r = s := by rw [HD.out, if_pos h0]
    subst hr
    go_wp2_with fail
    go_ret
    exact ⟨rfl, hbw⟩
  · have z32 := fillS_size 32 d
    have z48 := fillS_size 48 d
    cases mi
    · cases ze
      · have hr : r = fillS 32 d ++ s := by rw [HD.out, if_neg h0]; rfl
        have HF := hid hr
        clear hr
        go_wp2_with (go_at_call 53; refine (reffill_any _ _ _ (by omega) (by omega)).mono ?_; rintro e w1 ⟨rfl, hb3⟩)
        go_ret
        exact ⟨ret_str HF.out.symm, hbw.trans (hb3.mono hbw.size)⟩
      · have hr : r = fillS 48 d ++ s := by rw [HD.out, if_neg h0]; rfl
        have HF := hid hr
        clear hr
        go_wp2_with (go_at_call 53; refine (reffill_any _ _ _ (by omega) (by omega)).mono ?_; rintro e w1 ⟨rfl, hb3⟩)
        go_ret
        exact ⟨ret_str HF.out.symm, hbw.trans (hb3.mono hbw.size)⟩
    · have hr : r = s ++ fillS 32 d := by rw [HD.out, if_neg h0]; rfl
      have HF := hid hr
      clear hr
      go_wp2_with (go_at_call 53; refine (reffill_any _ _ _ (by omega) (by omega)).mono ?_; rintro e w1 ⟨rfl, hb3⟩)
      go_ret
      exact ⟨ret_str HF.out.symm, hbw.trans (hb3.mono hbw.size)⟩
end Go.Proofs.YtfbekjgbijlcaaaDoor
