/-
  Walks of layer 1: Width and Pad.
-/
import Derived.Test.YtaniahkagmjkoaaDoorB5
namespace Go.Proofs.YtaniahkagmjkoaaDoor
open Go.RowKit Go.Proofs

/-- A width: at most a thousand; below 0: none. -/
def widthI (n : Int) : Int := if n < 0 then -1 else if 1000 < n then 1000 else n
/-- A text filled up to a width. -/
def padS (s : ByteArray) (mi ze : Bool) (wid : Int) : ByteArray :=
  let n := max 0 (min wid 1000) - (Utf.count s.data.toList : Int)
  if n ≤ 0 then s else if mi then s ++ fillS 32 n else if ze then fillS 48 n ++ s else fillS 32 n ++ s

theorem fillS_size (c n : Int) : (fillS c n).size ≤ 1000 := by
  rw [Utf.size_eq]
  show (fillL c n).length ≤ 1000
  rw [fillL_length]
  omega

theorem box_cell {w w1 : World} {cs : Array Value} {T : TypeId} {fr : Nat × Nat} {B : Nat} (hb : Below B (w.alloc (.cells cs T fr)) w1) (hB : w.heap.size < B) (j : Nat) {v : Value} (hv : cs[j]? = some v) :
    w1.cell? ⟨w.heap.size, j, none⟩ = some v := by
  rw [hb.cell (p := ⟨w.heap.size, j, none⟩) hB, World.cell?_alloc_mark]
  exact hv
theorem box_cell_drew {w w1 : World} {cs : Array Value} {T : TypeId} {fr : Nat × Nat} {B : Nat} (hb : Below B (w.alloc (.cells cs T fr)).drew w1) (hB : w.heap.size < B) (j : Nat) {v : Value} (hv : cs[j]? = some v) :
    w1.cell? ⟨w.heap.size, j, none⟩ = some v :=
  box_cell (w := w) ⟨hb.os, hb.tape, hb.output, hb.size, hb.block⟩ hB j hv

set_option maxRecDepth 100000 in
theorem pad_any (s : ByteArray) (pl mi sh sp ze : Bool) (wid prec verb : Int) (w : World) (hs : s.size ≤ 140737488355328) (hw0 : -9223372036854775808 ≤ wid) (hw1 : wid ≤ 9223372036854775807) :
    Calls Tryd.prog 42 #[.string s, .agg #[.bool pl, .bool mi, .bool sh, .bool sp, .bool ze, .int .i64 wid, .int .i64 prec, .int .i32 verb]] w fun e w' => e = .returned (.string (padS s mi ze wid)) ∧ Below w.heap.size w w' := by
  have hcb := Utf.count_le s.data.toList.length s.data.toList (Nat.le_refl _)
  rw [← Utf.size_eq] at hcb
  have hC := fun W => count_any s W hs
  obtain ⟨N, hN⟩ : ∃ N, Utf.count s.data.toList = N := ⟨_, rfl⟩
  obtain ⟨m, hm⟩ : ∃ m : Int, m = max 0 (min wid 1000) := ⟨_, rfl⟩
  obtain ⟨r, hr⟩ : ∃ r, padS s mi ze wid = r := ⟨_, rfl⟩
  rw [hN] at hC hcb
  rw [hr]
  have HC := hid hC
  have HM := hid hm
  have HR : Hid (r = if m - (N : Int) ≤ 0 then s else if mi then s ++ fillS 32 (m - N) else if ze then fillS 48 (m - N) ++ s else fillS 32 (m - N) ++ s) := by
    rw [← hr, hm, ← hN]; rfl
  obtain ⟨d, hd⟩ : ∃ d, m - (N : Int) = d := ⟨_, rfl⟩
  have HD : Hid (r = if d ≤ 0 then s else if mi then s ++ fillS 32 d else if ze then fillS 48 d ++ s else fillS 32 d ++ s) := by
    rw [← hd]
    exact HR.out
  have hd1 : d ≤ 1000 ∧ -140737488355328 ≤ d := by omega
  obtain ⟨hd1, hd2⟩ := hd1
  have hwr : IntKind.i64.wrap (max 0 (min wid 1000) - (N : Int)) = d := by rw [← hm, hd]; exact IntWalk.i64_in _ (by omega)
  clear hC hN hr hm hd HR HM
  go_enter Tryd.func42, Tryd.ntmps42
  go_wp2_with fail
  go_region_held3 (fun w' => w'.cell? ⟨w.heap.size, 5, none⟩ = some (.int .i64 wid)) (first | exact (by simp) | exact (hb2.cell (p := ⟨w.heap.size, 5, none⟩) (by simp)).trans (by simp)) ((first | (go_at_call 53; refine (HC.out _).mono ?_; rintro e w' ⟨rfl, hb2⟩)))
  all_goals
    have c1 : w'.cell? ⟨w.heap.size, 1, none⟩ = some (.bool mi) := box_cell_drew hb2 (by simp) 1 rfl
    have c4 : w'.cell? ⟨w.heap.size, 4, none⟩ = some (.bool ze) := box_cell_drew hb2 (by simp) 4 rfl
    have hbw : Below w.heap.size w w' := (((Below.refl w.heap.size w).alloc (Nat.le_refl _) _).drew).trans (hb2.mono (by simp))
    clear hb2 hwr
    by_cases h0 : d ≤ 0
    · have hr : r = s := by rw [HD.out, if_pos h0]
      subst hr
      go_wp2_with fail
      go_ret
      exact ⟨rfl, hbw⟩
    · have z32 := fillS_size 32 d
      have z48 := fillS_size 48 d
      cases mi
      · cases ze
        · have hr : r = fillS 32 d ++ s := by rw [HD.out, if_neg h0]; rfl
          have HF := hid hr
          clear hr
          go_wp2_with (go_at_call 54; refine (fill_any _ _ _ (by omega) (by omega)).mono ?_; rintro e w1 ⟨rfl, hb3⟩)
          go_ret
          exact ⟨ret_str HF.out.symm, hbw.trans (hb3.mono hbw.size)⟩
        · have hr : r = fillS 48 d ++ s := by rw [HD.out, if_neg h0]; rfl
          have HF := hid hr
          clear hr
          go_wp2_with (go_at_call 54; refine (fill_any _ _ _ (by omega) (by omega)).mono ?_; rintro e w1 ⟨rfl, hb3⟩)
          go_ret
          exact ⟨ret_str HF.out.symm, hbw.trans (hb3.mono hbw.size)⟩
      · have hr : r = s ++ fillS 32 d := by rw [HD.out, if_neg h0]; rfl
        have HF := hid hr
        clear hr
        go_wp2_with (go_at_call 54; refine (fill_any _ _ _ (by omega) (by omega)).mono ?_; rintro e w1 ⟨rfl, hb3⟩)
        go_ret
        exact ⟨ret_str HF.out.symm, hbw.trans (hb3.mono hbw.size)⟩

end Go.Proofs.YtaniahkagmjkoaaDoor
