/-
  The law BufPads, walked.
-/
import Derived.Test.YtohlodhkmkhhbaaDoorB7
namespace Go.Proofs.YtohlodhkmkhhbaaDoor
open Go.RowKit Go.Proofs

theorem cut2000p (s : ByteArray) : (s.extract 0 2000).size ≤ 2000 := by
  rw [ByteArray.size_extract]; omega

set_option maxRecDepth 100000 in
set_option maxHeartbeats 1000000 in
theorem bufPads_law (s : ByteArray) (pl mi sh sp ze : Bool) (wid prec verb : Int) (w : World) (hT : Tabs w) (hs : s.size ≤ 140737488355328) (hw0 : -9223372036854775808 ≤ wid) (hw1 : wid ≤ 9223372036854775807) (_hp0 : -9223372036854775808 ≤ prec) (_hp1 : prec ≤ 9223372036854775807) (_hr0 : -2147483648 ≤ verb) (_hr1 : verb ≤ 2147483647) :
    Calls Tryd.prog 6 #[.string s, .agg #[.bool pl, .bool mi, .bool sh, .bool sp, .bool ze, .int .i64 wid, .int .i64 prec, .int .i32 verb]] w fun e w' => e = .returned (.bool true) ∧ Below w.heap.size w w' := by
  have HT := hid hT
  clear hT
  obtain ⟨t, ht⟩ : ∃ t, t = if 2000 < s.size then s.extract 0 2000 else s := ⟨_, rfl⟩
  have htz : t.size ≤ 2000 := by
    rw [ht]
    split
    · exact cut2000p s
    · omega
  have hA := fun W => pad_any t pl mi sh sp ze wid prec verb W (by omega) hw0 hw1
  have hB := fun W => refpad_any t pl mi sh sp ze wid prec verb W (by omega) hw0 hw1
  obtain ⟨r, hr⟩ : ∃ r, padS t mi ze wid = r := ⟨_, rfl⟩
  rw [hr] at hA hB
  have HA := hid hA
  have HB := hid hB
  have HE : Hid (t = if 2000 < s.size then s.extract 0 2000 else s) := ht
  clear hA hB hr ht
  by_cases h : 2000 < s.size
  · have hr : s.extract 0 2000 = t := by rw [HE.out, if_pos h]
    go_enter Tryd.func6, Tryd.ntmps6
    go_wp2_with fail
    go_region_held3 (fun w' => w'.cell? ⟨w.heap.size, 0, none⟩ = some (.bool pl) ∧ w'.cell? ⟨w.heap.size, 1, none⟩ = some (.bool mi) ∧ w'.cell? ⟨w.heap.size, 2, none⟩ = some (.bool sh) ∧ w'.cell? ⟨w.heap.size, 3, none⟩ = some (.bool sp) ∧ w'.cell? ⟨w.heap.size, 4, none⟩ = some (.bool ze) ∧ w'.cell? ⟨w.heap.size, 5, none⟩ = some (.int .i64 wid) ∧ w'.cell? ⟨w.heap.size, 6, none⟩ = some (.int .i64 prec) ∧ w'.cell? ⟨w.heap.size, 7, none⟩ = some (.int .i32 verb)) (first | exact ⟨by simp, by simp, by simp, by simp, by simp, by simp, by simp, by simp⟩ | exact X3.out | exact X2.out | exact X1.out)
      ((first
        | (go_at_call 20; refine (HA.out _).mono ?_; rintro e w1 ⟨rfl, hb1⟩; have X1 := hid (box8_new pl mi sh sp ze wid prec verb hb1 (by simp)); have Z1 := box_size hb1; have Y1 := below_box hb1 (by simp))
        | (go_at_call 21; refine (HB.out _).mono ?_; rintro e w2 ⟨rfl, hb2⟩; have X2 := hid (box8_below pl mi sh sp ze wid prec verb X1.out hb2 (by omega)); have Y2 := Y1.trans (hb2.mono Y1.size))
        | (go_at_call 15; refine (lives_any _ (HT.out.below Y2)).mono ?_; rintro e w3 ⟨rfl, hb3⟩; have X3 := hid (box8_below pl mi sh sp ze wid prec verb X2.out hb3 (Nat.lt_of_lt_of_le (Nat.lt_of_lt_of_le (Nat.lt_succ_self _) Z1) hb2.size)); have Y3 := Y2.trans (hb3.mono Y2.size))))
    all_goals
      go_wp2_with fail
      go_ret
      exact ⟨rfl, Y3⟩
  · have hr : t = s := by rw [HE.out, if_neg h]
    subst hr
    go_enter Tryd.func6, Tryd.ntmps6
    go_wp2_with fail
    go_region_held3 (fun w' => w'.cell? ⟨w.heap.size, 0, none⟩ = some (.bool pl) ∧ w'.cell? ⟨w.heap.size, 1, none⟩ = some (.bool mi) ∧ w'.cell? ⟨w.heap.size, 2, none⟩ = some (.bool sh) ∧ w'.cell? ⟨w.heap.size, 3, none⟩ = some (.bool sp) ∧ w'.cell? ⟨w.heap.size, 4, none⟩ = some (.bool ze) ∧ w'.cell? ⟨w.heap.size, 5, none⟩ = some (.int .i64 wid) ∧ w'.cell? ⟨w.heap.size, 6, none⟩ = some (.int .i64 prec) ∧ w'.cell? ⟨w.heap.size, 7, none⟩ = some (.int .i32 verb)) (first | exact ⟨by simp, by simp, by simp, by simp, by simp, by simp, by simp, by simp⟩ | exact X3.out | exact X2.out | exact X1.out)
      ((first
        | (go_at_call 20; refine (HA.out _).mono ?_; rintro e w1 ⟨rfl, hb1⟩; have X1 := hid (box8_new pl mi sh sp ze wid prec verb hb1 (by simp)); have Z1 := box_size hb1; have Y1 := below_box hb1 (by simp))
        | (go_at_call 21; refine (HB.out _).mono ?_; rintro e w2 ⟨rfl, hb2⟩; have X2 := hid (box8_below pl mi sh sp ze wid prec verb X1.out hb2 (by omega)); have Y2 := Y1.trans (hb2.mono Y1.size))
        | (go_at_call 15; refine (lives_any _ (HT.out.below Y2)).mono ?_; rintro e w3 ⟨rfl, hb3⟩; have X3 := hid (box8_below pl mi sh sp ze wid prec verb X2.out hb3 (Nat.lt_of_lt_of_le (Nat.lt_of_lt_of_le (Nat.lt_succ_self _) Z1) hb2.size)); have Y3 := Y2.trans (hb3.mono Y2.size))))
    all_goals
      go_wp2_with fail
      go_ret
      exact ⟨rfl, Y3⟩
end Go.Proofs.YtohlodhkmkhhbaaDoor
