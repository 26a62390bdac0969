/-
  Walks of layer 1: the document's Decode.
-/
import Derived.Test.YtmfhoindfhmncaaDoorB1
import Derived.LoopTactic
import Derived.IntWalk
import Derived.Deep.QuietTactic
import Derived.BigQuiet
import Derived.Deep.RegionWith
import Derived.Deep.RegionHeld3
namespace Go.Proofs.YtmfhoindfhmncaaDoor
open Go.RowKit Go.Proofs

/-- A byte of a text, as a number. -/
def bt (s : ByteArray) (k : Nat) : Int := ((s.data.toList[k]?.getD 0).toNat : Int)
theorem bt_at (s : ByteArray) (k : Nat) (h : k < s.size) : ((s[k]'h).toNat : Int) = bt s k := by
  unfold bt
  have hl : k < s.data.toList.length := by rw [← Utf.size_eq]; exact h
  rw [List.getElem?_eq_getElem hl]
  rfl
theorem bt_bound (s : ByteArray) (k : Nat) : 0 ≤ bt s k ∧ bt s k < 256 := by
  have := Utf.at_lt s.data.toList k
  unfold bt
  omega

theorem cval1 (s : ByteArray) (q : Nat) (h : q = 1) : bt s 0 = (Utf.cval s.data.toList q : Int) := by
  subst h
  unfold bt Utf.cval
  simp only [if_true]
theorem cval2 (s : ByteArray) (q : Nat) (h : q = 2) : 64 * (bt s 0 % 32) + bt s 1 % 64 = (Utf.cval s.data.toList q : Int) := by
  subst h
  unfold bt Utf.cval
  simp only [if_true, if_neg (show ¬ (2 = 1) by decide)]
  omega
theorem cval3 (s : ByteArray) (q : Nat) (h : q = 3) : 64 * (64 * (bt s 0 % 16) + bt s 1 % 64) + bt s 2 % 64 = (Utf.cval s.data.toList q : Int) := by
  subst h
  unfold bt Utf.cval
  simp only [if_true, if_neg (show ¬ (3 = 1) by decide), if_neg (show ¬ (3 = 2) by decide)]
  omega
theorem cval4 (s : ByteArray) (q : Nat) (h : q = 4) : 64 * (64 * (64 * (bt s 0 % 8) + bt s 1 % 64) + bt s 2 % 64) + bt s 3 % 64 = (Utf.cval s.data.toList q : Int) := by
  subst h
  unfold bt Utf.cval
  simp only [if_neg (show ¬ (4 = 1) by decide), if_neg (show ¬ (4 = 2) by decide), if_neg (show ¬ (4 = 3) by decide)]
  omega
theorem cval_bound (s : ByteArray) (k : Nat) : Utf.cval s.data.toList k < 2097152 := by
  have b0 := Utf.at_lt s.data.toList 0; have b1 := Utf.at_lt s.data.toList 1; have b2 := Utf.at_lt s.data.toList 2; have b3 := Utf.at_lt s.data.toList 3
  unfold Utf.cval
  dsimp only
  split
  · omega
  · split
    · omega
    · split <;> omega

theorem ok_inv {l : List UInt8} {q : Nat} {c : Int} (hc : (Utf.cval l q : Int) = c) (hv : Utf8.valid c = false) : Utf.okAt l q = false := by
  unfold Utf.okAt
  rw [hc, hv]; rfl
theorem no_more {l : List UInt8} {q : Nat} {k : Int} (h : ∀ m : Nat, 1 ≤ m → (m : Int) < k → Utf.okAt l m = false) (hq : k = (q : Int)) (h1 : Utf.okAt l q = false) :
    ∀ m : Nat, 1 ≤ m → (m : Int) < k + 1 → Utf.okAt l m = false := fun m hm hk => by
  by_cases e : m = q
  · rw [e]; exact h1
  · exact h m hm (by omega)

/-- What the document's Decode tells. -/
def Dec3 (s : ByteArray) (e : Ending) : Prop :=
  e = .returned (.tuple #[.int .i32 (dec0 s.data.toList).1, .int .i64 (dec0 s.data.toList).2, .bool (decide (Utf.Broken s.data.toList))])

theorem extract_list (s : ByteArray) (a b : Nat) : (s.extract a b).toList = (s.data.toList.drop a).take (b - a) := by
  rw [Lib.toList_data, Lib.extract_data]
theorem enc_list (c : Int) : (Utf8.encode c).toList = Utf.encL c := by rw [Lib.toList_data]; rfl
theorem dec_yes {s : ByteArray} {q j : Nat} {c k : Int} (h0 : ¬ s.data.toList = []) (hc : (Utf.cval s.data.toList q : Int) = c) (hv : Utf8.valid c = true) (hq : k = (q : Int)) (hj : (j : Int) = k)
    (hs : k ≤ s.size) (ht : ((Utf8.encode c).toList == (s.extract 0 j).toList) = true) (h1 : 1 ≤ k := by omega) : Dec3 s (.returned (.tuple #[.int .i32 c, .int .i64 k, .bool false])) := by
  have e : j = q := by omega
  subst e
  rw [extract_list, enc_list, List.drop_zero, Nat.sub_zero] at ht
  have hok : Utf.okAt s.data.toList j = true := by
    unfold Utf.okAt
    rw [hc, hv, ht]; rfl
  obtain ⟨hd, hb⟩ := Utf.ref_some (by rw [← Utf.size_eq]; omega) (by omega) hok
  unfold Dec3
  rw [dec0_ne h0, hd, decide_eq_false hb, hc, hq]
theorem ok_not {s : ByteArray} {q j : Nat} {c k : Int} (hc : (Utf.cval s.data.toList q : Int) = c) (hq : k = (q : Int)) (ht : ((Utf8.encode c).toList == (s.extract 0 j).toList) = false) (hj : (j : Int) = k := by omega) :
    Utf.okAt s.data.toList q = false := by
  have e : j = q := by omega
  subst e
  rw [extract_list, enc_list, List.drop_zero, Nat.sub_zero] at ht
  unfold Utf.okAt
  rw [hc, ht, Bool.and_false]
theorem below_drewN {B : Nat} {a w : World} (h : Below B a w) (n : Nat) : Below B a (w.drewN n) := ⟨h.os, h.tape, h.output, h.size, h.block⟩

set_option maxRecDepth 100000 in
set_option maxHeartbeats 1000000 in
theorem refdecode_any (s : ByteArray) (w : World) (hs : s.size ≤ 140737488355328) : Calls Tryd.prog 37 #[.string s] w fun e w' => Dec3 s e ∧ Below w.heap.size w w' := by
  by_cases h0 : s.data.toList = []
  · have he : s.toList.isEmpty = true := by rw [isEmpty_iff, h0]; rfl
    have hd : Dec3 s (.returned (.tuple #[.int .i32 0, .int .i64 0, .bool false])) := by
      unfold Dec3 dec0
      rw [if_pos h0, h0]
      rfl
    clear h0
    go_enter Tryd.func37, Tryd.ntmps37
    go_wp2_with fail
    go_ret3
    exact ⟨hd, Below.refl _ _⟩
  · have he : s.toList.isEmpty = false := by rw [isEmpty_iff]; simpa using h0
    have hsz : 0 < s.size := by
      rw [Utf.size_eq]
      exact List.length_pos_iff.2 h0
    have H0 := hid h0
    clear h0
    go_enter Tryd.func37, Tryd.ntmps37
    go_wp2_with fail
    go_loopw [5, 6, 7] (fun n c i wr => ∃ k : Int, 1 ≤ k ∧ k ≤ 5 ∧ k ≤ (s.size : Int) + 1 ∧ n = .int .i64 k ∧ Hid (∀ m : Nat, 1 ≤ m → (m : Int) < k → Utf.okAt s.data.toList m = false) ∧ Below w.heap.size w wr) (fun n _ _ _ => 5 - (intOf n).toNat)
    case atStart => exact ⟨1, by omega, by omega, by omega, rfl, fun m h1 h2 => by omega, Below.refl _ _⟩
    case round =>
      obtain ⟨k, hk1, hk5, hks, rfl, hno, hb⟩ := hrel
      have B0 := bt_bound s 0
      obtain ⟨B00, B01⟩ := B0
      have E0 := bt_at s 0 hsz
      by_cases hin : k ≤ 4 ∧ k ≤ s.size
      · obtain ⟨hk4, hk⟩ := hin
        have B1 := bt_bound s 1; have B2 := bt_bound s 2; have B3 := bt_bound s 3
        obtain ⟨B10, B11⟩ := B1
        obtain ⟨B20, B21⟩ := B2
        obtain ⟨B30, B31⟩ := B3
        have E1 : ∀ h : 1 < s.size, ((s[1]'h).toNat : Int) = bt s 1 := fun h => bt_at s 1 h
        have E2 : ∀ h : 2 < s.size, ((s[2]'h).toNat : Int) = bt s 2 := fun h => bt_at s 2 h
        have E3 : ∀ h : 3 < s.size, ((s[3]'h).toNat : Int) = bt s 3 := fun h => bt_at s 3 h
        obtain ⟨q, hq⟩ := Int.eq_ofNat_of_zero_le (show 0 ≤ k by omega)
        have HQ := hid hq
        clear hq
        rcases (show k = 1 ∨ k = 2 ∨ k = 3 ∨ k = 4 by omega) with rfl | rfl | rfl | rfl
        all_goals
          go_wp2_with fail
          refine wp_loop_rounds 5 ?_
          repeat (rw [rounds_succ]; go_wp2_with fail)
          first
            | rw [cval4 s q (by have := HQ.out; omega)]
            | rw [cval3 s q (by have := HQ.out; omega)]
            | rw [cval2 s q (by have := HQ.out; omega)]
            | rw [cval1 s q (by have := HQ.out; omega)]
          obtain ⟨c, hc⟩ : ∃ c : Int, (Utf.cval s.data.toList q : Int) = c := ⟨_, rfl⟩
          rw [hc]
          have HC := hid hc
          clear hc
          have hcb : 0 ≤ c ∧ c < 2097152 := by
            have := cval_bound s q
            have := HC.out
            omega
          obtain ⟨hc0, hc1⟩ := hcb
          have hw1 : IntKind.i32.wrap c = c := IntWalk.i32_in c (by omega)
          have hw2 : wrap32 c = c := by rw [← IntWalk.i32_left]; exact hw1
          cases hv : Utf8.valid c
          · have HV := hid hv
            clear hv
            go_quiet ((go_at_call 44; exact Calls.quiet_of_same ((point_is _ _ HV _).mono fun _ _ h => ⟨h.1, h.2.symm⟩)))
            go_wp2_with fail
            go_roundw
            case rel => exact ⟨_, by omega, by omega, by omega, rfl, hid (no_more hno.out HQ.out (ok_inv HC.out HV.out)), below_drewN hb _⟩
            case measure => simp [intOf]
          · have HV := hid hv
            clear hv
            go_region_held3 (fun _ => True) (exact trivial) ((first | (go_at_call 44; refine (point_is _ _ HV _).mono ?_; rintro e w' ⟨rfl, rfl⟩) | (go_at_call 45; refine (refrune_any _ (by omega) (by omega) _).mono ?_; rintro e w' ⟨rfl, hb2⟩)))
            have hbw := hb.drew.trans (hb2.mono hb.size)
            clear hb2
            go_wp2_with fail
            · rename_i ht
              go_ret3
              exact ⟨dec_yes H0.out HC.out HV.out HQ.out (by omega) (by omega) ht, hbw⟩
            · rename_i ht
              go_roundw
              case rel => exact ⟨_, by omega, by omega, by omega, rfl, hid (no_more hno.out HQ.out (ok_not HC.out HQ.out ht)), hbw⟩
              case measure => simp [intOf]
      · have hbr : Utf.Broken s.data.toList := Utf.ref_none H0.out fun n h1 h4 hn => hno.out n h1 (by rw [← Utf.size_eq] at hn; omega)
        have hfin : Dec3 s (.returned (.tuple #[.int .i32 65533, .int .i64 1, .bool true])) := by
          unfold Dec3
          rw [dec0_ne H0.out, hbr, decide_eq_true hbr]
          rfl
        rcases (show 4 < k ∨ (k ≤ 4 ∧ (s.size : Int) < k) by omega) with hk | ⟨hk, hk'⟩
        all_goals
          go_wp2_with fail
          go_ret3
          exact ⟨hfin, hb⟩
end Go.Proofs.YtmfhoindfhmncaaDoor
