/-
  Walks of layer 9: the document's parser: digits and places.
-/
import Derived.Test.YtmfhoindfhmncaaDoorB2
import Derived.Test.YtmfhoindfhmncaaDoorPP
import Derived.Laws.EntriesVeiled
import Derived.Laws.OwnMore
namespace Go.Proofs.YtmfhoindfhmncaaDoor
open Go.RowKit Go.Proofs

/-- Is there a digit at a place? -/
def dgAt (s : ByteArray) (i : Nat) : Bool := decide (i < s.size ∧ 48 ≤ bt s i ∧ bt s i ≤ 57)
/-- Does a byte stand at a place? -/
def isAt (s : ByteArray) (i : Nat) (c : Int) : Bool := decide (i < s.size ∧ bt s i = c)
theorem sdigit_any (s : ByteArray) (i : Nat) (w : World) (_hs : s.size ≤ 140737488355328) (_hi : i ≤ s.size) : Calls Tryd.prog 34 #[.string s, .int .i64 i] w fun e w' => e = .returned (.bool (dgAt s i)) ∧ w = w' := by
  by_cases h : i < s.size
  · have E0 := bt_at s i h
    have hb := bt_bound s i
    by_cases h1 : 48 ≤ bt s i
    · by_cases h2 : bt s i ≤ 57
      · have hr : dgAt s i = true := decide_eq_true ⟨h, h1, h2⟩
        rw [hr]
        obtain ⟨c, hc⟩ : ∃ c, bt s i = c := ⟨_, rfl⟩
        rw [hc] at E0 h1 h2 hb
        clear hr hc
        go_enter Tryd.func34, Tryd.ntmps34
        go_wp2_with fail
        go_ret
        exact ⟨rfl, rfl⟩
      · have hr : dgAt s i = false := decide_eq_false (fun q => h2 q.2.2)
        rw [hr]
        obtain ⟨c, hc⟩ : ∃ c, bt s i = c := ⟨_, rfl⟩
        rw [hc] at E0 h1 h2 hb
        clear hr hc
        go_enter Tryd.func34, Tryd.ntmps34
        go_wp2_with fail
        go_ret
        exact ⟨rfl, rfl⟩
    · have hr : dgAt s i = false := decide_eq_false (fun q => h1 q.2.1)
      rw [hr]
      obtain ⟨c, hc⟩ : ∃ c, bt s i = c := ⟨_, rfl⟩
      rw [hc] at E0 h1 hb
      clear hr hc
      go_enter Tryd.func34, Tryd.ntmps34
      go_wp2_with fail
      go_ret
      exact ⟨rfl, rfl⟩
  · have hr : dgAt s i = false := decide_eq_false (fun q => h q.1)
    rw [hr]
    clear hr
    go_enter Tryd.func34, Tryd.ntmps34
    go_wp2_with fail
    go_ret
    exact ⟨rfl, rfl⟩
theorem sis_any (s : ByteArray) (i : Nat) (x : Int) (w : World) (_hs : s.size ≤ 140737488355328) (_hi : i ≤ s.size) : Calls Tryd.prog 33 #[.string s, .int .i64 i, .int .u8 x] w fun e w' => e = .returned (.bool (isAt s i x)) ∧ w = w' := by
  by_cases h : i < s.size
  · have E0 := bt_at s i h
    by_cases h1 : bt s i = x
    · have hr : isAt s i x = true := decide_eq_true ⟨h, h1⟩
      rw [hr]
      rw [h1] at E0
      clear hr h1
      go_enter Tryd.func33, Tryd.ntmps33
      go_wp2_with fail
      go_ret
      exact ⟨rfl, rfl⟩
    · have hr : isAt s i x = false := decide_eq_false (fun q => h1 q.2)
      rw [hr]
      obtain ⟨c, hc⟩ : ∃ c, bt s i = c := ⟨_, rfl⟩
      rw [hc] at E0 h1
      have h2 : (c == x) = false := beq_eq_false_iff_ne.2 h1
      clear hr hc
      go_enter Tryd.func33, Tryd.ntmps33
      go_wp2_with fail
      go_ret
      exact ⟨rfl, rfl⟩
  · have hr : isAt s i x = false := decide_eq_false (fun q => h q.1)
    rw [hr]
    clear hr
    go_enter Tryd.func33, Tryd.ntmps33
    go_wp2_with fail
    go_ret
    exact ⟨rfl, rfl⟩
theorem dgAt_eq (s : ByteArray) (k : Nat) : (dgAt s k = true → k < s.size ∧ (PP.dg (s.data.toList.drop k)).length = (PP.dg (s.data.toList.drop (k + 1))).length + 1) ∧ (dgAt s k = false → (PP.dg (s.data.toList.drop k)).length = 0) := by
  by_cases h : k < s.size
  · have hl : k < s.data.toList.length := by rw [← Utf.size_eq]; exact h
    have e : bt s k = ((s.data.toList[k]).toNat : Int) := by unfold bt; rw [List.getElem?_eq_getElem hl]; rfl
    have hd : s.data.toList.drop k = s.data.toList[k] :: s.data.toList.drop (k + 1) := List.drop_eq_getElem_cons hl
    refine ⟨fun q => ⟨h, ?_⟩, fun q => ?_⟩
    · have q := of_decide_eq_true q
      rw [hd]
      unfold PP.dg
      have hx : PP.isD s.data.toList[k] = true := by
        unfold PP.isD
        rw [decide_eq_true (by omega), decide_eq_true (by omega)]
        rfl
      rw [List.takeWhile_cons, if_pos hx]
      rfl
    · have q := of_decide_eq_false q
      rw [hd]
      unfold PP.dg
      have hx : ¬ PP.isD s.data.toList[k] = true := by
        unfold PP.isD
        intro hc
        rw [Bool.and_eq_true, decide_eq_true_iff, decide_eq_true_iff] at hc
        omega
      rw [List.takeWhile_cons, if_neg hx]
      rfl
  · refine ⟨fun q => absurd (of_decide_eq_true q).1 h, fun _ => ?_⟩
    rw [List.drop_eq_nil_of_le (by rw [← Utf.size_eq]; omega)]
    rfl
set_option maxRecDepth 100000 in
theorem srun_any (s : ByteArray) (i : Nat) (w : World) (hs : s.size ≤ 140737488355328) (hi : i ≤ s.size) : Calls Tryd.prog 35 #[.string s, .int .i64 i] w fun e w' => e = .returned (.int .i64 ((i + (PP.dg (s.data.toList.drop i)).length : Nat) : Int)) ∧ w = w' := by
  obtain ⟨N, hN⟩ : ∃ N : Nat, i + (PP.dg (s.data.toList.drop i)).length = N := ⟨_, rfl⟩
  rw [hN]
  have HN := hid hN
  clear hN
  go_enter Tryd.func35, Tryd.ntmps35
  go_wp2_with fail
  go_loopw [1] (fun iv wr => ∃ k : Nat, iv = .int .i64 k ∧ k ≤ s.size ∧ Hid (k + (PP.dg (s.data.toList.drop k)).length = N) ∧ wr = w) (fun iv _ => s.size - (intOf iv).toNat)
  case atStart => exact ⟨i, rfl, hi, HN, rfl⟩
  case round =>
    obtain ⟨k, rfl, hk, hK, rfl⟩ := hrel
    have DG := hid (fun W => sdigit_any s k W hs hk)
    obtain ⟨h1, h2⟩ := dgAt_eq s k
    cases hd : dgAt s k
    · rw [hd] at DG
      have h2 := h2 hd
      have hkN : k = N := by have := hK.out; omega
      subst hkN
      clear hd h1 h2
      go_wp2_with fail
      refine (DG.out _).mono ?_
      rintro e w' ⟨rfl, rfl⟩
      go_wp2_with fail
      go_ret
      exact ⟨rfl, rfl⟩
    · rw [hd] at DG
      obtain ⟨h3, h4⟩ := h1 hd
      have NX : Hid (k + 1 + (PP.dg (s.data.toList.drop (k + 1))).length = N) := hid (by have := hK.out; omega)
      clear hd h1 h2 h4
      go_wp2_with fail
      refine (DG.out _).mono ?_
      rintro e w' ⟨rfl, rfl⟩
      go_wp2_with fail
      go_roundw
      case rel => exact ⟨k + 1, by go_num, h3, NX, by first | trivial | rfl⟩
      case measure => simp [intOf]; omega
/-- The number of digits, on the way. -/
theorem val_step (s : ByteArray) (L n : Int) (k : Nat) (h : k < s.size) : PP.valL L n (s.data.toList.drop k) = if L < 10 * n + (bt s k - 48) then -1 else PP.valL L (10 * n + (bt s k - 48)) (s.data.toList.drop (k + 1)) := by
  have hl : k < s.data.toList.length := by rw [← Utf.size_eq]; exact h
  have e : bt s k = ((s.data.toList[k]).toNat : Int) := by unfold bt; rw [List.getElem?_eq_getElem hl]; rfl
  rw [List.drop_eq_getElem_cons hl, PP.valL, e]
set_option maxRecDepth 100000 in
set_option maxHeartbeats 1000000 in
theorem svalue_any (s : ByteArray) (L : Int) (w : World) (hs : s.size ≤ 140737488355328) (hL0 : 0 ≤ L) (hL1 : L ≤ 1000000000) (hd : ∀ k, k < s.size → 48 ≤ bt s k ∧ bt s k ≤ 57) : Calls Tryd.prog 36 #[.string s, .int .i64 L] w fun e w' => e = .returned (.int .i64 (PP.valL L 0 s.data.toList)) ∧ w = w' := by
  obtain ⟨R, hR⟩ : ∃ R, PP.valL L 0 s.data.toList = R := ⟨_, rfl⟩
  rw [hR]
  have HD := hid hd
  have HR := hid hR
  clear hR hd
  go_enter Tryd.func36, Tryd.ntmps36
  go_wp2_with fail
  go_loopw [5, 6] (fun nv iv wr => ∃ (n : Int) (k : Nat), nv = .int .i64 n ∧ iv = .int .i64 k ∧ k ≤ s.size ∧ 0 ≤ n ∧ n ≤ L ∧ Hid (PP.valL L n (s.data.toList.drop k) = R) ∧ wr = w) (fun _ iv _ => s.size - (intOf iv).toNat)
  case atStart => exact ⟨0, 0, rfl, rfl, Nat.zero_le _, Int.le_refl _, hL0, hid (by rw [List.drop_zero]; exact HR.out), rfl⟩
  case round =>
    obtain ⟨n, k, rfl, rfl, hk, hn0, hn1, hV, rfl⟩ := hrel
    by_cases hlt : k < s.size
    · have E0 := bt_at s k hlt
      have hst := val_step s L n k hlt
      rw [hV.out] at hst
      have hdk := HD.out k hlt
      obtain ⟨c, hc⟩ : ∃ c, bt s k = c := ⟨_, rfl⟩
      rw [hc] at E0 hst hdk
      obtain ⟨hd0, hd1⟩ := hdk
      clear hc
      by_cases hq : L < 10 * n + (c - 48)
      · rw [if_pos hq] at hst
        subst hst
        clear hV HR
        go_wp2_with fail
        go_ret
        exact ⟨rfl, rfl⟩
      · rw [if_neg hq] at hst
        have NX := hid hst.symm
        clear hst
        go_wp2_with fail
        go_roundw
        case rel => exact ⟨_, k + 1, rfl, by go_num, hlt, by omega, by omega, NX, by first | trivial | rfl⟩
        case measure => simp [intOf]; omega
    · have hfin : n = R := by
        rw [← hV.out, List.drop_eq_nil_of_le (by rw [← Utf.size_eq]; omega)]
        rfl
      subst hfin
      go_wp2_with fail
      go_ret
      exact ⟨rfl, rfl⟩
end Go.Proofs.YtmfhoindfhmncaaDoor
