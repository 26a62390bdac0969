/-
  The law BufWhole, walked.
-/
import Derived.Test.YtohlodhkmkhhbaaDoorBA
import Derived.Deep.QuietTactic
import Derived.BigQuiet
namespace Go.Proofs.YtohlodhkmkhhbaaDoor
open Go.RowKit Go.Proofs

theorem text_short {t : ByteArray} (h : t.size ≤ 4096) : (⟨(textL t.data.toList).toArray⟩ : ByteArray) = t := by
  unfold textL
  rw [if_neg (by rw [← Utf.size_eq]; omega)]
theorem text_long {t : ByteArray} (h : 4096 < t.size) : (⟨(textL t.data.toList).toArray⟩ : ByteArray).size = 4107 ∧ (⟨(textL t.data.toList).toArray⟩ : ByteArray).extract 0 4096 = t.extract 0 4096 := by
  have hl : 4096 < t.data.toList.length := by rw [← Utf.size_eq]; exact h
  unfold textL
  rw [if_pos hl]
  constructor
  · rw [Utf.size_eq]
    simp only [List.length_append, List.length_take, tooLong, List.length_cons, List.length_nil]
    omega
  · apply ByteArray.ext
    apply Array.ext'
    rw [Lib.extract_data, Lib.extract_data]
    simp only [List.drop_zero, Nat.sub_zero]
    rw [List.take_append_of_le_length (by rw [List.length_take]; omega), List.take_take, Nat.min_self]

theorem parts (t : ByteArray) (k : Nat) (_h : k ≤ t.size) : (t.extract 0 k).data.toList ++ (t.extract k t.size).data.toList = t.data.toList := by
  rw [extract_drop, Lib.extract_data]
  simp only [List.drop_zero, Nat.sub_zero, List.take_append_drop]

theorem bufAt_drewN {w : World} {B b : Nat} {all : List UInt8} (h : BufAt w B b all) (n : Nat) : BufAt (w.drewN n) B b all := h

set_option maxRecDepth 100000 in
set_option maxHeartbeats 4000000 in
theorem bufWhole_law (s : ByteArray) (times : Int) (A : Option Addr) (len cap : Nat) (z : Nat → Int) (w : World) (hT : Tabs w) (hs : s.size ≤ 140737488355328) (ht0 : -9223372036854775808 ≤ times) (ht1 : times ≤ 9223372036854775807)
    (hlen : len ≤ 9223372036854775807) (hc : 0 < len → ∃ cb off, A = some ⟨cb, off, none⟩ ∧ cb < w.heap.size ∧ ∀ j, j < len → w.cell? ⟨cb, off + j, none⟩ = some (.int .i64 (z j))) (hz : ∀ j, j < len → -9223372036854775808 ≤ z j ∧ z j ≤ 9223372036854775807) :
    Calls Tryd.prog 11 #[.string s, .int .i64 times, .slice A len cap] w fun e w' => e = .returned (.bool true) ∧ Below w.heap.size w w' := by
  have HT := hid hT
  have HC := hid hc
  have HZ := hid hz
  clear hT hc hz
  have hcut := fun W => cutB_any s W (by omega)
  have hcz := cutB_size s
  obtain ⟨c, hcc⟩ : ∃ c, cutB s = c := ⟨_, rfl⟩
  rw [hcc] at hcut hcz
  have HCUT := hid hcut
  obtain ⟨m, hm⟩ : ∃ m : Int, m = max 1 (min times 40) := ⟨_, rfl⟩
  have hm1 : 1 ≤ m := by omega
  have hm2 : m ≤ 40 := by omega
  have hmm : max 1 (min times 40) = m := hm.symm
  clear hcut hcc hm
  go_enter Tryd.func11, Tryd.ntmps11
  go_wp2_with fail
  go_loop [7, 8] (fun v i => ∃ (t : ByteArray) (q : Int), v = .string t ∧ i = .int .i64 q ∧ 0 ≤ q ∧ q ≤ 40 ∧ t.size ≤ 9000) (fun _ i => 40 - (intOf i).toNat)
  case atStart => exact ⟨_, 0, rfl, rfl, by omega, by omega, by decide⟩
  case round =>
    obtain ⟨t, q, rfl, rfl, hq0, hq1, htz⟩ := hrel
    by_cases h1 : q < m ∧ t.size < 8000
    · obtain ⟨h1, h2⟩ := h1
      have hsz : (t ++ c).size ≤ 9000 := by rw [ByteArray.size_append]; omega
      go_wp2_with (go_at_call 26; refine (HCUT.out _).mono ?_; rintro e w' ⟨rfl, rfl⟩)
      go_round
      case rel => exact ⟨t ++ c, q + 1, rfl, rfl, by omega, by omega, hsz⟩
      case measure => simp [intOf]; omega
    · have h2 : m ≤ q ∨ (q < m ∧ 8000 ≤ t.size) := by omega
      clear h1
      rcases h2 with h2 | ⟨h2, h3⟩
      all_goals

        go_wp2_with fail
        obtain ⟨W1, hW1⟩ : ∃ W1, W1 = (w.alloc (.cells #[.slice none 0 0, .int .i64 0] 44)).alloc (.cells #[.slice none 0 0, .int .i64 0] 44) := ⟨_, rfl⟩
        have hz1 : W1.heap.size = w.heap.size + 1 + 1 := by rw [hW1]; simp
        have hbw1 : Below w.heap.size w W1 := by rw [hW1]; exact ((Below.refl w.heap.size w).alloc (Nat.le_refl _) _).alloc (by simp) _
        have hba : BufAt W1 W1.heap.size w.heap.size [] := bufAt_new _ (by rw [hW1]; exact (Blk.new w _ _).same (Below.heap_alloc _ _ _ (by simp)))
        have hbb : Blk W1 (w.heap.size + 1) #[.slice none 0 0, .int .i64 0] 44 := by
          have := Blk.new (w.alloc (.cells #[.slice none 0 0, .int .i64 0] 44)) #[.slice none 0 0, .int .i64 0] 44
          rw [hW1]
          simpa using this
        rw [← hW1]
        clear hW1
        have hp := put_any W1.heap.size w.heap.size [] t W1 hba (Nat.le_refl _) (by omega) (by simp) (by omega)
        have HP := hid hp
        clear hp hba
        refine HP.out.mono ?_
        rintro e w2 ⟨rfl, ha2, ho2⟩
        rw [List.nil_append] at ha2
        have hbb2 : BufAt w2 w2.heap.size (w.heap.size + 1) [] := bufAt_new _ (hbb.same (ho2.block _ (by omega) (by omega)))
        have hbw2 : Below w.heap.size w w2 := hbw1.trans (ho2.below (by omega) (Nat.le_refl _))
        have hs2 := ho2.size
        have HA2 := hid ha2
        have HB2 := hid hbb2
        clear ha2 hbb2 hbb hbw1 ho2 HP
        go_wp2_with fail
        go_loopw [11, 12, 13] (fun v i _ wr => ∃ (r : ByteArray) (q : Nat) (dn : List UInt8), v = .string r ∧ i = .int .i64 q ∧ q ≤ len ∧ q ≤ 60 ∧ r.size ≤ 9000 ∧ Hid (BufAt wr w2.heap.size (w.heap.size + 1) dn ∧ dn ++ r.data.toList = t.data.toList) ∧ Hid (OnlyB w2.heap.size (w.heap.size + 1) w2 wr)) (fun _ i _ _ => 60 - (intOf i).toNat)
        case atStart => exact ⟨t, 0, [], rfl, rfl, Nat.zero_le _, by omega, htz, ⟨HB2.out, rfl⟩, OnlyB.refl _ _ _⟩
        case round =>
          obtain ⟨r, q, dn, rfl, rfl, hq1, hq2, hrz, hbd, hon⟩ := hrel
          by_cases hin : q < len ∧ q < 60
          · obtain ⟨hin1, hin2⟩ := hin
            obtain ⟨cb, off, hA, hcb, hcell⟩ := HC.out (by omega)
            subst hA
            have hzq := HZ.out q hin1
            have hbwr : Below w.heap.size w wr := hbw2.trans (hon.out.below (by omega) (by omega))
            have hcq : wr.cell? ⟨cb, off + q, none⟩ = some (.int .i64 (z q)) := (hbwr.cell (p := ⟨cb, off + q, none⟩) hcb).trans (hcell q hin1)
            obtain ⟨x, hx⟩ : ∃ x : Int, x = max 0 (min (z q) r.size) := ⟨_, rfl⟩
            have hxx : max 0 (min (z q) (r.size : Int)) = x := hx.symm
            have hx0 : 0 ≤ x := by omega
            have hx1 : x ≤ r.size := by omega
            have hxn : x.toNat ≤ r.size := by omega
            have hdl : dn.length ≤ 9000 := by
              have := congrArg List.length hbd.out.2
              rw [List.length_append, ← Utf.size_eq, ← Utf.size_eq] at this
              omega
            have hpp := put_any w2.heap.size (w.heap.size + 1) dn (r.extract 0 x.toNat) wr hbd.out.1 hon.out.size (by omega) (by omega) (by rw [ByteArray.size_extract]; omega)
            have HPP := hid hpp
            have hpa := parts r x.toNat hxn
            have HPA := hid hpa
            have hez : (r.extract x.toNat r.size).size ≤ 9000 := by rw [ByteArray.size_extract]; omega
            clear hx hpp hpa hzq hcell HC HZ
            go_wp2_with fail
            refine HPP.out.mono ?_
            rintro e w3 ⟨rfl, hb3, ho3⟩
            have HB3 := hid hb3
            have HO3 := hid ho3
            clear hb3 ho3 hcq
            go_wp2_with fail
            go_roundw
            case rel => exact ⟨r.extract x.toNat r.size, q + 1, dn ++ (r.extract 0 x.toNat).data.toList, rfl, by go_num, by omega, by omega, hez, ⟨HB3.out, by rw [List.append_assoc, HPA.out]; exact hbd.out.2⟩, hon.out.trans HO3.out⟩
            case measure => simp [intOf]; omega
          · have hout : len ≤ q ∨ (q < len ∧ 60 ≤ q) := by omega
            clear hin
            have hdl : dn.length ≤ 9000 := by
              have := congrArg List.length hbd.out.2
              rw [List.length_append, ← Utf.size_eq, ← Utf.size_eq] at this
              omega
            have hpp := put_any w2.heap.size (w.heap.size + 1) dn r wr hbd.out.1 hon.out.size (by omega) (by omega) (by omega)
            rw [hbd.out.2] at hpp
            have HPP := hid hpp
            clear hpp
            rcases hout with hout | ⟨hout, hout2⟩
            all_goals
              go_wp2_with fail
              refine HPP.out.mono ?_
              rintro e w3 ⟨rfl, hb3, ho3⟩
              have hO := hon.out.trans ho3
              have ha3 : BufAt w3 W1.heap.size w.heap.size t.data.toList := HA2.out.only hO (Nat.le_refl _) (by omega) (by omega)
              have hbw3 : Below w.heap.size w w3 := hbw2.trans (hO.below (by omega) (by omega))
              have HA3 := hid ha3
              have HB3 := hid hb3
              have tX : ∀ (B b : Nat) (W : World), BufAt W B b t.data.toList → Calls Tryd.prog 28 #[.pointer (some ⟨b, 0, none⟩)] W fun e w' => e = .returned (.string ⟨(textL t.data.toList).toArray⟩) ∧ W = w' := fun B b W h => text_any B b _ W h
              have lX : ∀ (B b : Nat) (W : World), BufAt W B b t.data.toList → Calls Tryd.prog 29 #[.pointer (some ⟨b, 0, none⟩)] W fun e w' => e = .returned (.int .i64 t.size) ∧ W = w' := fun B b W h => by
                have := len_any B b _ W h
                rw [← Utf.size_eq] at this
                exact this
              clear hb3 ho3 ha3 hO
              by_cases hbig : 4096 < t.size
              · obtain ⟨e1, e2⟩ := text_long hbig
                obtain ⟨T, hTT⟩ : ∃ T : ByteArray, ⟨(textL t.data.toList).toArray⟩ = T := ⟨_, rfl⟩
                rw [hTT] at tX e1 e2
                have TX := hid tX
                have LX := hid lX
                clear tX lX hTT
                go_wp2_with fail
                refine (TX.out _ _ _ HA3.out).mono ?_
                rintro e w4 ⟨rfl, rfl⟩
                go_wp2_with fail
                have hg1 : decide ((t.size : Int) ≤ 4096) = false := decide_eq_false (by omega)
                have hg2 : decide ((4096 : Int) < (t.size : Int)) = true := decide_eq_true (by omega)
                have hg3 : (4096 : Int) ≤ (t.size : Int) := by omega
                go_quiet (fail)
                clear hg1 hg2 e1 e2
                go_wp2_with fail
                refine (TX.out _ _ _ (bufAt_drewN HA3.out _)).mono ?_
                rintro e w4 ⟨rfl, rfl⟩
                go_wp2_with fail
                refine (TX.out _ _ _ (bufAt_drewN HB3.out _)).mono ?_
                rintro e w4 ⟨rfl, rfl⟩
                go_wp2_with fail
                refine (LX.out _ _ _ (bufAt_drewN HA3.out _)).mono ?_
                rintro e w4 ⟨rfl, rfl⟩
                go_wp2_with fail
                refine (LX.out _ _ _ (bufAt_drewN HB3.out _)).mono ?_
                rintro e w4 ⟨rfl, rfl⟩
                go_wp2_with fail
                refine (LX.out _ _ _ (bufAt_drewN HA3.out _)).mono ?_
                rintro e w4 ⟨rfl, rfl⟩
                go_wp2_with fail
                have hbw4 := below_drewN hbw3 nq
                refine (lives_any _ (HT.out.below hbw4)).mono ?_
                rintro e w5 ⟨rfl, hb5⟩
                go_wp2_with fail
                go_ret
                exact ⟨rfl, hbw4.trans (hb5.mono hbw4.size)⟩
              · have hTT := text_short (t := t) (by omega)
                rw [hTT] at tX
                have TX := hid tX
                have LX := hid lX
                clear tX lX hTT
                go_wp2_with fail
                refine (TX.out _ _ _ HA3.out).mono ?_
                rintro e w4 ⟨rfl, rfl⟩
                go_wp2_with fail
                have hg1 : decide ((t.size : Int) ≤ 4096) = true := decide_eq_true (by omega)
                have hg2 : decide ((4096 : Int) < (t.size : Int)) = false := decide_eq_false (by omega)
                go_quiet (fail)
                clear hg1 hg2
                go_wp2_with fail
                refine (TX.out _ _ _ (bufAt_drewN HA3.out _)).mono ?_
                rintro e w4 ⟨rfl, rfl⟩
                go_wp2_with fail
                refine (TX.out _ _ _ (bufAt_drewN HB3.out _)).mono ?_
                rintro e w4 ⟨rfl, rfl⟩
                go_wp2_with fail
                refine (LX.out _ _ _ (bufAt_drewN HA3.out _)).mono ?_
                rintro e w4 ⟨rfl, rfl⟩
                go_wp2_with fail
                refine (LX.out _ _ _ (bufAt_drewN HB3.out _)).mono ?_
                rintro e w4 ⟨rfl, rfl⟩
                go_wp2_with fail
                refine (LX.out _ _ _ (bufAt_drewN HA3.out _)).mono ?_
                rintro e w4 ⟨rfl, rfl⟩
                go_wp2_with fail
                have hbw4 := below_drewN hbw3 nq
                refine (lives_any _ (HT.out.below hbw4)).mono ?_
                rintro e w5 ⟨rfl, hb5⟩
                go_wp2_with fail
                go_ret
                exact ⟨rfl, hbw4.trans (hb5.mono hbw4.size)⟩
end Go.Proofs.YtohlodhkmkhhbaaDoor
