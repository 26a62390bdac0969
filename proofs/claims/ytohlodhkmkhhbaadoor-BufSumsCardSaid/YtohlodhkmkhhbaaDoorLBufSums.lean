/-
  The law BufSums, walked.
-/
import Derived.Test.YtohlodhkmkhhbaaDoorB7
namespace Go.Proofs.YtohlodhkmkhhbaaDoor
open Go.RowKit Go.Proofs

theorem cut2000s (s : ByteArray) : (s.extract 0 2000).size ≤ 2000 := by
  rw [ByteArray.size_extract]; omega

/-- What the law finds of a text's first runes. -/
theorem sums_facts (t : ByteArray) (n : Int) : ∃ (a b : ByteArray) (m : Int), cutS t n = a ∧ a.size ≤ t.size ∧ t.extract 0 a.size = a ∧ t.extract a.size t.size = b ∧ b.size ≤ t.size ∧
    (Utf.count a.data.toList : Int) = m ∧ (Utf.count b.data.toList : Int) = (Utf.count t.data.toList : Int) - m ∧ (n < 0 → m = Utf.count t.data.toList) ∧ (0 ≤ n → m = min n (Utf.count t.data.toList)) := by
  have hsz : ∀ A : Nat, A ≤ t.size → (t.extract 0 A).size = A := fun A h => by rw [ByteArray.size_extract]; omega
  have htk : ∀ A : Nat, (t.extract 0 A).data.toList = t.data.toList.take A := fun A => by rw [Lib.extract_data]; simp
  by_cases hn : n < 0
  · have e : cutS t n = t := by unfold cutS; rw [if_pos hn]
    refine ⟨t, t.extract t.size t.size, Utf.count t.data.toList, e, Nat.le_refl _, by simp, rfl, by rw [ByteArray.size_extract]; omega, rfl, ?_, fun _ => rfl, fun h => by omega⟩
    rw [extract_drop, List.drop_eq_nil_of_le (by rw [← Utf.size_eq]; omega), Utf.count_nil]
    omega
  · have hle : Utf.cutAt n.toNat t.data.toList ≤ t.size := by rw [Utf.size_eq]; exact Utf.cutAt_le _ _
    have hc := Utf.count_cut n.toNat t.data.toList
    have e : cutS t n = t.extract 0 (Utf.cutAt n.toNat t.data.toList) := by unfold cutS; rw [if_neg hn]
    generalize Utf.cutAt n.toNat t.data.toList = A at *
    refine ⟨t.extract 0 A, t.extract A t.size, min n (Utf.count t.data.toList), e, by rw [hsz A hle]; exact hle, by rw [hsz A hle], by rw [hsz A hle], by rw [ByteArray.size_extract]; omega, ?_, ?_, fun h => by omega, fun _ => rfl⟩
    · rw [htk, hc.1]; omega
    · rw [extract_drop, hc.2]; omega

set_option maxRecDepth 100000 in
set_option maxHeartbeats 400000 in
theorem bufSums_law (s : ByteArray) (n : Int) (w : World) (hT : Tabs w) (hs : s.size ≤ 140737488355328) (hn0 : -9223372036854775808 ≤ n) (hn1 : n ≤ 9223372036854775807) :
    Calls Tryd.prog 10 #[.string s, .int .i64 n] w fun e w' => e = .returned (.bool true) ∧ Below w.heap.size w w' := by
  have HT := hid hT
  clear hT
  obtain ⟨t, ht⟩ : ∃ t, t = if 2000 < s.size then s.extract 0 2000 else s := ⟨_, rfl⟩
  have htz : t.size ≤ 2000 := by
    rw [ht]
    split
    · exact cut2000s s
    · omega
  obtain ⟨a, b, m, ha, haz, hta, htb, hbz, hca, hcb, hm1, hm2⟩ := sums_facts t n
  have hA := fun W => count_any t W (by omega)
  have hB := fun W => count_any a W (by omega)
  have hC := fun W => count_any b W (by omega)
  have hD := fun W => cut_any t n W (by omega) hn0 hn1
  have hkb : (Utf.count t.data.toList : Int) ≤ 2000 ∧ 0 ≤ (Utf.count t.data.toList : Int) := by
    have := Utf.count_le t.data.toList.length t.data.toList (Nat.le_refl _)
    rw [← Utf.size_eq] at this
    omega
  have hm0 : 0 ≤ m := by omega
  rw [ha] at hD
  rw [hca] at hB
  rw [hcb] at hC
  obtain ⟨k, hk⟩ : ∃ k : Int, (Utf.count t.data.toList : Int) = k := ⟨_, rfl⟩
  rw [hk] at hA hC hm1 hm2 hkb
  obtain ⟨hk1, hk2⟩ := hkb
  have HA := hid hA
  have HB := hid hB
  have HC := hid hC
  have HD := hid hD
  clear hA hB hC hD hk hca hcb ha
  have hsplit : (n < 0 ∧ m = k) ∨ (0 ≤ n ∧ m = min n k) := by
    by_cases h : n < 0
    · exact .inl ⟨h, hm1 h⟩
    · exact .inr ⟨by omega, hm2 (by omega)⟩
  clear hm1 hm2
  have hmk : m ≤ k := by omega
  have HE : Hid (t = if 2000 < s.size then s.extract 0 2000 else s) := ht
  clear ht
  by_cases h : 2000 < s.size
  · have hr : s.extract 0 2000 = t := by rw [HE.out, if_pos h]
    rcases hsplit with ⟨c1, rfl⟩ | ⟨c1, c2⟩
    · go_enter Tryd.func10, Tryd.ntmps10
      go_wp2_with fail
      refine (HD.out _).mono ?_
      rintro e w1 ⟨rfl, hb1⟩
      go_wp2_with fail
      refine (HA.out _).mono ?_
      rintro e w2 ⟨rfl, hb2⟩
      have hb12 := hb1.trans (hb2.mono hb1.size)
      clear hb1 hb2
      go_wp2_with fail
      refine (HB.out _).mono ?_
      rintro e w3 ⟨rfl, hb3⟩
      have hb13 := hb12.trans (hb3.mono hb12.size)
      clear hb12 hb3
      go_wp2_with fail
      refine (HC.out _).mono ?_
      rintro e w4 ⟨rfl, hb4⟩
      have hb14 := hb13.trans (hb4.mono hb13.size)
      clear hb13 hb4
      go_wp2_with fail
      refine (lives_any _ (HT.out.below hb14)).mono ?_
      rintro e w5 ⟨rfl, hb5⟩
      go_wp2_with fail
      go_ret
      exact ⟨rfl, hb14.trans (hb5.mono hb14.size)⟩
    · have HM := hid c2
      clear c2
      go_enter Tryd.func10, Tryd.ntmps10
      go_wp2_with fail
      refine (HD.out _).mono ?_
      rintro e w1 ⟨rfl, hb1⟩
      go_wp2_with fail
      refine (HA.out _).mono ?_
      rintro e w2 ⟨rfl, hb2⟩
      have hb12 := hb1.trans (hb2.mono hb1.size)
      clear hb1 hb2
      go_wp2_with fail
      refine (HB.out _).mono ?_
      rintro e w3 ⟨rfl, hb3⟩
      have hb13 := hb12.trans (hb3.mono hb12.size)
      clear hb12 hb3
      rw [← HM.out]
      go_wp2_with fail
      refine (HC.out _).mono ?_
      rintro e w4 ⟨rfl, hb4⟩
      have hb14 := hb13.trans (hb4.mono hb13.size)
      clear hb13 hb4
      go_wp2_with fail
      refine (lives_any _ (HT.out.below hb14)).mono ?_
      rintro e w5 ⟨rfl, hb5⟩
      go_wp2_with fail
      go_ret
      exact ⟨rfl, hb14.trans (hb5.mono hb14.size)⟩
  · have hr : t = s := by rw [HE.out, if_neg h]
    subst hr
    rcases hsplit with ⟨c1, rfl⟩ | ⟨c1, c2⟩
    · go_enter Tryd.func10, Tryd.ntmps10
      go_wp2_with fail
      refine (HD.out _).mono ?_
      rintro e w1 ⟨rfl, hb1⟩
      go_wp2_with fail
      refine (HA.out _).mono ?_
      rintro e w2 ⟨rfl, hb2⟩
      have hb12 := hb1.trans (hb2.mono hb1.size)
      clear hb1 hb2
      go_wp2_with fail
      refine (HB.out _).mono ?_
      rintro e w3 ⟨rfl, hb3⟩
      have hb13 := hb12.trans (hb3.mono hb12.size)
      clear hb12 hb3
      go_wp2_with fail
      refine (HC.out _).mono ?_
      rintro e w4 ⟨rfl, hb4⟩
      have hb14 := hb13.trans (hb4.mono hb13.size)
      clear hb13 hb4
      go_wp2_with fail
      refine (lives_any _ (HT.out.below hb14)).mono ?_
      rintro e w5 ⟨rfl, hb5⟩
      go_wp2_with fail
      go_ret
      exact ⟨rfl, hb14.trans (hb5.mono hb14.size)⟩
    · have HM := hid c2
      clear c2
      go_enter Tryd.func10, Tryd.ntmps10
      go_wp2_with fail
      refine (HD.out _).mono ?_
      rintro e w1 ⟨rfl, hb1⟩
      go_wp2_with fail
      refine (HA.out _).mono ?_
      rintro e w2 ⟨rfl, hb2⟩
      have hb12 := hb1.trans (hb2.mono hb1.size)
      clear hb1 hb2
      go_wp2_with fail
      refine (HB.out _).mono ?_
      rintro e w3 ⟨rfl, hb3⟩
      have hb13 := hb12.trans (hb3.mono hb12.size)
      clear hb12 hb3
      rw [← HM.out]
      go_wp2_with fail
      refine (HC.out _).mono ?_
      rintro e w4 ⟨rfl, hb4⟩
      have hb14 := hb13.trans (hb4.mono hb13.size)
      clear hb13 hb4
      go_wp2_with fail
      refine (lives_any _ (HT.out.below hb14)).mono ?_
      rintro e w5 ⟨rfl, hb5⟩
      go_wp2_with fail
      go_ret
      exact ⟨rfl, hb14.trans (hb5.mono hb14.size)⟩
end Go.Proofs.YtohlodhkmkhhbaaDoor
