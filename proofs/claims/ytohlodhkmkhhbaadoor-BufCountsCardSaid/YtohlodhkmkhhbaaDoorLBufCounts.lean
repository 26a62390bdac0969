/-
  The law BufCounts, walked.
-/
import Derived.Test.YtohlodhkmkhhbaaDoorB7
namespace Go.Proofs.YtohlodhkmkhhbaaDoor
open Go.RowKit Go.Proofs

theorem cut2000 (s : ByteArray) : (s.extract 0 2000).size ≤ 2000 := by
  rw [ByteArray.size_extract]; omega

set_option maxRecDepth 100000 in
theorem bufCounts_law (s : ByteArray) (n : Int) (w : World) (hT : Tabs w) (hs : s.size ≤ 140737488355328) (hn0 : -9223372036854775808 ≤ n) (hn1 : n ≤ 9223372036854775807) :
    Calls Tryd.prog 9 #[.string s, .int .i64 n] w fun e w' => e = .returned (.bool true) ∧ Below w.heap.size w w' := by
  have HT := hid hT
  clear hT
  obtain ⟨t, ht⟩ : ∃ t, t = if 2000 < s.size then s.extract 0 2000 else s := ⟨_, rfl⟩
  have htz : t.size ≤ 2000 := by
    rw [ht]
    split
    · exact cut2000 s
    · omega
  have hA := fun W => count_any t W (by omega)
  have hB := fun W => refcount_any t W (by omega)
  have hC := fun W => cut_any t n W (by omega) hn0 hn1
  have hD := fun W => refcut_any t n W (by omega) hn0 hn1
  obtain ⟨r, hr⟩ : ∃ r, cutS t n = r := ⟨_, rfl⟩
  obtain ⟨k, hk⟩ : ∃ k : Int, (Utf.count t.data.toList : Int) = k := ⟨_, rfl⟩
  rw [hr] at hC hD
  rw [hk] at hA hB
  have HA := hid hA
  have HB := hid hB
  have HC := hid hC
  have HD := hid hD
  clear hA hB hC hD hr hk
  by_cases h : 2000 < s.size
  · rw [if_pos h] at ht
    have HE := hid ht
    clear ht
    go_enter Tryd.func9, Tryd.ntmps9
    go_wp2_with fail
    rw [← HE.out]
    refine (HA.out _).mono ?_
    rintro e w1 ⟨rfl, hb1⟩
    go_wp2_with fail
    refine (HB.out _).mono ?_
    rintro e w2 ⟨rfl, hb2⟩
    have hb12 := hb1.trans (hb2.mono hb1.size)
    clear hb1 hb2
    go_wp2_with fail
    refine (HC.out _).mono ?_
    rintro e w3 ⟨rfl, hb3⟩
    have hb13 := hb12.trans (hb3.mono hb12.size)
    clear hb12 hb3
    go_wp2_with fail
    refine (HD.out _).mono ?_
    rintro e w4 ⟨rfl, hb4⟩
    have hb14 := hb13.trans (hb4.mono hb13.size)
    clear hb13 hb4
    go_wp2_with fail
    refine (lives_any _ (HT.out.below hb14)).mono ?_
    rintro e w5 ⟨rfl, hb5⟩
    go_wp2_with fail
    go_ret
    exact ⟨rfl, hb14.trans (hb5.mono hb14.size)⟩
  · rw [if_neg h] at ht
    subst ht
    go_enter Tryd.func9, Tryd.ntmps9
    go_wp2_with fail
    refine (HA.out _).mono ?_
    rintro e w1 ⟨rfl, hb1⟩
    go_wp2_with fail
    refine (HB.out _).mono ?_
    rintro e w2 ⟨rfl, hb2⟩
    have hb12 := hb1.trans (hb2.mono hb1.size)
    clear hb1 hb2
    go_wp2_with fail
    refine (HC.out _).mono ?_
    rintro e w3 ⟨rfl, hb3⟩
    have hb13 := hb12.trans (hb3.mono hb12.size)
    clear hb12 hb3
    go_wp2_with fail
    refine (HD.out _).mono ?_
    rintro e w4 ⟨rfl, hb4⟩
    have hb14 := hb13.trans (hb4.mono hb13.size)
    clear hb13 hb4
    go_wp2_with fail
    refine (lives_any _ (HT.out.below hb14)).mono ?_
    rintro e w5 ⟨rfl, hb5⟩
    go_wp2_with fail
    go_ret
    exact ⟨rfl, hb14.trans (hb5.mono hb14.size)⟩
end Go.Proofs.YtohlodhkmkhhbaaDoor
