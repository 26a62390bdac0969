/-
  The law BufBack, walked.
-/
import Derived.Test.YtohlodhkmkhhbaaDoorB7
namespace Go.Proofs.YtohlodhkmkhhbaaDoor
open Go.RowKit Go.Proofs

theorem append_list (a b : ByteArray) : (a ++ b).data.toList = a.data.toList ++ b.data.toList := by simp

set_option maxRecDepth 100000 in
theorem bufBack_law (c : Int) (s : ByteArray) (w : World) (hT : Tabs w) (h0 : -2147483648 ≤ c) (h1 : c ≤ 2147483647) (hs : s.size ≤ 140737488355328) :
    Calls Tryd.prog 8 #[.int .i32 c, .string s] w fun e w' => e = .returned (.bool true) ∧ Below w.heap.size w w' := by
  have HT := hid hT
  clear hT
  obtain ⟨x, hx⟩ : ∃ x, Utf8.encode c = x := ⟨_, rfl⟩
  have hA := fun W => rune_any c W
  rw [hx] at hA
  have hd : dec0 (x ++ s).data.toList = (Utf.cp c, x.size) := by
    have hp := Utf.encL_pos c
    rw [append_list, ← hx]
    show dec0 (Utf.encL c ++ s.data.toList) = _
    rw [dec0_ne (by intro e; have := congrArg List.length e; rw [List.length_append, List.length_nil] at this; omega), Utf.dec_enc]
    rw [Utf.size_eq]
    rfl
  have hxz : x.size ≤ 4 := by
    have hp := Utf.encL_pos c
    rw [← hx, Utf.size_eq]
    exact hp.2
  have hB := fun W hW => decode_any (x ++ s) W hW
  rw [hd] at hB
  obtain ⟨k, hk⟩ : ∃ k : Int, (Utf.cp c : Int) = k := ⟨_, rfl⟩
  simp only [hk] at hB
  have hval : (Utf8.valid c = true → k = c) ∧ (Utf8.valid c = false → k = 65533) := by
    refine ⟨fun h => by rw [← hk]; exact Utf.cp_of_valid h, fun h => ?_⟩
    rw [← hk]
    unfold Utf.cp
    rw [h]
    rfl
  have hv2 := Utf.valid_iff c
  have HA := hid hA
  have HB := hid hB
  clear hA hB hx hd hk
  rcases (show (c < 0 ∧ k = 65533) ∨ (0 ≤ c ∧ 1114111 < c ∧ k = 65533) ∨ (55296 ≤ c ∧ c ≤ 57343 ∧ k = 65533) ∨ (0 ≤ c ∧ c < 55296 ∧ k = c) ∨ (57343 < c ∧ c ≤ 1114111 ∧ k = c) by
    by_cases hv : Utf8.valid c = true
    · have := hv2.1 hv
      have := hval.1 hv
      omega
    · have := hval.2 (by simpa using hv)
      rw [hv2] at hv
      omega) with ⟨a1, rfl⟩ | ⟨a1, a2, rfl⟩ | ⟨a1, a2, rfl⟩ | ⟨a1, a2, rfl⟩ | ⟨a1, a2, rfl⟩
  all_goals
    clear hval hv2
    go_enter Tryd.func8, Tryd.ntmps8
    go_wp2_with fail
    refine (HA.out _).mono ?_
    rintro e w1 ⟨rfl, rfl⟩
    go_wp2_with fail
    refine (HB.out _ HT.out).mono ?_
    rintro e w1 ⟨rfl, hb1⟩
    go_wp2_with fail
    refine (HA.out _).mono ?_
    rintro e w2 ⟨rfl, rfl⟩
    go_wp2_with fail
    refine (lives_any _ (HT.out.below hb1)).mono ?_
    rintro e w3 ⟨rfl, hb3⟩
    go_wp2_with fail
    go_ret
    exact ⟨rfl, hb1.trans (hb3.mono hb1.size)⟩
end Go.Proofs.YtohlodhkmkhhbaaDoor
