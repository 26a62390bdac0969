/-
  Walks of layer 10: the document's search of a text; its Read.
-/
import Derived.Test.YteifnddblnaepaaDoorD8
namespace Go.Proofs.YteifnddblnaepaaDoor
open Go.RowKit Go.Proofs

theorem contains_hit {s p : List UInt8} {i : Nat} (hi : i ≤ s.length) (h : Lib.occAt s p i = true) (hn : ∀ j, j < i → Lib.occAt s p j = false) : Lib.contains s p = true := by
  unfold Lib.contains
  rw [Lib.index_first hi h hn]
  exact decide_eq_true (by omega)
theorem contains_none {s p : List UInt8} (hn : ∀ j, j < s.length + 1 → Lib.occAt s p j = false) : Lib.contains s p = false := by
  unfold Lib.contains
  rcases Lib.index_spec s p with ⟨h, _⟩ | ⟨i, h1, h2, h3, _⟩
  · rw [h]; rfl
  · have := hn i (by omega)
    rw [h3] at this
    cases this
set_option maxRecDepth 100000 in
set_option maxHeartbeats 1000000 in
theorem has_any (s p : ByteArray) (w : World) (hs : s.size ≤ 100000) :
    Calls Tryd.prog 40 #[.string s, .string p] w fun e w' => e = .returned (.bool (Lib.contains s.data.toList p.data.toList)) ∧ w = w' := by
  have BE := hid (fun t W => begins_any t p W)
  obtain ⟨r, hr⟩ : ∃ r, Lib.contains s.data.toList p.data.toList = r := ⟨_, rfl⟩
  rw [hr]
  have HR := hid hr
  clear hr
  have H0 := hid (show ∀ j, j < 0 → Lib.occAt s.data.toList p.data.toList j = false from fun j hj => absurd hj (by omega))
  go_enter Tryd.func40, Tryd.ntmps40
  go_wp2_with fail
  go_loopw [5] (fun iv wr => ∃ i : Nat, iv = .int .i64 i ∧ i ≤ s.size + 1 ∧ w = wr ∧ Hid (∀ j, j < i → Lib.occAt s.data.toList p.data.toList j = false)) (fun iv _ => s.size + 1 - (intOf iv).toNat)
  case atStart => exact ⟨0, rfl, by omega, rfl, H0.out⟩
  case round =>
    obtain ⟨i, rfl, hi, rfl, hI⟩ := hrel
    by_cases hlt : i ≤ s.size
    · have hx := drop_bytes s i
      obtain ⟨T, hT⟩ : ∃ T, s.extract i s.size = T := ⟨_, rfl⟩
      rw [hT] at hx
      have BT := hid (BE.out T w)
      rw [hx] at BT
      have e1 : Lib.hasPrefix (s.data.toList.drop i) p.data.toList = Lib.occAt s.data.toList p.data.toList i := rfl
      rw [e1] at BT
      obtain ⟨b, hb⟩ : ∃ b, Lib.occAt s.data.toList p.data.toList i = b := ⟨_, rfl⟩
      rw [hb] at BT
      have HBB := hid hb
      clear hx e1 hb
      cases b with
      | true =>
        obtain rfl : r = true := HR.out.symm.trans (contains_hit (by rw [← Utf.size_eq]; exact hlt) HBB.out hI.out)
        go_wp2_with fail
        refine BT.out.mono ?_
        rintro e w' ⟨rfl, hw⟩
        subst hw
        go_wp2_with fail
        go_ret
        exact ⟨rfl, rfl⟩
      | false =>
        have N : Hid (∀ j, j < i + 1 → Lib.occAt s.data.toList p.data.toList j = false) := fun j hj => by
          by_cases e : j = i
          · rw [e]; exact HBB.out
          · exact hI.out j (by omega)
        go_wp2_with fail
        refine BT.out.mono ?_
        rintro e w' ⟨rfl, hw⟩
        subst hw
        go_wp2_with fail
        go_roundw
        case rel => exact ⟨i + 1, by go_num, by omega, trivial, N⟩
        case measure => simp [intOf]; omega
    · obtain rfl : r = false := HR.out.symm.trans (contains_none (fun j hj => hI.out j (by rw [← Utf.size_eq] at hj; omega)))
      go_wp2_with fail
      go_ret
      exact ⟨rfl, rfl⟩
end Go.Proofs.YteifnddblnaepaaDoor
