/-
  An argument that is a slice of texts, opened: nil, empty or not.
-/
import Derived.Test.YteifnddblnaepaaDoorFrame
import Derived.Test.YteifnddblnaepaaDoorD7
import Derived.SliceStrings
namespace Go.Proofs.YteifnddblnaepaaDoor
open Go.ChangeShapes Go.WideShapes Go.ChangeAt Go.RowKit Go.Lib Go.Proofs

theorem oneStr : Tryd.prog.cellsOf 9 = 1 := by kernel_rfl
theorem open_strs {H : Type} {enc : TypeId × Value → H} {w : World} {base : Nat} {spare : Nat → Bool} {held : Bool} {r : Reach} {b0 : Nat} {v : Value} {d : DataW H} {p : List MemPlace}
    (hv : Value.okWide Tryd.prog w r b0 22 v) (h : DataW.Trod enc Tryd.prog w base spare held 22 v d p) :
    ∃ xs : List ByteArray, SLo w v xs ∧ xs.length ≤ 9223372036854775807 := by
  obtain ⟨A, len, cap, rfl⟩ := okWide_slice Tryd.underlying22 hv
  obtain ⟨fuel, hf⟩ := h
  rcases open_strings Tryd.underlying22 Tryd.underlying9 oneStr hf with ⟨hcs, _⟩ | ⟨a, len', cap', ss, hcs, _, hl, hm, hz, _, hcell, _⟩
  · simp [Value.cells] at hcs
    obtain ⟨rfl, rfl, rfl⟩ := hcs
    exact ⟨[], ⟨none, 0, rfl, fun j x hx => by simp at hx⟩, by simp⟩
  · simp [Value.cells] at hcs
    obtain ⟨rfl, rfl, rfl⟩ := hcs
    have hzl : len ≤ ss.length := by
      rw [hz]; split <;> omega
    unfold maxLen at hm
    refine ⟨ss.take len, ⟨some a, cap, by rw [List.length_take, Nat.min_eq_left hzl], fun j x hx => ?_⟩, by rw [List.length_take]; omega⟩
    obtain ⟨b, off, spot⟩ := a
    have hjl : j < len ∧ ss[j]? = some x := by
      rw [List.getElem?_take] at hx
      split at hx
      · exact ⟨by assumption, hx⟩
      · cases hx
    have hj2 : j < ss.length := by omega
    have hc := hcell j hj2
    have hspot : spot = none := by simpa [Addr.add] using World.cell?_spot (hcell 0 (by omega))
    subst hspot
    have e : ss.getD j ByteArray.empty = x := by
      rw [List.getD_eq_getElem?_getD, hjl.2]; rfl
    rw [e, Go.WideShapes.add_plain] at hc
    exact ⟨b, off, rfl, World.block_lt_of_cell? w _ hc, hc⟩
end Go.Proofs.YteifnddblnaepaaDoor
