/-
  Texts of this claim, joined: Ints.
-/
import Derived.Test.YtdjhmanccoekjaaGreatDoorN1

section
namespace Go.Proofs.YtdjhmanccoekjaaGreatDoor
open Go.ChangeShapes Go.WideShapes Go.ChangeAt Go.RowKit Go.Lib Go.Proofs

theorem oneInt : Tryz.prog.cellsOf 3 = 1 := by kernel_rfl
set_option maxRecDepth 100000 in
theorem open_ints_any {H : Type} {enc : TypeId × Value → H} {w : World} {base : Nat} {spare : Nat → Bool} {held : Bool} {r : Reach} {b0 : Nat} {v : Value} {d : DataW H} {p : List MemPlace}
    (hv : Value.okWide Tryz.prog w r b0 40 v) (h : DataW.Trod enc Tryz.prog w base spare held 40 v d p) :
    ∃ (A : Option Addr) (len cap : Nat) (z : Nat → Int), v = .slice A len cap ∧ len ≤ 9223372036854775807 ∧
      (0 < len → ∃ cb off, A = some ⟨cb, off, none⟩ ∧ cb < w.heap.size ∧ ∀ j, j < len → w.cell? ⟨cb, off + j, none⟩ = some (.int .i64 (z j))) ∧
      (∀ j, j < len → -9223372036854775808 ≤ z j ∧ z j ≤ 9223372036854775807) := by
  obtain ⟨A, len, cap, rfl⟩ := okWide_slice Tryz.underlying40 hv
  obtain ⟨fuel, hf⟩ := h
  rcases open_ints Tryz.underlying40 Tryz.underlying3 oneInt hf with ⟨hcs, _⟩ | ⟨a, len', cap', zs, hcs, _, hl, hm, hz, _, hcell, hwz⟩
  · simp [Value.cells] at hcs
    obtain ⟨rfl, rfl, rfl⟩ := hcs
    exact ⟨none, 0, 0, fun _ => 0, rfl, by omega, fun h => absurd h (by omega), fun j hj => absurd hj (by omega)⟩
  · simp [Value.cells] at hcs
    obtain ⟨rfl, rfl, rfl⟩ := hcs
    have hzl : len ≤ zs.length := by
      rw [hz]; split <;> omega
    unfold maxLen at hm
    refine ⟨some a, len, cap, fun j => zs.getD j 0, rfl, by omega, fun hp => ?_, fun j hj => ?_⟩
    · obtain ⟨b, off, rfl, hc⟩ := ints_at hcell (by omega)
      exact ⟨b, off, rfl, World.block_lt_of_cell? w _ (hc 0 (by omega)), fun j hj => hc j (by omega)⟩
    · have hj' : j < zs.length := by omega
      have hw := hwz zs[j] (List.getElem_mem hj')
      have e : zs.getD j 0 = zs[j] := by simp [List.getD, List.getElem?_eq_getElem hj']
      simp only [e]
      simpa [Lit.wf, IntKind.min, IntKind.max, IntKind.signed, IntKind.bits] using hw
end Go.Proofs.YtdjhmanccoekjaaGreatDoor
end
