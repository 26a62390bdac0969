/-
  PLAIN LEAN: which index is the verb's: as the document says it (the indices that no star takes; whether something stands behind one of them), and as the program carries it.
-/
import Derived.Test.YtmfhoindfhmncaaDoorPP
namespace Go.Proofs.YtmfhoindfhmncaaDoor.PP

/-- The document's answer: of the indices that no star takes, and whether one of them is wrong. -/
def argOf (L : List Ix) (wr : Bool) : Ix := if L.length > 1 ∨ wr = true then ⟨2, 0⟩ else L.headD ⟨0, 0⟩
/-- An index put to the list, if there is one. -/
def put1 (L : List Ix) (th : Bool) (x : Ix) : List Ix := if th then L ++ [x] else L
/-- All that is in the list is there. -/
def Real (L : List Ix) : Prop := ∀ x ∈ L, x.k ≠ 0
theorem real_nil : Real [] := fun _ h => by simp at h
theorem real_put {L : List Ix} {th : Bool} {x : Ix} (h : Real L) (hx : th = true → x.k ≠ 0) : Real (put1 L th x) := by
  unfold put1
  split
  · rename_i ht
    intro y hy
    rcases List.mem_append.1 hy with hy | hy
    · exact h y hy
    · rw [List.mem_singleton] at hy; rw [hy]; exact hx ht
  · exact h
theorem argOf_nil : argOf [] false = ⟨0, 0⟩ := rfl
theorem argOf_wrong (L : List Ix) : argOf L true = ⟨2, 0⟩ := by
  unfold argOf
  rw [if_pos (Or.inr rfl)]
theorem argOf_put {L : List Ix} {wr th : Bool} {x : Ix} (h : Real L) (hx : th = decide (x.k ≠ 0)) : argOf (put1 L th x) wr = andI (argOf L wr) x := by
  unfold put1 andI
  by_cases h0 : x.k = 0
  · rw [if_pos h0, hx, if_neg (by simp [h0])]
  · rw [if_neg h0, hx, if_pos (by simp [h0])]
    cases wr
    · match L, h with
      | [], _ => rfl
      | [y], h =>
        have hy := h y List.mem_cons_self
        show argOf [y, x] false = if (argOf [y] false).k = 0 then x else ⟨2, 0⟩
        rw [show argOf [y] false = y from rfl, if_neg hy]
        rfl
      | y :: z :: t, h =>
        have e : argOf (y :: z :: t) false = ⟨2, 0⟩ := by unfold argOf; rw [if_pos (Or.inl (by simp))]
        rw [e]
        unfold argOf
        rw [if_pos (Or.inl (by simp))]
        rfl
    · rw [argOf_wrong, argOf_wrong]
      rfl
/-- Something stands behind the list's last. -/
theorem argOf_spoil {L : List Ix} {wr : Bool} (h : Real L) (hw : wr = true → L ≠ []) : argOf L (wr || !L.isEmpty) = spoil (argOf L wr) := by
  unfold spoil
  match L, h, hw with
  | [], _, hw =>
    cases wr
    · rfl
    · exact absurd rfl (hw rfl)
  | [y], h, _ =>
    have hy := h y List.mem_cons_self
    cases wr
    · show argOf [y] true = if (argOf [y] false).k = 0 then argOf [y] false else ⟨2, 0⟩
      rw [show argOf [y] false = y from rfl, if_neg hy, argOf_wrong]
    · show argOf [y] true = _
      rw [argOf_wrong]; rfl
  | y :: z :: t, _, _ =>
    have e : argOf (y :: z :: t) wr = ⟨2, 0⟩ := by unfold argOf; rw [if_pos (Or.inl (by simp))]
    rw [e]
    unfold argOf
    rw [if_pos (Or.inl (by simp))]
    rfl
theorem ixL_zero (l : List UInt8) (h : (ixL l).1.k = 0) : (ixL l).1 = ⟨0, 0⟩ := by
  unfold ixL at h ⊢
  split at h
  · rfl
  · split at h
    · rename_i ha
      split at h
      · exact absurd h (by simp)
      · split at h
        · exact absurd h (by simp)
        · split at h
          · split at h
            · exact absurd h (by simp)
            · exact absurd h (by simp)
          · exact absurd h (by simp)
    · rename_i ha
      simp only [if_neg ha]
end Go.Proofs.YtmfhoindfhmncaaDoor.PP
