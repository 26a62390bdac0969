/-
  What ParsePieces asks: two of the document's pieces compared; a list of pieces as it lies.
-/
import Derived.Test.YtmfhoindfhmncaaDoorSB
import Derived.Test.YtmfhoindfhmncaaDoorPC
import Derived.Laws.StructEq
namespace Go.Proofs.YtmfhoindfhmncaaDoor
open Go.RowKit Go.Proofs

theorem req_index (d : Nat) (k n k' n' : Int) (w : World) : (Op.equalIn (d + 2) 30 (.agg #[.int .i64 k, .int .i64 n]) (.agg #[.int .i64 k', .int .i64 n'])).run Tryd.prog w = .ok ((k == k') && (n == n')) w := by
  go_simp
  by_cases h1 : k = k' <;> by_cases h2 : n = n' <;> simp [h1, h2]
theorem req_num (d : Nat) (k n ak an k' n' ak' an' : Int) (w : World) : (Op.equalIn (d + 3) 32 (.agg #[.int .i64 k, .int .i64 n, .int .i64 ak, .int .i64 an]) (.agg #[.int .i64 k', .int .i64 n', .int .i64 ak', .int .i64 an'])).run Tryd.prog w = .ok (((k == k') && (n == n')) && ((ak == ak') && (an == an'))) w := by
  go_simp
  by_cases h1 : k = k' <;> by_cases h2 : n = n' <;> by_cases h3 : ak = ak' <;> by_cases h4 : an = an' <;> simp [h1, h2, h3, h4]
set_option maxRecDepth 100000 in
theorem req_piece_same (d : Nat) (p : PP.Pc) (t : ByteArray) (w : World) : (Op.equalIn (d + 4) 34 (.agg (pcV p t)) (.agg (pcV p t))).run Tryd.prog w = .ok true w := by
  have e1 := eq_spec (d + 1)
  have e2 := req_num d
  have e3 := req_index (d + 1)
  go_simp

theorem rguard_piece : Tryd.prog.eqGuardType Tryd.prog.depth 34 = false := by kernel_rfl
theorem req_piece (p : PP.Pc) (t : ByteArray) (w : World) : (Op.equalIn 10000 34 (.agg (pcV p t)) (.agg (pcV p t))).run Tryd.prog w = .ok true w := req_piece_same 9996 p t w
theorem cellsL_at : ∀ (L : List PP.Pc) (k : Nat) p, L[k]? = some p → ∀ (j : Nat) v, (pcV p (txt p.text))[j]? = some v → (cellsL L)[k * 20 + j]? = some v
  | [], k, p, h, _, _, _ => by simp at h
  | q :: L, 0, p, h, j, v, hv => by
    simp only [List.getElem?_cons_zero, Option.some.injEq] at h
    subst h
    unfold cellsL
    have hj : j < (pcV q (txt q.text)).size := by
      rcases Nat.lt_or_ge j (pcV q (txt q.text)).size with h | h
      · exact h
      · rw [Array.getElem?_eq_none h] at hv; cases hv
    rw [Nat.zero_mul, Nat.zero_add, List.getElem?_append_left (by simpa using hj), ← hv]
    simp
  | q :: L, k + 1, p, h, j, v, hv => by
    rw [List.getElem?_cons_succ] at h
    have := cellsL_at L k p h j v hv
    unfold cellsL
    rw [List.getElem?_append_right (by simp; omega), ← this]
    congr 1
    simp
    omega
/-- A list of pieces of either kind, as it lies. -/
theorem own_list {w : World} {B : Nat} {e : TypeId} {v : Value} {L : List PP.Pc} (h : w.ownsRow B e 20 v L.length (cellsL L)) :
    ∃ A cap, v = .slice A L.length cap ∧ (L ≠ [] → ∃ g, A = some ⟨g, 0, none⟩ ∧ g < w.heap.size ∧ ∀ (k : Nat) p, L[k]? = some p → ∀ (j : Nat) v, (pcV p (txt p.text))[j]? = some v → w.cell? ⟨g, k * 20 + j, none⟩ = some v) := by
  rcases h.2 with ⟨h0, h1⟩ | ⟨g, cap, cur, h1, h2, h3, h4, h5, h6, h7⟩
  · rw [h1]
    exact ⟨none, 0, h0, fun hn => absurd (List.eq_nil_of_length_eq_zero h1) hn⟩
  · refine ⟨_, cap, h1, fun _ => ⟨g, rfl, ?_, fun k p hp j v hv => ?_⟩⟩
    · rcases Nat.lt_or_ge g w.heap.size with q | q
      · exact q
      · rw [Array.getElem?_eq_none q] at h3; cases h3
    · have hu := cellsL_at L k p hp j v hv
      rw [cell_of_row w g _ cur e (0, 0) h3, ← Array.getElem?_toList]
      rw [← h7, List.getElem?_take] at hu
      split at hu
      · exact hu
      · cases hu
end Go.Proofs.YtmfhoindfhmncaaDoor
