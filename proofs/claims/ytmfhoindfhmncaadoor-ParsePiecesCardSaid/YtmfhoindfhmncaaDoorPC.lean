/-
  Walks of layer 9: a list of pieces read; the law's own helpers.
-/
import Derived.Test.YtmfhoindfhmncaaDoorPB
namespace Go.Proofs.YtmfhoindfhmncaaDoor
open Go.RowKit Go.Proofs

theorem own_open {w : World} {B n : Nat} {v : Value} {xs : List Value} (h : w.ownsRow B 40 20 v n xs) (hn : 0 < n) :
    ∃ g cap, v = .slice (some ⟨g, 0, none⟩) n cap ∧ B ≤ g ∧ g < w.heap.size ∧ n ≤ cap ∧ cap ≤ maxLen ∧ ∀ j u, xs[j]? = some u → w.cell? ⟨g, j, none⟩ = some u := by
  rcases h.2 with h0 | ⟨g, cap, cur, h1, h2, h3, h4, h5, h6, h7⟩
  · omega
  · refine ⟨g, cap, h1, h2, ?_, h4, h5, fun j u hu => ?_⟩
    · rcases Nat.lt_or_ge g w.heap.size with q | q
      · exact q
      · rw [Array.getElem?_eq_none q] at h3; cases h3
    · rw [cell_of_row w g j cur 40 (0, 0) h3, ← Array.getElem?_toList]
      rw [← h7, List.getElem?_take] at hu
      split at hu
      · exact hu
      · cases hu
theorem cut_any (s : ByteArray) (w : World) (hs : s.size ≤ 140737488355328) : Calls Tryd.prog 10 #[.string s] w fun e w' => e = .returned (.string (s.extract 0 2000)) ∧ w' = w := by
  by_cases h : 2000 < s.size
  · obtain ⟨d, hd⟩ : ∃ d, s.extract 0 2000 = d := ⟨_, rfl⟩
    rw [hd]
    go_enter Tryd.func10, Tryd.ntmps10
    go_wp2_with fail
    go_ret
    exact ⟨rfl, rfl⟩
  · have hd : s.extract 0 2000 = s := bytes_ext (by rw [ext_take, List.take_of_length_le (by rw [← Utf.size_eq]; omega)])
    rw [hd]
    go_enter Tryd.func10, Tryd.ntmps10
    go_wp2_with fail
    go_ret
    exact ⟨rfl, rfl⟩
end Go.Proofs.YtmfhoindfhmncaaDoor
