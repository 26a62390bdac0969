/-
  Walks of layer 10: rows of three cells put to a list.
-/
import Derived.Test.YteifnddblnaepaaDoorD14
namespace Go.Proofs.YteifnddblnaepaaDoor
open Go.RowKit Go.Proofs

theorem info_row : (Tryd.prog.info? 41).map (fun i => (i.zero, i.size, i.bytes)) = some (some (.agg #[.string ⟨#[]⟩, .int .i64 0, .string ⟨#[]⟩]), 3, 40) := by kernel_rfl
theorem wpList_push3 {ops : Array Oper} {rest : List Oper} {ob oa : Oper} {a : Act} {w : World} {Q : Exit → Act → World → Prop} (hgb : ob.guard = none) (hga : oa.guard = none) (x y : Operand) (b : Tmp)
    (hob : ob.op = .buildSlice 42 1 #[(0, x)]) (hdb : ob.dst = some b) (hoa : oa.op = .call { callee := .builtin .append, args := #[y, .tmp b], argTypes := #[42, 42] })
    (t J : ByteArray) (k : Int) (hx : a.eval x = .agg #[.string t, .int .i64 k, .string J])
    (B : Nat) (v : Value) (n : Nat) (xs : List Value) (sl : Value) (hsl : sl = .slice (some ⟨w.heap.size, 0, none⟩) 1 1) (hy : (a.put (some b) sl).eval y = v) (hbt : (a.put (some b) sl).eval (.tmp b) = sl) (hown : w.ownsRow B 41 3 v n xs) (hB : B ≤ w.heap.size) (hn : n ≤ 100000)
    (h : ∀ v' w', w'.ownsRow B 41 3 v' (n + 1) (xs ++ [.string t, .int .i64 k, .string J]) → Below B w w' → wpList Tryd.prog ops Q rest ((a.put (some b) sl).put oa.dst v') w') : wpList Tryd.prog ops Q (ob :: oa :: rest) a w := by
  obtain ⟨i0, hi, hz0, hz1, hz2⟩ := info_partsS info_row
  refine wpList_buildSlice hgb 42 41 1 #[(0, x)] hob #[.string t, .int .i64 k, .string J] i0 (.agg #[.string ⟨#[]⟩, .int .i64 0, .string ⟨#[]⟩]) Tryd.underlying42 hi hz0 (by rw [hz1]; decide) (by rw [hz1]; decide) ?_ ?_
  · rw [hz1]
    simp only [List.map_toArray, List.map_cons, List.map_nil, hx]
    kernel_rfl
  · rw [hdb, ← hsl]
    have hown1 : (w.alloc (.cells #[.string t, .int .i64 k, .string J] 41)).ownsRow B 41 3 v n xs := hown.alloc _
    refine wpList_append_own (P := Tryd.prog) (w := w.alloc (.cells #[.string t, .int .i64 k, .string J] 41)) hga y (.tmp b) 42 hoa B 41 i0 (.agg #[.string ⟨#[]⟩, .int .i64 0, .string ⟨#[]⟩]) 3 40 Tryd.underlying42 hi hz0 hz1 hz2 rfl (by decide) v n xs hy hown1 ⟨w.heap.size, 0, none⟩ 1 1 [.string t, .int .i64 k, .string J] (by rw [hbt, hsl]) rfl ?_ ?_ (by unfold maxLen; omega) (by omega) (by simp; omega) ?_
    · intro j u hu
      rw [Addr.add_mid, Nat.zero_add, (Blk.new w #[.string t, .int .i64 k, .string J] 41).cell]
      simpa using hu
    · intro u hu
      simp only [List.mem_cons, List.not_mem_nil, or_false] at hu
      rcases hu with rfl | rfl | rfl <;> rfl
    · intro v' w' h2 h3 _
      refine h v' w' h2 (Below.grown ((Below.refl B w).alloc hB _) h3 (by simp; omega) ?_)
      intro kk hk
      rcases hown.2 with ⟨rfl, _⟩ | ⟨g', cap, cur, rfl, h2, _⟩
      · cases hk
      · simp only [Value.ownBlock, Option.some.injEq] at hk
        omega
/-- The rows' list: each text is read as its row says. -/
def RowsOk (w wn : World) (v : Value) (V : Int) : Prop :=
  ∃ g n cap, v = .slice (some ⟨g, 0, none⟩) n cap ∧ n ≤ 5 ∧ g < wn.heap.size ∧ Below w.heap.size w wn ∧
    ∀ i, i < n → ∃ (T J : ByteArray) (k : Int), wn.cell? ⟨g, i * 3, none⟩ = some (.string T) ∧ wn.cell? ⟨g, i * 3 + 1, none⟩ = some (.int .i64 k) ∧ wn.cell? ⟨g, i * 3 + 2, none⟩ = some (.string J) ∧
      T.size ≤ 100000 ∧ readV T.data.toList = .tuple #[.int .i64 k, .int .i32 V, .string J]
/-- A row that is read as it says. -/
def Rd3 (V : Int) (T J : ByteArray) (k : Int) : Prop := T.size ≤ 100000 ∧ readV T.data.toList = .tuple #[.int .i64 k, .int .i32 V, .string J]
theorem rows_own {w wn : World} {v : Value} {V : Int} {n : Nat} (L : List (ByteArray × Int × ByteArray)) (hL : ∀ r ∈ L, Rd3 V r.1 r.2.2 r.2.1) (hn : L.length = n) (h5 : n ≤ 5) (h0 : 0 < n)
    (h : wn.ownsRow w.heap.size 41 3 v n (L.flatMap fun r => [.string r.1, .int .i64 r.2.1, .string r.2.2])) (hb : Below w.heap.size w wn) : RowsOk w wn v V := by
  rcases h.2 with ⟨_, h1⟩ | ⟨g, cap, cur, e1, e2, e3, e4⟩
  · omega
  · have hc : ∀ (j : Nat) (u : Value), (L.flatMap fun r => [Value.string r.1, .int .i64 r.2.1, .string r.2.2])[j]? = some u → wn.cell? ⟨g, j, none⟩ = some u := by
      intro j u hu
      have := h.cells (g := g) (by rw [e1]; rfl) j u hu
      rw [Addr.add_mid, Nat.zero_add] at this
      exact this
    refine ⟨g, n, cap, e1, h5, ?_, hb, fun i hi => ?_⟩
    · rcases Nat.lt_or_ge g wn.heap.size with q | q
      · exact q
      · rw [Array.getElem?_eq_none q] at e3; cases e3
    · obtain ⟨r, hr⟩ : ∃ r, L[i]? = some r := ⟨_, List.getElem?_eq_getElem (by omega)⟩
      have key : ∀ (L : List (ByteArray × Int × ByteArray)) (i : Nat), L[i]? = some r →
          (L.flatMap fun r => [Value.string r.1, .int .i64 r.2.1, .string r.2.2])[i * 3]? = some (.string r.1) ∧ (L.flatMap fun r => [Value.string r.1, .int .i64 r.2.1, .string r.2.2])[i * 3 + 1]? = some (.int .i64 r.2.1) ∧ (L.flatMap fun r => [Value.string r.1, .int .i64 r.2.1, .string r.2.2])[i * 3 + 2]? = some (.string r.2.2) := by
        intro L
        induction L with
        | nil => intro i hi; simp at hi
        | cons q L ih =>
          intro i hi
          cases i with
          | zero =>
            simp only [List.getElem?_cons_zero, Option.some.injEq] at hi
            subst hi
            exact ⟨rfl, rfl, rfl⟩
          | succ i =>
            rw [List.getElem?_cons_succ] at hi
            obtain ⟨k1, k2, k3⟩ := ih i hi
            rw [List.flatMap_cons, show (i + 1) * 3 = i * 3 + 3 by omega]
            exact ⟨k1, k2, k3⟩
      obtain ⟨k1, k2, k3⟩ := key L i hr
      have hm := hL r (List.mem_of_getElem? hr)
      exact ⟨r.1, r.2.2, r.2.1, hc _ _ k1, hc _ _ k2, hc _ _ k3, hm.1, hm.2⟩
end Go.Proofs.YteifnddblnaepaaDoor
