/-
  Walks of layer 9: a piece is put at a list's end.
-/
import Derived.Test.YtmfhoindfhmncaaDoorP9
import Derived.Laws.AppendOwn
namespace Go.Proofs.YtmfhoindfhmncaaDoor
open Go.RowKit Go.Proofs

theorem piece_zero : ((Tryd.prog.info? 40).bind (·.zero)) = some (.agg pc0) := by kernel_rfl
theorem piece_bytes : (Tryd.prog.info? 40).map (·.bytes) = some 136 := by kernel_rfl

theorem wpList_push {ops : Array Oper} {rest : List Oper} {ob oa : Oper} {a : Act} {w : World} {Q : Exit → Act → World → Prop} (hgb : ob.guard = none) (hga : oa.guard = none) (x y : Operand) (b : Tmp)
    (hob : ob.op = .buildSlice 23 1 #[(0, x)]) (hdb : ob.dst = some b) (hoa : oa.op = .call { callee := .builtin .append, args := #[y, .tmp b], argTypes := #[23, 23] })
    (CS : Array Value) (hx : a.eval x = .agg CS) (hCS : CS.size = 20) (h1 : CS.all (·.oneCell') = true)
    (hf : Instr.fill (fun i => some (i * 20, 20)) ((Array.range (1 * 20)).map (pc0[· % pc0.size]!)) [(0, .agg CS)] = some CS)
    (B : Nat) (v : Value) (n : Nat) (xs : List Value) (sl : Value) (hsl : sl = .slice (some ⟨w.heap.size, 0, none⟩) 1 1) (hy : (a.put (some b) sl).eval y = v) (hbt : (a.put (some b) sl).eval (.tmp b) = sl) (hown : w.ownsRow B 40 20 v n xs) (hB : B ≤ w.heap.size) (hn : n ≤ 100000)
    (h : ∀ v' w', w'.ownsRow B 40 20 v' (n + 1) (xs ++ CS.toList) → Below B w w' → wpList Tryd.prog ops Q rest ((a.put (some b) sl).put oa.dst v') w') : wpList Tryd.prog ops Q (ob :: oa :: rest) a w := by
  have hz := piece_zero
  have hb := piece_bytes
  have hs := piece_size
  cases hie : Tryd.prog.info? 40 with
  | none => simp [hie] at hs
  | some ie =>
    rw [hie] at hz hb hs
    simp only [Option.bind_some, Option.map_some, Option.some.injEq] at hz hb hs
    refine wpList_buildSlice hgb 23 40 1 #[(0, x)] hob CS ie (.agg pc0) Tryd.underlying23 hie hz (by rw [hs]; decide) (by rw [hs]; decide) ?_ ?_
    · rw [hs]
      simp only [List.map_toArray, List.map_cons, List.map_nil, hx]
      exact hf
    · rw [hdb, ← hsl]
      have hown1 : (w.alloc (.cells CS 40)).ownsRow B 40 20 v n xs := by
        refine ⟨hown.1, ?_⟩
        rcases hown.2 with h0 | ⟨g, cap, cur, h1, h2, h3, h4⟩
        · exact Or.inl h0
        · exact Or.inr ⟨g, cap, cur, h1, h2, (Below.heap_alloc w _ g (by
            rcases Nat.lt_or_ge g w.heap.size with q | q
            · exact q
            · rw [Array.getElem?_eq_none q] at h3; cases h3)).trans h3, h4⟩
      refine wpList_append_own (P := Tryd.prog) (w := w.alloc (.cells CS 40)) hga y (.tmp b) 23 hoa B 40 ie (.agg pc0) 20 136 Tryd.underlying23 hie hz hs hb rfl (by decide) v n xs hy hown1 ⟨w.heap.size, 0, none⟩ 1 1 CS.toList (by rw [hbt, hsl]) (by simpa using hCS) ?_ ?_ (by unfold maxLen; omega) (by omega) (by simp; omega) ?_
      · intro j u hu
        rw [Addr.add_mid, Nat.zero_add, (Blk.new w CS 40).cell]
        simpa using hu
      · exact fun u hu => (Array.all_eq_true_iff_forall_mem.1 h1) u (by simpa using hu)
      · intro v' w' h2 h3 _
        refine h v' w' h2 (Below.grown ((Below.refl B w).alloc hB _) h3 (by simp; omega) ?_)
        intro k hk
        rcases hown.2 with h0 | ⟨g, cap, cur, e1, e2, _⟩
        · rw [h0.1] at hk; simp [Value.ownBlock] at hk
        · rw [e1] at hk
          simp [Value.ownBlock] at hk
          omega
end Go.Proofs.YtmfhoindfhmncaaDoor
