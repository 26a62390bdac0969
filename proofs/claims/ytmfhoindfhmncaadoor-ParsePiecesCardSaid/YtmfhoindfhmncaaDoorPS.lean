/-
  Regions whose operations only read, but for a call at the end: whole values read, built and compared in them. A list of one piece, as a block.
-/
import Derived.Test.YtmfhoindfhmncaaDoorPE
import Derived.StillTailTactics
namespace Go.Proofs.YtmfhoindfhmncaaDoor
open Go.RowKit Go.Proofs

theorem wpStill_wantLoad {ops : Array Oper} {rest : List Oper} {o : Oper} {a : Act} {w : World} {Q : Act → Prop} (hw : Region.wanted o (yielded ops a.tmps) = true) (ty : TypeId) (x : Operand) (ho : o.op = .load ty x)
    (b k : Nat) (hx : a.eval x = .pointer (some ⟨b, k, none⟩)) (cs : Array Value) (d : TypeDesc) (hc : w.rangeAt b k cs.toList)
    (hu : Tryd.prog.underlying ty = some d) (hd : d.isRow = true) (hi : (Tryd.prog.info? ty).map (·.size) = some cs.size) (h : wpStill Tryd.prog ops w Q rest (a.put o.dst (.agg cs))) : wpStill Tryd.prog ops w Q (o :: rest) a :=
  wpStill_step fun K hK => by
    rw [if_pos hw]
    have hr : (Instr.loadAt ty (.pointer (some ⟨b, k, none⟩))).run Tryd.prog w = .ok (.agg cs) w := by
      have := run_loadAt_mid (P := Tryd.prog) w b k ty cs.toList d hc hu hd (by simpa using hi)
      simpa using this
    unfold Oper.still execOp
    simp only [ho, hx, Sem.run_bind, hr, Result.andThen_ok]
    exact ⟨rfl, hK _ h⟩
theorem wpStill_wantBuild {ops : Array Oper} {rest : List Oper} {o : Oper} {a : Act} {w : World} {Q : Act → Prop} (hw : Region.wanted o (yielded ops a.tmps) = true) (t : TypeId) (parts : Array (Nat × Operand)) (ho : o.op = .build t parts)
    (cells : Array Value) (hf : Tryd.prog.built t (parts.map fun (i, x) => (i, a.eval x)).toList = some cells) (h : wpStill Tryd.prog ops w Q rest (a.put o.dst (.agg cells))) : wpStill Tryd.prog ops w Q (o :: rest) a :=
  wpStill_step fun K hK => by
    rw [if_pos hw]
    unfold Oper.still execOp
    simp only [ho, Sem.run_bind, run_build w _ _ _ hf, Result.andThen_ok]
    exact ⟨rfl, hK _ h⟩
theorem wpStill_wantEql {ops : Array Oper} {rest : List Oper} {o : Oper} {a : Act} {w : World} {Q : Act → Prop} (hw : Region.wanted o (yielded ops a.tmps) = true) (t : TypeId) (x y : Operand) (z : TypeId) (ho : o.op = .binOp .eql t x y z)
    (A B : Array Value) (hx : a.eval x = .agg A) (hy : a.eval y = .agg B) (hm : Tryd.prog.eqGuardType Tryd.prog.depth t = false) (r : Bool) (he : (Op.equalIn 10000 t (.agg A) (.agg B)).run Tryd.prog w = .ok r w)
    (h : wpStill Tryd.prog ops w Q rest (a.put o.dst (.bool r))) : wpStill Tryd.prog ops w Q (o :: rest) a :=
  wpStill_step fun K hK => by
    rw [if_pos hw]
    unfold Oper.still execOp
    simp only [ho, hx, hy, Sem.run_bind, run_eqGuard_agg _ _ _ _ _ _ _ hm, run_eql_struct, he, Result.andThen_ok]
    exact ⟨rfl, hK _ h⟩
theorem guard_spec : Tryd.prog.eqGuardType Tryd.prog.depth 28 = false := by kernel_rfl
theorem guard_num : Tryd.prog.eqGuardType Tryd.prog.depth 38 = false := by kernel_rfl
theorem guard_index : Tryd.prog.eqGuardType Tryd.prog.depth 36 = false := by kernel_rfl
theorem spec_size : (Tryd.prog.info? 28).map (·.size) = some 8 := by kernel_rfl
theorem num_size : (Tryd.prog.info? 38).map (·.size) = some 4 := by kernel_rfl
theorem index_size : (Tryd.prog.info? 36).map (·.size) = some 2 := by kernel_rfl
theorem eq_spec_same (a b c e f : Bool) (x y z : Int) (w : World) : (Op.equalIn 10000 28 (.agg #[.bool a, .bool b, .bool c, .bool e, .bool f, .int .i64 x, .int .i64 y, .int .i32 z]) (.agg #[.bool a, .bool b, .bool c, .bool e, .bool f, .int .i64 x, .int .i64 y, .int .i32 z])).run Tryd.prog w = .ok true w := by
  have := eq_spec 9998 a b c e f a b c e f x y z x y z w
  simpa using this
theorem eq_num_same (k n ak an : Int) (w : World) : (Op.equalIn 10000 38 (.agg #[.int .i64 k, .int .i64 n, .int .i64 ak, .int .i64 an]) (.agg #[.int .i64 k, .int .i64 n, .int .i64 ak, .int .i64 an])).run Tryd.prog w = .ok true w := by
  have := eq_num 9997 k n ak an k n ak an w
  simpa using this
theorem eq_index_same (k n : Int) (w : World) : (Op.equalIn 10000 36 (.agg #[.int .i64 k, .int .i64 n]) (.agg #[.int .i64 k, .int .i64 n])).run Tryd.prog w = .ok true w := by
  have := eq_index 9998 k n k n w
  simpa using this

/-- A list that the call made, as a block. -/
theorem own_blk {w : World} {B n : Nat} {v : Value} {xs : List Value} (h : w.ownsRow B 40 20 v n xs) (hn : 0 < n) :
    ∃ g cap cur, v = .slice (some ⟨g, 0, none⟩) n cap ∧ B ≤ g ∧ g < w.heap.size ∧ n ≤ cap ∧ cap ≤ maxLen ∧ Blk w g cur 40 ∧ ∀ (j : Nat) u, xs[j]? = some u → cur[j]? = some u := by
  rcases h.2 with h0 | ⟨g, cap, cur, h1, h2, h3, h4, h5, h6, h7⟩
  · omega
  · refine ⟨g, cap, cur, h1, h2, ?_, h4, h5, h3, fun j u hu => ?_⟩
    · rcases Nat.lt_or_ge g w.heap.size with q | q
      · exact q
      · rw [Array.getElem?_eq_none q] at h3; cases h3
    · rw [← Array.getElem?_toList]
      rw [← h7, List.getElem?_take] at hu
      split at hu
      · exact hu
      · cases hu
theorem sub_get (A : Array Value) (k n : Nat) (cs : List Value) (h : (A.toList.drop k).take n = cs) (j : Nat) (v : Value) (hv : cs[j]? = some v) : A[k + j]? = some v := by
  rw [← h, List.getElem?_take] at hv
  split at hv
  · rw [List.getElem?_drop] at hv
    rw [← Array.getElem?_toList]; exact hv
  · cases hv
theorem run_eq_piece (p : PP.Pc) (t : ByteArray) (A B : Array Value) (hA : A = pcV p t) (hB : B = pcV p t) (w : World) : (Op.equalIn 10000 40 (.agg A) (.agg B)).run Tryd.prog w = .ok true w := by
  rw [hA, hB]; exact eq_piece p t w
end Go.Proofs.YtmfhoindfhmncaaDoor
