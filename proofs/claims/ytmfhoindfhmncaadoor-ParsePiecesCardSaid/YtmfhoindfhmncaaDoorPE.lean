/-
  Two pieces compared: whole values of twenty cells, said once.
-/
import Derived.Test.YtmfhoindfhmncaaDoorPC
import Derived.Laws.StructEq
namespace Go.Proofs.YtmfhoindfhmncaaDoor
open Go.RowKit Go.Proofs

theorem eq_index (d : Nat) (k n k' n' : Int) (w : World) : (Op.equalIn (d + 2) 36 (.agg #[.int .i64 k, .int .i64 n]) (.agg #[.int .i64 k', .int .i64 n'])).run Tryd.prog w = .ok ((k == k') && (n == n')) w := by
  go_simp
  by_cases h1 : k = k' <;> by_cases h2 : n = n' <;> simp [h1, h2]
theorem eq_num (d : Nat) (k n ak an k' n' ak' an' : Int) (w : World) : (Op.equalIn (d + 3) 38 (.agg #[.int .i64 k, .int .i64 n, .int .i64 ak, .int .i64 an]) (.agg #[.int .i64 k', .int .i64 n', .int .i64 ak', .int .i64 an'])).run Tryd.prog w = .ok (((k == k') && (n == n')) && ((ak == ak') && (an == an'))) w := by
  go_simp
  by_cases h1 : k = k' <;> by_cases h2 : n = n' <;> by_cases h3 : ak = ak' <;> by_cases h4 : an = an' <;> simp [h1, h2, h3, h4]
theorem eq_spec (d : Nat) (a b c e f a' b' c' e' f' : Bool) (x y z x' y' z' : Int) (w : World) : (Op.equalIn (d + 2) 28 (.agg #[.bool a, .bool b, .bool c, .bool e, .bool f, .int .i64 x, .int .i64 y, .int .i32 z]) (.agg #[.bool a', .bool b', .bool c', .bool e', .bool f', .int .i64 x', .int .i64 y', .int .i32 z'])).run Tryd.prog w =
    .ok ((a == a') && (b == b') && (c == c') && (e == e') && (f == f') && (x == x') && (y == y') && (z == z')) w := by
  go_simp
  cases a <;> cases a' <;> simp <;> cases b <;> cases b' <;> simp <;> cases c <;> cases c' <;> simp <;> cases e <;> cases e' <;> simp <;> cases f <;> cases f' <;> simp <;>
    (by_cases h1 : x = x' <;> by_cases h2 : y = y' <;> by_cases h3 : z = z' <;> simp [h1, h2, h3])
set_option maxRecDepth 100000 in
theorem eq_piece_same (d : Nat) (p : PP.Pc) (t : ByteArray) (w : World) : (Op.equalIn (d + 4) 40 (.agg (pcV p t)) (.agg (pcV p t))).run Tryd.prog w = .ok true w := by
  have e1 := eq_spec (d + 1)
  have e2 := eq_num d
  have e3 := eq_index (d + 1)
  go_simp

theorem wpList_wantBuild {ops : Array Oper} {rest : List Oper} {o : Oper} {a : Act} {w : World} {Q : Exit → Act → World → Prop} (hw : Region.wanted o (yielded ops a.tmps) = true) (t : TypeId) (parts : Array (Nat × Operand)) (ho : o.op = .build t parts)
    (cells : Array Value) (hf : Tryd.prog.built t (parts.map fun (i, x) => (i, a.eval x)).toList = some cells) (h : wpList Tryd.prog ops Q rest (a.put o.dst (.agg cells)) w) : wpList Tryd.prog ops Q (o :: rest) a w :=
  wpList_step fun K hK => by
    rw [if_pos hw]
    refine wp_build t parts ho (by rw [hf]; rfl) ?_
    rw [hf]
    exact hK _ _ h
theorem wpList_wantLoad {ops : Array Oper} {rest : List Oper} {o : Oper} {a : Act} {w : World} {Q : Exit → Act → World → Prop} (hw : Region.wanted o (yielded ops a.tmps) = true) (ty : TypeId) (x : Operand) (ho : o.op = .load ty x)
    (b k : Nat) (hx : a.eval x = .pointer (some ⟨b, k, none⟩)) (cs : Array Value) (d : TypeDesc) (hc : w.rangeAt b k cs.toList)
    (hu : Tryd.prog.underlying ty = some d) (hd : d.isRow = true) (hi : (Tryd.prog.info? ty).map (·.size) = some cs.size) (h : wpList Tryd.prog ops Q rest (a.put o.dst (.agg cs)) w) : wpList Tryd.prog ops Q (o :: rest) a w :=
  wpList_step fun K hK => by
    rw [if_pos hw]
    refine wp_load_mid ty x ho b k hx cs.toList d hc hu hd (by simpa using hi) ?_
    exact hK _ _ h

/-- Two whole values compared ('=='), one operation of a region, asked for or not. -/
theorem wp_eqlAgg {o : Oper} {a : Act} {w : World} {K : Act → World → Prop} {Q : Exit → Act → World → Prop} (t : TypeId) (x y : Operand) (z : TypeId) (ho : o.op = .binOp .eql t x y z) (A B : Array Value) (hx : a.eval x = .agg A) (hy : a.eval y = .agg B)
    (hm : Tryd.prog.eqGuardType Tryd.prog.depth t = false) (r : Bool) (he : (Op.equalIn 10000 t (.agg A) (.agg B)).run Tryd.prog w = .ok r w) (h : K (a.put o.dst (.bool r)) w) : o.wp Tryd.prog a w K Q := by
  unfold Oper.wp execOp
  simp only [ho, hx, hy, Sem.run_bind, run_eqGuard_agg _ _ _ _ _ _ _ hm, run_eql_struct, he, Result.andThen_ok]
  exact h
theorem wp_neqAgg {o : Oper} {a : Act} {w : World} {K : Act → World → Prop} {Q : Exit → Act → World → Prop} (t : TypeId) (x y : Operand) (z : TypeId) (ho : o.op = .binOp .neq t x y z) (A B : Array Value) (hx : a.eval x = .agg A) (hy : a.eval y = .agg B)
    (hm : Tryd.prog.eqGuardType Tryd.prog.depth t = false) (r : Bool) (he : (Op.equalIn 10000 t (.agg A) (.agg B)).run Tryd.prog w = .ok r w) (h : K (a.put o.dst (.bool (!r))) w) : o.wp Tryd.prog a w K Q := by
  unfold Oper.wp execOp
  simp only [ho, hx, hy, Sem.run_bind, run_eqGuard_agg _ _ _ _ _ _ _ hm, run_neq_struct, he, Result.andThen_ok]
  exact h
theorem guard_piece : Tryd.prog.eqGuardType Tryd.prog.depth 40 = false := by kernel_rfl
theorem eq_piece (p : PP.Pc) (t : ByteArray) (w : World) : (Op.equalIn 10000 40 (.agg (pcV p t)) (.agg (pcV p t))).run Tryd.prog w = .ok true w := eq_piece_same 9996 p t w
theorem wpList_wantEql {ops : Array Oper} {rest : List Oper} {o : Oper} {a : Act} {w : World} {Q : Exit → Act → World → Prop} (hw : Region.wanted o (yielded ops a.tmps) = true) (x y : Operand) (z : TypeId) (ho : o.op = .binOp .eql 40 x y z)
    (p : PP.Pc) (t : ByteArray) (hx : a.eval x = .agg (pcV p t)) (hy : a.eval y = .agg (pcV p t)) (h : wpList Tryd.prog ops Q rest (a.put o.dst (.bool true)) w) : wpList Tryd.prog ops Q (o :: rest) a w :=
  wpList_step fun K hK => by
    rw [if_pos hw]
    exact wp_eqlAgg _ x y z ho _ _ hx hy guard_piece true (eq_piece p t w) (hK _ _ h)
end Go.Proofs.YtmfhoindfhmncaaDoor
