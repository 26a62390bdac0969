/-
  A map of three numbers, made and asked: as equations on the operations' runs.
-/
import Derived.Test.YtfbekjgbijlcaaaDoorQS
import Derived.Carry
import Derived.MapKept
namespace Go.Proofs.YtfbekjgbijlcaaaDoor
open Go.RowKit Go.Proofs Go.MapKept

theorem ins_run (W : World) (es : Array MapEntry) (c : Nat) (k v : Int) (h : Instr.findNow (.int .u8) (.int .u8 k) es.toList 0 = some none) :
    (Instr.mapUpdate 63 (.map (some W.heap.size)) (.int .u8 k) (.int .i64 v)).run Tryd.prog (W.alloc (.map es c)) = .ok () (W.alloc (.map (es.push { key := .int .u8 k, val := .int .i64 v, born := c }) (c + 1))) := by
  have hg : (W.alloc (.map es c)).heap[W.heap.size]? = some (.map es c) := heap_alloc_new W _
  have hk : IsKey (.int .u8) (.int .u8 k) := by simp [IsKey]
  simp [Instr.mapUpdate, run_underlying Tryd.underlying63, Go.MapKept.run_getObj_map hg, Go.MapKept.run_checkKey Tryd.underlying5 hk, Go.MapKept.run_findKey Tryd.underlying5 h, Go.MapKept.run_setObj_map _ hg, Result.andThen]
  simp only [World.alloc]
  congr 1
  apply Array.ext'
  simp [Array.setIfInBounds, Array.toList_push]
theorem look_run (W : World) (es : Array MapEntry) (c : Nat) (k : Int) (v : Value) (i : Nat) (h : Instr.findNow (.int .u8) (.int .u8 k) es.toList 0 = some (some (i, v))) :
    (Instr.lookup 63 (.map (some W.heap.size)) (.int .u8 k) false).run Tryd.prog (W.alloc (.map es c)) = .ok v (W.alloc (.map es c)) := by
  have hg : (W.alloc (.map es c)).heap[W.heap.size]? = some (.map es c) := heap_alloc_new W _
  have hk : IsKey (.int .u8) (.int .u8 k) := by simp [IsKey]
  simp [Instr.lookup, run_underlying Tryd.underlying63, Go.MapKept.run_getObj_map hg, Go.MapKept.run_checkKey Tryd.underlying5 hk, Go.MapKept.run_findKey Tryd.underlying5 h, Result.andThen]
theorem look_none (W : World) (es : Array MapEntry) (c : Nat) (k : Int) (h : Instr.findNow (.int .u8) (.int .u8 k) es.toList 0 = some none) :
    (Instr.lookup 63 (.map (some W.heap.size)) (.int .u8 k) false).run Tryd.prog (W.alloc (.map es c)) = .ok (.int .i64 0) (W.alloc (.map es c)) := by
  have hg : (W.alloc (.map es c)).heap[W.heap.size]? = some (.map es c) := heap_alloc_new W _
  have hk : IsKey (.int .u8) (.int .u8 k) := by simp [IsKey]
  have z3 := Tryd.zeroValue3
  simp [Instr.lookup, run_underlying Tryd.underlying63, Go.MapKept.run_getObj_map hg, Go.MapKept.run_checkKey Tryd.underlying5 hk, Go.MapKept.run_findKey Tryd.underlying5 h, z3, Result.andThen]
/-- The map of the escapes' lengths, in the making. -/
abbrev em1 : Array MapEntry := #[{ key := .int .u8 120, val := .int .i64 2, born := 0 }]
abbrev em2 : Array MapEntry := #[{ key := .int .u8 120, val := .int .i64 2, born := 0 }, { key := .int .u8 117, val := .int .i64 4, born := 1 }]
abbrev em3 : Array MapEntry := #[{ key := .int .u8 120, val := .int .i64 2, born := 0 }, { key := .int .u8 117, val := .int .i64 4, born := 1 }, { key := .int .u8 85, val := .int .i64 8, born := 2 }]
theorem ins1 (W : World) : (Instr.mapUpdate 63 (.map (some W.heap.size)) (.int .u8 120) (.int .i64 2)).run Tryd.prog (W.alloc (.map #[] 0)) = .ok () (W.alloc (.map em1 1)) := ins_run W #[] 0 120 2 rfl
theorem ins2 (W : World) : (Instr.mapUpdate 63 (.map (some W.heap.size)) (.int .u8 117) (.int .i64 4)).run Tryd.prog (W.alloc (.map em1 1)) = .ok () (W.alloc (.map em2 2)) := ins_run W em1 1 117 4 rfl
theorem ins3 (W : World) : (Instr.mapUpdate 63 (.map (some W.heap.size)) (.int .u8 85) (.int .i64 8)).run Tryd.prog (W.alloc (.map em2 2)) = .ok () (W.alloc (.map em3 3)) := ins_run W em2 2 85 8 rfl
theorem look120 (W : World) : (Instr.lookup 63 (.map (some W.heap.size)) (.int .u8 120) false).run Tryd.prog (W.alloc (.map em3 3)) = .ok (.int .i64 2) (W.alloc (.map em3 3)) := look_run W em3 3 120 _ 0 rfl
theorem look117 (W : World) : (Instr.lookup 63 (.map (some W.heap.size)) (.int .u8 117) false).run Tryd.prog (W.alloc (.map em3 3)) = .ok (.int .i64 4) (W.alloc (.map em3 3)) := look_run W em3 3 117 _ 1 rfl
theorem look85 (W : World) : (Instr.lookup 63 (.map (some W.heap.size)) (.int .u8 85) false).run Tryd.prog (W.alloc (.map em3 3)) = .ok (.int .i64 8) (W.alloc (.map em3 3)) := look_run W em3 3 85 _ 2 rfl
theorem lookno (W : World) (k : Int) (h1 : ¬ k = 120) (h2 : ¬ k = 117) (h3 : ¬ k = 85) : (Instr.lookup 63 (.map (some W.heap.size)) (.int .u8 k) false).run Tryd.prog (W.alloc (.map em3 3)) = .ok (.int .i64 0) (W.alloc (.map em3 3)) :=
  look_none W em3 3 k (by
    have e1 : (k == 120) = false := beq_eq_false_iff_ne.2 h1
    have e2 : (k == 117) = false := beq_eq_false_iff_ne.2 h2
    have e3 : (k == 85) = false := beq_eq_false_iff_ne.2 h3
    simp [Instr.findNow, Instr.sameNow, e1, e2, e3])
end Go.Proofs.YtfbekjgbijlcaaaDoor
