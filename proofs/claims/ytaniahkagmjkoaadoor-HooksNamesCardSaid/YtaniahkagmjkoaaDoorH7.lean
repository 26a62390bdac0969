/-
  Walks of layer 11: what a method throws is caught.
-/
import Derived.Test.YtaniahkagmjkoaaDoorH6
namespace Go.Proofs.YtaniahkagmjkoaaDoor
open Go.RowKit Go.Proofs

set_option maxHeartbeats 1000000 in
theorem catch_idle (q : Addr) (w : World) :
    CallsD Tryd.prog 37 #[.pointer (some q)] .returning w fun e u' w' => e = .returned (.tuple #[]) ∧ u' = .returning ∧ w' = w := by
  refine callsD_of_wpS Tryd.func37 rfl fun c₀ cs hu => ?_
  apply wpS_seq
  apply wpS_region
  simp [wpOpsS, go_sem, recoverD, hu, Tryd.ntmps37, Exit.thenS]
  refine wpS_of_wp ?_
  go_wp2_with fail
  cases c₀
  simp_all [bodyPostS, results, Tryd.results37]
set_option maxRecDepth 100000 in
set_option maxHeartbeats 1000000 in
theorem catch_thrown (Y : Nat) (d : De) (w : World) (x : Value) (hY : Blk w Y #[x] 64) :
    CallsD Tryd.prog 37 #[.pointer (some ⟨Y, 0, none⟩)] (.panicking [{ v := .iface 70 (.agg (deV d)), recovered := false }]) w fun e u' w' =>
      e = .returned (.tuple #[]) ∧ u' = .panicking [{ v := .iface 70 (.agg (deV d)), recovered := true }] ∧ w' = (w.alloc (.cells (deV d) 70)).setCell ⟨Y, 0, none⟩ (.pointer (some ⟨w.heap.size, 0, none⟩)) := by
  obtain ⟨cv, hcv⟩ : ∃ cv, deV d = cv := ⟨_, rfl⟩
  rw [hcv]
  obtain ⟨V, hV⟩ : ∃ V, Value.iface 70 (.agg cv) = V := ⟨_, rfl⟩
  rw [hV]
  have HV := hid hV
  have hc : ∀ cs : Array Value, (w.alloc (.cells cs 70)).cell? ⟨Y, 0, none⟩ = some x := fun cs => (hY.alloc _).cell 0
  have hz : ∀ cs : Array Value, (w.alloc (.cells cs 70)).frozen? ⟨Y, 0, none⟩ = false := fun cs => (hY.alloc _).frozen 0
  have HC := hid (And.intro hc (And.intro hz hcv))
  clear hV hc hz hcv hY
  refine callsD_of_wpS Tryd.func37 rfl fun c₀ cs hu => ?_
  apply wpS_seq
  apply wpS_region
  simp [wpOpsS, go_sem, recoverD, hu, Tryd.ntmps37, Exit.thenS]
  refine wpS_of_wp ?_
  have hV := HV.out
  subst hV
  have hne : ∀ w : World, (binOp BinOp.eql 20 (.iface 70 (.agg cv)) .nilIface).run Tryd.prog w = .ok (.bool false) w := fun _ => by kernel_rfl
  have hta : ∀ w : World, (Instr.typeAssert (.iface 70 (.agg cv)) 20 70 true).run Tryd.prog w = .ok (.tuple #[.agg cv, .bool true]) w := fun _ => by kernel_rfl
  have hc := HC.out.1
  have hz := HC.out.2.1
  have hcv := HC.out.2.2
  subst hcv
  go_wp2_with fail
  cases c₀
  simp_all [bodyPostS, results, Tryd.results37]
end Go.Proofs.YtaniahkagmjkoaaDoor
