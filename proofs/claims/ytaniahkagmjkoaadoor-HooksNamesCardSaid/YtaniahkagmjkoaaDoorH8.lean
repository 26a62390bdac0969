/-
  Walks of layer 11: a method is run, and what it throws is caught.
-/
import Derived.Test.YtaniahkagmjkoaaDoorH7
namespace Go.Proofs.YtaniahkagmjkoaaDoor
open Go.RowKit Go.Proofs

theorem Only.far_new {R : Nat} {a c : World} (h : Only R a c) {p : Addr} (hp : a.heap.size ≤ p.block) (u : Value) : Only R a (c.setCell p u) :=
  ⟨h.os, h.tape, h.output, by simpa [World.setCell] using h.size, fun k hk hb => (Below.heap_setCell c _ u k (by omega)).trans (h.block k hk hb)⟩
abbrev rnF (a : Ac) (X : Nat) : Value := .func (Fn.func 30) #[.agg (mtV a X)] #[]
set_option maxRecDepth 100000 in
set_option maxHeartbeats 1000000 in
theorem caught_ret (a : Ac) (X : Nat) (p s : Int) (t : ByteArray) (W : World) (hX : X < W.heap.size)
    (RUN : ∀ W', Below W.heap.size W W' → Calls Tryd.prog 30 #[.agg (mtV a X)] W' fun e w' => e = .returned (.string t) ∧ AskB w' X p s ∧ Only X W' w') :
    Calls Tryd.prog 29 #[rnF a X] W fun e w' => e = .returned (.tuple #[.string t, .pointer none]) ∧ AskB w' X p s ∧ Only X W w' := by
  have hmf : ∀ (fn : Fn) (first cap : Array Value) (w : World), (Instr.makeFunc fn first cap).run Tryd.prog w = .ok (.func fn first cap) w := fun _ _ _ _ => rfl
  have B0 := hid ((Below.refl W.heap.size W).alloc (Nat.le_refl _) (.cells #[.pointer none] 64))
  have Y0 := hid (Blk.new W #[.pointer none] 64)
  have R0 := hid (RUN _ B0.out)
  obtain ⟨Y, hY⟩ : ∃ Y, W.heap.size = Y := ⟨_, rfl⟩
  rw [hY] at hX
  obtain ⟨W0, hW0⟩ : ∃ W0, W.alloc (.cells #[.pointer none] 64) = W0 := ⟨_, rfl⟩
  rw [hW0] at B0 R0
  rw [hW0, hY] at Y0
  have HY := hid hY
  clear RUN
  go_enter_defers Tryd.func29, Tryd.ntmps29
  go_wp2_with fail
  refine R0.out.mono ?_
  rintro e w1 ⟨rfl, hx, ho⟩
  have hYX : Y ≠ X := by omega
  have y1 : Blk w1 Y #[.pointer none] 64 := Y0.out.same (ho.block Y Y0.out.lt hYX)
  have yc : w1.cell? ⟨Y, 0, none⟩ = some (.pointer none) := y1.cell 0
  have yf : w1.frozen? ⟨Y, 0, none⟩ = false := y1.frozen 0
  have y2 := y1.set_ 0 (.pointer none)
  have N := hid (show AskB (w1.setCell ⟨Y, 0, none⟩ (.pointer none)) X p s ∧ Only X W (w1.setCell ⟨Y, 0, none⟩ (.pointer none)) from
    ⟨hx.far (by show X ≠ Y; omega) _, ((Only.of_below B0.out : Only X W W0).trans ho).far_new (by show W.heap.size ≤ Y; have := HY.out; omega) _⟩)
  have yr : (w1.setCell ⟨Y, 0, none⟩ (.pointer none)).cell? ⟨Y, 0, none⟩ = some (.pointer none) := y2.cell 0
  clear hx ho y1 y2
  go_wp2_with fail
  refine leaves_cons (f := 37) (args := #[.pointer (some ⟨Y, 0, none⟩)]) (by simp) (by simp [go_sem]) ?_
  refine (catch_idle ⟨Y, 0, none⟩ _).mono ?_
  rintro e u' w'' ⟨rfl, rfl, rfl⟩
  simp [Leaves, settle, results, Tryd.results29, go_sem, yr]
  exact N.out
set_option maxRecDepth 100000 in
set_option maxHeartbeats 1000000 in
theorem caught_thr (a : Ac) (X : Nat) (W : World) (h2 : a.k = 2) :
    Calls Tryd.prog 29 #[rnF a X] W fun e w' => ∃ Z, e = .returned (.tuple #[.string ⟨#[]⟩, .pointer (some ⟨Z, 0, none⟩)]) ∧ Blk w' Z (deV a.p) 70 ∧ Below W.heap.size W w' := by
  have hmf : ∀ (fn : Fn) (first cap : Array Value) (w : World), (Instr.makeFunc fn first cap).run Tryd.prog w = .ok (.func fn first cap) w := fun _ _ _ _ => rfl
  have B0 := hid ((Below.refl W.heap.size W).alloc (Nat.le_refl _) (.cells #[.pointer none] 64))
  have Y0 := hid (Blk.new W #[.pointer none] 64)
  have R0 := hid (fun W' => run_throws a X W' h2)
  obtain ⟨Y, hY⟩ : ∃ Y, W.heap.size = Y := ⟨_, rfl⟩
  obtain ⟨W0, hW0⟩ : ∃ W0, W.alloc (.cells #[.pointer none] 64) = W0 := ⟨_, rfl⟩
  rw [hW0] at B0
  rw [hW0, hY] at Y0
  have HY := hid hY
  clear h2
  go_enter_defers Tryd.func29, Tryd.ntmps29
  go_wp2_with fail
  refine (R0.out _).mono ?_
  rintro e w1 ⟨rfl, hb⟩
  have y1 : Blk w1 Y #[.pointer none] 64 := Y0.out.below hb Y0.out.lt
  have hlt := y1.lt
  have z1 := Blk.new w1 (deV a.p) 70
  obtain ⟨Z, hZ⟩ : ∃ Z, w1.heap.size = Z := ⟨_, rfl⟩
  have CT := hid (catch_thrown Y a.p w1 _ y1)
  have N : Hid (Blk ((w1.alloc (.cells (deV a.p) 70)).setCell ⟨Y, 0, none⟩ (.pointer (some ⟨Z, 0, none⟩))) Z (deV a.p) 70 ∧ Below W.heap.size W ((w1.alloc (.cells (deV a.p) 70)).setCell ⟨Y, 0, none⟩ (.pointer (some ⟨Z, 0, none⟩))) ∧
      Blk ((w1.alloc (.cells (deV a.p) 70)).setCell ⟨Y, 0, none⟩ (.pointer (some ⟨Z, 0, none⟩))) Y #[.pointer (some ⟨Z, 0, none⟩)] 64) := by
    rw [hZ] at z1
    have h1 := B0.out.trans (hb.mono B0.out.size)
    exact ⟨z1.far (by show Z ≠ Y; omega) _, (h1.alloc h1.size _).setCell (by show W.heap.size ≤ Y; have := HY.out; omega) _, (y1.alloc _).set_ 0 _⟩
  rw [hZ] at CT
  clear hb y1 z1 hlt
  go_wp2_with fail
  refine leaves_cons (f := 37) (args := #[.pointer (some ⟨Y, 0, none⟩)]) (by simp) (by simp [go_sem]) ?_
  refine CT.out.mono ?_
  rintro e u' w'' ⟨rfl, rfl, rfl⟩
  obtain ⟨W3, hW3⟩ : ∃ W3, (w1.alloc (.cells (deV a.p) 70)).setCell ⟨Y, 0, none⟩ (.pointer (some ⟨Z, 0, none⟩)) = W3 := ⟨_, rfl⟩
  rw [hW3] at N ⊢
  have yr : W3.cell? ⟨Y, 0, none⟩ = some (.pointer (some ⟨Z, 0, none⟩)) := N.out.2.2.cell 0
  have NN := hid (And.intro N.out.1 N.out.2.1)
  clear N hW3 CT
  simp [Leaves, settle, results, Tryd.results29, go_sem, yr]
  exact NN.out
end Go.Proofs.YtaniahkagmjkoaaDoor
