/-
  Walks of layer 11: the methods' names; what show answers.
-/
import Derived.Test.YtaniahkagmjkoaaDoorH3
namespace Go.Proofs.YtaniahkagmjkoaaDoor
open Go.RowKit Go.Proofs

/-- All blocks that were there but R are as they were. -/
structure Only (R : Nat) (w w' : World) : Prop where
  os : w'.os = w.os
  tape : w'.tape = w.tape
  output : w'.output = w.output
  size : w.heap.size ≤ w'.heap.size
  block : ∀ k, k < w.heap.size → k ≠ R → w'.heap[k]? = w.heap[k]?
theorem Only.refl (R : Nat) (w : World) : Only R w w := ⟨rfl, rfl, rfl, Nat.le_refl _, fun _ _ _ => rfl⟩
theorem Only.trans {R : Nat} {a c d : World} (h : Only R a c) (k : Only R c d) : Only R a d :=
  ⟨k.os.trans h.os, k.tape.trans h.tape, k.output.trans h.output, Nat.le_trans h.size k.size, fun i hi hb => (k.block i (Nat.lt_of_lt_of_le hi h.size) hb).trans (h.block i hi hb)⟩
theorem Only.below {R : Nat} {a c : World} (h : Only R a c) {B : Nat} (h1 : B ≤ a.heap.size) (h2 : B ≤ R) : Below B a c :=
  ⟨h.os, h.tape, h.output, h.size, fun k hk => h.block k (by omega) (by omega)⟩
theorem Only.of_below {R : Nat} {a c : World} (h : Below a.heap.size a c) : Only R a c := ⟨h.os, h.tape, h.output, h.size, fun k hk _ => h.block k hk⟩
theorem Only.drew {R : Nat} {a c : World} (h : Only R a c) : Only R a c.drew := ⟨h.os, h.tape, h.output, h.size, h.block⟩
theorem Only.drewN {R : Nat} {a c : World} (h : Only R a c) (n : Nat) : Only R a (c.drewN n) := ⟨h.os, h.tape, h.output, h.size, h.block⟩
theorem Only.set_ {R : Nat} {a c : World} (h : Only R a c) (i : Nat) (u : Value) : Only R a (c.setCell ⟨R, i, none⟩ u) :=
  ⟨h.os, h.tape, h.output, by simpa [World.setCell] using h.size, fun k hk hb => (Below.heap_setCell c _ u k hb).trans (h.block k hk hb)⟩
theorem Only.alloc {R : Nat} {a c : World} (h : Only R a c) (o : Obj) : Only R a (c.alloc o) :=
  ⟨h.os, h.tape, h.output, by have := h.size; simp; omega, fun k hk hb => (Below.heap_alloc c o k (Nat.lt_of_lt_of_le hk h.size)).trans (h.block k hk hb)⟩

def methodS (n : Int) : ByteArray := if n = 1 then ⟨#[70, 111, 114, 109, 97, 116]⟩ else if n = 2 then ⟨#[71, 111, 83, 116, 114, 105, 110, 103]⟩ else if n = 3 then ⟨#[69, 114, 114, 111, 114]⟩ else if n = 4 then ⟨#[83, 116, 114, 105, 110, 103]⟩ else ⟨#[]⟩
set_option maxHeartbeats 1000000 in
theorem method_any (n : Int) (w : World) : Calls Tryd.prog 17 #[.int .i64 n] w fun e w' => e = .returned (.string (methodS n)) ∧ w = w' := by
  by_cases h1 : n = 1
  · subst h1
    rw [show methodS 1 = ⟨#[70, 111, 114, 109, 97, 116]⟩ from rfl]
    go_enter Tryd.func17, Tryd.ntmps17
    go_wp2_with fail
    go_ret
    exact ⟨rfl, rfl⟩
  by_cases h2 : n = 2
  · subst h2
    rw [show methodS 2 = ⟨#[71, 111, 83, 116, 114, 105, 110, 103]⟩ from rfl]
    go_enter Tryd.func17, Tryd.ntmps17
    go_wp2_with fail
    go_ret
    exact ⟨rfl, rfl⟩
  by_cases h3 : n = 3
  · subst h3
    rw [show methodS 3 = ⟨#[69, 114, 114, 111, 114]⟩ from rfl]
    go_enter Tryd.func17, Tryd.ntmps17
    go_wp2_with fail
    go_ret
    exact ⟨rfl, rfl⟩
  by_cases h4 : n = 4
  · subst h4
    rw [show methodS 4 = ⟨#[83, 116, 114, 105, 110, 103]⟩ from rfl]
    go_enter Tryd.func17, Tryd.ntmps17
    go_wp2_with fail
    go_ret
    exact ⟨rfl, rfl⟩
  have e : methodS n = ⟨#[]⟩ := by unfold methodS; rw [if_neg h1, if_neg h2, if_neg h3, if_neg h4]
  have g1 : (n == 1) = false := by simpa using h1
  have g2 : (n == 2) = false := by simpa using h2
  have g3 : (n == 3) = false := by simpa using h3
  have g4 : (n == 4) = false := by simpa using h4
  rw [e]
  clear e h1 h2 h3 h4
  go_enter Tryd.func17, Tryd.ntmps17
  go_wp2_with fail
  go_ret
  exact ⟨rfl, rfl⟩
set_option maxHeartbeats 1000000 in
theorem rmethod_any (n : Int) (w : World) (_h0 : -9223372036854775808 ≤ n) (_h1 : n ≤ 9223372036854775807) : Calls Tryd.prog 21 #[.int .i64 n] w fun e w' => e = .returned (.string (methodS n)) ∧ Below w.heap.size w w' := by
  by_cases h1 : n = 1
  · subst h1
    rw [show methodS 1 = ⟨#[70, 111, 114, 109, 97, 116]⟩ from rfl]
    go_enter Tryd.func21, Tryd.ntmps21
    go_wp2_with fail
    go_ret
    exact ⟨rfl, (Below.refl _ _).alloc (Nat.le_refl _) _⟩
  by_cases h2 : n = 2
  · subst h2
    rw [show methodS 2 = ⟨#[71, 111, 83, 116, 114, 105, 110, 103]⟩ from rfl]
    go_enter Tryd.func21, Tryd.ntmps21
    go_wp2_with fail
    go_ret
    exact ⟨rfl, (Below.refl _ _).alloc (Nat.le_refl _) _⟩
  by_cases h3 : n = 3
  · subst h3
    rw [show methodS 3 = ⟨#[69, 114, 114, 111, 114]⟩ from rfl]
    go_enter Tryd.func21, Tryd.ntmps21
    go_wp2_with fail
    go_ret
    exact ⟨rfl, (Below.refl _ _).alloc (Nat.le_refl _) _⟩
  by_cases h4 : n = 4
  · subst h4
    rw [show methodS 4 = ⟨#[83, 116, 114, 105, 110, 103]⟩ from rfl]
    go_enter Tryd.func21, Tryd.ntmps21
    go_wp2_with fail
    go_ret
    exact ⟨rfl, (Below.refl _ _).alloc (Nat.le_refl _) _⟩
  have e : methodS n = ⟨#[]⟩ := by unfold methodS; rw [if_neg h1, if_neg h2, if_neg h3, if_neg h4]
  rw [e]
  clear e
  by_cases hl : n < 1
  · clear h1 h2 h3 h4
    go_enter Tryd.func21, Tryd.ntmps21
    go_wp2_with fail
    go_ret
    exact ⟨rfl, Below.refl _ _⟩
  · have hd : decide (n < 1) = false := decide_eq_false hl
    have hg : 4 < n := by omega
    clear h1 h2 h3 h4 hl
    go_enter Tryd.func21, Tryd.ntmps21
    go_wp2_with fail
    go_ret
    exact ⟨rfl, Below.refl _ _⟩

/-- A kind as it is written. -/
def kindS (k : Int) : ByteArray := ⟨(IP.dgb 10 false (k % 4294967296).toNat).toArray⟩
/-- What show answers. -/
def showS (d : De) : ByteArray := (((⟨#[123]⟩ : ByteArray) ++ kindS d.k) ++ d.t) ++ ⟨#[125]⟩
/-- The counts of what print and show were asked for. -/
abbrev AskB (W : World) (X : Nat) (p s : Int) : Prop := Blk W X #[.int .i64 p, .int .i64 s] 37
set_option maxRecDepth 100000 in
set_option maxHeartbeats 1000000 in
theorem show_any (X : Nat) (p s : Int) (d : De) (W : World) (hX : AskB W X p s) (hs0 : 0 ≤ s) (hs1 : s ≤ 1000) (ht : d.t.size ≤ 100000) :
    Calls Tryd.prog 19 #[.pointer (some ⟨X, 0, none⟩), .agg (deV d)] W fun e w' => e = .returned (.string (showS d)) ∧ AskB w' X p (s + 1) ∧ Only X W w' := by
  have hlt := hX.lt
  have HB := (Blk.new W (deV d) 26)
  have c0 : (W.alloc (.cells (deV d) 26)).cell? ⟨W.heap.size, 0, none⟩ = some (.int .i64 d.k) := HB.cell 0
  have c4 : (W.alloc (.cells (deV d) 26)).cell? ⟨W.heap.size, 4, none⟩ = some (.string d.t) := HB.cell 4
  obtain ⟨u, hu⟩ : ∃ u, d.k % 4294967296 = u := ⟨_, rfl⟩
  have hu0 : 0 ≤ u := by omega
  have hu1 : u ≤ 4294967295 := by omega
  have DG := hid (fun W => rdigits_10 u W hu0 (by omega))
  obtain ⟨K, hK⟩ : ∃ K : ByteArray, ⟨(IP.dgb 10 false u.toNat).toArray⟩ = K := ⟨_, rfl⟩
  rw [hK] at DG
  have hKs : K.size ≤ 10 := by
    rw [← hK, Utf.size_eq]
    have := IP.dgb_len 10 false (by decide) 10 u.toNat (by decide) (by omega)
    simpa using this
  have hR : showS d = (((⟨#[123]⟩ : ByteArray) ++ K) ++ d.t) ++ ⟨#[125]⟩ := by unfold showS kindS; rw [hu, hK]
  rw [hR]
  have x1 : (W.alloc (.cells (deV d) 26)).cell? ⟨X, 1, none⟩ = some (.int .i64 s) := (hX.alloc _).cell 1
  have xf : (W.alloc (.cells (deV d) 26)).frozen? ⟨X, 1, none⟩ = false := (hX.alloc _).frozen 1
  obtain ⟨W0, hW0⟩ : ∃ W0, W.alloc (.cells (deV d) 26) = W0 := ⟨_, rfl⟩
  obtain ⟨B, hB⟩ : ∃ B, W.heap.size = B := ⟨_, rfl⟩
  rw [hW0, hB] at c0 c4
  rw [hW0] at x1 xf
  have HX := hid (show AskB W0 X p s from hW0 ▸ hX.alloc _)
  have HO := hid (show Only X W W0 from hW0 ▸ (Only.refl X W).alloc _)
  have hXB : B ≠ X := by omega
  have hBX : X ≠ B := by omega
  clear hX HB hR hK hlt
  go_enter Tryd.func19, Tryd.ntmps19
  go_wp2_with fail
  have b0 : (W0.setCell ⟨X, 1, none⟩ (.int .i64 (s + 1))).cell? ⟨B, 0, none⟩ = some (.int .i64 d.k) := (World.cell?_setCell_far W0 ⟨X, 1, none⟩ ⟨B, 0, none⟩ _ hXB.symm).trans c0
  have b4 : (W0.setCell ⟨X, 1, none⟩ (.int .i64 (s + 1))).cell? ⟨B, 4, none⟩ = some (.string d.t) := (World.cell?_setCell_far W0 ⟨X, 1, none⟩ ⟨B, 4, none⟩ _ hXB.symm).trans c4
  have N := hid (show AskB (W0.setCell ⟨X, 1, none⟩ (.int .i64 (s + 1))) X p (s + 1) ∧ Only X W (W0.setCell ⟨X, 1, none⟩ (.int .i64 (s + 1))) from ⟨HX.out.set_ 1 _, HO.out.set_ 1 _⟩)
  obtain ⟨W1, hW1⟩ : ∃ W1, W0.setCell ⟨X, 1, none⟩ (.int .i64 (s + 1)) = W1 := ⟨_, rfl⟩
  rw [hW1] at b0 b4 N ⊢
  clear hW1 hW0 hB c0 c4 x1 xf HX HO
  have w1 : IntKind.u32.wrap d.k = u := by rw [← hu]; rfl
  have w2 : IntKind.u64.wrap u = u := by
    show u % 18446744073709551616 = u
    exact Int.emod_eq_of_lt hu0 (by omega)
  have q1 : ¬ 9223372036854775807 < 1 + K.size := by omega
  have q2 : ¬ 9223372036854775807 < 1 + K.size + d.t.size := by omega
  have q3 : ¬ 9223372036854775807 < 1 + K.size + d.t.size + 1 := by omega
  clear hu
  go_quiet ((go_at_call 32; exact Calls.quiet_of_same ((DG.out _).mono fun _ _ h => ⟨h.1, h.2.symm⟩)))
  go_wp2_with fail
  go_ret
  exact ⟨rfl, N.out.1, N.out.2.drewN _⟩
end Go.Proofs.YtaniahkagmjkoaaDoor
