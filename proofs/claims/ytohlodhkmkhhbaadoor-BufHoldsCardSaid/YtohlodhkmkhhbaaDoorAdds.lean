/-
  An argument that is a slice of structs of five fields (a text, a rune, two bools, a number), opened.
-/
import Derived.Test.YtohlodhkmkhhbaaDoorFrame
import Derived.Test.YtohlodhkmkhhbaaDoorLBufHolds
import Derived.Deep.Slices
import Derived.Deep.Fields
namespace Go.Proofs.YtohlodhkmkhhbaaDoor
open Go.ChangeShapes Go.WideShapes Go.ChangeAt Go.RowKit Go.Lib Go.Deep Go.Proofs

theorem addT : ∃ f0 f1 f2 f3 f4 : Field, Tryd.prog.underlying 52 = some (.struct #[f0, f1, f2, f3, f4]) ∧
    (f0.type = 9 ∧ f1.type = 21 ∧ f2.type = 4 ∧ f3.type = 4 ∧ f4.type = 3) ∧
    (f0.offset = 0 ∧ f1.offset = 1 ∧ f2.offset = 2 ∧ f3.offset = 3 ∧ f4.offset = 4) :=
  ⟨_, _, _, _, _, Tryd.underlying52, ⟨rfl, rfl, rfl, rfl, rfl⟩, ⟨rfl, rfl, rfl, rfl, rfl⟩⟩
theorem addC : Tryd.prog.cellsOf 52 = 5 := by kernel_rfl
theorem oneS : Tryd.prog.cellsOf 9 = 1 := by kernel_rfl
theorem oneBo : Tryd.prog.cellsOf 4 = 1 := by kernel_rfl
theorem oneIn : Tryd.prog.cellsOf 3 = 1 := by kernel_rfl
theorem oneRu : Tryd.prog.cellsOf 21 = 1 := by kernel_rfl

/-- One element. -/
theorem open_add {H : Type} {enc : TypeId × Value → H} {w : World} {base : Nat} {spare : Nat → Bool} {held : Bool} {fuel : Nat} {cs : List Value} {x : DataW H × List MemPlace}
    (h : DataW.trod enc Tryd.prog w base spare held fuel 52 cs = some x) :
    ∃ y : AddL, cs = [.string y.S, .int .i32 y.C, .bool y.R, .bool y.Z, .int .i64 y.T] ∧ y.S.size ≤ 9223372036854775807 ∧ -2147483648 ≤ y.C ∧ y.C ≤ 2147483647 ∧ -9223372036854775808 ≤ y.T ∧ y.T ≤ 9223372036854775807 := by
  obtain ⟨f0, f1, f2, f3, f4, hs, ⟨t0, t1, t2, t3, t4⟩, ⟨o0, o1, o2, o3, o4⟩⟩ := addT
  obtain ⟨xs, n, _, _, hcl, hlen, hg⟩ := DataW.trod_struct hs h
  rw [addC] at hcl
  match cs, hcl with
  | [c0, c1, c2, c3, c4], _ =>
    match xs, hlen with
    | [y0, y1, y2, y3, y4], _ =>
      have g0 := hg 0 f0 rfl; have g1 := hg 1 f1 rfl; have g2 := hg 2 f2 rfl; have g3 := hg 3 f3 rfl; have g4 := hg 4 f4 rfl
      rw [o0, t0, oneS] at g0; rw [o1, t1, oneRu] at g1; rw [o2, t2, oneBo] at g2; rw [o3, t3, oneBo] at g3; rw [o4, t4, oneIn] at g4
      obtain ⟨S, e0, _, w0⟩ := DataW.trod_string Tryd.underlying9 (g0.trans (show _ = some y0 from rfl))
      obtain ⟨C, e1, _, w1⟩ := DataW.trod_int Tryd.underlying21 (g1.trans (show _ = some y1 from rfl))
      obtain ⟨R, e2, _⟩ := DataW.trod_bool Tryd.underlying4 (g2.trans (show _ = some y2 from rfl))
      obtain ⟨Z, e3, _⟩ := DataW.trod_bool Tryd.underlying4 (g3.trans (show _ = some y3 from rfl))
      obtain ⟨T, e4, _, w4⟩ := DataW.trod_int Tryd.underlying3 (g4.trans (show _ = some y4 from rfl))
      simp at e0 e1 e2 e3 e4
      subst e0 e1 e2 e3 e4
      have w1' : -2147483648 ≤ C ∧ C ≤ 2147483647 := by simpa [Lit.wf, IntKind.min, IntKind.max, IntKind.signed, IntKind.bits] using w1
      have w4' : -9223372036854775808 ≤ T ∧ T ≤ 9223372036854775807 := by simpa [Lit.wf, IntKind.min, IntKind.max, IntKind.signed, IntKind.bits] using w4
      unfold maxLen at w0
      exact ⟨⟨S, C, R, Z, T⟩, rfl, by simpa using w0, w1'.1, w1'.2, w4'.1, w4'.2⟩

theorem open_adds {H : Type} {enc : TypeId × Value → H} {w : World} {base : Nat} {spare : Nat → Bool} {held : Bool} {r : Reach} {b0 : Nat} {v : Value} {d : DataW H} {p : List MemPlace}
    (hv : Value.okWide Tryd.prog w r b0 49 v) (h : DataW.Trod enc Tryd.prog w base spare held 49 v d p) :
    ∃ (A : Option Addr) (len cap : Nat) (z : Nat → AddL), v = .slice A len cap ∧ len ≤ cap ∧ cap ≤ 9223372036854775807 ∧
      (0 < len → ∃ cb off, A = some ⟨cb, off, none⟩ ∧ cb < w.heap.size ∧ ∀ j, j < len → w.cell? ⟨cb, off + j * 5, none⟩ = some (.string (z j).S) ∧ w.cell? ⟨cb, off + j * 5 + 1, none⟩ = some (.int .i32 (z j).C) ∧
        w.cell? ⟨cb, off + j * 5 + 2, none⟩ = some (.bool (z j).R) ∧ w.cell? ⟨cb, off + j * 5 + 3, none⟩ = some (.bool (z j).Z) ∧ w.cell? ⟨cb, off + j * 5 + 4, none⟩ = some (.int .i64 (z j).T)) ∧
      (∀ j, j < len → (z j).S.size ≤ 9223372036854775807 ∧ -2147483648 ≤ (z j).C ∧ (z j).C ≤ 2147483647 ∧ -9223372036854775808 ≤ (z j).T ∧ (z j).T ≤ 9223372036854775807) := by
  obtain ⟨A, len, cap, rfl⟩ := okWide_slice Tryd.underlying49 hv
  obtain ⟨fuel, hf⟩ := h
  rcases open_slice Tryd.underlying49 hf with ⟨hcs, _⟩ | ⟨a, len', cap', m, n, D, Pl, hcs, _, hl, hm, hmm, _, hi⟩
  · simp [Value.cells] at hcs
    obtain ⟨rfl, rfl, rfl⟩ := hcs
    exact ⟨none, 0, 0, fun _ => ⟨⟨#[]⟩, 0, false, false, 0⟩, rfl, by omega, by omega, fun h => absurd h (by omega), fun j hj => absurd hj (by omega)⟩
  · simp [Value.cells] at hcs
    obtain ⟨rfl, rfl, rfl⟩ := hcs
    have hlm : len ≤ m := by rw [hmm]; split <;> omega
    unfold maxLen at hm
    have each : ∀ j, j < len → ∃ y : AddL, (∀ k v, [Value.string y.S, .int .i32 y.C, .bool y.R, .bool y.Z, .int .i64 y.T][k]? = some v → w.cell? (a.add (j * 5 + k)) = some v) ∧
        (y.S.size ≤ 9223372036854775807 ∧ -2147483648 ≤ y.C ∧ y.C ≤ 2147483647 ∧ -9223372036854775808 ≤ y.T ∧ y.T ≤ 9223372036854775807) := by
      intro j hj
      obtain ⟨cs', hc, ht'⟩ := hi j (by omega)
      rw [addC] at hc
      obtain ⟨y, hy, hb⟩ := open_add ht'
      obtain ⟨_, hcl, hat⟩ := World.cells?_some hc
      refine ⟨y, fun k v hk => ?_, hb⟩
      have hkl : k < 5 := by
        have := (List.getElem?_eq_some_iff.1 hk).1
        simpa using this
      have := hat k hkl
      rw [← Go.Deep.add_add, this, hy, hk]
    have hch := fun j (hj : j < len) => Classical.choose_spec (each j hj)
    refine ⟨some a, len, cap, fun j => if hj : j < len then Classical.choose (each j hj) else ⟨⟨#[]⟩, 0, false, false, 0⟩, rfl, hl, by omega, fun hp => ?_, fun j hj => ?_⟩
    · obtain ⟨b, off, spot⟩ := a
      have h0 := (hch 0 hp).1 0 _ rfl
      have hspot : spot = none := by simpa [Addr.add] using World.cell?_spot h0
      subst hspot
      refine ⟨b, off, rfl, World.block_lt_of_cell? w _ (by rw [Go.WideShapes.add_plain] at h0; exact h0), fun j hj => ?_⟩
      have hj' := (hch j hj).1
      simp only [dif_pos hj]
      generalize Classical.choose (each j hj) = y at *
      have e := fun k v hk => (by have := hj' k v hk; rw [Go.WideShapes.add_plain] at this; exact this : w.cell? ⟨b, off + (j * 5 + k), none⟩ = some v)
      exact ⟨e 0 _ rfl, e 1 _ rfl, e 2 _ rfl, e 3 _ rfl, e 4 _ rfl⟩
    · have hj' := (hch j hj).2
      simp only [dif_pos hj]
      exact hj'
end Go.Proofs.YtohlodhkmkhhbaaDoor
