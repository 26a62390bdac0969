/-
  An argument that is a spec (flags, width, precision, verb), opened.
-/
import Derived.Test.YtaniahkagmjkoaaDoorFrame
import Derived.Deep.Fields
import Derived.Lib.SmallJoins
namespace Go.Proofs.YtaniahkagmjkoaaDoor
open Go.ChangeShapes Go.WideShapes Go.ChangeAt Go.RowKit Go.Lib Go.Proofs

theorem specT : ∃ f0 f1 f2 f3 f4 f5 f6 f7 : Field, Tryd.prog.underlying 48 = some (.struct #[f0, f1, f2, f3, f4, f5, f6, f7]) ∧
    (f0.type = 4 ∧ f1.type = 4 ∧ f2.type = 4 ∧ f3.type = 4 ∧ f4.type = 4 ∧ f5.type = 3 ∧ f6.type = 3 ∧ f7.type = 21) ∧
    (f0.offset = 0 ∧ f1.offset = 1 ∧ f2.offset = 2 ∧ f3.offset = 3 ∧ f4.offset = 4 ∧ f5.offset = 5 ∧ f6.offset = 6 ∧ f7.offset = 7) :=
  ⟨_, _, _, _, _, _, _, _, Tryd.underlying48, ⟨rfl, rfl, rfl, rfl, rfl, rfl, rfl, rfl⟩, ⟨rfl, rfl, rfl, rfl, rfl, rfl, rfl, rfl⟩⟩
theorem specC : Tryd.prog.cellsOf 48 = 8 := by kernel_rfl
theorem oneB : Tryd.prog.cellsOf 4 = 1 := by kernel_rfl
theorem oneI : Tryd.prog.cellsOf 3 = 1 := by kernel_rfl
theorem oneR : Tryd.prog.cellsOf 21 = 1 := by kernel_rfl

set_option maxRecDepth 100000 in
theorem open_spec {H : Type} {enc : TypeId × Value → H} {w : World} {base : Nat} {spare : Nat → Bool} {held : Bool} {r : Reach} {b0 : Nat} {v : Value} {d : DataW H} {p : List MemPlace}
    (hv : Value.okWide Tryd.prog w r b0 48 v) (h : DataW.Trod enc Tryd.prog w base spare held 48 v d p) :
    ∃ (pl mi sh sp ze : Bool) (wid prec verb : Int), v = .agg #[.bool pl, .bool mi, .bool sh, .bool sp, .bool ze, .int .i64 wid, .int .i64 prec, .int .i32 verb] ∧ (-9223372036854775808 ≤ wid ∧ wid ≤ 9223372036854775807 ∧ -9223372036854775808 ≤ prec ∧ prec ≤ 9223372036854775807 ∧ -2147483648 ≤ verb ∧ verb ≤ 2147483647) := by
  obtain ⟨f0, f1, f2, f3, f4, f5, f6, f7, hs, ⟨t0, t1, t2, t3, t4, t5, t6, t7⟩, ⟨o0, o1, o2, o3, o4, o5, o6, o7⟩⟩ := specT
  obtain ⟨cs, rfl, hsz⟩ := okWide_struct hs hv
  rw [specC] at hsz
  obtain ⟨l⟩ := cs
  match l, hsz with
  | [c0, c1, c2, c3, c4, c5, c6, c7], _ =>
    obtain ⟨fuel, hf⟩ := h
    obtain ⟨xs, n, _, _, _, hlen, hg⟩ := DataW.trod_struct hs hf
    match xs, hlen with
    | [y0, y1, y2, y3, y4, y5, y6, y7], _ =>
      have g0 := hg 0 f0 rfl; have g1 := hg 1 f1 rfl; have g2 := hg 2 f2 rfl; have g3 := hg 3 f3 rfl; have g4 := hg 4 f4 rfl; have g5 := hg 5 f5 rfl; have g6 := hg 6 f6 rfl; have g7 := hg 7 f7 rfl
      rw [o0, t0, oneB] at g0; rw [o1, t1, oneB] at g1; rw [o2, t2, oneB] at g2; rw [o3, t3, oneB] at g3; rw [o4, t4, oneB] at g4; rw [o5, t5, oneI] at g5; rw [o6, t6, oneI] at g6; rw [o7, t7, oneR] at g7
      obtain ⟨pl, e0, _⟩ := DataW.trod_bool Tryd.underlying4 (g0.trans (show _ = some y0 from rfl))
      obtain ⟨mi, e1, _⟩ := DataW.trod_bool Tryd.underlying4 (g1.trans (show _ = some y1 from rfl))
      obtain ⟨sh, e2, _⟩ := DataW.trod_bool Tryd.underlying4 (g2.trans (show _ = some y2 from rfl))
      obtain ⟨sp, e3, _⟩ := DataW.trod_bool Tryd.underlying4 (g3.trans (show _ = some y3 from rfl))
      obtain ⟨ze, e4, _⟩ := DataW.trod_bool Tryd.underlying4 (g4.trans (show _ = some y4 from rfl))
      obtain ⟨wid, e5, _, w5⟩ := DataW.trod_int Tryd.underlying3 (g5.trans (show _ = some y5 from rfl))
      obtain ⟨prec, e6, _, w6⟩ := DataW.trod_int Tryd.underlying3 (g6.trans (show _ = some y6 from rfl))
      obtain ⟨verb, e7, _, w7⟩ := DataW.trod_int Tryd.underlying21 (g7.trans (show _ = some y7 from rfl))
      simp [Value.cells] at e0 e1 e2 e3 e4 e5 e6 e7
      subst e0 e1 e2 e3 e4 e5 e6 e7
      have w5' : -9223372036854775808 ≤ wid ∧ wid ≤ 9223372036854775807 := by simpa [Lit.wf, IntKind.min, IntKind.max, IntKind.signed, IntKind.bits] using w5
      have w6' : -9223372036854775808 ≤ prec ∧ prec ≤ 9223372036854775807 := by simpa [Lit.wf, IntKind.min, IntKind.max, IntKind.signed, IntKind.bits] using w6
      have w7' : -2147483648 ≤ verb ∧ verb ≤ 2147483647 := by simpa [Lit.wf, IntKind.min, IntKind.max, IntKind.signed, IntKind.bits] using w7
      exact ⟨pl, mi, sh, sp, ze, wid, prec, verb, rfl, w5'.1, w5'.2, w6'.1, w6'.2, w7'.1, w7'.2⟩
end Go.Proofs.YtaniahkagmjkoaaDoor
