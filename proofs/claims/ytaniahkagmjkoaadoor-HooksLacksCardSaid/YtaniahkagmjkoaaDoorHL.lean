/-
  An argument that is an array of four numbers, opened; a row of methods written method by method.
-/
import Derived.Test.YtaniahkagmjkoaaDoorHO
import Derived.Test.YtaniahkagmjkoaaDoorHP
namespace Go.Proofs.YtaniahkagmjkoaaDoor
open Go.ChangeShapes Go.WideShapes Go.ChangeAt Go.RowKit Go.Lib Go.Deep Go.Proofs

set_option maxRecDepth 100000 in
theorem open_i4 {H : Type} {enc : TypeId × Value → H} {w : World} {base : Nat} {spare : Nat → Bool} {held : Bool} {r : Reach} {b0 : Nat} {v : Value} {d : DataW H} {p : List MemPlace}
    (hv : Value.okWide Tryd.prog w r b0 53 v) (h : DataW.Trod enc Tryd.prog w base spare held 53 v d p) :
    ∃ k0 k1 k2 k3 : Int, v = .agg #[.int .i64 k0, .int .i64 k1, .int .i64 k2, .int .i64 k3] ∧ ∀ k ∈ [k0, k1, k2, k3], -9223372036854775808 ≤ k ∧ k ≤ 9223372036854775807 := by
  have hc4 : Tryd.prog.cellsOf 53 = 4 := by kernel_rfl
  have hc1 : Tryd.prog.cellsOf 3 = 1 := by kernel_rfl
  simp only [Value.okWide, Tryd.underlying53] at hv
  obtain ⟨cs, rfl, hsz, _⟩ := hv
  rw [hc4] at hsz
  obtain ⟨l⟩ := cs
  match l, hsz with
  | [c0, c1, c2, c3], _ =>
    obtain ⟨fuel, hf⟩ := h
    obtain ⟨xs, n, _, _, _, hlen, hg⟩ := DataW.trod_array Tryd.underlying53 hf
    match xs, hlen with
    | [y0, y1, y2, y3], _ =>
      have g0 := hg 0 (by decide); have g1 := hg 1 (by decide); have g2 := hg 2 (by decide); have g3 := hg 3 (by decide)
      rw [hc1] at g0 g1 g2 g3
      obtain ⟨k0, e0, _, w0⟩ := DataW.trod_int Tryd.underlying3 (g0.trans (show _ = some y0 from rfl))
      obtain ⟨k1, e1, _, w1⟩ := DataW.trod_int Tryd.underlying3 (g1.trans (show _ = some y1 from rfl))
      obtain ⟨k2, e2, _, w2⟩ := DataW.trod_int Tryd.underlying3 (g2.trans (show _ = some y2 from rfl))
      obtain ⟨k3, e3, _, w3⟩ := DataW.trod_int Tryd.underlying3 (g3.trans (show _ = some y3 from rfl))
      simp [Value.cells] at e0 e1 e2 e3
      subst e0 e1 e2 e3
      refine ⟨k0, k1, k2, k3, rfl, fun k hk => ?_⟩
      have hw : ∀ x : Int, (Lit.int .i64 x).wf = true → -9223372036854775808 ≤ x ∧ x ≤ 9223372036854775807 := fun x hx => by simpa [Lit.wf, IntKind.min, IntKind.max, IntKind.signed, IntKind.bits] using hx
      simp only [List.mem_cons, List.not_mem_nil, or_false] at hk
      rcases hk with rfl | rfl | rfl | rfl
      · exact hw _ w0
      · exact hw _ w1
      · exact hw _ w2
      · exact hw _ w3

/-- The row with another method. -/
def hkSet (h : Hk) (i : Nat) (a : Ac) : Hk := if i = 0 then { h with fo := a } else if i = 1 then { h with sy := a } else if i = 2 then { h with er := a } else { h with st := a }
theorem hk_set (h : Hk) (i : Nat) (hi : i < 4) (a : Ac) : setMany (hkV h) (i * 12) (acV a).toList = hkV (hkSet h i a) := by
  match i, hi with
  | 0, _ => exact setMany_mid (acV a).toList [] (acV h.fo).toList ((acV h.sy).toList ++ ((acV h.er).toList ++ (acV h.st).toList)) rfl
  | 1, _ =>
    have := setMany_mid (acV a).toList (acV h.fo).toList (acV h.sy).toList ((acV h.er).toList ++ (acV h.st).toList) rfl
    exact this
  | 2, _ =>
    have := setMany_mid (acV a).toList ((acV h.fo).toList ++ (acV h.sy).toList) (acV h.er).toList (acV h.st).toList rfl
    rw [List.append_assoc, List.append_assoc] at this
    exact this
  | 3, _ =>
    have := setMany_mid (acV a).toList ((acV h.fo).toList ++ ((acV h.sy).toList ++ (acV h.er).toList)) (acV h.st).toList [] rfl
    rw [List.append_nil, List.append_nil, List.append_assoc, List.append_assoc, List.append_assoc, List.append_assoc] at this
    exact this
theorem hk_set_at (h : Hk) (i : Nat) (hi : i < 4) (a : Ac) (j : Nat) (hj : j < 4) : hkAt (hkSet h i a) j = if j = i then a else hkAt h j := by
  match i, hi, j, hj with
  | 0, _, 0, _ | 0, _, 1, _ | 0, _, 2, _ | 0, _, 3, _ | 1, _, 0, _ | 1, _, 1, _ | 1, _, 2, _ | 1, _, 3, _ | 2, _, 0, _ | 2, _, 1, _ | 2, _, 2, _ | 2, _, 3, _ | 3, _, 0, _ | 3, _, 1, _ | 3, _, 2, _ | 3, _, 3, _ => rfl
theorem hk_puts {W : World} {B : Nat} {h : Hk} {T : TypeId} (hb : Blk W B (hkV h) T) (i : Nat) (hi : i < 4) (a : Ac) : Blk (W.setCells B (i * 12) (acV a).toList) B (hkV (hkSet h i a)) T := by
  have := hb.setCells (acV a).toList (i * 12) W (hkV h)
  rw [hk_set h i hi a] at this
  exact this
/-- No method of it is there. -/
def NoneThere (h : Hk) : Prop := ∀ j, j < 4 → thereB (hkAt h j).k = false
theorem none_set {h : Hk} (hn : NoneThere h) (i : Nat) (hi : i < 4) (a : Ac) (ha : thereB a.k = false) : NoneThere (hkSet h i a) := fun j hj => by
  rw [hk_set_at h i hi a j hj]
  split
  · exact ha
  · exact hn j hj
theorem which_none {h : Hk} (hn : NoneThere h) (v : Int) (sh : Bool) : whichN h v sh = 0 := by
  unfold whichN
  rw [hn 0 (by decide), hn 1 (by decide), hn 2 (by decide), hn 3 (by decide)]
  simp
theorem hk_cellsT {W : World} {B : Nat} {h : Hk} {T : TypeId} (hb : Blk W B (hkV h) T) (i : Nat) (hi : i < 4) : W.rangeAt B (12 * i) (acV (hkAt h i)).toList := fun j v hv => by
  rw [hb.cell]
  exact hk_mid h i hi j v (by simpa using hv)
abbrev hkZ : Hk := ⟨acZ, acZ, acZ, acZ⟩
theorem none_Z : NoneThere hkZ := fun j hj => by
  match j, hj with
  | 0, _ | 1, _ | 2, _ | 3, _ => rfl
abbrev acK (k : Int) : Ac := ⟨k, ⟨#[120]⟩, ⟨#[121]⟩, sl0, deZ⟩
def kAt (k0 k1 k2 k3 : Int) (i : Nat) : Int := if i = 0 then k0 else if i = 1 then k1 else if i = 2 then k2 else k3
theorem k_at0 (k0 k1 k2 k3 : Int) (w : World) : (Instr.index 53 (.agg #[.int .i64 k0, .int .i64 k1, .int .i64 k2, .int .i64 k3]) (.int .i64 0)).run Tryd.prog w = .ok (.int .i64 k0) w := by kernel_rfl
theorem k_at1 (k0 k1 k2 k3 : Int) (w : World) : (Instr.index 53 (.agg #[.int .i64 k0, .int .i64 k1, .int .i64 k2, .int .i64 k3]) (.int .i64 1)).run Tryd.prog w = .ok (.int .i64 k1) w := by kernel_rfl
theorem k_at2 (k0 k1 k2 k3 : Int) (w : World) : (Instr.index 53 (.agg #[.int .i64 k0, .int .i64 k1, .int .i64 k2, .int .i64 k3]) (.int .i64 2)).run Tryd.prog w = .ok (.int .i64 k2) w := by kernel_rfl
theorem k_at3 (k0 k1 k2 k3 : Int) (w : World) : (Instr.index 53 (.agg #[.int .i64 k0, .int .i64 k1, .int .i64 k2, .int .i64 k3]) (.int .i64 3)).run Tryd.prog w = .ok (.int .i64 k3) w := by kernel_rfl
theorem k_at (k0 k1 k2 k3 : Int) (i : Nat) (hi : i < 4) (w : World) : (Instr.index 53 (.agg #[.int .i64 k0, .int .i64 k1, .int .i64 k2, .int .i64 k3]) (.int .i64 i)).run Tryd.prog w = .ok (.int .i64 (kAt k0 k1 k2 k3 i)) w := by
  match i, hi with
  | 0, _ => exact k_at0 k0 k1 k2 k3 w
  | 1, _ => exact k_at1 k0 k1 k2 k3 w
  | 2, _ => exact k_at2 k0 k1 k2 k3 w
  | 3, _ => exact k_at3 k0 k1 k2 k3 w
end Go.Proofs.YtaniahkagmjkoaaDoor
