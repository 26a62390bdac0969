/-
  An argument that is a row of methods, opened.
-/
import Derived.Test.YtaniahkagmjkoaaDoorFrame
import Derived.Test.YtaniahkagmjkoaaDoorSpec
import Derived.Test.YtaniahkagmjkoaaDoorHC
import Derived.Deep.Slices
import Derived.Deep.Fields
import Derived.SizedLaws
namespace Go.Proofs.YtaniahkagmjkoaaDoor
open Go.ChangeShapes Go.WideShapes Go.ChangeAt Go.RowKit Go.Lib Go.Deep Go.Proofs

theorem deT : ∃ f0 f1 f2 f3 f4 f5 f6 f7 : Field, Tryd.prog.underlying 26 = some (.struct #[f0, f1, f2, f3, f4, f5, f6, f7]) ∧
    (f0.type = 3 ∧ f1.type = 9 ∧ f2.type = 23 ∧ f3.type = 23 ∧ f4.type = 9 ∧ f5.type = 24 ∧ f6.type = 22 ∧ f7.type = 3) ∧
    (f0.offset = 0 ∧ f1.offset = 1 ∧ f2.offset = 2 ∧ f3.offset = 3 ∧ f4.offset = 4 ∧ f5.offset = 5 ∧ f6.offset = 6 ∧ f7.offset = 7) :=
  ⟨_, _, _, _, _, _, _, _, Tryd.underlying26, ⟨rfl, rfl, rfl, rfl, rfl, rfl, rfl, rfl⟩, ⟨rfl, rfl, rfl, rfl, rfl, rfl, rfl, rfl⟩⟩
theorem acT : ∃ f0 f1 f2 f3 f4 : Field, Tryd.prog.underlying 28 = some (.struct #[f0, f1, f2, f3, f4]) ∧
    (f0.type = 3 ∧ f1.type = 9 ∧ f2.type = 9 ∧ f3.type = 22 ∧ f4.type = 26) ∧ (f0.offset = 0 ∧ f1.offset = 1 ∧ f2.offset = 2 ∧ f3.offset = 3 ∧ f4.offset = 4) :=
  ⟨_, _, _, _, _, Tryd.underlying28, ⟨rfl, rfl, rfl, rfl, rfl⟩, ⟨rfl, rfl, rfl, rfl, rfl⟩⟩
theorem hkT : ∃ f0 f1 f2 f3 : Field, Tryd.prog.underlying 30 = some (.struct #[f0, f1, f2, f3]) ∧
    (f0.type = 28 ∧ f1.type = 28 ∧ f2.type = 28 ∧ f3.type = 28) ∧ (f0.offset = 0 ∧ f1.offset = 12 ∧ f2.offset = 24 ∧ f3.offset = 36) :=
  ⟨_, _, _, _, Tryd.underlying30, ⟨rfl, rfl, rfl, rfl⟩, ⟨rfl, rfl, rfl, rfl⟩⟩
theorem deC : Tryd.prog.cellsOf 26 = 8 := by kernel_rfl
theorem acC : Tryd.prog.cellsOf 28 = 12 := by kernel_rfl
theorem hkC : Tryd.prog.cellsOf 30 = 48 := by kernel_rfl
theorem oneSt : Tryd.prog.cellsOf 9 = 1 := by kernel_rfl
theorem oneIn : Tryd.prog.cellsOf 3 = 1 := by kernel_rfl
theorem oneU : Tryd.prog.cellsOf 23 = 1 := by kernel_rfl
theorem oneNs : Tryd.prog.cellsOf 24 = 1 := by kernel_rfl
theorem oneDs : Tryd.prog.cellsOf 22 = 1 := by kernel_rfl

/-- All that is read takes no more than the reach. -/
def Sz {H : Type} (T : TypeId) (d : DataW H) : Prop := (d.weights Tryd.prog T).all (· ≤ reachBytes) = true
theorem sz_field {H : Type} {T : TypeId} {fs : Array Field} {parts : List (DataW H)} (ht : Tryd.prog.underlying T = some (.struct fs)) (h : Sz T (.agg parts)) {i : Nat} {f : Field} {y : DataW H} (hf : fs[i]? = some f) (hy : parts[i]? = some y) : Sz f.type y := by
  unfold Sz at h ⊢
  unfold DataW.weights at h
  rw [ht] at h
  simp only at h
  rw [List.all_eq_true] at h ⊢
  exact fun n hn => h n (DataW.weights_mem_each (j := i) (by rw [List.getElem?_map, Array.getElem?_toList, hf]; rfl) hy n hn)
theorem sz_string {H : Type} {T : TypeId} {b : List UInt8} (h : Sz T (.lit (.string b) : DataW H)) : b.length ≤ 140737488355328 := by
  unfold Sz at h
  have : b.length ≤ reachBytes := by simpa [DataW.weights] using h
  have h2 : reachBytes ≤ 140737488355328 := by decide
  omega
theorem open_sl {H : Type} {enc : TypeId × Value → H} {w : World} {base : Nat} {spare : Nat → Bool} {held : Bool} {fuel : Nat} {T E : TypeId} {c : Value} {x : DataW H × List MemPlace} (hu : Tryd.prog.underlying T = some (.slice E))
    (h : DataW.trod enc Tryd.prog w base spare held fuel T [c] = some x) : ∃ s : Sl, c = slV s := by
  rcases open_slice hu h with ⟨hc, _⟩ | ⟨a, len, cap, _, _, _, _, hc, _⟩
  · exact ⟨⟨none, 0, 0⟩, by simpa using hc⟩
  · exact ⟨⟨some a, len, cap⟩, by simpa using hc⟩

set_option maxRecDepth 100000 in
/-- A descriptor. -/
theorem open_de {H : Type} {enc : TypeId × Value → H} {w : World} {base : Nat} {spare : Nat → Bool} {held : Bool} {fuel : Nat} {cs : List Value} {x : DataW H × List MemPlace}
    (h : DataW.trod enc Tryd.prog w base spare held fuel 26 cs = some x) :
    ∃ d : De, cs = (deV d).toList ∧ (-9223372036854775808 ≤ d.k ∧ d.k ≤ 9223372036854775807) ∧ (Sz 26 x.1 → d.t.size ≤ 140737488355328) := by
  obtain ⟨f0, f1, f2, f3, f4, f5, f6, f7, hs, ⟨t0, t1, t2, t3, t4, t5, t6, t7⟩, ⟨o0, o1, o2, o3, o4, o5, o6, o7⟩⟩ := deT
  obtain ⟨xs, n, _, rfl, hcl, hlen, hg⟩ := DataW.trod_struct hs h
  rw [deC] at hcl
  match cs, hcl with
  | [c0, c1, c2, c3, c4, c5, c6, c7], _ =>
    match xs, hlen with
    | [y0, y1, y2, y3, y4, y5, y6, y7], _ =>
      have g0 := hg 0 f0 rfl; have g1 := hg 1 f1 rfl; have g2 := hg 2 f2 rfl; have g3 := hg 3 f3 rfl; have g4 := hg 4 f4 rfl; have g5 := hg 5 f5 rfl; have g6 := hg 6 f6 rfl; have g7 := hg 7 f7 rfl
      rw [o0, t0, oneIn] at g0; rw [o1, t1, oneSt] at g1; rw [o2, t2, oneU] at g2; rw [o3, t3, oneU] at g3; rw [o4, t4, oneSt] at g4; rw [o5, t5, oneNs] at g5; rw [o6, t6, oneDs] at g6; rw [o7, t7, oneIn] at g7
      obtain ⟨k, e0, _, w0⟩ := DataW.trod_int Tryd.underlying3 (g0.trans (show _ = some y0 from rfl))
      obtain ⟨ty, e1, _, _⟩ := DataW.trod_string Tryd.underlying9 (g1.trans (show _ = some y1 from rfl))
      obtain ⟨b, e2, _, _⟩ := DataW.trod_int Tryd.underlying23 (g2.trans (show _ = some y2 from rfl))
      obtain ⟨im, e3, _, _⟩ := DataW.trod_int Tryd.underlying23 (g3.trans (show _ = some y3 from rfl))
      obtain ⟨t, e4, q4, _⟩ := DataW.trod_string Tryd.underlying9 (g4.trans (show _ = some y4 from rfl))
      obtain ⟨nm, e5⟩ := open_sl Tryd.underlying24 (g5.trans (show _ = some y5 from rfl))
      obtain ⟨pa, e6⟩ := open_sl Tryd.underlying22 (g6.trans (show _ = some y6 from rfl))
      obtain ⟨hk, e7, _, _⟩ := DataW.trod_int Tryd.underlying3 (g7.trans (show _ = some y7 from rfl))
      simp at e0 e1 e2 e3 e4 e7
      subst e0 e1 e2 e3 e4 e5 e6 e7
      have w0' : -9223372036854775808 ≤ k ∧ k ≤ 9223372036854775807 := by simpa [Lit.wf, IntKind.min, IntKind.max, IntKind.signed, IntKind.bits] using w0
      refine ⟨⟨k, ty, b, im, t, nm, pa, hk⟩, rfl, w0', fun hz => ?_⟩
      have h4 := sz_field hs hz (i := 4) (f := f4) (y := y4.1) rfl rfl
      rw [q4] at h4
      have := sz_string h4
      rw [Utf.size_eq]
      exact this
/-- A list of descriptors. -/
theorem open_args {H : Type} {enc : TypeId × Value → H} {w : World} {base : Nat} {spare : Nat → Bool} {held : Bool} {fuel : Nat} {c : Value} {x : DataW H × List MemPlace}
    (h : DataW.trod enc Tryd.prog w base spare held fuel 22 [c] = some x) : ∃ (s : Sl) (ds : List De), c = slV s ∧ ArgsAt w s ds := by
  rcases open_slice Tryd.underlying22 h with ⟨hc, _⟩ | ⟨a, len, cap, m, n, D, Pl, hc, _, hl, hm, hmm, _, hi⟩
  · exact ⟨⟨none, 0, 0⟩, [], by simpa using hc, rfl, fun h => absurd rfl h⟩
  · have hlm : len ≤ m := by rw [hmm]; split <;> omega
    have each : ∀ j, j < len → ∃ y : De, ∀ (k : Nat) v, (deV y)[k]? = some v → w.cell? (a.add (j * 8 + k)) = some v := by
      intro j hj
      obtain ⟨cs', hc, ht'⟩ := hi j (by omega)
      rw [deC] at hc
      obtain ⟨y, hy, _⟩ := open_de ht'
      obtain ⟨_, hcl, hat⟩ := World.cells?_some hc
      refine ⟨y, fun k v hk => ?_⟩
      have hkl : k < 8 := by
        rcases Nat.lt_or_ge k 8 with q | q
        · exact q
        · rw [Array.getElem?_eq_none (by exact q)] at hk; cases hk
      have := hat k hkl
      rw [← Go.Deep.add_add, this, hy, Array.getElem?_toList, hk]
    have hch := fun j (hj : j < len) => Classical.choose_spec (each j hj)
    obtain ⟨ds, hds⟩ : ∃ ds : List De, ds = (List.range len).map (fun j => if hj : j < len then Classical.choose (each j hj) else deZ) := ⟨_, rfl⟩
    have hlen : ds.length = len := by rw [hds]; simp
    refine ⟨⟨some a, len, cap⟩, ds, by simpa using hc, hlen.symm, fun hne => ?_⟩
    have hp : 0 < len := by rw [← hlen]; exact List.length_pos_iff.2 hne
    obtain ⟨b, off, spot⟩ := a
    have h0 := hch 0 hp 0 _ rfl
    have hspot : spot = none := by simpa [Addr.add] using World.cell?_spot h0
    subst hspot
    refine ⟨b, off, rfl, World.block_lt_of_cell? w _ (by rw [Go.WideShapes.add_plain] at h0; exact h0), fun k d hd j v hv => ?_⟩
    have hk : k < len := by
      rcases Nat.lt_or_ge k len with q | q
      · exact q
      · rw [List.getElem?_eq_none (by omega)] at hd; cases hd
    rw [hds, List.getElem?_map, List.getElem?_range hk, Option.map_some, Option.some.injEq, dif_pos hk] at hd
    have := hch k hk j v (by rw [hd]; exact hv)
    rw [Go.WideShapes.add_plain] at this
    rw [Nat.add_assoc]
    exact this
set_option maxRecDepth 100000 in
/-- A scripted method. -/
theorem open_ac {H : Type} {enc : TypeId × Value → H} {w : World} {base : Nat} {spare : Nat → Bool} {held : Bool} {fuel : Nat} {cs : List Value} {x : DataW H × List MemPlace}
    (h : DataW.trod enc Tryd.prog w base spare held fuel 28 cs = some x) :
    ∃ (a : Ac) (ds : List De), cs = (acV a).toList ∧ (-9223372036854775808 ≤ a.k ∧ a.k ≤ 9223372036854775807) ∧ ArgsAt w a.ar ds ∧ (Sz 28 x.1 → a.t.size ≤ 140737488355328 ∧ a.f.size ≤ 140737488355328 ∧ a.p.t.size ≤ 140737488355328) := by
  obtain ⟨f0, f1, f2, f3, f4, hs, ⟨t0, t1, t2, t3, t4⟩, ⟨o0, o1, o2, o3, o4⟩⟩ := acT
  obtain ⟨xs, n, _, rfl, hcl, hlen, hg⟩ := DataW.trod_struct hs h
  rw [acC] at hcl
  match cs, hcl with
  | [c0, c1, c2, c3, c4, c5, c6, c7, c8, c9, c10, c11], _ =>
    match xs, hlen with
    | [y0, y1, y2, y3, y4], _ =>
      have g0 := hg 0 f0 rfl; have g1 := hg 1 f1 rfl; have g2 := hg 2 f2 rfl; have g3 := hg 3 f3 rfl; have g4 := hg 4 f4 rfl
      rw [o0, t0, oneIn] at g0; rw [o1, t1, oneSt] at g1; rw [o2, t2, oneSt] at g2; rw [o3, t3, oneDs] at g3; rw [o4, t4, deC] at g4
      obtain ⟨k, e0, _, w0⟩ := DataW.trod_int Tryd.underlying3 (g0.trans (show _ = some y0 from rfl))
      obtain ⟨t, e1, q1, _⟩ := DataW.trod_string Tryd.underlying9 (g1.trans (show _ = some y1 from rfl))
      obtain ⟨f, e2, q2, _⟩ := DataW.trod_string Tryd.underlying9 (g2.trans (show _ = some y2 from rfl))
      obtain ⟨ar, ds, e3, hA⟩ := open_args (g3.trans (show _ = some y3 from rfl))
      obtain ⟨p, e4, _, hp⟩ := open_de (g4.trans (show _ = some y4 from rfl))
      simp at e0 e1 e2
      have e4' : [c4, c5, c6, c7, c8, c9, c10, c11] = (deV p).toList := e4
      simp only [List.cons.injEq, and_true] at e4'
      obtain ⟨r0, r1, r2, r3, r4, r5, r6, r7⟩ := e4'
      subst e0 e1 e2 e3 r0 r1 r2 r3 r4 r5 r6 r7
      have w0' : -9223372036854775808 ≤ k ∧ k ≤ 9223372036854775807 := by simpa [Lit.wf, IntKind.min, IntKind.max, IntKind.signed, IntKind.bits] using w0
      refine ⟨⟨k, t, f, ar, p⟩, ds, rfl, w0', hA, fun hz => ?_⟩
      have h1 := sz_field hs hz (i := 1) (f := f1) (y := y1.1) rfl rfl
      have h2 := sz_field hs hz (i := 2) (f := f2) (y := y2.1) rfl rfl
      have h4 := sz_field hs hz (i := 4) (f := f4) (y := y4.1) rfl rfl
      rw [q1] at h1
      rw [q2] at h2
      rw [t4] at h4
      refine ⟨?_, ?_, hp h4⟩
      · rw [Utf.size_eq]; exact sz_string h1
      · rw [Utf.size_eq]; exact sz_string h2
/-- What is known of a row of methods that was handed. -/
structure HkOk (w : World) (h : Hk) : Prop where
  k : ∀ i, i < 4 → -9223372036854775808 ≤ (hkAt h i).k ∧ (hkAt h i).k ≤ 9223372036854775807
  a : ∀ i, i < 4 → ∃ ds, ArgsAt w (hkAt h i).ar ds
/-- .. and of its texts. -/
def HkSz (h : Hk) : Prop := ∀ i, i < 4 → (hkAt h i).t.size ≤ 140737488355328 ∧ (hkAt h i).f.size ≤ 140737488355328 ∧ (hkAt h i).p.t.size ≤ 140737488355328
set_option maxRecDepth 100000 in
/-- A row of methods. -/
theorem open_hk {H : Type} {enc : TypeId × Value → H} {w : World} {base : Nat} {spare : Nat → Bool} {held : Bool} {fuel : Nat} {cs : List Value} {x : DataW H × List MemPlace}
    (h : DataW.trod enc Tryd.prog w base spare held fuel 30 cs = some x) : ∃ hk : Hk, cs = (hkV hk).toList ∧ HkOk w hk ∧ (Sz 30 x.1 → HkSz hk) := by
  obtain ⟨f0, f1, f2, f3, hs, ⟨t0, t1, t2, t3⟩, ⟨o0, o1, o2, o3⟩⟩ := hkT
  obtain ⟨xs, n, _, rfl, hcl, hlen, hg⟩ := DataW.trod_struct hs h
  rw [hkC] at hcl
  match xs, hlen with
  | [y0, y1, y2, y3], _ =>
    have g0 := hg 0 f0 rfl; have g1 := hg 1 f1 rfl; have g2 := hg 2 f2 rfl; have g3 := hg 3 f3 rfl
    rw [o0, t0, acC] at g0; rw [o1, t1, acC] at g1; rw [o2, t2, acC] at g2; rw [o3, t3, acC] at g3
    obtain ⟨a0, d0, e0, k0, A0, z0⟩ := open_ac (g0.trans (show _ = some y0 from rfl))
    obtain ⟨a1, d1, e1, k1, A1, z1⟩ := open_ac (g1.trans (show _ = some y1 from rfl))
    obtain ⟨a2, d2, e2, k2, A2, z2⟩ := open_ac (g2.trans (show _ = some y2 from rfl))
    obtain ⟨a3, d3, e3, k3, A3, z3⟩ := open_ac (g3.trans (show _ = some y3 from rfl))
    refine ⟨⟨a0, a1, a2, a3⟩, ?_, ⟨fun i hi => ?_, fun i hi => ?_⟩, fun hz i hi => ?_⟩
    · show cs = (acV a0).toList ++ ((acV a1).toList ++ ((acV a2).toList ++ (acV a3).toList))
      rw [← e0, ← e1, ← e2, ← e3, List.drop_zero]
      have q3 : (cs.drop 36).take 12 = cs.drop 36 := List.take_of_length_le (by rw [List.length_drop]; omega)
      rw [q3]
      have s3 : (cs.drop 24).take 12 ++ cs.drop 36 = cs.drop 24 := by
        have := List.take_append_drop 12 (cs.drop 24)
        rw [List.drop_drop] at this
        exact this
      rw [s3]
      have s2 : (cs.drop 12).take 12 ++ cs.drop 24 = cs.drop 12 := by
        have := List.take_append_drop 12 (cs.drop 12)
        rw [List.drop_drop] at this
        exact this
      rw [s2, List.take_append_drop]
    · match i, hi with
      | 0, _ => exact k0
      | 1, _ => exact k1
      | 2, _ => exact k2
      | 3, _ => exact k3
    · match i, hi with
      | 0, _ => exact ⟨d0, A0⟩
      | 1, _ => exact ⟨d1, A1⟩
      | 2, _ => exact ⟨d2, A2⟩
      | 3, _ => exact ⟨d3, A3⟩
    · have h0 := sz_field hs hz (i := 0) (f := f0) (y := y0.1) rfl rfl
      have h1 := sz_field hs hz (i := 1) (f := f1) (y := y1.1) rfl rfl
      have h2 := sz_field hs hz (i := 2) (f := f2) (y := y2.1) rfl rfl
      have h3 := sz_field hs hz (i := 3) (f := f3) (y := y3.1) rfl rfl
      rw [t0] at h0; rw [t1] at h1; rw [t2] at h2; rw [t3] at h3
      match i, hi with
      | 0, _ => exact z0 h0
      | 1, _ => exact z1 h1
      | 2, _ => exact z2 h2
      | 3, _ => exact z3 h3
theorem sz_arg {H : Type} {ts : List TypeId} {ds : List (DataW H)} (h : (DataW.weightsEach Tryd.prog ts ds).all (· ≤ reachBytes) = true) {j : Nat} {T : TypeId} {d : DataW H} (ht : ts[j]? = some T) (hd : ds[j]? = some d) : Sz T d := by
  unfold Sz
  rw [List.all_eq_true] at h ⊢
  exact fun n hn => h n (DataW.weights_mem_each ht hd n hn)
set_option maxRecDepth 100000 in
/-- The same, of an argument. -/
theorem open_hook {H : Type} {enc : TypeId × Value → H} {w : World} {base : Nat} {spare : Nat → Bool} {held : Bool} {r : Reach} {b0 : Nat} {v : Value} {d : DataW H} {p : List MemPlace}
    (hv : Value.okWide Tryd.prog w r b0 30 v) (h : DataW.Trod enc Tryd.prog w base spare held 30 v d p) : ∃ hk : Hk, v = .agg (hkV hk) ∧ HkOk w hk ∧ (Sz 30 d → HkSz hk) := by
  obtain ⟨f0, f1, f2, f3, hs, _, _⟩ := hkT
  obtain ⟨cs, rfl, hsz⟩ := okWide_struct hs hv
  obtain ⟨fuel, hf⟩ := h
  obtain ⟨hk, hc, hok, hz⟩ := open_hk hf
  refine ⟨hk, ?_, hok, hz⟩
  have : cs.toList = (hkV hk).toList := hc
  rw [Array.toList_inj.1 this]
end Go.Proofs.YtaniahkagmjkoaaDoor
