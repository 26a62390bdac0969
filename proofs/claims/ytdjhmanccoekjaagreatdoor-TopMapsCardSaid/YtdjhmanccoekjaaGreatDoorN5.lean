/-
  Texts of this claim, joined: HO, HP, HN, TB, TD.
-/
import Derived.Deep.Slices
import Derived.Deep.Fields
import Derived.SizedLaws
import Derived.Lib.ConvBytes
import Derived.Laws.BitsLemmas
import Derived.Test.YtdjhmanccoekjaaGreatDoorN1
import Derived.Test.YtdjhmanccoekjaaGreatDoorN4

section
namespace Go.Proofs.YtdjhmanccoekjaaGreatDoor
open Go.ChangeShapes Go.WideShapes Go.ChangeAt Go.RowKit Go.Lib Go.Deep Go.Proofs

theorem deT : ∃ f0 f1 f2 f3 f4 f5 f6 f7 : Field, Tryz.prog.underlying 29 = some (.struct #[f0, f1, f2, f3, f4, f5, f6, f7]) ∧
    (f0.type = 3 ∧ f1.type = 9 ∧ f2.type = 26 ∧ f3.type = 26 ∧ f4.type = 9 ∧ f5.type = 27 ∧ f6.type = 25 ∧ f7.type = 3) ∧
    (f0.offset = 0 ∧ f1.offset = 1 ∧ f2.offset = 2 ∧ f3.offset = 3 ∧ f4.offset = 4 ∧ f5.offset = 5 ∧ f6.offset = 6 ∧ f7.offset = 7) :=
  ⟨_, _, _, _, _, _, _, _, Tryz.underlying29, ⟨rfl, rfl, rfl, rfl, rfl, rfl, rfl, rfl⟩, ⟨rfl, rfl, rfl, rfl, rfl, rfl, rfl, rfl⟩⟩
theorem acT : ∃ f0 f1 f2 f3 f4 : Field, Tryz.prog.underlying 31 = some (.struct #[f0, f1, f2, f3, f4]) ∧
    (f0.type = 3 ∧ f1.type = 9 ∧ f2.type = 9 ∧ f3.type = 25 ∧ f4.type = 29) ∧ (f0.offset = 0 ∧ f1.offset = 1 ∧ f2.offset = 2 ∧ f3.offset = 3 ∧ f4.offset = 4) :=
  ⟨_, _, _, _, _, Tryz.underlying31, ⟨rfl, rfl, rfl, rfl, rfl⟩, ⟨rfl, rfl, rfl, rfl, rfl⟩⟩
theorem hkT : ∃ f0 f1 f2 f3 : Field, Tryz.prog.underlying 34 = some (.struct #[f0, f1, f2, f3]) ∧
    (f0.type = 31 ∧ f1.type = 31 ∧ f2.type = 31 ∧ f3.type = 31) ∧ (f0.offset = 0 ∧ f1.offset = 12 ∧ f2.offset = 24 ∧ f3.offset = 36) :=
  ⟨_, _, _, _, Tryz.underlying34, ⟨rfl, rfl, rfl, rfl⟩, ⟨rfl, rfl, rfl, rfl⟩⟩
theorem deC : Tryz.prog.cellsOf 29 = 8 := by kernel_rfl
theorem acC : Tryz.prog.cellsOf 31 = 12 := by kernel_rfl
theorem hkC : Tryz.prog.cellsOf 34 = 48 := by kernel_rfl
theorem oneSt : Tryz.prog.cellsOf 9 = 1 := by kernel_rfl
theorem oneIn : Tryz.prog.cellsOf 3 = 1 := by kernel_rfl
theorem oneU : Tryz.prog.cellsOf 26 = 1 := by kernel_rfl
theorem oneNs : Tryz.prog.cellsOf 27 = 1 := by kernel_rfl
theorem oneDs : Tryz.prog.cellsOf 25 = 1 := by kernel_rfl

/-- All that is read takes no more than the reach. -/
def Sz {H : Type} (T : TypeId) (d : DataW H) : Prop := (d.weights Tryz.prog T).all (· ≤ reachBytes) = true
theorem sz_field {H : Type} {T : TypeId} {fs : Array Field} {parts : List (DataW H)} (ht : Tryz.prog.underlying T = some (.struct fs)) (h : Sz T (.agg parts)) {i : Nat} {f : Field} {y : DataW H} (hf : fs[i]? = some f) (hy : parts[i]? = some y) : Sz f.type y := by
  unfold Sz at h ⊢
  unfold DataW.weights at h
  rw [ht] at h
  simp only at h
  rw [List.all_eq_true] at h ⊢
  exact fun n hn => h n (DataW.weights_mem_each (j := i) (by rw [List.getElem?_map, Array.getElem?_toList, hf]; rfl) hy n hn)
theorem sz_string {H : Type} {T : TypeId} {b : List UInt8} (h : Sz T (.lit (.string b) : DataW H)) : b.length ≤ 140737488355328 := by
  unfold Sz at h
  have : b.length ≤ reachBytes := by simpa [DataW.weights] using h
  have h2 : reachBytes ≤ 140737488355328 := by decide
  omega
theorem open_sl {H : Type} {enc : TypeId × Value → H} {w : World} {base : Nat} {spare : Nat → Bool} {held : Bool} {fuel : Nat} {T E : TypeId} {c : Value} {x : DataW H × List MemPlace} (hu : Tryz.prog.underlying T = some (.slice E))
    (h : DataW.trod enc Tryz.prog w base spare held fuel T [c] = some x) : ∃ s : Sl, c = slV s := by
  rcases open_slice hu h with ⟨hc, _⟩ | ⟨a, len, cap, _, _, _, _, hc, _⟩
  · exact ⟨⟨none, 0, 0⟩, by simpa using hc⟩
  · exact ⟨⟨some a, len, cap⟩, by simpa using hc⟩

set_option maxRecDepth 100000 in
/-- A descriptor. -/
theorem open_de {H : Type} {enc : TypeId × Value → H} {w : World} {base : Nat} {spare : Nat → Bool} {held : Bool} {fuel : Nat} {cs : List Value} {x : DataW H × List MemPlace}
    (h : DataW.trod enc Tryz.prog w base spare held fuel 29 cs = some x) :
    ∃ d : De, cs = (deV d).toList ∧ (-9223372036854775808 ≤ d.k ∧ d.k ≤ 9223372036854775807) ∧ (Sz 29 x.1 → d.t.size ≤ 140737488355328) := by
  obtain ⟨f0, f1, f2, f3, f4, f5, f6, f7, hs, ⟨t0, t1, t2, t3, t4, t5, t6, t7⟩, ⟨o0, o1, o2, o3, o4, o5, o6, o7⟩⟩ := deT
  obtain ⟨xs, n, _, rfl, hcl, hlen, hg⟩ := DataW.trod_struct hs h
  rw [deC] at hcl
  match cs, hcl with
  | [c0, c1, c2, c3, c4, c5, c6, c7], _ =>
    match xs, hlen with
    | [y0, y1, y2, y3, y4, y5, y6, y7], _ =>
      have g0 := hg 0 f0 rfl; have g1 := hg 1 f1 rfl; have g2 := hg 2 f2 rfl; have g3 := hg 3 f3 rfl; have g4 := hg 4 f4 rfl; have g5 := hg 5 f5 rfl; have g6 := hg 6 f6 rfl; have g7 := hg 7 f7 rfl
      rw [o0, t0, oneIn] at g0; rw [o1, t1, oneSt] at g1; rw [o2, t2, oneU] at g2; rw [o3, t3, oneU] at g3; rw [o4, t4, oneSt] at g4; rw [o5, t5, oneNs] at g5; rw [o6, t6, oneDs] at g6; rw [o7, t7, oneIn] at g7
      obtain ⟨k, e0, _, w0⟩ := DataW.trod_int Tryz.underlying3 (g0.trans (show _ = some y0 from rfl))
      obtain ⟨ty, e1, _, _⟩ := DataW.trod_string Tryz.underlying9 (g1.trans (show _ = some y1 from rfl))
      obtain ⟨b, e2, _, _⟩ := DataW.trod_int Tryz.underlying26 (g2.trans (show _ = some y2 from rfl))
      obtain ⟨im, e3, _, _⟩ := DataW.trod_int Tryz.underlying26 (g3.trans (show _ = some y3 from rfl))
      obtain ⟨t, e4, q4, _⟩ := DataW.trod_string Tryz.underlying9 (g4.trans (show _ = some y4 from rfl))
      obtain ⟨nm, e5⟩ := open_sl Tryz.underlying27 (g5.trans (show _ = some y5 from rfl))
      obtain ⟨pa, e6⟩ := open_sl Tryz.underlying25 (g6.trans (show _ = some y6 from rfl))
      obtain ⟨hk, e7, _, _⟩ := DataW.trod_int Tryz.underlying3 (g7.trans (show _ = some y7 from rfl))
      simp at e0 e1 e2 e3 e4 e7
      subst e0 e1 e2 e3 e4 e5 e6 e7
      have w0' : -9223372036854775808 ≤ k ∧ k ≤ 9223372036854775807 := by simpa [Lit.wf, IntKind.min, IntKind.max, IntKind.signed, IntKind.bits] using w0
      refine ⟨⟨k, ty, b, im, t, nm, pa, hk⟩, rfl, w0', fun hz => ?_⟩
      have h4 := sz_field hs hz (i := 4) (f := f4) (y := y4.1) rfl rfl
      rw [q4] at h4
      have := sz_string h4
      rw [Utf.size_eq]
      exact this
/-- A list of descriptors. -/
theorem open_args {H : Type} {enc : TypeId × Value → H} {w : World} {base : Nat} {spare : Nat → Bool} {held : Bool} {fuel : Nat} {c : Value} {x : DataW H × List MemPlace}
    (h : DataW.trod enc Tryz.prog w base spare held fuel 25 [c] = some x) : ∃ (s : Sl) (ds : List De), c = slV s ∧ ArgsAt w s ds := by
  rcases open_slice Tryz.underlying25 h with ⟨hc, _⟩ | ⟨a, len, cap, m, n, D, Pl, hc, _, hl, hm, hmm, _, hi⟩
  · exact ⟨⟨none, 0, 0⟩, [], by simpa using hc, rfl, fun h => absurd rfl h⟩
  · have hlm : len ≤ m := by rw [hmm]; split <;> omega
    have each : ∀ j, j < len → ∃ y : De, ∀ (k : Nat) v, (deV y)[k]? = some v → w.cell? (a.add (j * 8 + k)) = some v := by
      intro j hj
      obtain ⟨cs', hc, ht'⟩ := hi j (by omega)
      rw [deC] at hc
      obtain ⟨y, hy, _⟩ := open_de ht'
      obtain ⟨_, hcl, hat⟩ := World.cells?_some hc
      refine ⟨y, fun k v hk => ?_⟩
      have hkl : k < 8 := by
        rcases Nat.lt_or_ge k 8 with q | q
        · exact q
        · rw [Array.getElem?_eq_none (by exact q)] at hk; cases hk
      have := hat k hkl
      rw [← Go.Deep.add_add, this, hy, Array.getElem?_toList, hk]
    have hch := fun j (hj : j < len) => Classical.choose_spec (each j hj)
    obtain ⟨ds, hds⟩ : ∃ ds : List De, ds = (List.range len).map (fun j => if hj : j < len then Classical.choose (each j hj) else deZ) := ⟨_, rfl⟩
    have hlen : ds.length = len := by rw [hds]; simp
    refine ⟨⟨some a, len, cap⟩, ds, by simpa using hc, hlen.symm, fun hne => ?_⟩
    have hp : 0 < len := by rw [← hlen]; exact List.length_pos_iff.2 hne
    obtain ⟨b, off, spot⟩ := a
    have h0 := hch 0 hp 0 _ rfl
    have hspot : spot = none := by simpa [Addr.add] using World.cell?_spot h0
    subst hspot
    refine ⟨b, off, rfl, World.block_lt_of_cell? w _ (by rw [Go.WideShapes.add_plain] at h0; exact h0), fun k d hd j v hv => ?_⟩
    have hk : k < len := by
      rcases Nat.lt_or_ge k len with q | q
      · exact q
      · rw [List.getElem?_eq_none (by omega)] at hd; cases hd
    rw [hds, List.getElem?_map, List.getElem?_range hk, Option.map_some, Option.some.injEq, dif_pos hk] at hd
    have := hch k hk j v (by rw [hd]; exact hv)
    rw [Go.WideShapes.add_plain] at this
    rw [Nat.add_assoc]
    exact this
set_option maxRecDepth 100000 in
/-- A scripted method. -/
theorem open_ac {H : Type} {enc : TypeId × Value → H} {w : World} {base : Nat} {spare : Nat → Bool} {held : Bool} {fuel : Nat} {cs : List Value} {x : DataW H × List MemPlace}
    (h : DataW.trod enc Tryz.prog w base spare held fuel 31 cs = some x) :
    ∃ (a : Ac) (ds : List De), cs = (acV a).toList ∧ (-9223372036854775808 ≤ a.k ∧ a.k ≤ 9223372036854775807) ∧ ArgsAt w a.ar ds ∧ (Sz 31 x.1 → a.t.size ≤ 140737488355328 ∧ a.f.size ≤ 140737488355328 ∧ a.p.t.size ≤ 140737488355328) := by
  obtain ⟨f0, f1, f2, f3, f4, hs, ⟨t0, t1, t2, t3, t4⟩, ⟨o0, o1, o2, o3, o4⟩⟩ := acT
  obtain ⟨xs, n, _, rfl, hcl, hlen, hg⟩ := DataW.trod_struct hs h
  rw [acC] at hcl
  match cs, hcl with
  | [c0, c1, c2, c3, c4, c5, c6, c7, c8, c9, c10, c11], _ =>
    match xs, hlen with
    | [y0, y1, y2, y3, y4], _ =>
      have g0 := hg 0 f0 rfl; have g1 := hg 1 f1 rfl; have g2 := hg 2 f2 rfl; have g3 := hg 3 f3 rfl; have g4 := hg 4 f4 rfl
      rw [o0, t0, oneIn] at g0; rw [o1, t1, oneSt] at g1; rw [o2, t2, oneSt] at g2; rw [o3, t3, oneDs] at g3; rw [o4, t4, deC] at g4
      obtain ⟨k, e0, _, w0⟩ := DataW.trod_int Tryz.underlying3 (g0.trans (show _ = some y0 from rfl))
      obtain ⟨t, e1, q1, _⟩ := DataW.trod_string Tryz.underlying9 (g1.trans (show _ = some y1 from rfl))
      obtain ⟨f, e2, q2, _⟩ := DataW.trod_string Tryz.underlying9 (g2.trans (show _ = some y2 from rfl))
      obtain ⟨ar, ds, e3, hA⟩ := open_args (g3.trans (show _ = some y3 from rfl))
      obtain ⟨p, e4, _, hp⟩ := open_de (g4.trans (show _ = some y4 from rfl))
      simp at e0 e1 e2
      have e4' : [c4, c5, c6, c7, c8, c9, c10, c11] = (deV p).toList := e4
      simp only [List.cons.injEq, and_true] at e4'
      obtain ⟨r0, r1, r2, r3, r4, r5, r6, r7⟩ := e4'
      subst e0 e1 e2 e3 r0 r1 r2 r3 r4 r5 r6 r7
      have w0' : -9223372036854775808 ≤ k ∧ k ≤ 9223372036854775807 := by simpa [Lit.wf, IntKind.min, IntKind.max, IntKind.signed, IntKind.bits] using w0
      refine ⟨⟨k, t, f, ar, p⟩, ds, rfl, w0', hA, fun hz => ?_⟩
      have h1 := sz_field hs hz (i := 1) (f := f1) (y := y1.1) rfl rfl
      have h2 := sz_field hs hz (i := 2) (f := f2) (y := y2.1) rfl rfl
      have h4 := sz_field hs hz (i := 4) (f := f4) (y := y4.1) rfl rfl
      rw [q1] at h1
      rw [q2] at h2
      rw [t4] at h4
      refine ⟨?_, ?_, hp h4⟩
      · rw [Utf.size_eq]; exact sz_string h1
      · rw [Utf.size_eq]; exact sz_string h2
/-- What is known of a row of methods that was handed. -/
structure HkOk (w : World) (h : Hk) : Prop where
  k : ∀ i, i < 4 → -9223372036854775808 ≤ (hkAt h i).k ∧ (hkAt h i).k ≤ 9223372036854775807
  a : ∀ i, i < 4 → ∃ ds, ArgsAt w (hkAt h i).ar ds
/-- .. and of its texts. -/
def HkSz (h : Hk) : Prop := ∀ i, i < 4 → (hkAt h i).t.size ≤ 140737488355328 ∧ (hkAt h i).f.size ≤ 140737488355328 ∧ (hkAt h i).p.t.size ≤ 140737488355328
set_option maxRecDepth 100000 in
/-- A row of methods. -/
theorem open_hk {H : Type} {enc : TypeId × Value → H} {w : World} {base : Nat} {spare : Nat → Bool} {held : Bool} {fuel : Nat} {cs : List Value} {x : DataW H × List MemPlace}
    (h : DataW.trod enc Tryz.prog w base spare held fuel 34 cs = some x) : ∃ hk : Hk, cs = (hkV hk).toList ∧ HkOk w hk ∧ (Sz 34 x.1 → HkSz hk) := by
  obtain ⟨f0, f1, f2, f3, hs, ⟨t0, t1, t2, t3⟩, ⟨o0, o1, o2, o3⟩⟩ := hkT
  obtain ⟨xs, n, _, rfl, hcl, hlen, hg⟩ := DataW.trod_struct hs h
  rw [hkC] at hcl
  match xs, hlen with
  | [y0, y1, y2, y3], _ =>
    have g0 := hg 0 f0 rfl; have g1 := hg 1 f1 rfl; have g2 := hg 2 f2 rfl; have g3 := hg 3 f3 rfl
    rw [o0, t0, acC] at g0; rw [o1, t1, acC] at g1; rw [o2, t2, acC] at g2; rw [o3, t3, acC] at g3
    obtain ⟨a0, d0, e0, k0, A0, z0⟩ := open_ac (g0.trans (show _ = some y0 from rfl))
    obtain ⟨a1, d1, e1, k1, A1, z1⟩ := open_ac (g1.trans (show _ = some y1 from rfl))
    obtain ⟨a2, d2, e2, k2, A2, z2⟩ := open_ac (g2.trans (show _ = some y2 from rfl))
    obtain ⟨a3, d3, e3, k3, A3, z3⟩ := open_ac (g3.trans (show _ = some y3 from rfl))
    refine ⟨⟨a0, a1, a2, a3⟩, ?_, ⟨fun i hi => ?_, fun i hi => ?_⟩, fun hz i hi => ?_⟩
    · show cs = (acV a0).toList ++ ((acV a1).toList ++ ((acV a2).toList ++ (acV a3).toList))
      rw [← e0, ← e1, ← e2, ← e3, List.drop_zero]
      have q3 : (cs.drop 36).take 12 = cs.drop 36 := List.take_of_length_le (by rw [List.length_drop]; omega)
      rw [q3]
      have s3 : (cs.drop 24).take 12 ++ cs.drop 36 = cs.drop 24 := by
        have := List.take_append_drop 12 (cs.drop 24)
        rw [List.drop_drop] at this
        exact this
      rw [s3]
      have s2 : (cs.drop 12).take 12 ++ cs.drop 24 = cs.drop 12 := by
        have := List.take_append_drop 12 (cs.drop 12)
        rw [List.drop_drop] at this
        exact this
      rw [s2, List.take_append_drop]
    · match i, hi with
      | 0, _ => exact k0
      | 1, _ => exact k1
      | 2, _ => exact k2
      | 3, _ => exact k3
    · match i, hi with
      | 0, _ => exact ⟨d0, A0⟩
      | 1, _ => exact ⟨d1, A1⟩
      | 2, _ => exact ⟨d2, A2⟩
      | 3, _ => exact ⟨d3, A3⟩
    · have h0 := sz_field hs hz (i := 0) (f := f0) (y := y0.1) rfl rfl
      have h1 := sz_field hs hz (i := 1) (f := f1) (y := y1.1) rfl rfl
      have h2 := sz_field hs hz (i := 2) (f := f2) (y := y2.1) rfl rfl
      have h3 := sz_field hs hz (i := 3) (f := f3) (y := y3.1) rfl rfl
      rw [t0] at h0; rw [t1] at h1; rw [t2] at h2; rw [t3] at h3
      match i, hi with
      | 0, _ => exact z0 h0
      | 1, _ => exact z1 h1
      | 2, _ => exact z2 h2
      | 3, _ => exact z3 h3
theorem sz_arg {H : Type} {ts : List TypeId} {ds : List (DataW H)} (h : (DataW.weightsEach Tryz.prog ts ds).all (· ≤ reachBytes) = true) {j : Nat} {T : TypeId} {d : DataW H} (ht : ts[j]? = some T) (hd : ds[j]? = some d) : Sz T d := by
  unfold Sz
  rw [List.all_eq_true] at h ⊢
  exact fun n hn => h n (DataW.weights_mem_each ht hd n hn)
set_option maxRecDepth 100000 in
/-- The same, of an argument. -/
theorem open_hook {H : Type} {enc : TypeId × Value → H} {w : World} {base : Nat} {spare : Nat → Bool} {held : Bool} {r : Reach} {b0 : Nat} {v : Value} {d : DataW H} {p : List MemPlace}
    (hv : Value.okWide Tryz.prog w r b0 34 v) (h : DataW.Trod enc Tryz.prog w base spare held 34 v d p) : ∃ hk : Hk, v = .agg (hkV hk) ∧ HkOk w hk ∧ (Sz 34 d → HkSz hk) := by
  obtain ⟨f0, f1, f2, f3, hs, _, _⟩ := hkT
  obtain ⟨cs, rfl, hsz⟩ := okWide_struct hs hv
  obtain ⟨fuel, hf⟩ := h
  obtain ⟨hk, hc, hok, hz⟩ := open_hk hf
  refine ⟨hk, ?_, hok, hz⟩
  have : cs.toList = (hkV hk).toList := hc
  rw [Array.toList_inj.1 this]
end Go.Proofs.YtdjhmanccoekjaaGreatDoor
end

section
namespace Go.Proofs.YtdjhmanccoekjaaGreatDoor
open Go.RowKit Go.Proofs

def setMany (cs : Array Value) (o : Nat) : List Value → Array Value
  | [] => cs
  | v :: r => setMany (cs.setIfInBounds o v) (o + 1) r
theorem setMany_mid : ∀ (vs pre xs ys : List Value), vs.length = xs.length → setMany (pre ++ (xs ++ ys)).toArray pre.length vs = (pre ++ (vs ++ ys)).toArray
  | [], pre, xs, ys, h => by
    have : xs = [] := List.eq_nil_of_length_eq_zero h.symm
    rw [this]; rfl
  | v :: r, pre, x :: xs, ys, h => by
    rw [setMany, List.setIfInBounds_toArray]
    have e : (pre ++ (x :: xs ++ ys)).set pre.length v = (pre ++ [v]) ++ (xs ++ ys) := by simp
    have := setMany_mid r (pre ++ [v]) xs ys (by simpa using h)
    rw [List.length_append, List.length_singleton] at this
    rw [e, this]
    simp
  | _ :: _, _, [], _, h => by simp at h
theorem Blk.setCells {g : Nat} {t : TypeId} : ∀ (vs : List Value) (o : Nat) (W : World) (cs : Array Value), Blk W g cs t → Blk (W.setCells g o vs) g (setMany cs o vs) t
  | [], _, _, _, h => h
  | v :: r, o, W, cs, h => by rw [World.setCells]; exact Blk.setCells r (o + 1) _ _ (h.set_ o v)
theorem setCells_far {g k : Nat} (hk : k ≠ g) : ∀ (vs : List Value) (o : Nat) (W : World), (W.setCells g o vs).heap[k]? = W.heap[k]?
  | [], _, _ => rfl
  | v :: r, o, W => by rw [World.setCells, setCells_far hk r]; exact Below.heap_setCell W _ v k hk
theorem setCells_rest (g : Nat) : ∀ (vs : List Value) (o : Nat) (W : World), (W.setCells g o vs).os = W.os ∧ (W.setCells g o vs).tape = W.tape ∧ (W.setCells g o vs).output = W.output ∧ (W.setCells g o vs).heap.size = W.heap.size
  | [], _, _ => ⟨rfl, rfl, rfl, rfl⟩
  | v :: r, o, W => by
    rw [World.setCells]
    obtain ⟨h1, h2, h3, h4⟩ := setCells_rest g r (o + 1) (W.setCell ⟨g, o, none⟩ v)
    exact ⟨h1, h2, h3, by rw [h4]; simp [World.setCell]⟩
theorem below_setCells {B : Nat} {a c : World} (h : Below B a c) (g : Nat) (hg : B ≤ g) (vs : List Value) (o : Nat) : Below B a (c.setCells g o vs) := by
  obtain ⟨h1, h2, h3, h4⟩ := setCells_rest g vs o c
  exact ⟨h1.trans h.os, h2.trans h.tape, h3.trans h.output, by rw [h4]; exact h.size, fun k hk => (setCells_far (by omega) vs o c).trans (h.block k hk)⟩
theorem Blk.there {W : World} {g : Nat} {cs : Array Value} {t : TypeId} (h : Blk W g cs t) (o n : Nat) (hn : o + n ≤ cs.size) : W.there g o n := fun j hj => ⟨by rw [h.cell, Array.getElem?_eq_getElem (by omega)]; rfl, h.frozen _⟩
/-- The row with another first method. -/
def hkFo (h : Hk) (a : Ac) : Hk := { h with fo := a }
theorem hk_fo (h : Hk) (a : Ac) : setMany (hkV h) 0 (acV a).toList = hkV (hkFo h a) :=
  setMany_mid (acV a).toList [] (acV h.fo).toList ((acV h.sy).toList ++ ((acV h.er).toList ++ (acV h.st).toList)) rfl
theorem hk_put {W : World} {B : Nat} {h : Hk} {T : TypeId} (hb : Blk W B (hkV h) T) (a : Ac) : Blk (W.setCells B 0 (acV a).toList) B (hkV (hkFo h a)) T := by
  have := hb.setCells (acV a).toList 0 W (hkV h)
  rw [hk_fo] at this
  exact this
theorem hk_row0 {W : World} {B : Nat} {h : Hk} {T : TypeId} (hb : Blk W B (hkV h) T) : W.cell? ⟨B, 0, none⟩ = some (.int .i64 (hkAt h 0).k) ∧
    W.cell? ⟨B, 1, none⟩ = some (.string (hkAt h 0).t) ∧
    W.cell? ⟨B, 2, none⟩ = some (.string (hkAt h 0).f) ∧
    W.cell? ⟨B, 3, none⟩ = some (slV (hkAt h 0).ar) ∧
    W.cell? ⟨B, 4, none⟩ = some (.int .i64 (hkAt h 0).p.k) ∧
    W.cell? ⟨B, 5, none⟩ = some (.string (hkAt h 0).p.ty) ∧
    W.cell? ⟨B, 6, none⟩ = some (.int .u64 (hkAt h 0).p.b) ∧
    W.cell? ⟨B, 7, none⟩ = some (.int .u64 (hkAt h 0).p.im) ∧
    W.cell? ⟨B, 8, none⟩ = some (.string (hkAt h 0).p.t) ∧
    W.cell? ⟨B, 9, none⟩ = some (slV (hkAt h 0).p.nm) ∧
    W.cell? ⟨B, 10, none⟩ = some (slV (hkAt h 0).p.pa) ∧
    W.cell? ⟨B, 11, none⟩ = some (.int .i64 (hkAt h 0).p.hk) :=
  ⟨(hb.cell 0).trans (hk_mid h 0 (by decide) 0 _ rfl), (hb.cell 1).trans (hk_mid h 0 (by decide) 1 _ rfl), (hb.cell 2).trans (hk_mid h 0 (by decide) 2 _ rfl), (hb.cell 3).trans (hk_mid h 0 (by decide) 3 _ rfl), (hb.cell 4).trans (hk_mid h 0 (by decide) 4 _ rfl), (hb.cell 5).trans (hk_mid h 0 (by decide) 5 _ rfl), (hb.cell 6).trans (hk_mid h 0 (by decide) 6 _ rfl), (hb.cell 7).trans (hk_mid h 0 (by decide) 7 _ rfl), (hb.cell 8).trans (hk_mid h 0 (by decide) 8 _ rfl), (hb.cell 9).trans (hk_mid h 0 (by decide) 9 _ rfl), (hb.cell 10).trans (hk_mid h 0 (by decide) 10 _ rfl), (hb.cell 11).trans (hk_mid h 0 (by decide) 11 _ rfl)⟩
theorem hk_row1 {W : World} {B : Nat} {h : Hk} {T : TypeId} (hb : Blk W B (hkV h) T) : W.cell? ⟨B, 12, none⟩ = some (.int .i64 (hkAt h 1).k) ∧
    W.cell? ⟨B, 13, none⟩ = some (.string (hkAt h 1).t) ∧
    W.cell? ⟨B, 14, none⟩ = some (.string (hkAt h 1).f) ∧
    W.cell? ⟨B, 15, none⟩ = some (slV (hkAt h 1).ar) ∧
    W.cell? ⟨B, 16, none⟩ = some (.int .i64 (hkAt h 1).p.k) ∧
    W.cell? ⟨B, 17, none⟩ = some (.string (hkAt h 1).p.ty) ∧
    W.cell? ⟨B, 18, none⟩ = some (.int .u64 (hkAt h 1).p.b) ∧
    W.cell? ⟨B, 19, none⟩ = some (.int .u64 (hkAt h 1).p.im) ∧
    W.cell? ⟨B, 20, none⟩ = some (.string (hkAt h 1).p.t) ∧
    W.cell? ⟨B, 21, none⟩ = some (slV (hkAt h 1).p.nm) ∧
    W.cell? ⟨B, 22, none⟩ = some (slV (hkAt h 1).p.pa) ∧
    W.cell? ⟨B, 23, none⟩ = some (.int .i64 (hkAt h 1).p.hk) :=
  ⟨(hb.cell 12).trans (hk_mid h 1 (by decide) 0 _ rfl), (hb.cell 13).trans (hk_mid h 1 (by decide) 1 _ rfl), (hb.cell 14).trans (hk_mid h 1 (by decide) 2 _ rfl), (hb.cell 15).trans (hk_mid h 1 (by decide) 3 _ rfl), (hb.cell 16).trans (hk_mid h 1 (by decide) 4 _ rfl), (hb.cell 17).trans (hk_mid h 1 (by decide) 5 _ rfl), (hb.cell 18).trans (hk_mid h 1 (by decide) 6 _ rfl), (hb.cell 19).trans (hk_mid h 1 (by decide) 7 _ rfl), (hb.cell 20).trans (hk_mid h 1 (by decide) 8 _ rfl), (hb.cell 21).trans (hk_mid h 1 (by decide) 9 _ rfl), (hb.cell 22).trans (hk_mid h 1 (by decide) 10 _ rfl), (hb.cell 23).trans (hk_mid h 1 (by decide) 11 _ rfl)⟩
theorem hk_row2 {W : World} {B : Nat} {h : Hk} {T : TypeId} (hb : Blk W B (hkV h) T) : W.cell? ⟨B, 24, none⟩ = some (.int .i64 (hkAt h 2).k) ∧
    W.cell? ⟨B, 25, none⟩ = some (.string (hkAt h 2).t) ∧
    W.cell? ⟨B, 26, none⟩ = some (.string (hkAt h 2).f) ∧
    W.cell? ⟨B, 27, none⟩ = some (slV (hkAt h 2).ar) ∧
    W.cell? ⟨B, 28, none⟩ = some (.int .i64 (hkAt h 2).p.k) ∧
    W.cell? ⟨B, 29, none⟩ = some (.string (hkAt h 2).p.ty) ∧
    W.cell? ⟨B, 30, none⟩ = some (.int .u64 (hkAt h 2).p.b) ∧
    W.cell? ⟨B, 31, none⟩ = some (.int .u64 (hkAt h 2).p.im) ∧
    W.cell? ⟨B, 32, none⟩ = some (.string (hkAt h 2).p.t) ∧
    W.cell? ⟨B, 33, none⟩ = some (slV (hkAt h 2).p.nm) ∧
    W.cell? ⟨B, 34, none⟩ = some (slV (hkAt h 2).p.pa) ∧
    W.cell? ⟨B, 35, none⟩ = some (.int .i64 (hkAt h 2).p.hk) :=
  ⟨(hb.cell 24).trans (hk_mid h 2 (by decide) 0 _ rfl), (hb.cell 25).trans (hk_mid h 2 (by decide) 1 _ rfl), (hb.cell 26).trans (hk_mid h 2 (by decide) 2 _ rfl), (hb.cell 27).trans (hk_mid h 2 (by decide) 3 _ rfl), (hb.cell 28).trans (hk_mid h 2 (by decide) 4 _ rfl), (hb.cell 29).trans (hk_mid h 2 (by decide) 5 _ rfl), (hb.cell 30).trans (hk_mid h 2 (by decide) 6 _ rfl), (hb.cell 31).trans (hk_mid h 2 (by decide) 7 _ rfl), (hb.cell 32).trans (hk_mid h 2 (by decide) 8 _ rfl), (hb.cell 33).trans (hk_mid h 2 (by decide) 9 _ rfl), (hb.cell 34).trans (hk_mid h 2 (by decide) 10 _ rfl), (hb.cell 35).trans (hk_mid h 2 (by decide) 11 _ rfl)⟩
theorem hk_row3 {W : World} {B : Nat} {h : Hk} {T : TypeId} (hb : Blk W B (hkV h) T) : W.cell? ⟨B, 36, none⟩ = some (.int .i64 (hkAt h 3).k) ∧
    W.cell? ⟨B, 37, none⟩ = some (.string (hkAt h 3).t) ∧
    W.cell? ⟨B, 38, none⟩ = some (.string (hkAt h 3).f) ∧
    W.cell? ⟨B, 39, none⟩ = some (slV (hkAt h 3).ar) ∧
    W.cell? ⟨B, 40, none⟩ = some (.int .i64 (hkAt h 3).p.k) ∧
    W.cell? ⟨B, 41, none⟩ = some (.string (hkAt h 3).p.ty) ∧
    W.cell? ⟨B, 42, none⟩ = some (.int .u64 (hkAt h 3).p.b) ∧
    W.cell? ⟨B, 43, none⟩ = some (.int .u64 (hkAt h 3).p.im) ∧
    W.cell? ⟨B, 44, none⟩ = some (.string (hkAt h 3).p.t) ∧
    W.cell? ⟨B, 45, none⟩ = some (slV (hkAt h 3).p.nm) ∧
    W.cell? ⟨B, 46, none⟩ = some (slV (hkAt h 3).p.pa) ∧
    W.cell? ⟨B, 47, none⟩ = some (.int .i64 (hkAt h 3).p.hk) :=
  ⟨(hb.cell 36).trans (hk_mid h 3 (by decide) 0 _ rfl), (hb.cell 37).trans (hk_mid h 3 (by decide) 1 _ rfl), (hb.cell 38).trans (hk_mid h 3 (by decide) 2 _ rfl), (hb.cell 39).trans (hk_mid h 3 (by decide) 3 _ rfl), (hb.cell 40).trans (hk_mid h 3 (by decide) 4 _ rfl), (hb.cell 41).trans (hk_mid h 3 (by decide) 5 _ rfl), (hb.cell 42).trans (hk_mid h 3 (by decide) 6 _ rfl), (hb.cell 43).trans (hk_mid h 3 (by decide) 7 _ rfl), (hb.cell 44).trans (hk_mid h 3 (by decide) 8 _ rfl), (hb.cell 45).trans (hk_mid h 3 (by decide) 9 _ rfl), (hb.cell 46).trans (hk_mid h 3 (by decide) 10 _ rfl), (hb.cell 47).trans (hk_mid h 3 (by decide) 11 _ rfl)⟩
end Go.Proofs.YtdjhmanccoekjaaGreatDoor
end

section
namespace Go.Proofs.YtdjhmanccoekjaaGreatDoor
open Go.ChangeShapes Go.WideShapes Go.ChangeAt Go.RowKit Go.Lib Go.Deep Go.Proofs

/-- A list of rows, as it is handed. -/
def HksAt (W : World) (sl : Sl) (hs : List Hk) : Prop := sl.n = hs.length ∧ (hs ≠ [] → ∃ g o, sl.a = some ⟨g, o, none⟩ ∧ g < W.heap.size ∧
  ∀ (k : Nat) h, hs[k]? = some h → ∀ (j : Nat) v, (hkV h)[j]? = some v → W.cell? ⟨g, o + k * 48 + j, none⟩ = some v)
theorem HksAt.below {W W' : World} {sl : Sl} {hs : List Hk} (h : HksAt W sl hs) (hb : Below W.heap.size W W') : HksAt W' sl hs :=
  ⟨h.1, fun hn => by
    obtain ⟨g, o, h1, h2, h3⟩ := h.2 hn
    exact ⟨g, o, h1, Nat.lt_of_lt_of_le h2 hb.size, fun k d hd j v hv => (hb.cell (p := ⟨g, o + k * 48 + j, none⟩) h2).trans (h3 k d hd j v hv)⟩⟩
theorem HksAt.take {W : World} {A : Option Addr} {n cap : Nat} {hs : List Hk} (h : HksAt W ⟨A, n, cap⟩ hs) (m : Nat) (hm : m ≤ n) (cap' : Nat) : HksAt W ⟨A, m, cap'⟩ (hs.take m) := by
  have h0 : n = hs.length := h.1
  refine ⟨by rw [List.length_take]; show m = _; omega, fun hne => ?_⟩
  obtain ⟨g, o, h1, h2, h3⟩ := h.2 (by intro e; rw [e] at hne; simp at hne)
  refine ⟨g, o, h1, h2, fun k d hd j v hv => h3 k d ?_ j v hv⟩
  rw [List.getElem?_take] at hd
  split at hd
  · exact hd
  · cases hd
abbrev hkZ0 : Hk := ⟨acZ, acZ, acZ, acZ⟩
/-- What is known of a table that was handed. -/
def HksOk (w : World) (sl : Sl) (hs : List Hk) : Prop := HksAt w sl hs ∧ sl.n ≤ sl.cap ∧ sl.cap ≤ 9223372036854775807
set_option maxRecDepth 100000 in
theorem open_hooks {H : Type} {enc : TypeId × Value → H} {w : World} {base : Nat} {spare : Nat → Bool} {held : Bool} {r : Reach} {b0 : Nat} {v : Value} {d : DataW H} {p : List MemPlace}
    (hv : Value.okWide Tryz.prog w r b0 35 v) (h : DataW.Trod enc Tryz.prog w base spare held 35 v d p) : ∃ (s : Sl) (hs : List Hk), v = slV s ∧ HksOk w s hs := by
  obtain ⟨A, len, cap, rfl⟩ := okWide_slice Tryz.underlying35 hv
  obtain ⟨fuel, hf⟩ := h
  rcases open_slice Tryz.underlying35 hf with ⟨hc, _⟩ | ⟨a, len', cap', m, n, D, Pl, hc, _, hl, hm, hmm, _, hi⟩
  · simp [Value.cells] at hc
    obtain ⟨rfl, rfl, rfl⟩ := hc
    exact ⟨⟨none, 0, 0⟩, [], rfl, ⟨rfl, fun h => absurd rfl h⟩, Nat.le_refl _, by decide⟩
  · simp [Value.cells] at hc
    obtain ⟨rfl, rfl, rfl⟩ := hc
    have hlm : len ≤ m := by rw [hmm]; split <;> omega
    unfold maxLen at hm
    have each : ∀ j, j < len → ∃ y : Hk, ∀ (k : Nat) v, (hkV y)[k]? = some v → w.cell? (a.add (j * 48 + k)) = some v := by
      intro j hj
      obtain ⟨cs', hc, ht'⟩ := hi j (by omega)
      rw [hkC] at hc
      obtain ⟨y, hy, _⟩ := open_hk ht'
      obtain ⟨_, hcl, hat⟩ := World.cells?_some hc
      refine ⟨y, fun k v hk => ?_⟩
      have hkl : k < 48 := by
        rcases Nat.lt_or_ge k 48 with q | q
        · exact q
        · rw [Array.getElem?_eq_none (by rw [hkV_size]; exact q)] at hk; cases hk
      have := hat k hkl
      rw [← Go.Deep.add_add, this, hy, Array.getElem?_toList, hk]
    have hch := fun j (hj : j < len) => Classical.choose_spec (each j hj)
    obtain ⟨hs, hhs⟩ : ∃ hs : List Hk, hs = (List.range len).map (fun j => if hj : j < len then Classical.choose (each j hj) else hkZ0) := ⟨_, rfl⟩
    have hlen : hs.length = len := by rw [hhs]; simp
    refine ⟨⟨some a, len, cap⟩, hs, rfl, ⟨hlen.symm, fun hne => ?_⟩, hl, by show cap ≤ _; omega⟩
    have hp : 0 < len := by rw [← hlen]; exact List.length_pos_iff.2 hne
    obtain ⟨b, off, spot⟩ := a
    have h0 := hch 0 hp 0 _ rfl
    have hspot : spot = none := by simpa [Addr.add] using World.cell?_spot h0
    subst hspot
    refine ⟨b, off, rfl, World.block_lt_of_cell? w _ (by rw [Go.WideShapes.add_plain] at h0; exact h0), fun k d hd j v hv => ?_⟩
    have hk : k < len := by
      rcases Nat.lt_or_ge k len with q | q
      · exact q
      · rw [List.getElem?_eq_none (by omega)] at hd; cases hd
    rw [hhs, List.getElem?_map, List.getElem?_range hk, Option.map_some, Option.some.injEq, dif_pos hk] at hd
    have := hch k hk j v (by rw [hd]; exact hv)
    rw [Go.WideShapes.add_plain] at this
    rw [Nat.add_assoc]
    exact this

set_option maxRecDepth 100000 in
set_option maxHeartbeats 1000000 in
theorem get_no (A : Option Addr) (N cap : Nat) (n : Int) (W : World) (_hN : N ≤ 40) (hn0 : -9223372036854775808 ≤ n) (hn1 : n ≤ 9223372036854775807) (h : ¬ (1 ≤ n ∧ n ≤ N ∧ n ≤ 16)) :
    Calls Tryz.prog 79 #[.slice A N cap, .int .i64 n] W fun e w' => e = .returned (.tuple #[.agg (hkV hkZ0), .bool false]) ∧ Below W.heap.size W w' := by
  have B0 := (Below.refl W.heap.size W).alloc (Nat.le_refl _) (.cells hk0 34)
  have A0 := Blk.new W hk0 34
  obtain ⟨R, hR⟩ : ∃ R, W.heap.size = R := ⟨_, rfl⟩
  have H := hid h
  clear h
  by_cases h1 : n < 1
  · have d1 : decide (n < 1) = true := decide_eq_true h1
    go_enter Tryz.func79, Tryz.ntmps79
    go_upto_region 2 with fail
    obtain ⟨W0, hW0⟩ : ∃ W0, W.alloc (.cells hk0 34) = W0 := ⟨_, rfl⟩
    rw [hW0] at B0 A0 ⊢
    rw [hR] at A0
    have BL := hid B0
    have HR := hid hR
    clear hW0 hR B0
    refine wp_region_list ?_
    refine wpList_buildTo rfl 34 _ rfl (some 15) rfl (hkV hkZ0) (by kernel_rfl) ?_
    refine wpList_store_rowTo rfl 34 _ _ rfl rfl R (hkV hkZ0) rfl rfl 34 hk0 A0 hook_size rfl (hkV_one _) ?_
    have hG2 := A0.setRow (hkV hkZ0)
    have b3 := below_setRow BL.out R (by have := HR.out; omega) (hkV hkZ0)
    obtain ⟨W2, hW2⟩ : ∃ W2, W0.setRow R (hkV hkZ0) = W2 := ⟨_, rfl⟩
    rw [hW2] at hG2 b3 ⊢
    have RL := hid hG2
    have BL := hid b3
    clear hG2 b3 hW2 A0
    refine wpList_plain rfl fun K hK => ?_
    have HK := hid hK
    clear hK
    go_wp2_with fail
    refine HK.out _ _ ?_
    clear HK
    refine wpList_nil ?_
    go_wp2_with fail
    have HL := run_loadVar_mid (P := Tryz.prog) W2 R 0 34 (hkV hkZ0).toList _ (fun j v hv => by rw [Nat.zero_add, RL.out.cell]; simpa using hv) Tryz.underlying34 rfl hook_size
    refine bodyPost_ret (v := .tuple #[.agg (hkV hkZ0), .bool false]) ?_ rfl ⟨rfl, BL.out⟩
    simp [results, Tryz.results79, asAddr, HL]
  · have d1 : decide (n < 1) = false := decide_eq_false h1
    have d2 : decide (min (N : Int) 16 < n) = true := decide_eq_true (by have := H.out; omega)
    go_enter Tryz.func79, Tryz.ntmps79
    go_upto_region 2 with fail
    obtain ⟨W0, hW0⟩ : ∃ W0, W.alloc (.cells hk0 34) = W0 := ⟨_, rfl⟩
    rw [hW0] at B0 A0 ⊢
    rw [hR] at A0
    have BL := hid B0
    have HR := hid hR
    clear hW0 hR B0
    refine wp_region_list ?_
    refine wpList_buildTo rfl 34 _ rfl (some 15) rfl (hkV hkZ0) (by kernel_rfl) ?_
    refine wpList_store_rowTo rfl 34 _ _ rfl rfl R (hkV hkZ0) rfl rfl 34 hk0 A0 hook_size rfl (hkV_one _) ?_
    have hG2 := A0.setRow (hkV hkZ0)
    have b3 := below_setRow BL.out R (by have := HR.out; omega) (hkV hkZ0)
    obtain ⟨W2, hW2⟩ : ∃ W2, W0.setRow R (hkV hkZ0) = W2 := ⟨_, rfl⟩
    rw [hW2] at hG2 b3 ⊢
    have RL := hid hG2
    have BL := hid b3
    clear hG2 b3 hW2 A0
    refine wpList_plain rfl fun K hK => ?_
    have HK := hid hK
    clear hK
    go_wp2_with fail
    refine HK.out _ _ ?_
    clear HK
    refine wpList_nil ?_
    go_wp2_with fail
    have HL := run_loadVar_mid (P := Tryz.prog) W2 R 0 34 (hkV hkZ0).toList _ (fun j v hv => by rw [Nat.zero_add, RL.out.cell]; simpa using hv) Tryz.underlying34 rfl hook_size
    refine bodyPost_ret (v := .tuple #[.agg (hkV hkZ0), .bool false]) ?_ rfl ⟨rfl, BL.out⟩
    simp [results, Tryz.results79, asAddr, HL]
set_option maxRecDepth 100000 in
set_option maxHeartbeats 1000000 in
theorem get_yes (A : Option Addr) (N cap : Nat) (hs : List Hk) (i : Nat) (h : Hk) (W : World) (_hN : N ≤ 40) (hA : HksAt W ⟨A, N, cap⟩ hs) (hi : hs[i]? = some h) (h16 : i < 16) :
    Calls Tryz.prog 79 #[.slice A N cap, .int .i64 ((i : Int) + 1)] W fun e w' => e = .returned (.tuple #[.agg (hkV h), .bool true]) ∧ Below W.heap.size W w' := by
  have hne : hs ≠ [] := by intro e; rw [e] at hi; simp at hi
  have hiN : i < N := by
    have h0 : N = hs.length := hA.1
    rcases Nat.lt_or_ge i hs.length with q | q
    · omega
    · rw [List.getElem?_eq_none q] at hi; cases hi
  obtain ⟨g, o, h1, hg, hc⟩ := hA.2 hne
  obtain rfl : A = some ⟨g, o, none⟩ := h1
  have B0 := (Below.refl W.heap.size W).alloc (Nat.le_refl _) (.cells hk0 34)
  have A0 := Blk.new W hk0 34
  have HC := hid (fun (j : Nat) v (hv : (hkV h)[j]? = some v) => (B0.cell (p := ⟨g, o + i * 48 + j, none⟩) hg).trans (hc i h hi j v hv))
  obtain ⟨R, hR⟩ : ∃ R, W.heap.size = R := ⟨_, rfl⟩
  have d1 : decide ((i : Int) + 1 < 1) = false := decide_eq_false (by omega)
  have d2 : decide (min (N : Int) 16 < (i : Int) + 1) = false := decide_eq_false (by omega)
  clear hc hi hne hA hg
  go_enter Tryz.func79, Tryz.ntmps79
  go_upto_region 3 with fail
  obtain ⟨W0, hW0⟩ : ∃ W0, W.alloc (.cells hk0 34) = W0 := ⟨_, rfl⟩
  rw [hW0] at B0 A0 HC ⊢
  rw [hR] at A0
  have BL := hid B0
  have HR := hid hR
  clear hW0 hR B0
  refine wp_region_list ?_
  refine wpList_plain rfl fun K hK => ?_
  have HK := hid hK
  clear hK
  go_wp2_with fail
  refine HK.out _ _ ?_
  clear HK
  refine wpList_plain rfl fun K hK => ?_
  have HK := hid hK
  clear hK
  go_wp2_with fail
  refine HK.out _ _ ?_
  clear HK
  refine wpList_plain rfl fun K hK => ?_
  have HK := hid hK
  clear hK
  go_wp2_with fail
  refine HK.out _ _ ?_
  clear HK
  refine wpList_plain rfl fun K hK => ?_
  have HK := hid hK
  clear hK
  go_wp2_with fail
  refine HK.out _ _ ?_
  clear HK
  refine wpList_load_mid rfl 34 (.tmp 19) rfl g (o + i * 48) rfl (hkV h).toList _ (fun j v hv => HC.out j v (by simpa using hv)) Tryz.underlying34 rfl hook_size ?_
  refine wpList_store_rowTo rfl 34 _ _ rfl rfl R (hkV h) rfl rfl 34 hk0 A0 hook_size rfl (hkV_one _) ?_
  have hG2 := A0.setRow (hkV h)
  have b3 := below_setRow BL.out R (by have := HR.out; omega) (hkV h)
  obtain ⟨W2, hW2⟩ : ∃ W2, W0.setRow R (hkV h) = W2 := ⟨_, rfl⟩
  rw [hW2] at hG2 b3 ⊢
  have RL := hid hG2
  have BL := hid b3
  clear hG2 b3 hW2 A0
  refine wpList_plain rfl fun K hK => ?_
  have HK := hid hK
  clear hK
  go_wp2_with fail
  refine HK.out _ _ ?_
  clear HK
  refine wpList_nil ?_
  go_wp2_with fail
  have HL := run_loadVar_mid (P := Tryz.prog) W2 R 0 34 (hkV h).toList _ (fun j v hv => by rw [Nat.zero_add, RL.out.cell]; simpa using hv) Tryz.underlying34 rfl hook_size
  refine bodyPost_ret (v := .tuple #[.agg (hkV h), .bool true]) ?_ rfl ⟨rfl, BL.out⟩
  simp [results, Tryz.results79, asAddr, HL]
end Go.Proofs.YtdjhmanccoekjaaGreatDoor
end

section
namespace Go.Proofs.YtdjhmanccoekjaaGreatDoor
open Go.RowKit Go.Proofs

abbrev sliceN : Value := .slice none 0 0
set_option maxHeartbeats 1000000 in
theorem parts_leaf (d : De) (w : World) (h : ¬ (18 ≤ d.k ∧ d.k ≤ 22)) : Calls Tryz.prog 121 #[.agg (deV d)] w fun e w' => e = .returned sliceN ∧ Below w.heap.size w w' := by
  have g1 : (d.k == 18) = false := by simp; omega
  have g2 : (d.k == 19) = false := by simp; omega
  have g3 : (d.k == 20) = false := by simp; omega
  have g4 : (d.k == 21) = false := by simp; omega
  have g5 : (d.k == 22) = false := by simp; omega
  clear h
  go_enter Tryz.func121, Tryz.ntmps121
  go_wp2_with fail
  go_ret
  exact ⟨rfl, (Below.refl _ _).alloc (Nat.le_refl _) _⟩
set_option maxHeartbeats 1000000 in
theorem parts_great (d : De) (w : World) (h : 18 ≤ d.k ∧ d.k ≤ 22) : Calls Tryz.prog 121 #[.agg (deV d)] w fun e w' => e = .returned (slV d.pa) ∧ Below w.heap.size w w' := by
  obtain ⟨k, ty, b, im, t, nm, pa, hk⟩ := d
  simp only at h ⊢
  have hk5 : k = 18 ∨ k = 19 ∨ k = 20 ∨ k = 21 ∨ k = 22 := by omega
  rcases hk5 with rfl | rfl | rfl | rfl | rfl
  all_goals go_enter Tryz.func121, Tryz.ntmps121
  all_goals go_wp2_with fail
  all_goals go_ret
  all_goals exact ⟨rfl, (Below.refl _ _).alloc (Nat.le_refl _) _⟩
theorem below_box {w w1 : World} {cs : Array Value} {t : TypeId} (hb : Below (w.heap.size + 1) (w.alloc (.cells cs t)) w1) : Below w.heap.size w w1 ∧ Blk w1 w.heap.size cs t :=
  ⟨((Below.refl w.heap.size w).alloc (Nat.le_refl _) (.cells cs t)).trans (hb.mono (by omega)), (Blk.new w cs t).below hb (by omega)⟩
theorem box_below {w w1 : World} {cs : Array Value} {t : TypeId} (hb : Below (w.alloc (.cells cs t)).heap.size (w.alloc (.cells cs t)) w1) : Below w.heap.size w w1 ∧ Blk w1 w.heap.size cs t :=
  below_box (by rw [World.size_alloc] at hb; exact hb)
set_option maxRecDepth 100000 in
set_option maxHeartbeats 1000000 in
theorem count_leaf (d : De) (left : Int) (w : World) (h : ¬ (18 ≤ d.k ∧ d.k ≤ 22)) (hl0 : -1000000 ≤ left) (hl1 : left ≤ 1000000) :
    Calls Tryz.prog 90 #[.agg (deV d), .int .i64 left] w fun e w' => e = .returned (.tuple #[.int .i64 (left - 1), .int .i64 (if d.k = 16 ∨ d.k = 17 then d.t.size else 0)]) ∧ Below w.heap.size w w' := by
  have PA := hid (fun W => parts_leaf d W h)
  obtain ⟨k, ty, b, im, t, nm, pa, hk⟩ := d
  simp only at h PA ⊢
  by_cases h16 : k = 16
  · subst h16
    rw [if_pos (Or.inl rfl)]
    go_enter Tryz.func90, Tryz.ntmps90
    go_wp2_with ((refine (PA.out _).mono ?_); rintro e w1 ⟨rfl, hb⟩)
    have HB := hid (box_below hb).1
    clear hb
    refine wp_loop_rounds 1 ?_
    repeat (rw [rounds_succ]; go_wp2_with fail)
    go_ret2
    exact ⟨rfl, HB.out⟩
  by_cases h17 : k = 17
  · subst h17
    rw [if_pos (Or.inr rfl)]
    go_enter Tryz.func90, Tryz.ntmps90
    go_wp2_with ((refine (PA.out _).mono ?_); rintro e w1 ⟨rfl, hb⟩)
    have HB := hid (box_below hb).1
    clear hb
    refine wp_loop_rounds 1 ?_
    repeat (rw [rounds_succ]; go_wp2_with fail)
    go_ret2
    exact ⟨rfl, HB.out⟩
  rw [if_neg (by omega)]
  have g1 : (k == 16) = false := by simpa using h16
  have g2 : (k == 17) = false := by simpa using h17
  clear h16 h17 h
  go_enter Tryz.func90, Tryz.ntmps90
  go_wp2_with ((refine (PA.out _).mono ?_); rintro e w1 ⟨rfl, hb⟩)
  have HB := hid (box_below hb).1
  clear hb
  refine wp_loop_rounds 1 ?_
  repeat (rw [rounds_succ]; go_wp2_with fail)
  go_ret2
  exact ⟨rfl, HB.out⟩
set_option maxRecDepth 100000 in
set_option maxHeartbeats 1000000 in
theorem depth_leaf (d : De) (w : World) (h : ¬ (18 ≤ d.k ∧ d.k ≤ 22)) :
    Calls Tryz.prog 92 #[.agg (deV d)] w fun e w' => e = .returned (.int .i64 1) ∧ Below w.heap.size w w' := by
  have PA := hid (fun W => parts_leaf d W h)
  clear h
  go_enter Tryz.func92, Tryz.ntmps92
  go_wp2_with ((refine (PA.out _).mono ?_); rintro e w1 ⟨rfl, hb⟩)
  have HB := hid (box_below hb).1
  clear hb
  refine wp_loop_rounds 1 ?_
  repeat (rw [rounds_succ]; go_wp2_with fail)
  go_ret
  exact ⟨rfl, HB.out⟩
set_option maxRecDepth 100000 in
set_option maxHeartbeats 1000000 in
theorem each_leaf2 (d : De) (w : World) (h : ¬ (18 ≤ d.k ∧ d.k ≤ 22)) (AS : ∀ W, Calls Tryz.prog 94 #[.agg (deV d)] W fun e w' => e = .returned (.tuple #[]) ∧ Below W.heap.size W w') :
    Calls Tryz.prog 93 #[.agg (deV d), .func (.func 94) #[] #[]] w fun e w' => e = .returned (.tuple #[]) ∧ Below w.heap.size w w' := by
  have PA := hid (fun W => parts_leaf d W h)
  have AS := hid AS
  clear h
  go_enter Tryz.func93, Tryz.ntmps93
  go_wp2_with fail
  refine (AS.out _).mono ?_
  rintro e w1 ⟨rfl, hb⟩
  obtain ⟨hb1, hA⟩ := box_below hb
  have HB := hid hb1
  obtain ⟨B, hB⟩ : ∃ B, w.heap.size = B := ⟨_, rfl⟩
  rw [hB] at hA ⊢
  have c0 := hA.cell 0
  have c1 := hA.cell 1
  have c2 := hA.cell 2
  have c3 := hA.cell 3
  have c4 := hA.cell 4
  have c5 := hA.cell 5
  have c6 := hA.cell 6
  have c7 := hA.cell 7
  clear hb hb1 hA hB
  go_wp2_with fail
  refine (PA.out _).mono ?_
  rintro e w2 ⟨rfl, hb2⟩
  have HB2 := hid (HB.out.trans (hb2.mono HB.out.size))
  clear hb2 c0 c1 c2 c3 c4 c5 c6 c7
  go_wp2_with fail
  refine wp_loop_rounds 1 ?_
  repeat (rw [rounds_succ]; go_wp2_with fail)
  go_end0
  exact ⟨rfl, HB2.out⟩
set_option maxRecDepth 100000 in
set_option maxHeartbeats 1000000 in
theorem each_leaf3 (d : De) (w : World) (h : ¬ (18 ≤ d.k ∧ d.k ≤ 22)) (AS : ∀ W, Calls Tryz.prog 95 #[.agg (deV d)] W fun e w' => e = .returned (.tuple #[]) ∧ Below W.heap.size W w') :
    Calls Tryz.prog 93 #[.agg (deV d), .func (.func 95) #[] #[]] w fun e w' => e = .returned (.tuple #[]) ∧ Below w.heap.size w w' := by
  have PA := hid (fun W => parts_leaf d W h)
  have AS := hid AS
  clear h
  go_enter Tryz.func93, Tryz.ntmps93
  go_wp2_with fail
  refine (AS.out _).mono ?_
  rintro e w1 ⟨rfl, hb⟩
  obtain ⟨hb1, hA⟩ := box_below hb
  have HB := hid hb1
  obtain ⟨B, hB⟩ : ∃ B, w.heap.size = B := ⟨_, rfl⟩
  rw [hB] at hA ⊢
  have c0 := hA.cell 0
  have c1 := hA.cell 1
  have c2 := hA.cell 2
  have c3 := hA.cell 3
  have c4 := hA.cell 4
  have c5 := hA.cell 5
  have c6 := hA.cell 6
  have c7 := hA.cell 7
  clear hb hb1 hA hB
  go_wp2_with fail
  refine (PA.out _).mono ?_
  rintro e w2 ⟨rfl, hb2⟩
  have HB2 := hid (HB.out.trans (hb2.mono HB.out.size))
  clear hb2 c0 c1 c2 c3 c4 c5 c6 c7
  go_wp2_with fail
  refine wp_loop_rounds 1 ?_
  repeat (rw [rounds_succ]; go_wp2_with fail)
  go_end0
  exact ⟨rfl, HB2.out⟩
end Go.Proofs.YtdjhmanccoekjaaGreatDoor
end

section
namespace Go.Proofs.YtdjhmanccoekjaaGreatDoor
open Go.RowKit Go.Proofs

set_option maxHeartbeats 1000000 in
theorem must_ok (e : Int) (w : World) : Calls Tryz.prog 91 #[.bool true, .int .i64 e] w fun e w' => e = .returned (.tuple #[]) ∧ w = w' := by
  go_enter Tryz.func91, Tryz.ntmps91
  go_wp2_with fail
  go_end0
  exact ⟨rfl, rfl⟩
set_option maxHeartbeats 1000000 in
theorem must_no (e : Int) (w : World) : Calls Tryz.prog 91 #[.bool false, .int .i64 e] w fun x w' => x = .panicked [{ v := .iface 157 (.agg #[.int .i64 e]), recovered := false }] ∧ w = w' := by
  go_enter Tryz.func91, Tryz.ntmps91
  go_wp2_with fail
  exact ⟨rfl, rfl, rfl⟩
/-- How many bits a whole number has. -/
def wBits (k : Int) : Int := if k = 2 ∨ k = 7 then 8 else if k = 3 ∨ k = 8 then 16 else if k = 4 ∨ k = 9 then 32 else 64
set_option maxRecDepth 100000 in
set_option maxHeartbeats 1000000 in
theorem width_of (k : Int) (w : World) (h : 2 ≤ k ∧ k ≤ 11) : Calls Tryz.prog 127 #[.int .i64 k] w fun x w' => x = .returned (.int .i64 (wBits k)) ∧ w = w' := by
  have hk : k = 2 ∨ k = 3 ∨ k = 4 ∨ k = 5 ∨ k = 6 ∨ k = 7 ∨ k = 8 ∨ k = 9 ∨ k = 10 ∨ k = 11 := by omega
  have ix0 : ∀ W : World, (Instr.index 247 (.agg #[.int .i64 8, .int .i64 16, .int .i64 32, .int .i64 64, .int .i64 64]) (.int .i64 0)).run Tryz.prog W = .ok (.int .i64 8) W := fun _ => by kernel_rfl
  have ix1 : ∀ W : World, (Instr.index 247 (.agg #[.int .i64 8, .int .i64 16, .int .i64 32, .int .i64 64, .int .i64 64]) (.int .i64 1)).run Tryz.prog W = .ok (.int .i64 16) W := fun _ => by kernel_rfl
  have ix2 : ∀ W : World, (Instr.index 247 (.agg #[.int .i64 8, .int .i64 16, .int .i64 32, .int .i64 64, .int .i64 64]) (.int .i64 2)).run Tryz.prog W = .ok (.int .i64 32) W := fun _ => by kernel_rfl
  have ix3 : ∀ W : World, (Instr.index 247 (.agg #[.int .i64 8, .int .i64 16, .int .i64 32, .int .i64 64, .int .i64 64]) (.int .i64 3)).run Tryz.prog W = .ok (.int .i64 64) W := fun _ => by kernel_rfl
  have ix4 : ∀ W : World, (Instr.index 247 (.agg #[.int .i64 8, .int .i64 16, .int .i64 32, .int .i64 64, .int .i64 64]) (.int .i64 4)).run Tryz.prog W = .ok (.int .i64 64) W := fun _ => by kernel_rfl
  rcases hk with rfl | rfl | rfl | rfl | rfl | rfl | rfl | rfl | rfl | rfl
  all_goals go_enter Tryz.func127, Tryz.ntmps127
  all_goals go_wp2_with fail
  all_goals go_ret
  all_goals exact ⟨rfl, rfl⟩
set_option maxHeartbeats 1000000 in
theorem low_32 (x : Int) (w : World) : Calls Tryz.prog 128 #[.int .u64 x, .int .i64 32] w fun e w' => e = .returned (.int .u64 (x % 4294967296)) ∧ w = w' := by
  have hx : IntKind.u64.wrap (x * 4294967296) / 4294967296 = x % 4294967296 := by
    show x * 4294967296 % 18446744073709551616 / 4294967296 = _
    omega
  go_enter Tryz.func128, Tryz.ntmps128
  go_wp2_with fail
  go_ret
  exact ⟨by first | rfl | rw [hx], rfl⟩
set_option maxHeartbeats 1000000 in
theorem low_64 (x : Int) (w : World) (h0 : 0 ≤ x) (h1 : x ≤ 18446744073709551615) : Calls Tryz.prog 128 #[.int .u64 x, .int .i64 64] w fun e w' => e = .returned (.int .u64 x) ∧ w = w' := by
  have hx : IntKind.u64.wrap x = x := by
    show x % 18446744073709551616 = _
    omega
  go_enter Tryz.func128, Tryz.ntmps128
  go_wp2_with fail
  go_ret
  exact ⟨by first | rfl | simp [hx], rfl⟩

abbrev baseV (d : De) : Value := .agg #[.int .i64 d.k, .string d.ty, .int .i64 d.hk]
abbrev nilV : Value := .iface 217 (.agg #[])
abbrev boolV (d : De) (x : Bool) : Value := .iface 179 (.agg #[.int .i64 d.k, .string d.ty, .int .i64 d.hk, .bool x])
abbrev intV (d : De) (x : Int) : Value := .iface 181 (.agg #[.int .i64 d.k, .string d.ty, .int .i64 d.hk, .int .i64 x])
abbrev uintV (d : De) (x : Int) : Value := .iface 183 (.agg #[.int .i64 d.k, .string d.ty, .int .i64 d.hk, .int .u64 x])
abbrev floatV (d : De) (x n : Int) : Value := .iface 185 (.agg #[.int .i64 d.k, .string d.ty, .int .i64 d.hk, .int .u64 x, .int .i64 n])
abbrev cplxV (d : De) (x y n : Int) : Value := .iface 187 (.agg #[.int .i64 d.k, .string d.ty, .int .i64 d.hk, .int .u64 x, .int .u64 y, .int .i64 n])
abbrev textV (d : De) : Value := .iface 189 (.agg #[.int .i64 d.k, .string d.ty, .int .i64 d.hk, .string d.t])
abbrev bytesV (d : De) : Value := .iface 190 (.agg #[.int .i64 d.k, .string d.ty, .int .i64 d.hk, .string d.t])

theorem u64_and1 (x : Int) (h0 : 0 ≤ x) (h1 : x ≤ 18446744073709551615) : bits .and .u64 x 1 = x % 2 :=
  bits_mask .u64 64 (by decide) (fun n h0 h1 => by rw [IntKind.wrap_u64]; omega) 1 (by decide) x h0 (by omega)
theorem desc_box (w : World) (cs cs' : Array Value) (t t' : TypeId) : Below w.heap.size w ((w.alloc (.cells cs t)).alloc (.cells cs' t')) :=
  ((Below.refl _ _).alloc (Nat.le_refl _) _).alloc (by simp) _
set_option maxRecDepth 100000 in
set_option maxHeartbeats 2000000 in
theorem made_nil (d : De) (w : World) (h : d.k = 0) :
    Calls Tryz.prog 97 #[.agg (deV d)] w fun e w' => e = .returned nilV ∧ Below w.heap.size w w' := by
  obtain ⟨k, ty, b, im, t, nm, pa, hk⟩ := d
  simp only at h ⊢
  subst h
  go_enter Tryz.func97, Tryz.ntmps97
  go_wp2_with fail
  go_ret
  exact ⟨rfl, desc_box ..⟩
set_option maxRecDepth 100000 in
set_option maxHeartbeats 2000000 in
theorem made_bool (d : De) (w : World) (h : d.k = 1) (h0 : 0 ≤ d.b) (h1 : d.b ≤ 18446744073709551615) :
    Calls Tryz.prog 97 #[.agg (deV d)] w fun e w' => e = .returned (boolV d (decide (d.b % 2 = 1))) ∧ Below w.heap.size w w' := by
  obtain ⟨k, ty, b, im, t, nm, pa, hk⟩ := d
  simp only at h h0 h1 ⊢
  subst h
  have hb := u64_and1 b h0 h1
  obtain ⟨x, hx⟩ : ∃ x, b % 2 = x := ⟨_, rfl⟩
  have hd : decide (x = 1) = (x == 1) := rfl
  rw [hx] at hb ⊢
  rw [hd]
  go_enter Tryz.func97, Tryz.ntmps97
  go_wp2_with fail
  go_ret
  exact ⟨rfl, desc_box ..⟩
def sxI (k b : Int) : Int := if k = 2 then (b + 128) % 256 - 128 else if k = 3 then (b + 32768) % 65536 - 32768 else if k = 4 then (b + 2147483648) % 4294967296 - 2147483648 else (b + 9223372036854775808) % 18446744073709551616 - 9223372036854775808
def zxI (k b : Int) : Int := if k = 7 then b % 256 else if k = 8 then b % 65536 else if k = 9 then b % 4294967296 else b
set_option maxRecDepth 100000 in
set_option maxHeartbeats 2000000 in
theorem made_int2 (d : De) (w : World) (h : d.k = 2) (h0 : 0 ≤ d.b) (h1 : d.b ≤ 18446744073709551615) :
    Calls Tryz.prog 97 #[.agg (deV d)] w fun e w' => e = .returned (intV d (sxI 2 d.b)) ∧ Below w.heap.size w w' := by
  obtain ⟨k, ty, b, im, t, nm, pa, hk⟩ := d
  simp only at *
  subst h
  have WI := hid (fun W => width_of 2 W (by decide))
  rw [show wBits 2 = 8 from rfl] at WI
  have hv : wrap64 (IntKind.u64.wrap (b * 72057594037927936)) / 72057594037927936 = sxI 2 b := by
    unfold wrap64
    rw [IntKind.wrap_u64]
    show _ = (b + 128) % 256 - 128
    omega
  go_enter Tryz.func97, Tryz.ntmps97
  go_wp2_with ((refine (WI.out _).mono ?_); rintro e w1 ⟨rfl, hw⟩; subst hw)
  go_quiet (fail)
  go_wp2_with fail
  go_ret
  refine ⟨?_, below_drewN (desc_box ..) _⟩
  rfl
set_option maxRecDepth 100000 in
set_option maxHeartbeats 2000000 in
theorem made_int3 (d : De) (w : World) (h : d.k = 3) (h0 : 0 ≤ d.b) (h1 : d.b ≤ 18446744073709551615) :
    Calls Tryz.prog 97 #[.agg (deV d)] w fun e w' => e = .returned (intV d (sxI 3 d.b)) ∧ Below w.heap.size w w' := by
  obtain ⟨k, ty, b, im, t, nm, pa, hk⟩ := d
  simp only at *
  subst h
  have WI := hid (fun W => width_of 3 W (by decide))
  rw [show wBits 3 = 16 from rfl] at WI
  have hv : wrap64 (IntKind.u64.wrap (b * 281474976710656)) / 281474976710656 = sxI 3 b := by
    unfold wrap64
    rw [IntKind.wrap_u64]
    show _ = (b + 32768) % 65536 - 32768
    omega
  go_enter Tryz.func97, Tryz.ntmps97
  go_wp2_with ((refine (WI.out _).mono ?_); rintro e w1 ⟨rfl, hw⟩; subst hw)
  go_quiet (fail)
  go_wp2_with fail
  go_ret
  refine ⟨?_, below_drewN (desc_box ..) _⟩
  rfl
set_option maxRecDepth 100000 in
set_option maxHeartbeats 2000000 in
theorem made_int4 (d : De) (w : World) (h : d.k = 4) (h0 : 0 ≤ d.b) (h1 : d.b ≤ 18446744073709551615) :
    Calls Tryz.prog 97 #[.agg (deV d)] w fun e w' => e = .returned (intV d (sxI 4 d.b)) ∧ Below w.heap.size w w' := by
  obtain ⟨k, ty, b, im, t, nm, pa, hk⟩ := d
  simp only at *
  subst h
  have WI := hid (fun W => width_of 4 W (by decide))
  rw [show wBits 4 = 32 from rfl] at WI
  have hv : wrap64 (IntKind.u64.wrap (b * 4294967296)) / 4294967296 = sxI 4 b := by
    unfold wrap64
    rw [IntKind.wrap_u64]
    show _ = (b + 2147483648) % 4294967296 - 2147483648
    omega
  go_enter Tryz.func97, Tryz.ntmps97
  go_wp2_with ((refine (WI.out _).mono ?_); rintro e w1 ⟨rfl, hw⟩; subst hw)
  go_quiet (fail)
  go_wp2_with fail
  go_ret
  refine ⟨?_, below_drewN (desc_box ..) _⟩
  rfl
set_option maxRecDepth 100000 in
set_option maxHeartbeats 2000000 in
theorem made_int5 (d : De) (w : World) (h : d.k = 5) (h0 : 0 ≤ d.b) (h1 : d.b ≤ 18446744073709551615) :
    Calls Tryz.prog 97 #[.agg (deV d)] w fun e w' => e = .returned (intV d (sxI 5 d.b)) ∧ Below w.heap.size w w' := by
  obtain ⟨k, ty, b, im, t, nm, pa, hk⟩ := d
  simp only at *
  subst h
  have WI := hid (fun W => width_of 5 W (by decide))
  rw [show wBits 5 = 64 from rfl] at WI
  have hv : wrap64 b = sxI 5 b := by
    unfold wrap64
    show _ = (b + 9223372036854775808) % 18446744073709551616 - 9223372036854775808
    rfl
  go_enter Tryz.func97, Tryz.ntmps97
  go_wp2_with ((refine (WI.out _).mono ?_); rintro e w1 ⟨rfl, hw⟩; subst hw)
  go_quiet (fail)
  go_wp2_with fail
  go_ret
  refine ⟨?_, below_drewN (desc_box ..) _⟩
  rfl
set_option maxRecDepth 100000 in
set_option maxHeartbeats 2000000 in
theorem made_int6 (d : De) (w : World) (h : d.k = 6) (h0 : 0 ≤ d.b) (h1 : d.b ≤ 18446744073709551615) :
    Calls Tryz.prog 97 #[.agg (deV d)] w fun e w' => e = .returned (intV d (sxI 6 d.b)) ∧ Below w.heap.size w w' := by
  obtain ⟨k, ty, b, im, t, nm, pa, hk⟩ := d
  simp only at *
  subst h
  have WI := hid (fun W => width_of 6 W (by decide))
  rw [show wBits 6 = 64 from rfl] at WI
  have hv : wrap64 b = sxI 6 b := by
    unfold wrap64
    show _ = (b + 9223372036854775808) % 18446744073709551616 - 9223372036854775808
    rfl
  go_enter Tryz.func97, Tryz.ntmps97
  go_wp2_with ((refine (WI.out _).mono ?_); rintro e w1 ⟨rfl, hw⟩; subst hw)
  go_quiet (fail)
  go_wp2_with fail
  go_ret
  refine ⟨?_, below_drewN (desc_box ..) _⟩
  rfl
set_option maxRecDepth 100000 in
set_option maxHeartbeats 2000000 in
theorem made_uint7 (d : De) (w : World) (h : d.k = 7) (h0 : 0 ≤ d.b) (h1 : d.b ≤ 18446744073709551615) :
    Calls Tryz.prog 97 #[.agg (deV d)] w fun e w' => e = .returned (uintV d (zxI 7 d.b)) ∧ Below w.heap.size w w' := by
  obtain ⟨k, ty, b, im, t, nm, pa, hk⟩ := d
  simp only at *
  subst h
  have WI := hid (fun W => width_of 7 W (by decide))
  rw [show wBits 7 = 8 from rfl] at WI
  have hv : IntKind.u64.wrap (b * 72057594037927936) / 72057594037927936 = zxI 7 b := by
    rw [IntKind.wrap_u64]
    show _ = b % 256
    omega
  go_enter Tryz.func97, Tryz.ntmps97
  go_wp2_with ((refine (WI.out _).mono ?_); rintro e w1 ⟨rfl, hw⟩; subst hw)
  go_quiet (fail)
  go_wp2_with fail
  go_ret
  refine ⟨?_, below_drewN (desc_box ..) _⟩
  rfl
set_option maxRecDepth 100000 in
set_option maxHeartbeats 2000000 in
theorem made_uint8 (d : De) (w : World) (h : d.k = 8) (h0 : 0 ≤ d.b) (h1 : d.b ≤ 18446744073709551615) :
    Calls Tryz.prog 97 #[.agg (deV d)] w fun e w' => e = .returned (uintV d (zxI 8 d.b)) ∧ Below w.heap.size w w' := by
  obtain ⟨k, ty, b, im, t, nm, pa, hk⟩ := d
  simp only at *
  subst h
  have WI := hid (fun W => width_of 8 W (by decide))
  rw [show wBits 8 = 16 from rfl] at WI
  have hv : IntKind.u64.wrap (b * 281474976710656) / 281474976710656 = zxI 8 b := by
    rw [IntKind.wrap_u64]
    show _ = b % 65536
    omega
  go_enter Tryz.func97, Tryz.ntmps97
  go_wp2_with ((refine (WI.out _).mono ?_); rintro e w1 ⟨rfl, hw⟩; subst hw)
  go_quiet (fail)
  go_wp2_with fail
  go_ret
  refine ⟨?_, below_drewN (desc_box ..) _⟩
  rfl
set_option maxRecDepth 100000 in
set_option maxHeartbeats 2000000 in
theorem made_uint9 (d : De) (w : World) (h : d.k = 9) (h0 : 0 ≤ d.b) (h1 : d.b ≤ 18446744073709551615) :
    Calls Tryz.prog 97 #[.agg (deV d)] w fun e w' => e = .returned (uintV d (zxI 9 d.b)) ∧ Below w.heap.size w w' := by
  obtain ⟨k, ty, b, im, t, nm, pa, hk⟩ := d
  simp only at *
  subst h
  have WI := hid (fun W => width_of 9 W (by decide))
  rw [show wBits 9 = 32 from rfl] at WI
  have hv : IntKind.u64.wrap (b * 4294967296) / 4294967296 = zxI 9 b := by
    rw [IntKind.wrap_u64]
    show _ = b % 4294967296
    omega
  go_enter Tryz.func97, Tryz.ntmps97
  go_wp2_with ((refine (WI.out _).mono ?_); rintro e w1 ⟨rfl, hw⟩; subst hw)
  go_quiet (fail)
  go_wp2_with fail
  go_ret
  refine ⟨?_, below_drewN (desc_box ..) _⟩
  rfl
set_option maxRecDepth 100000 in
set_option maxHeartbeats 2000000 in
theorem made_uint10 (d : De) (w : World) (h : d.k = 10) (h0 : 0 ≤ d.b) (h1 : d.b ≤ 18446744073709551615) :
    Calls Tryz.prog 97 #[.agg (deV d)] w fun e w' => e = .returned (uintV d (zxI 10 d.b)) ∧ Below w.heap.size w w' := by
  obtain ⟨k, ty, b, im, t, nm, pa, hk⟩ := d
  simp only at *
  subst h
  have WI := hid (fun W => width_of 10 W (by decide))
  rw [show wBits 10 = 64 from rfl] at WI
  go_enter Tryz.func97, Tryz.ntmps97
  go_wp2_with ((refine (WI.out _).mono ?_); rintro e w1 ⟨rfl, hw⟩; subst hw)
  go_quiet (fail)
  go_wp2_with fail
  go_ret
  refine ⟨?_, below_drewN (desc_box ..) _⟩
  exact congrArg (fun v => Ending.returned (uintV ⟨10, ty, b, im, t, nm, pa, hk⟩ v)) (show b = zxI 10 b from rfl)
set_option maxRecDepth 100000 in
set_option maxHeartbeats 2000000 in
theorem made_uint11 (d : De) (w : World) (h : d.k = 11) (h0 : 0 ≤ d.b) (h1 : d.b ≤ 18446744073709551615) :
    Calls Tryz.prog 97 #[.agg (deV d)] w fun e w' => e = .returned (uintV d (zxI 11 d.b)) ∧ Below w.heap.size w w' := by
  obtain ⟨k, ty, b, im, t, nm, pa, hk⟩ := d
  simp only at *
  subst h
  have WI := hid (fun W => width_of 11 W (by decide))
  rw [show wBits 11 = 64 from rfl] at WI
  go_enter Tryz.func97, Tryz.ntmps97
  go_wp2_with ((refine (WI.out _).mono ?_); rintro e w1 ⟨rfl, hw⟩; subst hw)
  go_quiet (fail)
  go_wp2_with fail
  go_ret
  refine ⟨?_, below_drewN (desc_box ..) _⟩
  exact congrArg (fun v => Ending.returned (uintV ⟨11, ty, b, im, t, nm, pa, hk⟩ v)) (show b = zxI 11 b from rfl)
set_option maxRecDepth 100000 in
set_option maxHeartbeats 2000000 in
theorem made_float12 (d : De) (w : World) (h : d.k = 12) :
    Calls Tryz.prog 97 #[.agg (deV d)] w fun e w' => e = .returned (floatV d (d.b % 4294967296) 32) ∧ Below w.heap.size w w' := by
  obtain ⟨k, ty, b, im, t, nm, pa, hk⟩ := d
  simp only at *
  subst h
  have LO := hid (fun W => low_32 b W)
  go_enter Tryz.func97, Tryz.ntmps97
  go_wp2_with fail
  go_quiet ((go_at_call 128; exact Calls.quiet_of_same ((LO.out _).mono fun _ _ h => ⟨h.1, h.2.symm⟩)))
  go_wp2_with fail
  go_ret
  exact ⟨rfl, below_drewN (desc_box ..) _⟩
set_option maxRecDepth 100000 in
set_option maxHeartbeats 2000000 in
theorem made_float13 (d : De) (w : World) (h : d.k = 13) (h0 : 0 ≤ d.b) (h1 : d.b ≤ 18446744073709551615) :
    Calls Tryz.prog 97 #[.agg (deV d)] w fun e w' => e = .returned (floatV d (d.b) 64) ∧ Below w.heap.size w w' := by
  obtain ⟨k, ty, b, im, t, nm, pa, hk⟩ := d
  simp only at *
  subst h
  have LO := hid (fun W => low_64 b W h0 h1)
  go_enter Tryz.func97, Tryz.ntmps97
  go_wp2_with fail
  go_quiet ((go_at_call 128; exact Calls.quiet_of_same ((LO.out _).mono fun _ _ h => ⟨h.1, h.2.symm⟩)))
  go_wp2_with fail
  go_ret
  exact ⟨rfl, below_drewN (desc_box ..) _⟩
set_option maxRecDepth 100000 in
set_option maxHeartbeats 2000000 in
theorem made_cplx14 (d : De) (w : World) (h : d.k = 14) :
    Calls Tryz.prog 97 #[.agg (deV d)] w fun e w' => e = .returned (cplxV d (d.b % 4294967296) (d.im % 4294967296) 64) ∧ Below w.heap.size w w' := by
  obtain ⟨k, ty, b, im, t, nm, pa, hk⟩ := d
  simp only at *
  subst h
  have LO := hid (fun W => low_32 b W)
  have LI := hid (fun W => low_32 im W)
  go_enter Tryz.func97, Tryz.ntmps97
  go_wp2_with fail
  go_quiet ((go_at_call 128; first | (with_reducible exact Calls.quiet_of_same ((LO.out _).mono fun _ _ h => ⟨h.1, h.2.symm⟩)) | (with_reducible exact Calls.quiet_of_same ((LI.out _).mono fun _ _ h => ⟨h.1, h.2.symm⟩))))
  go_wp2_with fail
  go_ret
  exact ⟨rfl, below_drewN (desc_box ..) _⟩
set_option maxRecDepth 100000 in
set_option maxHeartbeats 2000000 in
theorem made_cplx15 (d : De) (w : World) (h : d.k = 15) (h0 : 0 ≤ d.b) (h1 : d.b ≤ 18446744073709551615) (h2 : 0 ≤ d.im) (h3 : d.im ≤ 18446744073709551615) :
    Calls Tryz.prog 97 #[.agg (deV d)] w fun e w' => e = .returned (cplxV d (d.b) (d.im) 128) ∧ Below w.heap.size w w' := by
  obtain ⟨k, ty, b, im, t, nm, pa, hk⟩ := d
  simp only at *
  subst h
  have LO := hid (fun W => low_64 b W h0 h1)
  have LI := hid (fun W => low_64 im W h2 h3)
  go_enter Tryz.func97, Tryz.ntmps97
  go_wp2_with fail
  go_quiet ((go_at_call 128; first | (with_reducible exact Calls.quiet_of_same ((LO.out _).mono fun _ _ h => ⟨h.1, h.2.symm⟩)) | (with_reducible exact Calls.quiet_of_same ((LI.out _).mono fun _ _ h => ⟨h.1, h.2.symm⟩))))
  go_wp2_with fail
  go_ret
  exact ⟨rfl, below_drewN (desc_box ..) _⟩
set_option maxRecDepth 100000 in
set_option maxHeartbeats 2000000 in
theorem made_text (d : De) (w : World) (h : d.k = 16) :
    Calls Tryz.prog 97 #[.agg (deV d)] w fun e w' => e = .returned (textV d) ∧ Below w.heap.size w w' := by
  obtain ⟨k, ty, b, im, t, nm, pa, hk⟩ := d
  simp only at *
  subst h
  go_enter Tryz.func97, Tryz.ntmps97
  go_wp2_with fail
  go_ret
  exact ⟨rfl, desc_box ..⟩
set_option maxRecDepth 100000 in
set_option maxHeartbeats 2000000 in
theorem made_bytes (d : De) (w : World) (h : d.k = 17) :
    Calls Tryz.prog 97 #[.agg (deV d)] w fun e w' => e = .returned (bytesV d) ∧ Below w.heap.size w w' := by
  obtain ⟨k, ty, b, im, t, nm, pa, hk⟩ := d
  simp only at *
  subst h
  go_enter Tryz.func97, Tryz.ntmps97
  go_wp2_with fail
  go_ret
  exact ⟨rfl, desc_box ..⟩
/-- A number's bits are 64. -/
structure DeB (d : De) : Prop where
  b0 : 0 ≤ d.b
  b1 : d.b ≤ 18446744073709551615
  i0 : 0 ≤ d.im
  i1 : d.im ≤ 18446744073709551615
/-- The value of a descriptor without parts. -/
def leafV (d : De) : Value :=
  if d.k = 0 then nilV else if d.k = 1 then boolV d (decide (d.b % 2 = 1)) else if d.k ≤ 6 then intV d (sxI d.k d.b) else if d.k ≤ 11 then uintV d (zxI d.k d.b)
  else if d.k = 12 then floatV d (d.b % 4294967296) 32 else if d.k = 13 then floatV d d.b 64 else if d.k = 14 then cplxV d (d.b % 4294967296) (d.im % 4294967296) 64 else if d.k = 15 then cplxV d d.b d.im 128
  else if d.k = 16 then textV d else bytesV d
theorem leafV_int (d : De) (h : 2 ≤ d.k ∧ d.k ≤ 6) : leafV d = intV d (sxI d.k d.b) := by
  unfold leafV; rw [if_neg (by omega), if_neg (by omega), if_pos (by omega)]
theorem leafV_uint (d : De) (h : 7 ≤ d.k ∧ d.k ≤ 11) : leafV d = uintV d (zxI d.k d.b) := by
  unfold leafV; rw [if_neg (by omega), if_neg (by omega), if_neg (by omega), if_pos (by omega)]
theorem made_leaf (d : De) (w : World) (hB : DeB d) (h : 0 ≤ d.k ∧ d.k ≤ 17) :
    Calls Tryz.prog 97 #[.agg (deV d)] w fun e w' => e = .returned (leafV d) ∧ Below w.heap.size w w' := by
  obtain ⟨b0, b1, i0, i1⟩ := hB
  have hk : d.k = 0 ∨ d.k = 1 ∨ d.k = 2 ∨ d.k = 3 ∨ d.k = 4 ∨ d.k = 5 ∨ d.k = 6 ∨ d.k = 7 ∨ d.k = 8 ∨ d.k = 9 ∨ d.k = 10 ∨ d.k = 11 ∨ d.k = 12 ∨ d.k = 13 ∨ d.k = 14 ∨ d.k = 15 ∨ d.k = 16 ∨ d.k = 17 := by omega
  rcases hk with h | h | h | h | h | h | h | h | h | h | h | h | h | h | h | h | h | h
  · have e : leafV d = nilV := by unfold leafV; rw [if_pos h]
    rw [e]; exact made_nil d w h
  · have e : leafV d = boolV d (decide (d.b % 2 = 1)) := by unfold leafV; rw [if_neg (by omega), if_pos h]
    rw [e]; exact made_bool d w h b0 b1
  · rw [leafV_int d (by omega)]; have := made_int2 d w h b0 b1; rw [← h] at this; exact this
  · rw [leafV_int d (by omega)]; have := made_int3 d w h b0 b1; rw [← h] at this; exact this
  · rw [leafV_int d (by omega)]; have := made_int4 d w h b0 b1; rw [← h] at this; exact this
  · rw [leafV_int d (by omega)]; have := made_int5 d w h b0 b1; rw [← h] at this; exact this
  · rw [leafV_int d (by omega)]; have := made_int6 d w h b0 b1; rw [← h] at this; exact this
  · rw [leafV_uint d (by omega)]; have := made_uint7 d w h b0 b1; rw [← h] at this; exact this
  · rw [leafV_uint d (by omega)]; have := made_uint8 d w h b0 b1; rw [← h] at this; exact this
  · rw [leafV_uint d (by omega)]; have := made_uint9 d w h b0 b1; rw [← h] at this; exact this
  · rw [leafV_uint d (by omega)]; have := made_uint10 d w h b0 b1; rw [← h] at this; exact this
  · rw [leafV_uint d (by omega)]; have := made_uint11 d w h b0 b1; rw [← h] at this; exact this
  · have e : leafV d = floatV d (d.b % 4294967296) 32 := by unfold leafV; rw [if_neg (by omega), if_neg (by omega), if_neg (by omega), if_neg (by omega), if_pos h]
    rw [e]; exact made_float12 d w h
  · have e : leafV d = floatV d d.b 64 := by unfold leafV; rw [if_neg (by omega), if_neg (by omega), if_neg (by omega), if_neg (by omega), if_neg (by omega), if_pos h]
    rw [e]; exact made_float13 d w h b0 b1
  · have e : leafV d = cplxV d (d.b % 4294967296) (d.im % 4294967296) 64 := by unfold leafV; rw [if_neg (by omega), if_neg (by omega), if_neg (by omega), if_neg (by omega), if_neg (by omega), if_neg (by omega), if_pos h]
    rw [e]; exact made_cplx14 d w h
  · have e : leafV d = cplxV d d.b d.im 128 := by unfold leafV; rw [if_neg (by omega), if_neg (by omega), if_neg (by omega), if_neg (by omega), if_neg (by omega), if_neg (by omega), if_neg (by omega), if_pos h]
    rw [e]; exact made_cplx15 d w h b0 b1 i0 i1
  · have e : leafV d = textV d := by unfold leafV; rw [if_neg (by omega), if_neg (by omega), if_neg (by omega), if_neg (by omega), if_neg (by omega), if_neg (by omega), if_neg (by omega), if_neg (by omega), if_pos h]
    rw [e]; exact made_text d w h
  · have e : leafV d = bytesV d := by unfold leafV; rw [if_neg (by omega), if_neg (by omega), if_neg (by omega), if_neg (by omega), if_neg (by omega), if_neg (by omega), if_neg (by omega), if_neg (by omega), if_neg (by omega)]
    rw [e]; exact made_bytes d w h
end Go.Proofs.YtdjhmanccoekjaaGreatDoor
end
