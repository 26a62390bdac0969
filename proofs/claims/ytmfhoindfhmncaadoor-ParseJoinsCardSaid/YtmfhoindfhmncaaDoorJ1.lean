/-
  What the joining of two lists of pieces asks: cells of a joined list; a cell of an own list set; two pieces compared by '!='.
-/
import Derived.Test.YtmfhoindfhmncaaDoorPS
import Derived.Test.YtmfhoindfhmncaaDoorPT
import Derived.Test.YtmfhoindfhmncaaDoorPJ
import Derived.Laws.AppendOwnNone
import Derived.StillTactics
namespace Go.Proofs.YtmfhoindfhmncaaDoor
open Go.RowKit Go.Proofs

theorem joins2 (a r : List UInt8) : (PP.parseL (a ++ [PP.cD]) ++ PP.parseL r).foldl PP.push [] = PP.parseL ((a ++ [PP.cD]) ++ r) := by
  rw [PP.fold_join _ _ (PP.parseL_apart _) (PP.parseL_apart _), List.append_assoc]
  exact (PP.parse_join a.length a r (Nat.le_refl _)).symm
theorem cellsL_len (L : List PP.Pc) : (cellsL L).length = L.length * 20 := by
  induction L with
  | nil => rfl
  | cons p L ih =>
    unfold cellsL
    rw [List.length_append, ih, List.length_cons]
    simp
    omega
theorem set_mid (X Y : List Value) (C : List Value) (j : Nat) (u : Value) (hj : j < C.length) : (X ++ (C ++ Y)).set (X.length + j) u = X ++ (C.set j u ++ Y) := by
  rw [List.set_append_right _ _ (by omega), show X.length + j - X.length = j by omega, List.set_append_left _ _ hj]
/-- The text of the last piece made longer. -/
theorem cells_grow (A : List PP.Pc) (q : PP.Pc) (t : List UInt8) : cellsL (A ++ [{ q with text := t }]) = (cellsL (A ++ [q])).set (A.length * 20 + 1) (.string (txt t)) := by
  rw [cellsL_append, cellsL_append, cellsL_one, cellsL_one]
  have h := set_mid (cellsL A) [] (pcV q (txt q.text)).toList 1 (.string (txt t)) (by simp)
  rw [List.append_nil, List.append_nil, cellsL_len] at h
  rw [h]
  rfl
/-- A cell of an own list, set. -/
theorem own_set {w : World} {B n g : Nat} {cap : Nat} {xs : List Value} {e : TypeId} {z : Nat} (h : w.ownsRow B e z (.slice (some ⟨g, 0, none⟩) n cap) n xs) (j : Nat) (u : Value) :
    (w.setCell ⟨g, j, none⟩ u).ownsRow B e z (.slice (some ⟨g, 0, none⟩) n cap) n (xs.set j u) := by
  refine ⟨by rw [List.length_set]; exact h.1, ?_⟩
  rcases h.2 with ⟨h0, _⟩ | ⟨g', cap', cur, h1, h2, h3, h4, h5, h6, h7⟩
  · cases h0
  · simp only [Value.slice.injEq, Option.some.injEq, Addr.mk.injEq, and_true, true_and] at h1
    obtain ⟨rfl, rfl⟩ := h1
    have hb : Blk w g cur e := h3
    refine Or.inr ⟨g, cap, cur.setIfInBounds j u, rfl, h2, hb.set_ j u, h4, h5, by simpa using h6, ?_⟩
    rw [Array.toList_setIfInBounds, List.take_set, h7]
theorem wpStill_wantNeq {ops : Array Oper} {rest : List Oper} {o : Oper} {a : Act} {w : World} {Q : Act → Prop} (hw : Region.wanted o (yielded ops a.tmps) = true) (t : TypeId) (x y : Operand) (z : TypeId) (ho : o.op = .binOp .neq t x y z)
    (A B : Array Value) (hx : a.eval x = .agg A) (hy : a.eval y = .agg B) (hm : Tryd.prog.eqGuardType Tryd.prog.depth t = false) (r : Bool) (he : (Op.equalIn 10000 t (.agg A) (.agg B)).run Tryd.prog w = .ok r w)
    (h : wpStill Tryd.prog ops w Q rest (a.put o.dst (.bool (!r)))) : wpStill Tryd.prog ops w Q (o :: rest) a :=
  wpStill_step fun K hK => by
    rw [if_pos hw]
    unfold Oper.still execOp
    simp only [ho, hx, hy, Sem.run_bind, run_eqGuard_agg _ _ _ _ _ _ _ hm, run_neq_struct, he, Result.andThen_ok]
    exact ⟨rfl, hK _ h⟩
theorem list_snoc {α : Type} (L : List α) (h : L ≠ []) : ∃ A q, L = A ++ [q] := ⟨L.dropLast, L.getLast h, (List.dropLast_concat_getLast h).symm⟩
theorem texts_app (A B : List PP.Pc) : PP.textsL (A ++ B) = PP.textsL A ++ PP.textsL B := by
  unfold PP.textsL
  rw [List.flatMap_append]
theorem texts_one (p : PP.Pc) : PP.textsL [p] = p.text := by
  unfold PP.textsL
  simp
theorem texts_push (L : List PP.Pc) (p : PP.Pc) : PP.textsL (PP.push L p) = PP.textsL L ++ p.text := by
  by_cases h : L = []
  · subst h
    show PP.textsL [p] = _
    rw [texts_one]; rfl
  · obtain ⟨A, q, rfl⟩ := list_snoc L h
    rw [PP.push_app]
    split
    · rw [texts_app, texts_app, texts_one, texts_one, List.append_assoc]
    · rw [texts_app, texts_one]
theorem texts_fold (L : List PP.Pc) : ∀ A, PP.textsL (L.foldl PP.push A) = PP.textsL A ++ PP.textsL L := by
  induction L with
  | nil => intro A; rw [List.foldl_nil]; show _ = _ ++ []; rw [List.append_nil]
  | cons p L ih =>
    intro A
    rw [List.foldl_cons, ih, texts_push, List.append_assoc, show p :: L = [p] ++ L from rfl, texts_app, texts_one]
theorem text_le {L : List PP.Pc} {p : PP.Pc} (h : p ∈ L) : p.text.length ≤ (PP.textsL L).length := by
  obtain ⟨A, B, rfl⟩ := List.append_of_mem h
  rw [texts_app, List.length_append, show p :: B = [p] ++ B from rfl, texts_app, texts_one, List.length_append]
  omega
theorem fold_take {L : List PP.Pc} {i : Nat} {p : PP.Pc} (h : L[i]? = some p) : (L.take (i + 1)).foldl PP.push [] = PP.push ((L.take i).foldl PP.push []) p := by
  rw [List.take_add_one, h, List.foldl_append]
  rfl
theorem take_text {L : List PP.Pc} {i : Nat} {q : PP.Pc} (h : q ∈ (L.take i).foldl PP.push []) : q.text.length ≤ (PP.textsL L).length := by
  have h1 := text_le h
  rw [texts_fold] at h1
  have h2 : PP.textsL L = PP.textsL (L.take i) ++ PP.textsL (L.drop i) := by rw [← texts_app, List.take_append_drop]
  rw [h2, List.length_append]
  have e : PP.textsL ([] : List PP.Pc) = [] := rfl
  rw [e, List.nil_append] at h1
  omega
theorem push_len (L : List PP.Pc) (p : PP.Pc) : (PP.push L p).length ≤ L.length + 1 := by
  by_cases h : L = []
  · subst h; exact Nat.le_refl _
  · obtain ⟨A, q, rfl⟩ := list_snoc L h
    rw [PP.push_app]
    split <;> simp
theorem cellsL_oneCell (L : List PP.Pc) : ∀ u ∈ cellsL L, u.oneCell' = true := by
  induction L with
  | nil => intro u hu; cases hu
  | cons p L ih =>
    intro u hu
    unfold cellsL at hu
    rcases List.mem_append.1 hu with h | h
    · exact (Array.all_eq_true_iff_forall_mem.1 (pcV_one p (txt p.text))) u (by simpa using h)
    · exact ih u h
/-- What holds at the head of a round of the joining. -/
structure JnI (W0 wr : World) (v : Value) (done : List PP.Pc) : Prop where
  own : wr.ownsRow W0.heap.size 40 20 v done.length (cellsL done)
  below : Below W0.heap.size W0 wr
/-- A list that the call made, its length and its pieces. -/
theorem own_len {w : World} {B n : Nat} {v : Value} {xs : List Value} (h : w.ownsRow B 40 20 v n xs) : ∃ A cap, v = .slice A n cap := by
  rcases h.2 with ⟨h0, h1⟩ | ⟨g, cap, cur, h1, _⟩
  · subst h1; exact ⟨none, 0, h0⟩
  · exact ⟨_, cap, h1⟩
theorem own_pcs {w : World} {B : Nat} {v : Value} {L : List PP.Pc} (h : w.ownsRow B 40 20 v L.length (cellsL L)) (hn : L ≠ []) :
    ∃ g cap, v = .slice (some ⟨g, 0, none⟩) L.length cap ∧ B ≤ g ∧ g < w.heap.size ∧ PcsAt w g L := by
  obtain ⟨g, cap, h1, h2, h3, _, _, h6⟩ := own_open h (List.length_pos_iff.2 hn)
  exact ⟨g, cap, h1, h2, h3, pcsAt_own h6⟩
/-- One own list put behind another. -/
theorem wpList_join {ops : Array Oper} {rest : List Oper} {oa : Oper} {a : Act} {w : World} {Q : Exit → Act → World → Prop} (hga : oa.guard = none) (y x : Operand)
    (hoa : oa.op = .call { callee := .builtin .append, args := #[y, x], argTypes := #[23, 23] })
    (B : Nat) (v1 : Value) (n1 : Nat) (xs1 : List Value) (hy : a.eval y = v1) (hown : w.ownsRow B 40 20 v1 n1 xs1)
    (B2 : Nat) (v2 : Value) (n2 : Nat) (xs2 : List Value) (hx : a.eval x = v2) (hown2 : w.ownsRow B2 40 20 v2 n2 xs2) (h1 : ∀ u ∈ xs2, u.oneCell' = true) (hB : B ≤ w.heap.size) (hn : n1 + n2 ≤ 100000)
    (h : ∀ v' w', w'.ownsRow B 40 20 v' (n1 + n2) (xs1 ++ xs2) → Below B w w' → wpList Tryd.prog ops Q rest (a.put oa.dst v') w') : wpList Tryd.prog ops Q (oa :: rest) a w := by
  have hz := piece_zero
  have hb := piece_bytes
  have hs := piece_size
  cases hie : Tryd.prog.info? 40 with
  | none => simp [hie] at hs
  | some ie =>
    rw [hie] at hz hb hs
    simp only [Option.bind_some, Option.map_some, Option.some.injEq] at hz hb hs
    rcases hown2.2 with ⟨h0, hn0⟩ | ⟨g, cap, cur, e1, _⟩
    · subst h0
      subst hn0
      have hx2 : xs2 = [] := List.eq_nil_of_length_eq_zero (by have := hown2.1; omega)
      subst hx2
      refine wpList_append_own_none (P := Tryd.prog) hga y x 23 hoa B 40 ie 20 Tryd.underlying23 hie v1 n1 xs1 hy hown hx ?_
      refine h v1 w ?_ (Below.refl _ _)
      rw [List.append_nil]
      exact hown
    · refine wpList_append_own (P := Tryd.prog) (w := w) hga y x 23 hoa B 40 ie (.agg pc0) 20 136 Tryd.underlying23 hie hz hs hb rfl (by decide) v1 n1 xs1 hy hown ⟨g, 0, none⟩ n2 cap xs2 (by rw [hx, e1]) hown2.1 ?_ h1 (by unfold maxLen; omega) (by omega) hB ?_
      · intro j u hu
        exact hown2.cells (g := g) (by rw [e1]; rfl) j u hu
      · intro v' w' h2 h3 _
        refine h v' w' h2 (Below.grown (Below.refl B w) h3 hB ?_)
        intro k hk
        rcases hown.2 with ⟨rfl, _⟩ | ⟨g', cap', cur', rfl, q2, _⟩
        · cases hk
        · simp only [Value.ownBlock, Option.some.injEq] at hk
          omega
/-- A list that the call made: as a slice, and its pieces. -/
theorem own_full {w : World} {B : Nat} {v : Value} {L : List PP.Pc} (h : w.ownsRow B 40 20 v L.length (cellsL L)) :
    ∃ A cap, v = .slice A L.length cap ∧ (L ≠ [] → ∃ g, A = some ⟨g, 0, none⟩ ∧ B ≤ g ∧ g < w.heap.size ∧ PcsAt w g L) := by
  by_cases hL : L = []
  · obtain ⟨A, cap, e⟩ := own_len h
    exact ⟨A, cap, e, fun h => absurd hL h⟩
  · obtain ⟨g, cap, e1, e2, e3, e4⟩ := own_pcs h hL
    exact ⟨_, cap, e1, fun _ => ⟨g, rfl, e2, e3, e4⟩⟩
theorem pc_len {L : List PP.Pc} {k : Nat} {p : PP.Pc} (h : L[k]? = some p) : k < L.length := by
  rcases Nat.lt_or_ge k L.length with q | q
  · exact q
  · rw [List.getElem?_eq_none q] at h; cases h
theorem snoc_at (A : List PP.Pc) (q : PP.Pc) : (A ++ [q])[A.length]? = some q := by simp
theorem fold_len (L : List PP.Pc) : ∀ A, (L.foldl PP.push A).length ≤ A.length + L.length := by
  induction L with
  | nil => intro A; exact Nat.le_refl _
  | cons p L ih =>
    intro A
    have h1 := ih (PP.push A p)
    have h2 := push_len A p
    rw [List.foldl_cons, List.length_cons]
    omega
end Go.Proofs.YtmfhoindfhmncaaDoor
