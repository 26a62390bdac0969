/-
  PLAIN LEAN: behind a letter at its end a format may be cut: the pieces of the two parts, joined.
-/
import Derived.Test.YtmfhoindfhmncaaDoorPW
namespace Go.Proofs.YtmfhoindfhmncaaDoor.PP

/-- The letter d. -/
abbrev cD : UInt8 := 100
theorem take_is : ∀ (l : List UInt8) (b : UInt8), b ∈ l.takeWhile notPct → notPct b = true
  | [], _, h => by simp at h
  | a :: l, b, h => by
    rw [List.takeWhile_cons] at h
    split at h
    · rename_i ha
      rcases List.mem_cons.1 h with rfl | h
      · exact ha
      · exact take_is l b h
    · simp at h
theorem flL_join (r : List UInt8) : ∀ (t : List UInt8) (f : Fl), ∃ g t', flL f (t ++ cD :: r) = (g, t' ++ cD :: r) ∧ flL f (t ++ [cD]) = (g, t' ++ [cD]) ∧ t'.length ≤ t.length
  | [], f => ⟨f, [], flL_stop (by rfl), flL_stop (by rfl), Nat.le_refl _⟩
  | a :: t, f => by
    cases h : flOn f a with
    | none => exact ⟨f, a :: t, flL_stop h, flL_stop h, Nat.le_refl _⟩
    | some g =>
      obtain ⟨g', t', h1, h2, h3⟩ := flL_join r t g
      refine ⟨g', t', ?_, ?_, by simp; omega⟩
      · rw [List.cons_append, flL, h]; exact h1
      · rw [List.cons_append, flL, h]; exact h2
theorem dg_join (r : List UInt8) : ∀ t : List UInt8, ∃ t', dg (t ++ cD :: r) = dg (t ++ [cD]) ∧ rs (t ++ cD :: r) = t' ++ cD :: r ∧ rs (t ++ [cD]) = t' ++ [cD] ∧ t'.length ≤ t.length
  | [] => ⟨[], by rw [List.nil_append, (dg_stop (by decide)).1, List.nil_append, (dg_stop (by decide)).1], (dg_stop (by decide)).2, (dg_stop (by decide)).2, Nat.le_refl _⟩
  | a :: t => by
    cases h : isD a with
    | false =>
      refine ⟨a :: t, ?_, ?_, ?_, Nat.le_refl _⟩
      · unfold dg; simp [h]
      · unfold rs; simp [h]
      · unfold rs; simp [h]
    | true =>
      obtain ⟨t', h1, h2, h3, h4⟩ := dg_join r t
      unfold dg rs at *
      refine ⟨t', ?_, ?_, ?_, by simp; omega⟩
      · rw [List.cons_append, List.takeWhile_cons, if_pos h, h1, List.cons_append, List.takeWhile_cons, if_pos h]
      · rw [List.cons_append, List.dropWhile_cons, if_pos h, h2]
      · rw [List.cons_append, List.dropWhile_cons, if_pos h, h3]
theorem ixL_join (r t : List UInt8) : ∃ i t', ixL (t ++ cD :: r) = (i, t' ++ cD :: r) ∧ ixL (t ++ [cD]) = (i, t' ++ [cD]) ∧ t'.length ≤ t.length := by
  cases t with
  | nil => exact ⟨⟨0, 0⟩, [], ixL_stop (by decide), ixL_stop (by decide), Nat.le_refl _⟩
  | cons a t =>
    by_cases ha : a.toNat = 91
    · obtain ⟨t', h1, h2, h3, h4⟩ := dg_join r t
      by_cases hd : dg (t ++ [cD]) = []
      · refine ⟨⟨2, 0⟩, t, ?_, ?_, by simp⟩
        · unfold ixL
          simp only [List.cons_append, if_pos ha, h1, if_pos hd]
        · unfold ixL
          simp only [List.cons_append, if_pos ha, if_pos hd]
      · cases t' with
        | nil =>
          refine ⟨⟨2, 0⟩, t, ?_, ?_, by simp⟩
          · unfold ixL
            simp only [List.cons_append, if_pos ha, h1, if_neg hd, h2, List.nil_append]
            rw [if_neg (by decide)]
          · unfold ixL
            simp only [List.cons_append, if_pos ha, if_neg hd, h3, List.nil_append]
            rw [if_neg (by decide)]
        | cons b t' =>
          by_cases hb : b.toNat = 93
          · by_cases hv : 0 < valL 999999999 0 (dg (t ++ [cD])) ∧ (dg (t ++ [cD])).length ≤ 9
            · refine ⟨⟨1, valL 999999999 0 (dg (t ++ [cD]))⟩, t', ?_, ?_, by simp at h4 ⊢; omega⟩
              · unfold ixL
                simp only [List.cons_append, if_pos ha, h1, if_neg hd, h2, if_pos hb, if_pos hv]
              · unfold ixL
                simp only [List.cons_append, if_pos ha, if_neg hd, h3, if_pos hb, if_pos hv]
            · refine ⟨⟨2, 0⟩, t', ?_, ?_, by simp at h4 ⊢; omega⟩
              · unfold ixL
                simp only [List.cons_append, if_pos ha, h1, if_neg hd, h2, if_pos hb, if_neg hv]
              · unfold ixL
                simp only [List.cons_append, if_pos ha, if_neg hd, h3, if_pos hb, if_neg hv]
          · refine ⟨⟨2, 0⟩, t, ?_, ?_, by simp⟩
            · unfold ixL
              simp only [List.cons_append, if_pos ha, h1, if_neg hd, h2, if_neg hb]
            · unfold ixL
              simp only [List.cons_append, if_pos ha, if_neg hd, h3, if_neg hb]
    · exact ⟨⟨0, 0⟩, a :: t, ixL_stop ha, ixL_stop ha, Nat.le_refl _⟩
theorem pk_join (r t : List UInt8) : pk (t ++ cD :: r) = pk (t ++ [cD]) := by cases t <;> rfl
theorem pk_nil (r : List UInt8) : pk ([] ++ cD :: r) = 100 := rfl
theorem nmL_join (x : Ix) (al : Bool) (r t : List UInt8) : ∃ n i t', nmL x al (t ++ cD :: r) = (n, i, t' ++ cD :: r) ∧ nmL x al (t ++ [cD]) = (n, i, t' ++ [cD]) ∧ t'.length ≤ t.length := by
  unfold nmL
  rw [pk_join]
  by_cases h1 : pk (t ++ [cD]) = 42
  · rw [if_pos h1, if_pos h1]
    cases t with
    | nil => exact absurd h1 (by decide)
    | cons a t => exact ⟨_, _, t, rfl, rfl, by simp⟩
  · rw [if_neg h1, if_neg h1]
    by_cases h2 : (49 ≤ pk (t ++ [cD]) ∧ pk (t ++ [cD]) ≤ 57) ∨ (al = true ∧ pk (t ++ [cD]) = 48)
    · rw [if_pos h2, if_pos h2]
      obtain ⟨t', e1, e2, e3, e4⟩ := dg_join r t
      exact ⟨_, _, t', by rw [e1, e2], by rw [e3], e4⟩
    · rw [if_neg h2, if_neg h2]
      cases al
      · exact ⟨_, _, t, rfl, rfl, Nat.le_refl _⟩
      · exact ⟨_, _, t, rfl, rfl, Nat.le_refl _⟩
theorem prL_join (a : Ix) (r t : List UInt8) : ∃ n i t', prL a (t ++ cD :: r) = (n, i, t' ++ cD :: r) ∧ prL a (t ++ [cD]) = (n, i, t' ++ [cD]) ∧ t'.length ≤ t.length := by
  unfold prL
  rw [pk_join]
  by_cases h1 : pk (t ++ [cD]) = 46
  · rw [if_pos h1, if_pos h1]
    cases t with
    | nil => exact absurd h1 (by decide)
    | cons b t =>
      simp only [List.cons_append, List.drop_succ_cons, List.drop_zero]
      obtain ⟨i, t1, e1, e2, e3⟩ := ixL_join r t
      rw [e1, e2]
      obtain ⟨n, j, t2, e4, e5, e6⟩ := nmL_join i true r t1
      dsimp only
      rw [e4, e5]
      exact ⟨_, _, t2, rfl, rfl, by simp; omega⟩
  · rw [if_neg h1, if_neg h1]
    exact ⟨_, _, t, rfl, rfl, Nat.le_refl _⟩
/-- A directive stops at the letter at the latest. -/
theorem dirL_join (r t : List UInt8) : ∃ D u, dirL (t ++ cD :: r) = (D, u ++ r) ∧ dirL (t ++ [cD]) = (D, u) ∧ (u = [] ∨ ∃ u', u = u' ++ [cD] ∧ u'.length < t.length) ∧ D.k = 1 := by
  obtain ⟨f, t1, a1, b1, c1⟩ := flL_join r t ⟨false, false, false, false, false⟩
  obtain ⟨i, t2, a2, b2, c2⟩ := ixL_join r t1
  obtain ⟨w, x, t3, a3, b3, c3⟩ := nmL_join i false r t2
  obtain ⟨p, y, t4, a4, b4, c4⟩ := prL_join x r t3
  obtain ⟨j, t5, a5, b5, c5⟩ := ixL_join r t4
  have hlen : t5.length ≤ t.length := by omega
  have hne : ∀ s : List UInt8, t5 ++ cD :: s ≠ [] := fun s => by simp
  have key : ∃ n v u, Utf.decL (t5 ++ cD :: r) = (v, n) ∧ Utf.decL (t5 ++ [cD]) = (v, n) ∧ (t5 ++ cD :: r).drop n = u ++ r ∧ (t5 ++ [cD]).drop n = u ∧ (u = [] ∨ ∃ u', u = u' ++ [cD] ∧ u'.length < t.length) := by
    cases t5 with
    | nil => exact ⟨1, 100, [], Utf.dec_ascii (by decide), Utf.dec_ascii (by decide), rfl, rfl, Or.inl rfl⟩
    | cons x5 s5 =>
      have h1 := Utf.dec_stop (x5 :: s5) cD r (List.cons_ne_nil _ _) (by decide)
      have h2 := Utf.dec_stop (x5 :: s5) cD [] (List.cons_ne_nil _ _) (by decide)
      have h3 := Utf.dec_le (x5 :: s5) (List.cons_ne_nil _ _)
      have h4 := Utf.dec_width (x5 :: s5)
      obtain ⟨⟨v, n⟩, hv⟩ : ∃ F, Utf.decL (x5 :: s5) = F := ⟨_, rfl⟩
      rw [hv] at h1 h2 h3 h4
      dsimp only at h3 h4
      refine ⟨n, v, (x5 :: s5).drop n ++ [cD], h1, h2, ?_, ?_, Or.inr ⟨_, rfl, ?_⟩⟩
      · rw [List.drop_append_of_le_length h3, List.append_assoc]; rfl
      · rw [List.drop_append_of_le_length h3]
      · rw [List.length_drop]; omega
  obtain ⟨n, v, u, k1, k2, k3, k4, k5⟩ := key
  have hul : u.length ≤ t.length + 1 := by
    rcases k5 with e | ⟨u', e, h⟩
    · rw [e]; simp
    · rw [e]; simp; omega
  refine ⟨⟨1, 37 :: (t ++ [cD]).take ((t ++ [cD]).length - u.length), f, -1, -1, v, w, p, andI y j⟩, u, ?_, ?_, k5, rfl⟩
  · unfold dirL
    simp only [a1, a2, a3, a4, a5, if_neg (hne r), k1, k3]
    have e : (t ++ cD :: r).take ((t ++ cD :: r).length - (u ++ r).length) = (t ++ [cD]).take ((t ++ [cD]).length - u.length) := by
      have h1 : (t ++ cD :: r).length - (u ++ r).length = (t ++ [cD]).length - u.length := by simp; omega
      rw [h1, show t ++ cD :: r = (t ++ [cD]) ++ r by simp, List.take_append_of_le_length (by omega)]
    rw [e]
  · unfold dirL
    simp only [b1, b2, b3, b4, b5, if_neg (hne []), k2, k4]

/-- One piece more, put to a list of pieces: two literals become one. -/
def push (L : List Pc) (p : Pc) : List Pc :=
  match L.getLast? with
  | some q => if q.k = 0 ∧ p.k = 0 then L.dropLast ++ [{ q with text := q.text ++ p.text }] else L ++ [p]
  | none => [p]
/-- Two lists of pieces, joined. -/
def join2 : List Pc → List Pc → List Pc
  | [], B => B
  | [q], p :: B => if q.k = 0 ∧ p.k = 0 then { q with text := q.text ++ p.text } :: B else q :: p :: B
  | [q], [] => [q]
  | a :: b :: A, B => a :: join2 (b :: A) B
theorem join2_cons (a : Pc) (A B : List Pc) (h : A ≠ []) : join2 (a :: A) B = a :: join2 A B := by
  cases A with
  | nil => exact absurd rfl h
  | cons b A => rfl
theorem parseL_ne (l : List UInt8) (h : l ≠ []) : parseL l ≠ [] := by
  intro e
  have := parseL_texts l
  rw [e] at this
  exact h this.symm
theorem join_lit (L r : List UInt8) (hL : L ≠ []) (hn : ∀ a ∈ L, notPct a = true) : parseL (L ++ r) = join2 [litP L] (parseL r) := by
  cases L with
  | nil => exact absurd rfl hL
  | cons a t =>
    have ha : ¬ a.toNat = 37 := by
      have := hn a List.mem_cons_self
      simpa [notPct] using this
    have h1 : ((a :: t) ++ r).takeWhile notPct = (a :: t) ++ r.takeWhile notPct := List.takeWhile_append_of_pos hn
    have h2 : ((a :: t) ++ r).dropWhile notPct = r.dropWhile notPct := List.dropWhile_append_of_pos hn
    rw [List.cons_append, parseL_lit ha, ← List.cons_append, h1, h2]
    cases r with
    | nil => rw [List.takeWhile_nil, List.dropWhile_nil, parseL_nil, List.append_nil]; rfl
    | cons b s =>
      by_cases hb : b.toNat = 37
      · rw [List.takeWhile_cons, List.dropWhile_cons, if_neg (by simp [notPct, hb]), if_neg (by simp [notPct, hb]), parseL_pct hb, List.append_nil]
        have hk := (dirL_whole s).2.1
        show _ = if (0 : Int) = 0 ∧ (dirL s).1.k = 0 then _ else _
        rw [if_neg (by rcases hk with h | ⟨h, _⟩ <;> omega)]
      · rw [parseL_lit hb]
        show _ = if (0 : Int) = 0 ∧ (0 : Int) = 0 then _ else _
        rw [if_pos ⟨rfl, rfl⟩]
        rfl
/-- THE LAW: behind the letter a format may be cut. -/
theorem parse_join (n : Nat) : ∀ (l r : List UInt8), l.length ≤ n → parseL (l ++ cD :: r) = join2 (parseL (l ++ [cD])) (parseL r) := by
  induction n with
  | zero =>
    intro l r hl
    have : l = [] := List.eq_nil_of_length_eq_zero (by omega)
    subst this
    have h := join_lit [cD] [] (List.cons_ne_nil _ _) (by intro a ha; rw [List.mem_singleton] at ha; rw [ha]; rfl)
    rw [List.append_nil, parseL_nil] at h
    rw [List.nil_append, List.nil_append, h]
    exact join_lit [cD] r (List.cons_ne_nil _ _) (by intro a ha; rw [List.mem_singleton] at ha; rw [ha]; rfl)
  | succ n ih =>
    intro l r hl
    cases l with
    | nil => exact ih [] r (Nat.zero_le _)
    | cons a t =>
      simp only [List.length_cons] at hl
      by_cases ha : a.toNat = 37
      · obtain ⟨D, u, h1, h2, h3, h4⟩ := dirL_join r t
        rw [List.cons_append, parseL_pct ha, h1, List.cons_append, parseL_pct ha, h2]
        dsimp only
        rcases h3 with h3 | ⟨u', h3, h5⟩
        · rw [h3, List.nil_append, parseL_nil]
          cases parseL r with
          | nil => rfl
          | cons p B =>
            show _ = if D.k = 0 ∧ p.k = 0 then _ else _
            rw [if_neg (by omega)]
        · rw [h3, List.append_assoc]
          have := ih u' r (by omega)
          show D :: parseL (u' ++ cD :: r) = _
          rw [this, join2_cons _ _ _ (parseL_ne _ (by simp))]
      · by_cases hall : ∀ b ∈ a :: t, notPct b = true
        · have hall' : ∀ b ∈ (a :: t) ++ [cD], notPct b = true := by
            intro b hb
            rcases List.mem_append.1 hb with h | h
            · exact hall b h
            · rw [List.mem_singleton] at h; rw [h]; rfl
          have h1 := join_lit ((a :: t) ++ [cD]) [] (by simp) hall'
          rw [List.append_nil, parseL_nil] at h1
          have h2 := join_lit ((a :: t) ++ [cD]) r (by simp) hall'
          rw [List.append_assoc] at h2
          rw [h1]
          exact h2
        · have hsplit : ∃ L R, (a :: t) = L ++ R ∧ (∀ b ∈ L, notPct b = true) ∧ (∃ x s, R = x :: s ∧ x.toNat = 37) ∧ L ≠ [] := by
            refine ⟨(a :: t).takeWhile notPct, (a :: t).dropWhile notPct, (take_drop_while _).symm, fun b hb => take_is _ b hb, ?_, ?_⟩
            · rcases drop_pct (a :: t) with h | h
              · exfalso
                have e := take_drop_while (a :: t)
                rw [h, List.append_nil] at e
                exact hall fun b hb => take_is (a :: t) b (by rw [e]; exact hb)
              · exact h
            · rw [List.takeWhile_cons, if_pos (by simp [notPct, ha])]; exact List.cons_ne_nil _ _
          obtain ⟨L, R, e, hL, ⟨x, s, hR, hx⟩, hne⟩ := hsplit
          have hRl : R.length ≤ n := by
            have h1 := congrArg List.length e
            have h2 : 1 ≤ L.length := List.length_pos_iff.2 hne
            simp only [List.length_cons, List.length_append] at h1
            omega
          rw [e, List.append_assoc, join_lit L _ hne hL, List.append_assoc, join_lit L _ hne hL, ih R r hRl]
          have hk : ∃ D B, parseL (R ++ [cD]) = D :: B ∧ D.k ≠ 0 := by
            rw [hR, List.cons_append, parseL_pct hx]
            have hk := (dirL_whole (s ++ [cD])).2.1
            exact ⟨_, _, rfl, by rcases hk with h | ⟨h, _⟩ <;> omega⟩
          obtain ⟨D, B, e2, hD⟩ := hk
          rw [e2]
          have e3 : ∀ C : List Pc, join2 [litP L] (D :: C) = litP L :: D :: C := fun C => by
            show (if (0 : Int) = 0 ∧ D.k = 0 then _ else _) = _
            rw [if_neg (by omega)]
          rw [e3]
          cases B with
          | nil =>
            show join2 [litP L] (join2 [D] (parseL r)) = litP L :: join2 [D] (parseL r)
            cases parseL r with
            | nil => exact e3 []
            | cons p B =>
              have e4 : join2 [D] (p :: B) = D :: p :: B := by
                show (if D.k = 0 ∧ p.k = 0 then _ else _) = _
                rw [if_neg (by omega)]
              rw [e4]; exact e3 _
          | cons b B =>
            show join2 [litP L] (D :: join2 (b :: B) (parseL r)) = litP L :: D :: join2 (b :: B) (parseL r)
            exact e3 _

theorem push_app (A : List Pc) (q p : Pc) : push (A ++ [q]) p = if q.k = 0 ∧ p.k = 0 then A ++ [{ q with text := q.text ++ p.text }] else A ++ [q] ++ [p] := by
  unfold push
  rw [List.getLast?_append, List.getLast?_singleton]
  simp only [Option.some_or, List.dropLast_concat]
/-- No two literals stand together. -/
def Apart : List Pc → Prop
  | [] => True
  | [_] => True
  | p :: q :: L => ¬ (p.k = 0 ∧ q.k = 0) ∧ Apart (q :: L)
theorem apart_tail {p : Pc} {L : List Pc} (h : Apart (p :: L)) : Apart L := by
  cases L with
  | nil => trivial
  | cons q L => exact h.2
theorem fold_push (L : List Pc) : ∀ (A : List Pc) (q : Pc), Apart (q :: L) → L.foldl push (A ++ [q]) = A ++ q :: L := by
  induction L with
  | nil => intro A q _; rfl
  | cons p L ih =>
    intro A q h
    show L.foldl push (push (A ++ [q]) p) = _
    rw [push_app, if_neg h.1, ih (A ++ [q]) p h.2, List.append_assoc]
    rfl
theorem fold_join : ∀ (A B : List Pc), Apart A → Apart B → (A ++ B).foldl push [] = join2 A B := by
  have key : ∀ (A : List Pc) (a : Pc) (P B : List Pc), Apart (a :: A) → Apart B → (A ++ B).foldl push (P ++ [a]) = P ++ join2 (a :: A) B := by
    intro A
    induction A with
    | nil =>
      intro a P B _ hB
      cases B with
      | nil => rfl
      | cons b B =>
        show B.foldl push (push (P ++ [a]) b) = P ++ (if a.k = 0 ∧ b.k = 0 then _ else _)
        rw [push_app]
        by_cases h : a.k = 0 ∧ b.k = 0
        · rw [if_pos h, if_pos h]
          refine fold_push B P _ ?_
          cases B with
          | nil => trivial
          | cons c B => exact ⟨fun h2 => hB.1 ⟨h.2, h2.2⟩, hB.2⟩
        · rw [if_neg h, if_neg h, fold_push B (P ++ [a]) b hB, List.append_assoc]
          rfl
    | cons a2 A ih =>
      intro a P B hA hB
      show (A ++ B).foldl push (push (P ++ [a]) a2) = _
      rw [push_app, if_neg hA.1, ih a2 (P ++ [a]) B hA.2 hB, join2_cons a (a2 :: A) B (List.cons_ne_nil _ _), List.append_assoc]
      rfl
  intro A B hA hB
  cases A with
  | nil =>
    cases B with
    | nil => rfl
    | cons b B =>
      show B.foldl push (push [] b) = b :: B
      exact fold_push B [] b hB
  | cons a A =>
    show (A ++ B).foldl push (push [] a) = _
    exact key A a [] B hA hB
theorem apart_of {L : List Pc} (h : ∀ (k : Nat) p q, L[k]? = some p → L[k + 1]? = some q → ¬ (p.k = 0 ∧ q.k = 0)) : Apart L := by
  induction L with
  | nil => trivial
  | cons p L ih =>
    cases L with
    | nil => trivial
    | cons q L => exact ⟨h 0 p q rfl rfl, ih fun k a b h1 h2 => h (k + 1) a b (by simpa using h1) (by simpa using h2)⟩
theorem parseL_apart (l : List UInt8) : Apart (parseL l) := by
  refine apart_of fun k p q h1 h2 h => ?_
  exact (parseL_fits l (k + 1) q h2).lits p (Nat.succ_pos k) h1 h.2 h.1
/-- The law's own joining. -/
theorem joins (a b : List UInt8) : (parseL (a ++ [cD]) ++ parseL (b ++ [cD])).foldl push [] = parseL (a ++ [cD] ++ (b ++ [cD])) := by
  rw [fold_join _ _ (parseL_apart _) (parseL_apart _), List.append_assoc]
  exact (parse_join a.length a (b ++ [cD]) (Nat.le_refl _)).symm
end Go.Proofs.YtmfhoindfhmncaaDoor.PP
