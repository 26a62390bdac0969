/-
  PLAIN LEAN: the pieces' texts are the format; which pieces stand where.
-/
import Derived.Test.YtmfhoindfhmncaaDoorPV
namespace Go.Proofs.YtmfhoindfhmncaaDoor.PP

theorem flL_suf : ∀ (l : List UInt8) (f : Fl), (flL f l).2 <:+ l
  | [], f => List.suffix_refl _
  | a :: t, f => by
    unfold flL
    split
    · exact (flL_suf t _).trans (List.suffix_cons a t)
    · exact List.suffix_refl _
theorem rs_suf (l : List UInt8) : rs l <:+ l := by rw [rs_drop]; exact List.drop_suffix _ _
theorem ixL_suf (l : List UInt8) : (ixL l).2 <:+ l := by
  unfold ixL
  split
  · exact List.suffix_refl _
  · rename_i a t
    split
    · split
      · exact List.suffix_cons a t
      · split
        · exact List.suffix_cons a t
        · rename_i b r hr
          have h1 := rs_suf t
          rw [hr] at h1
          have h2 := ((List.suffix_cons b r).trans h1).trans (List.suffix_cons a t)
          split
          · split <;> exact h2
          · exact List.suffix_cons a t
    · exact List.suffix_refl _
theorem nmL_suf (x : Ix) (al : Bool) (l : List UInt8) : (nmL x al l).2.2 <:+ l := by
  unfold nmL
  split
  · exact List.drop_suffix _ _
  · split
    · exact rs_suf l
    · split <;> exact List.suffix_refl _
theorem prL_suf (a : Ix) (l : List UInt8) : (prL a l).2.2 <:+ l := by
  unfold prL
  split
  · exact ((nmL_suf _ _ _).trans (ixL_suf _)).trans (List.drop_suffix _ _)
  · exact List.suffix_refl _
theorem take_suf {r t : List UInt8} (h : r <:+ t) : t.take (t.length - r.length) ++ r = t := by
  obtain ⟨u, rfl⟩ := h
  rw [List.length_append, Nat.add_sub_cancel, List.take_left]
/-- What a directive is: its text and what is left are the text. -/
theorem dirL_whole (l : List UInt8) : (dirL l).1.text ++ (dirL l).2 = 37 :: l ∧ ((dirL l).1.k = 1 ∨ ((dirL l).1.k = 2 ∧ (dirL l).2 = [])) ∧ (∃ r, (dirL l).1.text = 37 :: r) := by
  unfold dirL
  simp only []
  have h1 := flL_suf l ⟨false, false, false, false, false⟩
  have h2 := (ixL_suf (flL ⟨false, false, false, false, false⟩ l).2).trans h1
  have h3 := (nmL_suf (ixL (flL ⟨false, false, false, false, false⟩ l).2).1 false (ixL (flL ⟨false, false, false, false, false⟩ l).2).2).trans h2
  generalize nmL (ixL (flL ⟨false, false, false, false, false⟩ l).2).1 false (ixL (flL ⟨false, false, false, false, false⟩ l).2).2 = w at *
  have h4 := (prL_suf w.2.1 w.2.2).trans h3
  generalize prL w.2.1 w.2.2 = p at *
  have h5 := (ixL_suf p.2.2).trans h4
  split
  · exact ⟨by simp, Or.inr ⟨rfl, rfl⟩, l, rfl⟩
  · have h6 := (List.drop_suffix (Utf.decL (ixL p.2.2).2).2 (ixL p.2.2).2).trans h5
    refine ⟨?_, Or.inl rfl, _, rfl⟩
    dsimp only
    rw [List.cons_append, take_suf h6]
def textsL (L : List Pc) : List UInt8 := L.flatMap (·.text)
/-- A piece at its place. -/
structure Fits (L : List Pc) (k : Nat) (p : Pc) : Prop where
  kind : p.k = 0 ∨ p.k = 1 ∨ p.k = 2
  ne : p.text ≠ []
  last : p.k = 2 → k + 1 = L.length
  pct : p.k ≠ 0 → ∃ r, p.text = 37 :: r
  lits : ∀ q, 0 < k → L[k - 1]? = some q → p.k = 0 → q.k ≠ 0
theorem take_drop_while (l : List UInt8) : l.takeWhile notPct ++ l.dropWhile notPct = l := List.takeWhile_append_dropWhile
theorem drop_pct (l : List UInt8) : l.dropWhile notPct = [] ∨ ∃ a t, l.dropWhile notPct = a :: t ∧ a.toNat = 37 := by
  induction l with
  | nil => exact Or.inl rfl
  | cons a t ih =>
    rw [List.dropWhile_cons]
    split
    · exact ih
    · rename_i h
      exact Or.inr ⟨a, t, rfl, by simpa [notPct] using h⟩
theorem parseL_whole (n : Nat) : ∀ l : List UInt8, l.length ≤ n → textsL (parseL l) = l ∧ (∀ p, (parseL l)[0]? = some p → (∃ a t, l = a :: t ∧ a.toNat = 37) → p.k ≠ 0) ∧ ∀ k p, (parseL l)[k]? = some p → Fits (parseL l) k p := by
  induction n with
  | zero =>
    intro l hl
    have : l = [] := List.eq_nil_of_length_eq_zero (by omega)
    subst this
    rw [parseL_nil]
    exact ⟨rfl, fun p h => by simp at h, fun k p h => by simp at h⟩
  | succ n ih =>
    intro l hl
    cases l with
    | nil =>
      rw [parseL_nil]
      exact ⟨rfl, fun p h => by simp at h, fun k p h => by simp at h⟩
    | cons a t =>
      simp only [List.length_cons] at hl
      by_cases ha : a.toNat = 37
      · rw [parseL_pct ha]
        obtain ⟨e1, e2, e3⟩ := dirL_whole t
        have hlen := dirL_len t
        obtain ⟨i1, i2, i3⟩ := ih (dirL t).2 (by omega)
        refine ⟨?_, ?_, ?_⟩
        · have : a = 37 := UInt8.toNat_inj.mp ha
          rw [this, ← e1]
          show (dirL t).1.text ++ textsL (parseL (dirL t).2) = _
          rw [i1]
        · intro p hp _
          simp only [List.getElem?_cons_zero, Option.some.injEq] at hp
          rw [← hp]
          rcases e2 with h | ⟨h, _⟩ <;> omega
        · intro k p hp
          cases k with
          | zero =>
            simp only [List.getElem?_cons_zero, Option.some.injEq] at hp
            rw [← hp]
            obtain ⟨r, hr⟩ := e3
            refine ⟨by rcases e2 with h | ⟨h, _⟩ <;> omega, by rw [hr]; exact List.cons_ne_nil _ _, ?_, fun _ => ⟨r, hr⟩, fun q h => absurd h (by decide)⟩
            intro h2
            rcases e2 with h | ⟨_, h⟩
            · omega
            · rw [h, parseL_nil]; rfl
          | succ k =>
            rw [List.getElem?_cons_succ] at hp
            have f := i3 k p hp
            refine ⟨f.kind, f.ne, fun h => by have := f.last h; simp; omega, f.pct, ?_⟩
            intro q _ hq h0
            cases k with
            | zero =>
              simp at hq
              rw [← hq]
              rcases e2 with h | ⟨h, _⟩ <;> omega
            | succ k =>
              rw [show k + 1 + 1 - 1 = k + 1 from rfl, List.getElem?_cons_succ] at hq
              exact f.lits q (by omega) hq h0
      · rw [parseL_lit ha]
        have hlen : ((a :: t).dropWhile notPct).length ≤ n := by
          rw [List.dropWhile_cons, if_pos (by simp [notPct, ha])]
          have := (List.dropWhile_suffix notPct (l := t)).length_le
          omega
        have hne : (a :: t).takeWhile notPct ≠ [] := by
          rw [List.takeWhile_cons, if_pos (by simp [notPct, ha])]
          exact List.cons_ne_nil _ _
        have hw := take_drop_while (a :: t)
        have hpc := drop_pct (a :: t)
        generalize (a :: t).takeWhile notPct = L at *
        generalize (a :: t).dropWhile notPct = R at *
        obtain ⟨i1, i2, i3⟩ := ih R hlen
        refine ⟨?_, ?_, ?_⟩
        · show L ++ textsL (parseL R) = _
          rw [i1]; exact hw
        · intro p _ ⟨b, u, h, hb⟩
          injection h with h _
          exact absurd (h ▸ hb) ha
        · intro k p hp
          cases k with
          | zero =>
            simp only [List.getElem?_cons_zero, Option.some.injEq] at hp
            rw [← hp]
            exact ⟨Or.inl rfl, hne, fun h => absurd (show (0 : Int) = 2 from h) (by decide), fun h => absurd rfl h, fun q h => absurd h (by decide)⟩
          | succ k =>
            rw [List.getElem?_cons_succ] at hp
            have f := i3 k p hp
            refine ⟨f.kind, f.ne, fun h => by have := f.last h; simp; omega, f.pct, ?_⟩
            intro q _ hq h0
            cases k with
            | zero =>
              exfalso
              rcases hpc with h | h
              · rw [h, parseL_nil] at hp; simp at hp
              · exact i2 p hp h h0
            | succ k =>
              rw [show k + 1 + 1 - 1 = k + 1 from rfl, List.getElem?_cons_succ] at hq
              exact f.lits q (by omega) hq h0
theorem parseL_texts (l : List UInt8) : textsL (parseL l) = l := (parseL_whole l.length l (Nat.le_refl _)).1
theorem parseL_fits (l : List UInt8) (k : Nat) (p : Pc) (h : (parseL l)[k]? = some p) : Fits (parseL l) k p := (parseL_whole l.length l (Nat.le_refl _)).2.2 k p h
theorem parseL_length (l : List UInt8) : (parseL l).length ≤ l.length := by
  have h := parseL_fits l
  have e := parseL_texts l
  have key : ∀ L : List Pc, (∀ p ∈ L, p.text ≠ []) → L.length ≤ (textsL L).length := by
    intro L
    induction L with
    | nil => intro _; exact Nat.le_refl _
    | cons p L ih =>
      intro hL
      have := ih (fun q hq => hL q (List.mem_cons_of_mem _ hq))
      have h1 : 1 ≤ p.text.length := List.length_pos_iff.2 (hL p List.mem_cons_self)
      show L.length + 1 ≤ (p.text ++ textsL L).length
      rw [List.length_append]; omega
  have := key (parseL l) (fun p hp => by
    obtain ⟨k, hk⟩ := List.getElem?_of_mem hp
    exact (h k p hk).ne)
  rw [e] at this
  exact this
end Go.Proofs.YtmfhoindfhmncaaDoor.PP
