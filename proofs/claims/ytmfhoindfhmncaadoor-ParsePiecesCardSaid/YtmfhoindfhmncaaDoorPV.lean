/-
  PLAIN LEAN: a directive whose first byte begins a verb.
-/
import Derived.Test.YtmfhoindfhmncaaDoorPP
namespace Go.Proofs.YtmfhoindfhmncaaDoor.PP

/-- A byte that begins a verb. -/
def vb (a : UInt8) : Prop := a.toNat ≠ 43 ∧ a.toNat ≠ 45 ∧ a.toNat ≠ 35 ∧ a.toNat ≠ 32 ∧ ¬ (48 ≤ a.toNat ∧ a.toNat ≤ 57) ∧ a.toNat ≠ 46 ∧ a.toNat ≠ 42 ∧ a.toNat ≠ 91

theorem flL_stop {f : Fl} {a : UInt8} {t : List UInt8} (h : flOn f a = none) : flL f (a :: t) = (f, a :: t) := by
  rw [flL, h]
theorem flOn_vb {f : Fl} {a : UInt8} (h : vb a) : flOn f a = none := by
  obtain ⟨h1, h2, h3, h4, h5, _⟩ := h
  unfold flOn
  rw [if_neg h1, if_neg h2, if_neg h3, if_neg h4, if_neg (by omega)]
theorem ixL_stop {a : UInt8} {t : List UInt8} (h : a.toNat ≠ 91) : ixL (a :: t) = (⟨0, 0⟩, a :: t) := by
  unfold ixL
  simp only [if_neg h]
theorem isD_no {a : UInt8} (h : ¬ (48 ≤ a.toNat ∧ a.toNat ≤ 57)) : isD a = false := by
  unfold isD
  rw [Bool.and_eq_false_iff, decide_eq_false_iff_not, decide_eq_false_iff_not]
  omega
theorem dg_stop {a : UInt8} {t : List UInt8} (h : ¬ (48 ≤ a.toNat ∧ a.toNat ≤ 57)) : dg (a :: t) = [] ∧ rs (a :: t) = a :: t := by
  unfold dg rs
  rw [List.takeWhile_cons, List.dropWhile_cons, isD_no h]
  exact ⟨rfl, rfl⟩
theorem pk_cons (a : UInt8) (t : List UInt8) : pk (a :: t) = (a.toNat : Int) := rfl
theorem nmL_stop {a : UInt8} {t : List UInt8} (h : vb a) (x : Ix) : nmL x false (a :: t) = (⟨0, 0, ⟨0, 0⟩⟩, x, a :: t) := by
  obtain ⟨h1, h2, h3, h4, h5, h6, h7, h8⟩ := h
  unfold nmL
  rw [pk_cons, if_neg (by omega), if_neg (by simp; omega)]
  rfl
theorem prL_stop {a : UInt8} {t : List UInt8} (h : a.toNat ≠ 46) (x : Ix) : prL x (a :: t) = (⟨0, 0, ⟨0, 0⟩⟩, x, a :: t) := by
  unfold prL
  rw [pk_cons, if_neg (by omega)]
theorem dirL_end {l : List UInt8} {f : Fl} {l1 l2 l3 : List UInt8} {i1 a1 a2 : Ix} {w p : Nm} {a : UInt8} {t : List UInt8} (hf : flL ⟨false, false, false, false, false⟩ l = (f, l1)) (hi : ixL l1 = (i1, l2)) (hw : nmL i1 false l2 = (w, a1, l3)) (hp : prL a1 l3 = (p, a2, a :: t)) (ha : a.toNat ≠ 91) :
    dirL l = (⟨1, 37 :: l.take (l.length - ((a :: t).drop (Utf.decL (a :: t)).2).length), f, -1, -1, (Utf.decL (a :: t)).1, w, p, a2⟩, (a :: t).drop (Utf.decL (a :: t)).2) := by
  unfold dirL
  simp only [hf, hi, hw, hp, ixL_stop ha, if_neg (List.cons_ne_nil a t), andI, if_true]
theorem take_end (l s : List UInt8) (k n : Nat) (h : l.drop k = s) (hk : k ≤ l.length) (hn : n ≤ s.length) : l.length - (s.drop n).length = k + n := by
  have : s.length = l.length - k := by rw [← h, List.length_drop]
  rw [List.length_drop]; omega
theorem verb_pieces (a : UInt8) (t : List UInt8) (h : vb a) :
    parseL (37 :: a :: t) = ⟨1, 37 :: (a :: t).take (Utf.decL (a :: t)).2, ⟨false, false, false, false, false⟩, -1, -1, (Utf.decL (a :: t)).1, ⟨0, 0, ⟨0, 0⟩⟩, ⟨0, 0, ⟨0, 0⟩⟩, ⟨0, 0⟩⟩ :: parseL ((a :: t).drop (Utf.decL (a :: t)).2) := by
  have h46 := h.2.2.2.2.2.1
  have h91 := h.2.2.2.2.2.2.2
  have hd := Utf.dec_le (a :: t) (List.cons_ne_nil a t)
  rw [parseL_pct (by decide), dirL_end (flL_stop (flOn_vb h)) (ixL_stop h91) (nmL_stop h _) (prL_stop h46 _) h91, take_end (a :: t) (a :: t) 0 _ rfl (Nat.zero_le _) hd, Nat.zero_add]
theorem verb7_pieces (a : UInt8) (t : List UInt8) (h : vb a) :
    parseL (37 :: 55 :: a :: t) = ⟨1, 37 :: 55 :: (a :: t).take (Utf.decL (a :: t)).2, ⟨false, false, false, false, false⟩, -1, -1, (Utf.decL (a :: t)).1, ⟨1, 7, ⟨0, 0⟩⟩, ⟨0, 0, ⟨0, 0⟩⟩, ⟨0, 0⟩⟩ :: parseL ((a :: t).drop (Utf.decL (a :: t)).2) := by
  have h46 := h.2.2.2.2.2.1
  have h91 := h.2.2.2.2.2.2.2
  have hdd := h.2.2.2.2.1
  have hd := Utf.dec_le (a :: t) (List.cons_ne_nil a t)
  have hn : nmL ⟨0, 0⟩ false (55 :: a :: t) = (⟨1, 7, ⟨0, 0⟩⟩, ⟨0, 0⟩, a :: t) := by
    have e1 : dg (55 :: a :: t) = [55] := by
      unfold dg
      rw [List.takeWhile_cons, if_pos (by decide)]
      exact congrArg _ (dg_stop hdd).1
    have e2 : rs (55 :: a :: t) = a :: t := by
      unfold rs
      rw [List.dropWhile_cons, if_pos (by decide)]
      exact (dg_stop hdd).2
    unfold nmL
    rw [pk_cons, if_neg (by decide), if_pos (by decide), e1, e2]
    rfl
  rw [parseL_pct (by decide), dirL_end (flL_stop (by decide)) (ixL_stop (by decide)) hn (prL_stop h46 _) h91, take_end (55 :: a :: t) (a :: t) 1 _ rfl (by simp) hd, Nat.add_comm, List.take_succ_cons]
end Go.Proofs.YtmfhoindfhmncaaDoor.PP
