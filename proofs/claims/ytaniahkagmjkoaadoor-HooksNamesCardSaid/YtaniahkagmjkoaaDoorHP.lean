/-
  Walks of layer 11: a row of methods, one of which is written; a method's cells.
-/
import Derived.Test.YtaniahkagmjkoaaDoorHC
namespace Go.Proofs.YtaniahkagmjkoaaDoor
open Go.RowKit Go.Proofs

def setMany (cs : Array Value) (o : Nat) : List Value → Array Value
  | [] => cs
  | v :: r => setMany (cs.setIfInBounds o v) (o + 1) r
theorem setMany_mid : ∀ (vs pre xs ys : List Value), vs.length = xs.length → setMany (pre ++ (xs ++ ys)).toArray pre.length vs = (pre ++ (vs ++ ys)).toArray
  | [], pre, xs, ys, h => by
    have : xs = [] := List.eq_nil_of_length_eq_zero h.symm
    rw [this]; rfl
  | v :: r, pre, x :: xs, ys, h => by
    rw [setMany, List.setIfInBounds_toArray]
    have e : (pre ++ (x :: xs ++ ys)).set pre.length v = (pre ++ [v]) ++ (xs ++ ys) := by simp
    have := setMany_mid r (pre ++ [v]) xs ys (by simpa using h)
    rw [List.length_append, List.length_singleton] at this
    rw [e, this]
    simp
  | _ :: _, _, [], _, h => by simp at h
theorem Blk.setCells {g : Nat} {t : TypeId} : ∀ (vs : List Value) (o : Nat) (W : World) (cs : Array Value), Blk W g cs t → Blk (W.setCells g o vs) g (setMany cs o vs) t
  | [], _, _, _, h => h
  | v :: r, o, W, cs, h => by rw [World.setCells]; exact Blk.setCells r (o + 1) _ _ (h.set_ o v)
theorem setCells_far {g k : Nat} (hk : k ≠ g) : ∀ (vs : List Value) (o : Nat) (W : World), (W.setCells g o vs).heap[k]? = W.heap[k]?
  | [], _, _ => rfl
  | v :: r, o, W => by rw [World.setCells, setCells_far hk r]; exact Below.heap_setCell W _ v k hk
theorem setCells_rest (g : Nat) : ∀ (vs : List Value) (o : Nat) (W : World), (W.setCells g o vs).os = W.os ∧ (W.setCells g o vs).tape = W.tape ∧ (W.setCells g o vs).output = W.output ∧ (W.setCells g o vs).heap.size = W.heap.size
  | [], _, _ => ⟨rfl, rfl, rfl, rfl⟩
  | v :: r, o, W => by
    rw [World.setCells]
    obtain ⟨h1, h2, h3, h4⟩ := setCells_rest g r (o + 1) (W.setCell ⟨g, o, none⟩ v)
    exact ⟨h1, h2, h3, by rw [h4]; simp [World.setCell]⟩
theorem below_setCells {B : Nat} {a c : World} (h : Below B a c) (g : Nat) (hg : B ≤ g) (vs : List Value) (o : Nat) : Below B a (c.setCells g o vs) := by
  obtain ⟨h1, h2, h3, h4⟩ := setCells_rest g vs o c
  exact ⟨h1.trans h.os, h2.trans h.tape, h3.trans h.output, by rw [h4]; exact h.size, fun k hk => (setCells_far (by omega) vs o c).trans (h.block k hk)⟩
theorem Blk.there {W : World} {g : Nat} {cs : Array Value} {t : TypeId} (h : Blk W g cs t) (o n : Nat) (hn : o + n ≤ cs.size) : W.there g o n := fun j hj => ⟨by rw [h.cell, Array.getElem?_eq_getElem (by omega)]; rfl, h.frozen _⟩
/-- The row with another first method. -/
def hkFo (h : Hk) (a : Ac) : Hk := { h with fo := a }
theorem hk_fo (h : Hk) (a : Ac) : setMany (hkV h) 0 (acV a).toList = hkV (hkFo h a) :=
  setMany_mid (acV a).toList [] (acV h.fo).toList ((acV h.sy).toList ++ ((acV h.er).toList ++ (acV h.st).toList)) rfl
theorem hk_put {W : World} {B : Nat} {h : Hk} {T : TypeId} (hb : Blk W B (hkV h) T) (a : Ac) : Blk (W.setCells B 0 (acV a).toList) B (hkV (hkFo h a)) T := by
  have := hb.setCells (acV a).toList 0 W (hkV h)
  rw [hk_fo] at this
  exact this
theorem hk_row0 {W : World} {B : Nat} {h : Hk} {T : TypeId} (hb : Blk W B (hkV h) T) : W.cell? ⟨B, 0, none⟩ = some (.int .i64 (hkAt h 0).k) ∧
    W.cell? ⟨B, 1, none⟩ = some (.string (hkAt h 0).t) ∧
    W.cell? ⟨B, 2, none⟩ = some (.string (hkAt h 0).f) ∧
    W.cell? ⟨B, 3, none⟩ = some (slV (hkAt h 0).ar) ∧
    W.cell? ⟨B, 4, none⟩ = some (.int .i64 (hkAt h 0).p.k) ∧
    W.cell? ⟨B, 5, none⟩ = some (.string (hkAt h 0).p.ty) ∧
    W.cell? ⟨B, 6, none⟩ = some (.int .u64 (hkAt h 0).p.b) ∧
    W.cell? ⟨B, 7, none⟩ = some (.int .u64 (hkAt h 0).p.im) ∧
    W.cell? ⟨B, 8, none⟩ = some (.string (hkAt h 0).p.t) ∧
    W.cell? ⟨B, 9, none⟩ = some (slV (hkAt h 0).p.nm) ∧
    W.cell? ⟨B, 10, none⟩ = some (slV (hkAt h 0).p.pa) ∧
    W.cell? ⟨B, 11, none⟩ = some (.int .i64 (hkAt h 0).p.hk) :=
  ⟨(hb.cell 0).trans (hk_mid h 0 (by decide) 0 _ rfl), (hb.cell 1).trans (hk_mid h 0 (by decide) 1 _ rfl), (hb.cell 2).trans (hk_mid h 0 (by decide) 2 _ rfl), (hb.cell 3).trans (hk_mid h 0 (by decide) 3 _ rfl), (hb.cell 4).trans (hk_mid h 0 (by decide) 4 _ rfl), (hb.cell 5).trans (hk_mid h 0 (by decide) 5 _ rfl), (hb.cell 6).trans (hk_mid h 0 (by decide) 6 _ rfl), (hb.cell 7).trans (hk_mid h 0 (by decide) 7 _ rfl), (hb.cell 8).trans (hk_mid h 0 (by decide) 8 _ rfl), (hb.cell 9).trans (hk_mid h 0 (by decide) 9 _ rfl), (hb.cell 10).trans (hk_mid h 0 (by decide) 10 _ rfl), (hb.cell 11).trans (hk_mid h 0 (by decide) 11 _ rfl)⟩
theorem hk_row1 {W : World} {B : Nat} {h : Hk} {T : TypeId} (hb : Blk W B (hkV h) T) : W.cell? ⟨B, 12, none⟩ = some (.int .i64 (hkAt h 1).k) ∧
    W.cell? ⟨B, 13, none⟩ = some (.string (hkAt h 1).t) ∧
    W.cell? ⟨B, 14, none⟩ = some (.string (hkAt h 1).f) ∧
    W.cell? ⟨B, 15, none⟩ = some (slV (hkAt h 1).ar) ∧
    W.cell? ⟨B, 16, none⟩ = some (.int .i64 (hkAt h 1).p.k) ∧
    W.cell? ⟨B, 17, none⟩ = some (.string (hkAt h 1).p.ty) ∧
    W.cell? ⟨B, 18, none⟩ = some (.int .u64 (hkAt h 1).p.b) ∧
    W.cell? ⟨B, 19, none⟩ = some (.int .u64 (hkAt h 1).p.im) ∧
    W.cell? ⟨B, 20, none⟩ = some (.string (hkAt h 1).p.t) ∧
    W.cell? ⟨B, 21, none⟩ = some (slV (hkAt h 1).p.nm) ∧
    W.cell? ⟨B, 22, none⟩ = some (slV (hkAt h 1).p.pa) ∧
    W.cell? ⟨B, 23, none⟩ = some (.int .i64 (hkAt h 1).p.hk) :=
  ⟨(hb.cell 12).trans (hk_mid h 1 (by decide) 0 _ rfl), (hb.cell 13).trans (hk_mid h 1 (by decide) 1 _ rfl), (hb.cell 14).trans (hk_mid h 1 (by decide) 2 _ rfl), (hb.cell 15).trans (hk_mid h 1 (by decide) 3 _ rfl), (hb.cell 16).trans (hk_mid h 1 (by decide) 4 _ rfl), (hb.cell 17).trans (hk_mid h 1 (by decide) 5 _ rfl), (hb.cell 18).trans (hk_mid h 1 (by decide) 6 _ rfl), (hb.cell 19).trans (hk_mid h 1 (by decide) 7 _ rfl), (hb.cell 20).trans (hk_mid h 1 (by decide) 8 _ rfl), (hb.cell 21).trans (hk_mid h 1 (by decide) 9 _ rfl), (hb.cell 22).trans (hk_mid h 1 (by decide) 10 _ rfl), (hb.cell 23).trans (hk_mid h 1 (by decide) 11 _ rfl)⟩
theorem hk_row2 {W : World} {B : Nat} {h : Hk} {T : TypeId} (hb : Blk W B (hkV h) T) : W.cell? ⟨B, 24, none⟩ = some (.int .i64 (hkAt h 2).k) ∧
    W.cell? ⟨B, 25, none⟩ = some (.string (hkAt h 2).t) ∧
    W.cell? ⟨B, 26, none⟩ = some (.string (hkAt h 2).f) ∧
    W.cell? ⟨B, 27, none⟩ = some (slV (hkAt h 2).ar) ∧
    W.cell? ⟨B, 28, none⟩ = some (.int .i64 (hkAt h 2).p.k) ∧
    W.cell? ⟨B, 29, none⟩ = some (.string (hkAt h 2).p.ty) ∧
    W.cell? ⟨B, 30, none⟩ = some (.int .u64 (hkAt h 2).p.b) ∧
    W.cell? ⟨B, 31, none⟩ = some (.int .u64 (hkAt h 2).p.im) ∧
    W.cell? ⟨B, 32, none⟩ = some (.string (hkAt h 2).p.t) ∧
    W.cell? ⟨B, 33, none⟩ = some (slV (hkAt h 2).p.nm) ∧
    W.cell? ⟨B, 34, none⟩ = some (slV (hkAt h 2).p.pa) ∧
    W.cell? ⟨B, 35, none⟩ = some (.int .i64 (hkAt h 2).p.hk) :=
  ⟨(hb.cell 24).trans (hk_mid h 2 (by decide) 0 _ rfl), (hb.cell 25).trans (hk_mid h 2 (by decide) 1 _ rfl), (hb.cell 26).trans (hk_mid h 2 (by decide) 2 _ rfl), (hb.cell 27).trans (hk_mid h 2 (by decide) 3 _ rfl), (hb.cell 28).trans (hk_mid h 2 (by decide) 4 _ rfl), (hb.cell 29).trans (hk_mid h 2 (by decide) 5 _ rfl), (hb.cell 30).trans (hk_mid h 2 (by decide) 6 _ rfl), (hb.cell 31).trans (hk_mid h 2 (by decide) 7 _ rfl), (hb.cell 32).trans (hk_mid h 2 (by decide) 8 _ rfl), (hb.cell 33).trans (hk_mid h 2 (by decide) 9 _ rfl), (hb.cell 34).trans (hk_mid h 2 (by decide) 10 _ rfl), (hb.cell 35).trans (hk_mid h 2 (by decide) 11 _ rfl)⟩
theorem hk_row3 {W : World} {B : Nat} {h : Hk} {T : TypeId} (hb : Blk W B (hkV h) T) : W.cell? ⟨B, 36, none⟩ = some (.int .i64 (hkAt h 3).k) ∧
    W.cell? ⟨B, 37, none⟩ = some (.string (hkAt h 3).t) ∧
    W.cell? ⟨B, 38, none⟩ = some (.string (hkAt h 3).f) ∧
    W.cell? ⟨B, 39, none⟩ = some (slV (hkAt h 3).ar) ∧
    W.cell? ⟨B, 40, none⟩ = some (.int .i64 (hkAt h 3).p.k) ∧
    W.cell? ⟨B, 41, none⟩ = some (.string (hkAt h 3).p.ty) ∧
    W.cell? ⟨B, 42, none⟩ = some (.int .u64 (hkAt h 3).p.b) ∧
    W.cell? ⟨B, 43, none⟩ = some (.int .u64 (hkAt h 3).p.im) ∧
    W.cell? ⟨B, 44, none⟩ = some (.string (hkAt h 3).p.t) ∧
    W.cell? ⟨B, 45, none⟩ = some (slV (hkAt h 3).p.nm) ∧
    W.cell? ⟨B, 46, none⟩ = some (slV (hkAt h 3).p.pa) ∧
    W.cell? ⟨B, 47, none⟩ = some (.int .i64 (hkAt h 3).p.hk) :=
  ⟨(hb.cell 36).trans (hk_mid h 3 (by decide) 0 _ rfl), (hb.cell 37).trans (hk_mid h 3 (by decide) 1 _ rfl), (hb.cell 38).trans (hk_mid h 3 (by decide) 2 _ rfl), (hb.cell 39).trans (hk_mid h 3 (by decide) 3 _ rfl), (hb.cell 40).trans (hk_mid h 3 (by decide) 4 _ rfl), (hb.cell 41).trans (hk_mid h 3 (by decide) 5 _ rfl), (hb.cell 42).trans (hk_mid h 3 (by decide) 6 _ rfl), (hb.cell 43).trans (hk_mid h 3 (by decide) 7 _ rfl), (hb.cell 44).trans (hk_mid h 3 (by decide) 8 _ rfl), (hb.cell 45).trans (hk_mid h 3 (by decide) 9 _ rfl), (hb.cell 46).trans (hk_mid h 3 (by decide) 10 _ rfl), (hb.cell 47).trans (hk_mid h 3 (by decide) 11 _ rfl)⟩
end Go.Proofs.YtaniahkagmjkoaaDoor
