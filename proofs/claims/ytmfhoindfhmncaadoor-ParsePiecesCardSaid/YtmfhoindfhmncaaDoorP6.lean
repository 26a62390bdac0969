/-
  A value of many cells, stored and read whole.
-/
import Derived.Test.YtmfhoindfhmncaaDoorP5
import Derived.Deep.MidRow
import Derived.Great.BuildSlice
namespace Go.Proofs.YtmfhoindfhmncaaDoor
open Go.RowKit Go.Proofs

def setMany (cs : Array Value) (o : Nat) : List Value → Array Value
  | [] => cs
  | v :: r => setMany (cs.setIfInBounds o v) (o + 1) r
theorem setMany_size : ∀ (vs : List Value) (o : Nat) (cs : Array Value), (setMany cs o vs).size = cs.size
  | [], o, cs => rfl
  | v :: r, o, cs => by rw [setMany, setMany_size r]; simp
theorem setMany_get : ∀ (vs : List Value) (o : Nat) (cs : Array Value) (i : Nat), o + vs.length ≤ cs.size → (setMany cs o vs)[i]? = if o ≤ i ∧ i < o + vs.length then vs[i - o]? else cs[i]?
  | [], o, cs, i, h => by rw [setMany, if_neg (by simp only [List.length_nil]; omega)]
  | v :: r, o, cs, i, h => by
    simp only [List.length_cons] at h
    rw [setMany, setMany_get r (o + 1) _ i (by simp; omega)]
    simp only [List.length_cons]
    by_cases e : i = o
    · subst e
      rw [if_neg (by omega), if_pos (by omega), Nat.sub_self, List.getElem?_cons_zero, Array.getElem?_setIfInBounds_self_of_lt (by omega)]
    · by_cases h1 : o + 1 ≤ i ∧ i < o + 1 + r.length
      · rw [if_pos h1, if_pos (by omega), show i - o = (i - (o + 1)) + 1 by omega, List.getElem?_cons_succ]
      · rw [if_neg h1, if_neg (by omega), Array.getElem?_setIfInBounds_ne (by omega)]
theorem setMany_whole (cs : Array Value) (vs : List Value) (h : vs.length = cs.size) : setMany cs 0 vs = vs.toArray := by
  apply Array.ext_getElem?
  intro i
  rw [setMany_get vs 0 cs i (by omega)]
  simp only [Nat.zero_le, true_and, Nat.zero_add, Nat.sub_zero, List.getElem?_toArray]
  split
  · rfl
  · rw [Array.getElem?_eq_none (by omega), List.getElem?_eq_none (by omega)]
theorem Blk.setCells {g : Nat} {t : TypeId} : ∀ (vs : List Value) (o : Nat) (W : World) (cs : Array Value), Blk W g cs t → Blk (W.setCells g o vs) g (setMany cs o vs) t
  | [], _, _, _, h => h
  | v :: r, o, W, cs, h => by rw [World.setCells]; exact Blk.setCells r (o + 1) _ _ (h.set_ o v)
theorem setCells_far {g k : Nat} (hk : k ≠ g) : ∀ (vs : List Value) (o : Nat) (W : World), (W.setCells g o vs).heap[k]? = W.heap[k]?
  | [], _, _ => rfl
  | v :: r, o, W => by rw [World.setCells, setCells_far hk r]; exact Below.heap_setCell W _ v k hk
theorem setCells_rest (g : Nat) : ∀ (vs : List Value) (o : Nat) (W : World), (W.setCells g o vs).os = W.os ∧ (W.setCells g o vs).tape = W.tape ∧ (W.setCells g o vs).output = W.output ∧ (W.setCells g o vs).heap.size = W.heap.size
  | [], _, _ => ⟨rfl, rfl, rfl, rfl⟩
  | v :: r, o, W => by
    rw [World.setCells]
    obtain ⟨h1, h2, h3, h4⟩ := setCells_rest g r (o + 1) (W.setCell ⟨g, o, none⟩ v)
    exact ⟨h1, h2, h3, by rw [h4]; simp [World.setCell]⟩
theorem Blk.there {W : World} {g : Nat} {cs : Array Value} {t : TypeId} (h : Blk W g cs t) (o n : Nat) (hn : o + n ≤ cs.size) : W.there g o n := fun j hj => ⟨by rw [h.cell, Array.getElem?_eq_getElem (by omega)]; rfl, h.frozen _⟩
theorem Only.setCells {R : Nat} {a c : World} (h : Only R a c) (g : Nat) (hg : a.heap.size ≤ g ∨ g = R) (vs : List Value) (o : Nat) : Only R a (c.setCells g o vs) := by
  obtain ⟨h1, h2, h3, h4⟩ := setCells_rest g vs o c
  exact ⟨h1.trans h.os, h2.trans h.tape, h3.trans h.output, by rw [h4]; exact h.size, fun k hk hb => (setCells_far (by omega) vs o c).trans (h.block k hk hb)⟩
theorem below_setCells {B : Nat} {a c : World} (h : Below B a c) (g : Nat) (hg : B ≤ g) (vs : List Value) (o : Nat) : Below B a (c.setCells g o vs) := by
  obtain ⟨h1, h2, h3, h4⟩ := setCells_rest g vs o c
  exact ⟨h1.trans h.os, h2.trans h.tape, h3.trans h.output, by rw [h4]; exact h.size, fun k hk => (setCells_far (by omega) vs o c).trans (h.block k hk)⟩
theorem Blk.setRow {W : World} {g : Nat} {cs : Array Value} {t : TypeId} (h : Blk W g cs t) (vs : Array Value) : Blk (W.setRow g vs) g vs t := by
  unfold Blk at h ⊢
  simp [World.setRow, Array.getElem?_modify, h]
theorem setRow_far {g k : Nat} (hk : k ≠ g) (W : World) (vs : Array Value) : (W.setRow g vs).heap[k]? = W.heap[k]? := by
  simp [World.setRow, Array.getElem?_modify, Ne.symm hk]
theorem setRow_size (g : Nat) (W : World) (vs : Array Value) : (W.setRow g vs).heap.size = W.heap.size := by simp [World.setRow]
theorem Blk.row_far {W : World} {g k : Nat} {cs : Array Value} {t : TypeId} (h : Blk W k cs t) (hk : k ≠ g) (vs : Array Value) : Blk (W.setRow g vs) k cs t := (setRow_far hk W vs).trans h
theorem below_setRow {B : Nat} {a c : World} (h : Below B a c) (g : Nat) (hg : B ≤ g) (vs : Array Value) : Below B a (c.setRow g vs) :=
  ⟨h.os, h.tape, h.output, by rw [setRow_size]; exact h.size, fun k hk => (setRow_far (by omega) c vs).trans (h.block k hk)⟩
/-- A block's whole value is stored. -/
theorem store_whole (ty : TypeId) (W : World) (g : Nat) (cs vs : Array Value) (h : Blk W g cs ty) (hs : vs.size = cs.size) (hi : (Tryd.prog.info? ty).map (·.size) = some vs.size) (h1 : vs.all (·.oneCell') = true) :
    (Instr.storeAt ty (.pointer (some ⟨g, 0, none⟩)) (.agg vs)).run Tryd.prog W = .ok () (W.setCells g 0 vs.toList) ∧ Blk (W.setCells g 0 vs.toList) g vs ty := by
  refine ⟨run_storeAt_mid W g 0 ty vs (h.there 0 _ (by omega)) hi h1, ?_⟩
  have := h.setCells vs.toList 0 W cs
  rw [setMany_whole cs vs.toList (by simpa using hs)] at this
  simpa using this
/-- A block's whole value is read. -/
theorem load_whole (ty : TypeId) (d : TypeDesc) (W : World) (g : Nat) (cs : Array Value) (h : Blk W g cs ty) (hu : Tryd.prog.underlying ty = some d) (hd : d.isRow = true) (hi : (Tryd.prog.info? ty).map (·.size) = some cs.size) :
    (Instr.loadAt ty (.pointer (some ⟨g, 0, none⟩))).run Tryd.prog W = .ok (.agg cs) W := by
  have := run_loadAt_mid (P := Tryd.prog) W g 0 ty cs.toList d (fun j v hv => by rw [Nat.zero_add, h.cell]; simpa using hv) hu hd (by simpa using hi)
  simpa using this

/-- A piece's cells. -/
abbrev pcs (k : Int) (text : ByteArray) (f : PP.Fl) (verb : Int) (w p : PP.Nm) (a : PP.Ix) : Array Value :=
  #[.int .i64 k, .string text, .bool f.pl, .bool f.mi, .bool f.sh, .bool f.sp, .bool f.ze, .int .i64 (-1), .int .i64 (-1), .int .i32 verb, .int .i64 w.k, .int .i64 w.n, .int .i64 w.a.k, .int .i64 w.a.n, .int .i64 p.k, .int .i64 p.n, .int .i64 p.a.k, .int .i64 p.a.n, .int .i64 a.k, .int .i64 a.n]
/-- A fresh piece's cells. -/
abbrev pc0 : Array Value := #[.int .i64 0, .string ⟨#[]⟩, .bool false, .bool false, .bool false, .bool false, .bool false, .int .i64 0, .int .i64 0, .int .i32 0, .int .i64 0, .int .i64 0, .int .i64 0, .int .i64 0, .int .i64 0, .int .i64 0, .int .i64 0, .int .i64 0, .int .i64 0, .int .i64 0]
theorem piece_size : (Tryd.prog.info? 40).map (·.size) = some 20 := by kernel_rfl
theorem pcs_one (k : Int) (text : ByteArray) (f : PP.Fl) (verb : Int) (w p : PP.Nm) (a : PP.Ix) : (pcs k text f verb w p a).all (·.oneCell') = true := by simp [pcs, Value.oneCell']
theorem build_spec (w : World) : (Instr.build 28 #[(5, .int .i64 (-1)), (6, .int .i64 (-1))]).run Tryd.prog w = .ok (.agg #[.bool false, .bool false, .bool false, .bool false, .bool false, .int .i64 (-1), .int .i64 (-1), .int .i32 0]) w := run_build w _ _ _ (by kernel_rfl)
theorem build_piece (w : World) : (Instr.build 40 #[(0, .int .i64 2), (2, .agg #[.bool false, .bool false, .bool false, .bool false, .bool false, .int .i64 (-1), .int .i64 (-1), .int .i32 0])]).run Tryd.prog w = .ok (.agg (pcs 2 ⟨#[]⟩ ⟨false, false, false, false, false⟩ 0 ⟨0, 0, ⟨0, 0⟩⟩ ⟨0, 0, ⟨0, 0⟩⟩ ⟨0, 0⟩)) w := run_build w _ _ _ (by kernel_rfl)
end Go.Proofs.YtmfhoindfhmncaaDoor
