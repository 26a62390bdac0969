/-
  Walks of layer 9: the reader.
-/
import Derived.Test.YtmfhoindfhmncaaDoorB2
import Derived.Test.YtmfhoindfhmncaaDoorPP
import Derived.Laws.EntriesVeiled
import Derived.Laws.OwnMore
namespace Go.Proofs.YtmfhoindfhmncaaDoor
open Go.RowKit Go.Proofs

/-- A block that is known whole. -/
def Blk (w : World) (g : Nat) (cs : Array Value) (t : TypeId) : Prop := w.heap[g]? = some (.cells cs t (0, 0))
section
variable {w w' : World} {g : Nat} {cs : Array Value} {t : TypeId}
theorem Blk.lt (h : Blk w g cs t) : g < w.heap.size := by
  rcases Nat.lt_or_ge g w.heap.size with hlt | hge
  · exact hlt
  · unfold Blk at h
    rw [Array.getElem?_eq_none hge] at h
    cases h
theorem Blk.cell (h : Blk w g cs t) (i : Nat) : w.cell? ⟨g, i, none⟩ = cs[i]? := cell_of_row w g i cs t (0, 0) h
theorem Blk.frozen (h : Blk w g cs t) (i : Nat) : w.frozen? ⟨g, i, none⟩ = false := by
  unfold Blk at h
  simp [World.frozen?, h]
theorem Blk.set_ (h : Blk w g cs t) (i : Nat) (u : Value) : Blk (w.setCell ⟨g, i, none⟩ u) g (cs.setIfInBounds i u) t := by
  unfold Blk at h ⊢
  simp [World.setCell, Array.getElem?_modify, h]
theorem Blk.same (h : Blk w g cs t) (e : w'.heap[g]? = w.heap[g]?) : Blk w' g cs t := e.trans h
theorem Blk.far (h : Blk w g cs t) {p : Addr} (hp : g ≠ p.block) (u : Value) : Blk (w.setCell p u) g cs t := (Below.heap_setCell w p u g hp).trans h
theorem Blk.new (w : World) (cs : Array Value) (t : TypeId) : Blk (w.alloc (.cells cs t)) w.heap.size cs t := heap_alloc_new w _
theorem Blk.alloc (h : Blk w g cs t) (o : Obj) : Blk (w.alloc o) g cs t := (Below.heap_alloc w o g h.lt).trans h
theorem Blk.below {B : Nat} (h : Blk w g cs t) (hb : Below B w w') (hg : g < B) : Blk w' g cs t := (hb.block g hg).trans h
end

/-- All blocks that were there but R are as they were. -/
structure Only (R : Nat) (w w' : World) : Prop where
  os : w'.os = w.os
  tape : w'.tape = w.tape
  output : w'.output = w.output
  size : w.heap.size ≤ w'.heap.size
  block : ∀ k, k < w.heap.size → k ≠ R → w'.heap[k]? = w.heap[k]?
theorem Only.refl (R : Nat) (w : World) : Only R w w := ⟨rfl, rfl, rfl, Nat.le_refl _, fun _ _ _ => rfl⟩
theorem Only.trans {R : Nat} {a c d : World} (h : Only R a c) (k : Only R c d) : Only R a d :=
  ⟨k.os.trans h.os, k.tape.trans h.tape, k.output.trans h.output, Nat.le_trans h.size k.size, fun i hi hb => (k.block i (Nat.lt_of_lt_of_le hi h.size) hb).trans (h.block i hi hb)⟩
theorem Only.below {R : Nat} {a c : World} (h : Only R a c) {B : Nat} (h1 : B ≤ a.heap.size) (h2 : B ≤ R) : Below B a c :=
  ⟨h.os, h.tape, h.output, h.size, fun k hk => h.block k (by omega) (by omega)⟩
theorem Only.of_below {R : Nat} {a c : World} (h : Below a.heap.size a c) : Only R a c := ⟨h.os, h.tape, h.output, h.size, fun k hk _ => h.block k hk⟩
theorem Only.drew {R : Nat} {a c : World} (h : Only R a c) : Only R a c.drew := ⟨h.os, h.tape, h.output, h.size, h.block⟩
theorem Only.drewN {R : Nat} {a c : World} (h : Only R a c) (n : Nat) : Only R a (c.drewN n) := ⟨h.os, h.tape, h.output, h.size, h.block⟩
theorem Only.set_ {R : Nat} {a c : World} (h : Only R a c) (i : Nat) (u : Value) : Only R a (c.setCell ⟨R, i, none⟩ u) :=
  ⟨h.os, h.tape, h.output, by simpa [World.setCell] using h.size, fun k hk hb => (Below.heap_setCell c _ u k hb).trans (h.block k hk hb)⟩
theorem Only.alloc {R : Nat} {a c : World} (h : Only R a c) (o : Obj) : Only R a (c.alloc o) :=
  ⟨h.os, h.tape, h.output, by have := h.size; simp; omega, fun k hk hb => (Below.heap_alloc c o k (Nat.lt_of_lt_of_le hk h.size)).trans (h.block k hk hb)⟩

/-- The reader: what is left, and the function that looks at it. -/
abbrev clo (V : Nat) : Value := .func (Fn.func 40) #[] #[.pointer (some ⟨V, 0, none⟩)]
def Rd (w : World) (R V : Nat) (t : ByteArray) : Prop :=
  Blk w R #[.string t, clo V] 75 ∧ Blk w V #[.pointer (some ⟨R, 0, none⟩)] 66
theorem Rd.ne {w : World} {R V : Nat} {t : ByteArray} (h : Rd w R V t) : V ≠ R := by
  rintro rfl
  have h1 := h.1
  have h2 := h.2
  unfold Blk at h1 h2
  rw [h1] at h2
  injection h2 with h2
  injection h2 with _ h2
  exact absurd h2 (by decide)
theorem Rd.drew {w : World} {R V : Nat} {t : ByteArray} (h : Rd w R V t) : Rd w.drew R V t := h
theorem Rd.drewN {w : World} {R V : Nat} {t : ByteArray} (h : Rd w R V t) (n : Nat) : Rd (w.drewN n) R V t := h
theorem Rd.alloc {w : World} {R V : Nat} {t : ByteArray} (h : Rd w R V t) (o : Obj) : Rd (w.alloc o) R V t := ⟨h.1.alloc o, h.2.alloc o⟩
theorem Rd.far {w : World} {R V : Nat} {t : ByteArray} (h : Rd w R V t) {p : Addr} (h1 : R ≠ p.block) (h2 : V ≠ p.block) (u : Value) : Rd (w.setCell p u) R V t := ⟨h.1.far h1 u, h.2.far h2 u⟩
theorem Rd.put {w : World} {R V : Nat} {t : ByteArray} (h : Rd w R V t) (t' : ByteArray) : Rd (w.setCell ⟨R, 0, none⟩ (.string t')) R V t' := ⟨h.1.set_ 0 _, h.2.far h.ne _⟩
theorem Rd.other {w w' : World} {R V P : Nat} {t : ByteArray} (h : Rd w R V t) (ho : Only P w w') (h1 : R ≠ P) (h2 : V ≠ P) : Rd w' R V t :=
  ⟨h.1.same (ho.block _ h.1.lt h1), h.2.same (ho.block _ h.2.lt h2)⟩
theorem Rd.below {w w' : World} {R V : Nat} {t : ByteArray} (h : Rd w R V t) (hb : Below w.heap.size w w') : Rd w' R V t := ⟨h.1.below hb h.1.lt, h.2.below hb h.2.lt⟩

theorem reading_any (s : ByteArray) (w : World) : Calls Tryd.prog 25 #[.string s] w fun e w' => e = .returned (.pointer (some ⟨w.heap.size, 0, none⟩)) ∧
    Rd w' w.heap.size (w.heap.size + 1) s ∧ Below w.heap.size w w' ∧ w'.heap.size = w.heap.size + 2 := by
  go_enter Tryd.func25, Tryd.ntmps25
  go_wp2_with fail
  go_ret
  refine ⟨rfl, ⟨(Blk.new w _ _).alloc _, ?_⟩, ((Below.refl _ _).alloc (Nat.le_refl _) _).alloc (by simp) _, by simp⟩
  have := Blk.new (w.alloc (.cells #[.string s, clo (w.heap.size + 1)] 75)) #[.pointer (some ⟨w.heap.size, 0, none⟩)] 66
  simpa using this

theorem size_pos_list {t : ByteArray} {a : UInt8} {r : List UInt8} (h : t.data.toList = a :: r) : 0 < t.size := by rw [Utf.size_eq, h]; simp
theorem list_of_pos {t : ByteArray} (h : 0 < t.size) : ∃ a r, t.data.toList = a :: r := by
  rw [Utf.size_eq] at h
  match e : t.data.toList, h with
  | a :: r, _ => exact ⟨a, r, rfl⟩
theorem pk_bound (l : List UInt8) : 0 ≤ PP.pk l ∧ PP.pk l < 256 := by
  cases l with
  | nil => simp [PP.pk]
  | cons a r => have := a.toNat_lt; simp [PP.pk]; omega
theorem bt_zero (t : ByteArray) : bt t 0 = PP.pk t.data.toList := by
  unfold bt PP.pk
  cases t.data.toList <;> rfl
theorem isE_pos {t : ByteArray} (h : 0 < t.size) : t.toList.isEmpty = false := by
  rw [isEmpty_iff]
  apply decide_eq_false
  intro e
  rw [Utf.size_eq, e] at h
  exact absurd h (Nat.lt_irrefl 0)
theorem isE_zero {t : ByteArray} (h : ¬ 0 < t.size) : t.toList.isEmpty = true := by
  rw [isEmpty_iff]
  apply decide_eq_true
  apply List.eq_nil_of_length_eq_zero
  rw [← Utf.size_eq]
  omega

/-- What peek tells. -/
theorem peek_any (R V : Nat) (t : ByteArray) (w : World) (h : Rd w R V t) : Calls Tryd.prog 40 #[.pointer (some ⟨V, 0, none⟩)] w fun e w' => e = .returned (.int .u8 (PP.pk t.data.toList)) ∧ w = w' := by
  have hv : w.cell? ⟨V, 0, none⟩ = some (.pointer (some ⟨R, 0, none⟩)) := h.2.cell 0
  have hr : w.cell? ⟨R, 0, none⟩ = some (.string t) := h.1.cell 0
  clear h
  by_cases hp : 0 < t.size
  · have he := isE_pos hp
    have E0 := bt_at t 0 hp
    rw [bt_zero] at E0
    go_enter Tryd.func40, Tryd.ntmps40
    go_wp2_with fail
    go_ret
    exact ⟨rfl, rfl⟩
  · have he := isE_zero hp
    have hk : PP.pk t.data.toList = 0 := by
      have e0 : t.data.toList = [] := List.eq_nil_of_length_eq_zero (by rw [← Utf.size_eq]; omega)
      rw [e0]; rfl
    rw [hk]
    clear hk
    go_enter Tryd.func40, Tryd.ntmps40
    go_wp2_with fail
    go_ret
    exact ⟨rfl, rfl⟩
end Go.Proofs.YtmfhoindfhmncaaDoor
