/-
  Walks of layer 9: the document's directive: its boxes, its flags.
-/
import Derived.Test.YtmfhoindfhmncaaDoorS2
import Derived.Test.YtmfhoindfhmncaaDoorP6
import Derived.Test.YtmfhoindfhmncaaDoorPX
import Derived.Deep.CutBlock
import Derived.Deep.DeepCutAuto
import Derived.Great.BuildSlice
import Derived.Laws.AppendOwn
namespace Go.Proofs.YtmfhoindfhmncaaDoor
open Go.RowKit Go.Proofs

theorem rpiece_size : (Tryd.prog.info? 34).map (·.size) = some 20 := by kernel_rfl
abbrev rfl0 : PP.Fl := ⟨false, false, false, false, false⟩
abbrev rnm0 : PP.Nm := ⟨0, 0, ⟨0, 0⟩⟩
abbrev rix0 : PP.Ix := ⟨0, 0⟩
/-- What holds within the document's directive: the result's box is untouched, the piece's cells are these. -/
structure SD (w W : World) (Q P : Nat) (cs : Array Value) : Prop where
  below : Below w.heap.size w W
  p : Blk W P cs 34
  q : Blk W Q pc0 34
  hq : w.heap.size ≤ Q
  hp : Q < P
theorem SD.calm {w W W' : World} {Q P : Nat} {cs : Array Value} (h : SD w W Q P cs) (hb : Below W.heap.size W W') : SD w W' Q P cs :=
  ⟨h.below.trans (hb.mono h.below.size), h.p.below hb h.p.lt, h.q.below hb h.q.lt, h.hq, h.hp⟩
theorem SD.set_ {w W : World} {Q P : Nat} {cs : Array Value} (h : SD w W Q P cs) (i : Nat) (u : Value) : SD w (W.setCell ⟨P, i, none⟩ u) Q P (cs.setIfInBounds i u) :=
  ⟨h.below.setCell (by have := h.hq; have := h.hp; show _ ≤ P; omega) u, h.p.set_ i u, h.q.far (by have := h.hp; show Q ≠ P; omega) u, h.hq, h.hp⟩
theorem SD.cells {w W : World} {Q P : Nat} {k : Int} {t : ByteArray} {f : PP.Fl} {vb : Int} {nw np : PP.Nm} {a : PP.Ix} (h : SD w W Q P (pcs k t f vb nw np a)) :
    W.cell? ⟨P, 2, none⟩ = some (.bool f.pl) ∧ W.cell? ⟨P, 3, none⟩ = some (.bool f.mi) ∧ W.cell? ⟨P, 4, none⟩ = some (.bool f.sh) ∧ W.cell? ⟨P, 5, none⟩ = some (.bool f.sp) ∧ W.cell? ⟨P, 6, none⟩ = some (.bool f.ze) :=
  ⟨h.p.cell 2, h.p.cell 3, h.p.cell 4, h.p.cell 5, h.p.cell 6⟩

/-- Indices as they lie in a list. -/
def ixCells (L : List PP.Ix) : List Value := L.flatMap fun x => [.int .i64 x.k, .int .i64 x.n]
theorem info_ix : (Tryd.prog.info? 30).map (fun i => (i.zero, i.size, i.bytes)) = some (some (.agg #[.int .i64 0, .int .i64 0]), 2, 16) := by kernel_rfl
theorem info_partsI {e : TypeId} {z : Value} {s b : Nat} (h : (Tryd.prog.info? e).map (fun i => (i.zero, i.size, i.bytes)) = some (some z, s, b)) : ∃ i, Tryd.prog.info? e = some i ∧ i.zero = some z ∧ i.size = s ∧ i.bytes = b := by
  cases hi : Tryd.prog.info? e with
  | none => rw [hi] at h; cases h
  | some i =>
    rw [hi] at h
    simp only [Option.map_some, Option.some.injEq, Prod.mk.injEq] at h
    exact ⟨i, rfl, h.1, h.2.1, h.2.2⟩
/-- One index put to a list. -/
theorem wpList_ix {ops : Array Oper} {rest : List Oper} {ob oa : Oper} {a : Act} {w : World} {Q : Exit → Act → World → Prop} (hgb : ob.guard = none) (hga : oa.guard = none) (x y : Operand) (b : Tmp)
    (hob : ob.op = .buildSlice 79 1 #[(0, x)]) (hdb : ob.dst = some b) (hoa : oa.op = .call { callee := .builtin .append, args := #[y, .tmp b], argTypes := #[79, 79] })
    (i : PP.Ix) (hx : a.eval x = ixV i)
    (B : Nat) (v : Value) (n : Nat) (xs : List Value) (sl : Value) (hsl : sl = .slice (some ⟨w.heap.size, 0, none⟩) 1 1) (hy : (a.put (some b) sl).eval y = v) (hbt : (a.put (some b) sl).eval (.tmp b) = sl) (hown : w.ownsRow B 30 2 v n xs) (hB : B ≤ w.heap.size) (hn : n ≤ 100000)
    (h : ∀ v' w', w'.ownsRow B 30 2 v' (n + 1) (xs ++ [.int .i64 i.k, .int .i64 i.n]) → Below B w w' → wpList Tryd.prog ops Q rest ((a.put (some b) sl).put oa.dst v') w') : wpList Tryd.prog ops Q (ob :: oa :: rest) a w := by
  obtain ⟨i0, hi, hz0, hz1, hz2⟩ := info_partsI info_ix
  refine wpList_buildSlice hgb 79 30 1 #[(0, x)] hob #[.int .i64 i.k, .int .i64 i.n] i0 (.agg #[.int .i64 0, .int .i64 0]) Tryd.underlying79 hi hz0 (by rw [hz1]; decide) (by rw [hz1]; decide) ?_ ?_
  · rw [hz1]
    simp only [List.map_toArray, List.map_cons, List.map_nil, hx]
    kernel_rfl
  · rw [hdb, ← hsl]
    have hown1 : (w.alloc (.cells #[.int .i64 i.k, .int .i64 i.n] 30)).ownsRow B 30 2 v n xs := hown.alloc _
    refine wpList_append_own (P := Tryd.prog) (w := w.alloc (.cells #[.int .i64 i.k, .int .i64 i.n] 30)) hga y (.tmp b) 79 hoa B 30 i0 (.agg #[.int .i64 0, .int .i64 0]) 2 16 Tryd.underlying79 hi hz0 hz1 hz2 rfl (by decide) v n xs hy hown1 ⟨w.heap.size, 0, none⟩ 1 1 [.int .i64 i.k, .int .i64 i.n] (by rw [hbt, hsl]) rfl ?_ ?_ (by unfold maxLen; omega) (by omega) (by simp; omega) ?_
    · intro j u hu
      rw [Addr.add_mid, Nat.zero_add, (Blk.new w #[.int .i64 i.k, .int .i64 i.n] 30).cell]
      simpa using hu
    · intro u hu
      simp only [List.mem_cons, List.not_mem_nil, or_false] at hu
      rcases hu with rfl | rfl <;> rfl
    · intro v' w' h2 h3 _
      refine h v' w' h2 (Below.grown ((Below.refl B w).alloc hB _) h3 (by simp; omega) ?_)
      intro kk hk
      rcases hown.2 with ⟨rfl, _⟩ | ⟨g', cap, cur, rfl, h2, _⟩
      · cases hk
      · simp only [Value.ownBlock, Option.some.injEq] at hk
        omega
theorem pk_drop (s : ByteArray) (j : Nat) : PP.pk (s.data.toList.drop j) = if j < s.size then bt s j else 0 := by
  by_cases h : j < s.size
  · obtain ⟨a, e1, e2⟩ := sdrop_at s j h
    rw [e1, if_pos h, ← e2]
    rfl
  · rw [List.drop_eq_nil_of_le (by rw [← Utf.size_eq]; omega), if_neg h]
    rfl
theorem nm_star (s : ByteArray) (j : Nat) (x : PP.Ix) (al : Bool) (h : isAt s j 42 = true) : PP.nmL x al (s.data.toList.drop j) = (⟨2, 0, x⟩, ⟨0, 0⟩, s.data.toList.drop (j + 1)) := by
  obtain ⟨h1, h2⟩ := of_decide_eq_true h
  unfold PP.nmL
  rw [if_pos (by rw [pk_drop, if_pos h1]; exact h2), List.drop_drop]
theorem not_star (s : ByteArray) (j : Nat) (h : isAt s j 42 = false) : ¬ PP.pk (s.data.toList.drop j) = 42 := by
  have h := of_decide_eq_false h
  rw [pk_drop]
  split
  · rename_i h1
    exact fun e => h ⟨h1, e⟩
  · omega
theorem nm_dig (s : ByteArray) (j : Nat) (x : PP.Ix) (h : isAt s j 42 = false) (hd : dgAt s j = true) (h48 : ¬ bt s j = 48) :
    PP.nmL x false (s.data.toList.drop j) = (⟨1, PP.valL 1000 0 (PP.dg (s.data.toList.drop j)), ⟨0, 0⟩⟩, PP.spoil x, s.data.toList.drop (j + (PP.dg (s.data.toList.drop j)).length)) := by
  obtain ⟨h1, h2, h3⟩ := of_decide_eq_true hd
  unfold PP.nmL
  rw [if_neg (not_star s j h), if_pos (Or.inl (by rw [pk_drop, if_pos h1]; omega)), rs_at]
theorem nm_no (s : ByteArray) (j : Nat) (x : PP.Ix) (h : isAt s j 42 = false) (hd : dgAt s j = false ∨ bt s j = 48) : PP.nmL x false (s.data.toList.drop j) = (⟨0, 0, ⟨0, 0⟩⟩, x, s.data.toList.drop j) := by
  unfold PP.nmL
  rw [if_neg (not_star s j h), if_neg, if_neg (by simp)]
  rintro (h1 | h1)
  · rw [pk_drop] at h1
    split at h1
    · rename_i hj
      rcases hd with hd | hd
      · exact of_decide_eq_false hd ⟨hj, by omega, by omega⟩
      · omega
    · omega
  · exact absurd h1.1 (by simp)
theorem arg_first {l : List UInt8} {x : PP.Ix} {r : List UInt8} {th : Bool} (hx : PP.ixL l = (x, r)) (ht : decide (x.k ≠ 0) = th) : PP.argOf (PP.put1 [] th x) false = x ∧ PP.argOf (PP.put1 [] th x) th = PP.spoil x := by
  by_cases h0 : x.k = 0
  · have hz := PP.ixL_zero l (by rw [hx]; exact h0)
    rw [hx] at hz
    subst ht
    rw [decide_eq_false (by simpa using h0)]
    have hz' : x = ⟨0, 0⟩ := hz
    rw [hz']
    exact ⟨rfl, rfl⟩
  · subst ht
    rw [decide_eq_true h0]
    refine ⟨rfl, ?_⟩
    unfold PP.spoil
    rw [if_neg h0, PP.argOf_wrong]
/-- The same, with the box of an index. -/
structure SW (w W : World) (Q P X : Nat) (cs : Array Value) (x : PP.Ix) : Prop where
  d : SD w W Q P cs
  x : Blk W X #[.int .i64 x.k, .int .i64 x.n] 30
  hx : P < X
theorem SD.alloc {w W : World} {Q P : Nat} {cs : Array Value} (h : SD w W Q P cs) (o : Obj) : SD w (W.alloc o) Q P cs := ⟨h.below.alloc h.below.size o, h.p.alloc o, h.q.alloc o, h.hq, h.hp⟩
theorem SW.start {w W : World} {Q P X : Nat} {cs : Array Value} (h : SD w W Q P cs) (x : PP.Ix) (hX : W.heap.size = X) : SW w (W.alloc (.cells #[.int .i64 x.k, .int .i64 x.n] 30)) Q P X cs x :=
  ⟨h.alloc _, hX ▸ Blk.new W _ _, hX ▸ h.p.lt⟩
theorem SW.calm {w W W' : World} {Q P X : Nat} {cs : Array Value} {x : PP.Ix} (h : SW w W Q P X cs x) (hb : Below W.heap.size W W') : SW w W' Q P X cs x := ⟨h.d.calm hb, h.x.below hb h.x.lt, h.hx⟩
theorem SW.calmB {w W W' : World} {Q P X : Nat} {cs : Array Value} {x : PP.Ix} (h : SW w W Q P X cs x) (hb : Below (X + 1) W W') : SW w W' Q P X cs x := by
  have h1 := h.hx
  have h2 := h.d.hp
  have h3 := h.d.hq
  refine ⟨⟨h.d.below.trans (hb.mono (by omega)), h.d.p.below hb (by omega), h.d.q.below hb (by omega), h.d.hq, h.d.hp⟩, h.x.below hb (by omega), h.hx⟩
theorem SW.set_ {w W : World} {Q P X : Nat} {cs : Array Value} {x : PP.Ix} (h : SW w W Q P X cs x) (i : Nat) (u : Value) : SW w (W.setCell ⟨P, i, none⟩ u) Q P X (cs.setIfInBounds i u) x :=
  ⟨h.d.set_ i u, h.x.far (by have := h.hx; show X ≠ P; omega) u, h.hx⟩
theorem fl_step (s : ByteArray) (i : Nat) (f : PP.Fl) (h : i < s.size) :
    (bt s i = 43 → PP.flL f (s.data.toList.drop i) = PP.flL { f with pl := true } (s.data.toList.drop (i + 1))) ∧ (bt s i = 45 → PP.flL f (s.data.toList.drop i) = PP.flL { f with mi := true } (s.data.toList.drop (i + 1))) ∧
    (bt s i = 35 → PP.flL f (s.data.toList.drop i) = PP.flL { f with sh := true } (s.data.toList.drop (i + 1))) ∧ (bt s i = 32 → PP.flL f (s.data.toList.drop i) = PP.flL { f with sp := true } (s.data.toList.drop (i + 1))) ∧
    (bt s i = 48 → PP.flL f (s.data.toList.drop i) = PP.flL { f with ze := true } (s.data.toList.drop (i + 1))) ∧
    (¬ bt s i = 43 ∧ ¬ bt s i = 45 ∧ ¬ bt s i = 35 ∧ ¬ bt s i = 32 ∧ ¬ bt s i = 48 → PP.flL f (s.data.toList.drop i) = (f, s.data.toList.drop i)) := by
  have hl : i < s.data.toList.length := by rw [← Utf.size_eq]; exact h
  have e : bt s i = ((s.data.toList[i]).toNat : Int) := by unfold bt; rw [List.getElem?_eq_getElem hl]; rfl
  have hd : s.data.toList.drop i = s.data.toList[i] :: s.data.toList.drop (i + 1) := List.drop_eq_getElem_cons hl
  rw [e, hd]
  obtain ⟨a, ha⟩ : ∃ a, s.data.toList[i] = a := ⟨_, rfl⟩
  rw [ha]
  refine ⟨fun q => ?_, fun q => ?_, fun q => ?_, fun q => ?_, fun q => ?_, fun q => ?_⟩
  all_goals
    rw [PP.flL]
    unfold PP.flOn
  · rw [if_pos (by omega)]
  · rw [if_neg (by omega), if_pos (by omega)]
  · rw [if_neg (by omega), if_neg (by omega), if_pos (by omega)]
  · rw [if_neg (by omega), if_neg (by omega), if_neg (by omega), if_pos (by omega)]
  · rw [if_neg (by omega), if_neg (by omega), if_neg (by omega), if_neg (by omega), if_pos (by omega)]
  · rw [if_neg (by omega), if_neg (by omega), if_neg (by omega), if_neg (by omega), if_neg (by omega)]
end Go.Proofs.YtmfhoindfhmncaaDoor
