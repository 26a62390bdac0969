/-
  Texts of this claim, joined: VE, VF.
-/
import Derived.Deep.RegionLaw
import Derived.Test.YtdjhmanccoekjaaGreatDoorN11
import Derived.Test.YtdjhmanccoekjaaGreatDoorN14

section
namespace Go.Proofs.YtdjhmanccoekjaaGreatDoor
open Go.RowKit Go.Proofs

def keyB (k : Int) : Bool := decide (1 ≤ k ∧ k ≤ 11 ∨ k = 16)
/-- A descriptor as a key. -/
def kvOf (d : De) : KV := ⟨d.k, d.ty, d.hk, if d.k = 1 then .b (decide (d.b % 2 = 1)) else if d.k ≤ 6 then .i (sxI d.k d.b) else if d.k ≤ 11 then .u (zxI d.k d.b) else .t d.t⟩
theorem kvOf_ok (d : De) (h : keyB d.k = true) : (kvOf d).ok := by
  have h := of_decide_eq_true h
  unfold kvOf KV.ok
  simp only
  by_cases h1 : d.k = 1
  · simp only [if_pos h1]; exact h1
  by_cases h2 : d.k ≤ 6
  · simp only [if_neg h1, if_pos h2]; omega
  by_cases h3 : d.k ≤ 11
  · simp only [if_neg h1, if_neg h2, if_pos h3]; omega
  · simp only [if_neg h1, if_neg h2, if_neg h3]; omega
theorem kvOf_val (d : De) (h : keyB d.k = true) : kvV (kvOf d) = leafV d := by
  have h := of_decide_eq_true h
  have h0 : ¬ d.k = 0 := by omega
  unfold kvOf kvV leafV
  by_cases h1 : d.k = 1
  · simp only [if_pos h1, if_neg h0]
  by_cases h2 : d.k ≤ 6
  · simp only [if_neg h1, if_pos h2, if_neg h0]
  by_cases h3 : d.k ≤ 11
  · simp only [if_neg h1, if_neg h2, if_pos h3, if_neg h0]
  · have g1 : ¬ d.k = 12 := by omega
    have g2 : ¬ d.k = 13 := by omega
    have g3 : ¬ d.k = 14 := by omega
    have g4 : ¬ d.k = 15 := by omega
    have g5 : d.k = 16 := by omega
    simp only [if_neg h1, if_neg h2, if_neg h3, if_neg h0, if_neg g1, if_neg g2, if_neg g3, if_neg g4, if_pos g5]
/-- Keys and values, two by two. -/
def entriesT : List DT → List VT → List (KV × VT)
  | x :: _ :: r, _ :: v :: l => (kvOf x.de, v) :: entriesT r l
  | _, _ => []
def flatT : List (KV × VT) → List VT
  | [] => []
  | (k, v) :: r => .leaf (kvV k) :: v :: flatT r
/-- The rows that are sorted by their keys, and have none alike. -/
def Sorted (es s : List (KV × VT)) : Prop := s.Perm es ∧ s.Pairwise fun a b => cmpK a.1 b.1 < 0
open Classical in
/-- What has parts, of its parts. -/
noncomputable def greatT (d : De) (nm : List ByteArray) (pa : List DT) (l : List VT) : Option VT :=
  if d.k = 18 then (if nm.Nodup then some (.node 18 d.ty d.hk 0 nm l) else none)
  else if d.k = 21 then (if h : ∃ s, Sorted (entriesT pa l) s then some (.node 21 d.ty d.hk 0 [] (flatT (Classical.choose h))) else none)
  else if d.k = 22 then some (.node 22 d.ty d.hk d.b [] l)
  else some (.node d.k d.ty d.hk 0 [] l)
mutual
/-- What is made of a descriptor that is right; none: a name, or a key, is there twice. -/
noncomputable def madeT : DT → Option VT
  | .mk d nm pa => if great d.k then (match madeL pa with | none => none | some l => greatT d nm pa l) else some (.leaf (leafV d))
noncomputable def madeL : List DT → Option (List VT)
  | [] => some []
  | x :: r => match madeT x with | none => none | some v => (match madeL r with | none => none | some l => some (v :: l))
end
theorem greatT_map (d : De) (nm : List ByteArray) (pa : List DT) (l : List VT) (hk : d.k = 21) (s : List (KV × VT)) (hs : Sorted (entriesT pa l) s) (ho : ∀ x ∈ entriesT pa l, x.1.ok) :
    greatT d nm pa l = some (.node 21 d.ty d.hk 0 [] (flatT s)) := by
  have hex : ∃ s, Sorted (entriesT pa l) s := ⟨s, hs⟩
  unfold greatT
  rw [if_neg (by omega), if_pos hk, dif_pos hex]
  have hc := Classical.choose_spec hex
  have : Classical.choose hex = s := sorted_one (hc.1.trans hs.1.symm) hc.2 hs.2 fun x hx => ho x (hc.1.mem_iff.1 hx)
  rw [this]
theorem greatT_twice (d : De) (nm : List ByteArray) (pa : List DT) (l : List VT) (hk : d.k = 21) (hs : ¬ ∃ s, Sorted (entriesT pa l) s) : greatT d nm pa l = none := by
  unfold greatT
  rw [if_neg (by omega), if_pos hk, dif_neg hs]
/-- What made answers. -/
def MadeR (w : World) (r : Option VT) (e : Ending) (w' : World) : Prop :=
  Below w.heap.size w w' ∧ match r with
    | some V => ∃ t x, e = .returned (.iface t x) ∧ VAt w' (fun b => w.heap.size ≤ b) (.iface t x) V
    | none => e = badE 5
theorem wpList_pushW {ops : Array Oper} {rest : List Oper} {ob oa : Oper} {a : Act} {w : World} {Q : Exit → Act → World → Prop} (hgb : ob.guard = none) (hga : oa.guard = none) (x y : Operand) (b : Tmp)
    (hob : ob.op = .buildSlice 85 1 #[(0, x)]) (hdb : ob.dst = some b) (hoa : oa.op = .call { callee := .builtin .append, args := #[y, .tmp b], argTypes := #[85, 85] })
    (u : Value) (hx : a.eval x = u) (h1u : u.oneCell' = true) (hf : Instr.fill (fun i => some (i * 1, 1)) ((Array.range (1 * 1)).map (#[Value.nilIface][· % #[Value.nilIface].size]!)) [(0, u)] = some #[u])
    (B : Nat) (v : Value) (n : Nat) (xs : List Value) (sl : Value) (hsl : sl = .slice (some ⟨w.heap.size, 0, none⟩) 1 1) (hy : (a.put (some b) sl).eval y = v) (hbt : (a.put (some b) sl).eval (.tmp b) = sl) (hown : w.ownsRow B 103 1 v n xs) (hB : B ≤ w.heap.size) (hn : n ≤ 100000)
    (h : ∀ v' w', w'.ownsRow B 103 1 v' (n + 1) (xs ++ [u]) → (w.alloc (.cells #[u] 103)).grownBy w' v.ownBlock → NextBlock (w.alloc (.cells #[u] 103)) v v' → wpList Tryz.prog ops Q rest ((a.put (some b) sl).put oa.dst v') w') : wpList Tryz.prog ops Q (ob :: oa :: rest) a w := by
  obtain ⟨i0, hi, hz0, hz1, hz2⟩ := info_partsV info_val
  refine wpList_buildSlice hgb 85 103 1 #[(0, x)] hob #[u] i0 .nilIface Tryz.underlying85 hi hz0 (by rw [hz1]; decide) (by rw [hz1]; decide) ?_ ?_
  · rw [hz1]
    simp only [List.map_toArray, List.map_cons, List.map_nil, hx]
    exact hf
  · rw [hdb, ← hsl]
    have hown1 : (w.alloc (.cells #[u] 103)).ownsRow B 103 1 v n xs := hown.alloc _
    refine wpList_plain hga fun _ hK => wp_append_own2 (P := Tryz.prog) (w.alloc (.cells #[u] 103)) y (.tmp b) 85 hoa B 103 i0 .nilIface 1 16 Tryz.underlying85 hi hz0 hz1 hz2 rfl (by decide) v n xs hy hown1 ⟨w.heap.size, 0, none⟩ 1 1 [u] (by rw [hbt, hsl]) rfl ?_ ?_ (by unfold maxLen; omega) (by omega) (by simp; omega) (by decide) fun v' w' h2 h3 h4 => hK _ _ (h v' w' h2 h3 h4)
    · intro j u' hu
      rw [Addr.add_mid, Nat.zero_add, (Blk.new w #[u] 103).cell]
      cases j with
      | zero => simpa using hu
      | succ j => simp at hu
    · intro u' hu
      simp only [List.mem_singleton] at hu
      rw [hu]; exact h1u
theorem vown_grown {w w1 W : World} {B n z : Nat} {e : TypeId} {v : Value} {xs : List Value} (hown : w.ownsRow B e z v n xs) (hb : Below B w W) (hB : B ≤ W.heap.size) (hg : W.grownBy w1 v.ownBlock) : Below B w w1 := by
  refine Below.grown hb hg hB ?_
  intro k hk
  rcases hown.2 with ⟨rfl, _⟩ | ⟨g', cap, cur, rfl, h2, _⟩
  · cases hk
  · simp only [Value.ownBlock, Option.some.injEq] at hk
    omega
theorem info_entry : (Tryz.prog.info? 252).map (fun i => (i.zero, i.size, i.bytes)) = some (some (.agg #[.nilIface, .nilIface]), 2, 32) := by kernel_rfl
/-- append of one entry that was just laid, as one step of a region that draws. -/
theorem step_pushE {ops : Array Oper} {o : Oper} {a : Act} {w : World} {K : Act → World → Prop} {Q : Exit → Act → World → Prop} {E : Prop} (hgd : o.guard = none) (s x : Operand)
    (hop : o.op = .call { callee := .builtin .append, args := #[s, x], argTypes := #[196, 196] }) (B : Nat) (v : Value) (n : Nat) (xs : List Value) (hs : a.eval s = v) (hown : w.ownsRow B 252 2 v n xs)
    (g : Nat) (T1 T2 : TypeId) (y1 y2 : Value) (hx : a.eval x = .slice (some ⟨g, 0, none⟩) 1 1) (hc : Blk w g #[.iface T1 y1, .iface T2 y2] 252) (hB : B ≤ w.heap.size) (hn : n ≤ 100000)
    (h : ∀ v' w', w'.ownsRow B 252 2 v' (n + 1) (xs ++ [.iface T1 y1, .iface T2 y2]) → Below B w w' → K (a.put o.dst v') w') :
    if Region.wanted o (yielded ops a.tmps) = true then Oper.wp Tryz.prog o a w K Q else E := by
  have hw : Region.wanted o (yielded ops a.tmps) = true := by simp [Region.wanted, hgd]
  rw [if_pos hw]
  obtain ⟨i0, hi, hz0, hz1, hz2⟩ := info_partsV info_entry
  refine wp_append_own (P := Tryz.prog) w s x 196 hop B 252 i0 (.agg #[.nilIface, .nilIface]) 2 32 Tryz.underlying196 hi hz0 hz1 hz2 rfl (by decide) v n xs hs hown ⟨g, 0, none⟩ 1 1 [.iface T1 y1, .iface T2 y2] hx rfl ?_ ?_ (by unfold maxLen; omega) (by omega) hB ?_
  · intro j u hu
    rw [Addr.add_mid, Nat.zero_add, hc.cell]
    rw [← Array.getElem?_toList]
    exact hu
  · intro u hu
    simp only [List.mem_cons, List.not_mem_nil, or_false] at hu
    rcases hu with rfl | rfl <;> rfl
  · intro v' w' h2 h3 _
    exact h v' w' h2 (vown_grown hown (Below.refl B w) hB h3)
end Go.Proofs.YtdjhmanccoekjaaGreatDoor
end

section
namespace Go.Proofs.YtdjhmanccoekjaaGreatDoor
open Go.RowKit Go.Proofs

/-- What holds within great's first loop. -/
structure GrI (w : World) (D : De) (pa : List DT) (wr : World) (v : Value) (i : Nat) (us : List Value) (ls : List VT) : Prop where
  bel : Below w.heap.size w wr
  size : w.heap.size + 2 ≤ wr.heap.size
  b0 : Blk wr w.heap.size (deV D) 29
  b1 : Blk wr (w.heap.size + 1) #[.int .i64 D.k, .string D.ty, .int .i64 D.hk] 135
  own : wr.ownsRow (w.heap.size + 2) 103 1 v i us
  len : us.length = i
  lenl : ls.length = i
  kids : ∀ (k : Nat) u V, us[k]? = some u → ls[k]? = some V → VAt wr (fun b => w.heap.size ≤ b ∧ some b ≠ v.ownBlock) u V
  made : madeL pa = (match madeL (pa.drop i) with | none => none | some l => some (ls ++ l))
theorem GrI.start (w : World) (D : De) (pa : List DT) : GrI w D pa ((w.alloc (.cells (deV D) 29)).alloc (.cells #[.int .i64 D.k, .string D.ty, .int .i64 D.hk] 135)) (.slice none 0 0) 0 [] [] := by
  refine ⟨((Below.refl _ _).alloc (Nat.le_refl _) _).alloc (by simp) _, by simp, (Blk.new w _ _).alloc _, ?_, World.ownsRow_nil _ _ _ _, rfl, rfl, fun k u V h => by simp at h, ?_⟩
  · have := Blk.new (w.alloc (.cells (deV D) 29)) #[.int .i64 D.k, .string D.ty, .int .i64 D.hk] 135
    rw [World.size_alloc] at this
    exact this
  · rw [List.drop_zero]
    cases madeL pa <;> rfl
theorem GrI.kept {w wr W : World} {D : De} {pa : List DT} {v : Value} {i : Nat} {us : List Value} {ls : List VT} (h : GrI w D pa wr v i us ls) (hb : Below wr.heap.size wr W) : GrI w D pa W v i us ls :=
  ⟨h.bel.trans (hb.mono h.bel.size), Nat.le_trans h.size hb.size, h.b0.below hb h.b0.lt, h.b1.below hb h.b1.lt, own_block h.own fun _ _ _ hk => hk.below hb hk.lt, h.len, h.lenl, fun k u V hu hV => (h.kids k u V hu hV).keep hb, h.made⟩
theorem grown_far {W W' : World} {v : Value} (h : W.grownBy W' v.ownBlock) {b : Nat} (hb : b < W.heap.size) (hne : some b ≠ v.ownBlock) : W'.heap[b]? = W.heap[b]? := h.block b hb hne
theorem own_lt {w : World} {B n z g : Nat} {e : TypeId} {v : Value} {xs : List Value} (h : w.ownsRow B e z v n xs) (hg : v.ownBlock = some g) : B ≤ g ∧ g < w.heap.size := by
  rcases h.2 with ⟨rfl, _⟩ | ⟨g', cap, cur, rfl, h1, h2, _⟩
  · cases hg
  · simp only [Value.ownBlock, Option.some.injEq] at hg
    subst hg
    exact ⟨h1, Blk.lt (t := e) (cs := cur) h2⟩
/-- One more is made, and appended. -/
theorem GrI.step {w wr W3 W4 W5 : World} {D : De} {pa : List DT} {v v' : Value} {i : Nat} {us : List Value} {ls : List VT} {x : DT} {u : Value} {V : VT} (h : GrI w D pa wr v i us ls) (hx : pa[i]? = some x) (hmx : madeT x = some V)
    (h34 : Below wr.heap.size wr W3) (h4 : Below W3.heap.size W3 W4) (hV : VAt W4 (fun b => W3.heap.size ≤ b) u V)
    (ho : W5.ownsRow (w.heap.size + 2) 103 1 v' (i + 1) (us ++ [u])) (hg : (W4.alloc (.cells #[u] 103)).grownBy W5 v.ownBlock) (hn : NextBlock (W4.alloc (.cells #[u] 103)) v v') : GrI w D pa W5 v' (i + 1) (us ++ [u]) (ls ++ [V]) := by
  have k4 := (h.kept h34).kept h4
  have hs : W4.heap.size < (W4.alloc (.cells #[u] 103)).heap.size := by simp
  have hw34 := Nat.le_trans h34.size h4.size
  have hblt : ∀ g, v.ownBlock = some g → w.heap.size + 2 ≤ g ∧ g < wr.heap.size := fun g hg => own_lt h.own hg
  have low : ∀ b, b < w.heap.size + 2 → some b ≠ v.ownBlock := fun b hb e => by have := hblt b e.symm; omega
  have same : ∀ b, b < W4.heap.size → some b ≠ v.ownBlock → W5.heap[b]? = W4.heap[b]? := fun b hb hne => (grown_far hg (by omega) hne).trans (Below.heap_alloc _ _ _ hb)
  have hvb : ∀ b, b < W4.heap.size → some b ≠ v.ownBlock → some b ≠ v'.ownBlock := fun b hb hne => by
    rcases hn with e | ⟨g, e, hge⟩
    · rw [e]; exact hne
    · rw [e]
      intro q
      cases q
      omega
  refine ⟨?_, ?_, ?_, ?_, ho, by rw [List.length_append, h.len]; rfl, by rw [List.length_append, h.lenl]; rfl, fun k u1 V1 hu hV1 => ?_, ?_⟩
  · exact ⟨hg.os.trans k4.bel.os, hg.tape.trans k4.bel.tape, hg.output.trans k4.bel.output, by have := hg.size; have := k4.bel.size; omega, fun k hk => (same k (by have := k4.bel.size; omega) (low k (by omega))).trans (k4.bel.block k hk)⟩
  · have := hg.size
    have := k4.size
    omega
  · exact k4.b0.same (same _ k4.b0.lt (low _ (by omega)))
  · exact k4.b1.same (same _ k4.b1.lt (low _ (by omega)))
  · rcases Nat.lt_or_ge k us.length with q | q
    · rw [List.getElem?_append_left q] at hu
      rw [List.getElem?_append_left (by rw [h.lenl, ← h.len]; exact q)] at hV1
      exact (k4.kids k u1 V1 hu hV1).mono fun b hb hlt => ⟨⟨hb.1, hvb b hlt hb.2⟩, same b hlt hb.2⟩
    · rw [List.getElem?_append_right q] at hu
      rw [List.getElem?_append_right (by rw [h.lenl, ← h.len]; exact q)] at hV1
      have hk : k = us.length := by
        rcases Nat.lt_or_ge (k - us.length) 1 with z | z
        · omega
        · rw [List.getElem?_eq_none (by simpa using z)] at hu; cases hu
      subst hk
      rw [Nat.sub_self] at hu
      rw [h.lenl, ← h.len, Nat.sub_self] at hV1
      simp only [List.getElem?_cons_zero, Option.some.injEq] at hu hV1
      subst hu hV1
      refine hV.mono fun b hb hlt => ?_
      have hne : some b ≠ v.ownBlock := fun e => by have := hblt b e.symm; have := h34.size; omega
      refine ⟨⟨?_, hvb b hlt hne⟩, same b hlt hne⟩
      have := h.bel.size
      have := h34.size
      omega
  · rw [h.made, drop_cons hx, madeL, hmx]
    simp only
    cases madeL (pa.drop (i + 1)) with
    | none => rfl
    | some l => simp
/-- What holds within great's loop over a map's parts. -/
structure MpI (w : World) (D : De) (us : List Value) (ls : List VT) (l : Value) (M : Nat) (wr : World) (mv : Value) (j : Nat) : Prop where
  bel : Below M w wr
  own : wr.ownsRow (M + 1) 252 2 mv j (us.take (2 * j))
  blk : Blk wr M #[.int .i64 D.k, .string D.ty, .int .i64 D.hk, mv] 198

theorem own_formz {w : World} {base n z : Nat} {e : TypeId} {v : Value} {xs : List Value} (h : w.ownsRow base e z v n xs) : ∃ A c, v = .slice A n c := by
  rcases h.2 with ⟨rfl, rfl⟩ | ⟨g, cap, cur, rfl, _⟩
  · exact ⟨none, 0, rfl⟩
  · exact ⟨_, cap, rfl⟩
theorem own_setz {w : World} {base n z : Nat} {e : TypeId} {v : Value} {xs : List Value} (h : w.ownsRow base e z v n xs) {p : Addr} (hp : p.block < base) (u : Value) : (w.setCell p u).ownsRow base e z v n xs := by
  refine ⟨h.1, ?_⟩
  rcases h.2 with h0 | ⟨g, cap, cur, h1, h2, h3, h4⟩
  · exact .inl h0
  · exact .inr ⟨g, cap, cur, h1, h2, (Below.heap_setCell w p u g (by omega)).trans h3, h4⟩
theorem own_at {w : World} {base n : Nat} {e : TypeId} {A : Option Addr} {c : Nat} {xs : List Value} (h : w.ownsRow base e 1 (.slice A n c) n xs) (hn : 0 < n) :
    ∃ g, A = some ⟨g, 0, none⟩ ∧ g < w.heap.size ∧ ∀ (k : Nat) u, xs[k]? = some u → w.cell? ⟨g, k, none⟩ = some u := by
  rcases h.2 with ⟨h0, h1⟩ | ⟨g, cap, cur, h1, h2, h3, _⟩
  · omega
  · cases h1
    refine ⟨g, rfl, Blk.lt (t := e) (cs := cur) h3, fun k u hu => ?_⟩
    have := h.cells (g := g) rfl k u hu
    rw [Addr.add_mid, Nat.zero_add] at this
    exact this
theorem take_two {us : List Value} {j : Nat} {a b : Value} (ha : us[2 * j]? = some a) (hb : us[2 * j + 1]? = some b) : us.take (2 * (j + 1)) = us.take (2 * j) ++ [a, b] := by
  rw [show 2 * (j + 1) = 2 * j + 1 + 1 by omega, List.take_add_one, List.take_add_one, ha, hb]
  simp
theorem MpI.start (W : World) (D : De) (us : List Value) (ls : List VT) (l : Value) : MpI W D us ls l W.heap.size (W.alloc (.cells #[.int .i64 D.k, .string D.ty, .int .i64 D.hk, .slice none 0 0] 198)) (.slice none 0 0) 0 :=
  ⟨(Below.refl _ _).alloc (Nat.le_refl _) _, by rw [Nat.mul_zero, List.take_zero]; exact World.ownsRow_nil _ _ _ _, Blk.new _ _ _⟩
theorem MpI.step {w wr w3 : World} {D : De} {us : List Value} {ls : List VT} {l mv : Value} {A3 : Option Addr} {c3 M j : Nat} {a b : Value} (h : MpI w D us ls l M wr mv j) (ha : us[2 * j]? = some a) (hb : us[2 * j + 1]? = some b) (hM : M < wr.heap.size)
    (ho : w3.ownsRow (M + 1) 252 2 (.slice A3 (j + 1) c3) (j + 1) (us.take (2 * j) ++ [a, b])) (hk : Below (M + 1) ((World.drew wr).alloc (.cells #[a, b] 252)) w3) :
    MpI w D us ls l M (w3.setCell ⟨M, 3, none⟩ (.slice A3 (j + 1) c3)) (.slice A3 (j + 1) c3) (j + 1) := by
  have bl : Below M wr w3 := (((Below.refl M wr).drew).alloc (by show M ≤ wr.heap.size; omega) _).trans (hk.mono (Nat.le_succ M))
  refine ⟨(h.bel.trans bl).setCell (p := ⟨M, 3, none⟩) (Nat.le_refl _) _, ?_, ?_⟩
  · rw [take_two ha hb]
    exact own_setz ho (by show M < M + 1; omega) _
  · have hb1 : Blk ((World.drew wr).alloc (.cells #[a, b] 252)) M #[.int .i64 D.k, .string D.ty, .int .i64 D.hk, mv] 198 := Blk.alloc (show Blk (World.drew wr) M _ _ from h.blk) _
    exact (hb1.below hk (Nat.lt_succ_self M)).set_ 3 _
/-- The cells of entries. -/
def fl (l : List En) : List Value := l.flatMap encE
theorem fl_len (l : List En) : (fl l).length = 2 * l.length := by
  induction l with
  | nil => rfl
  | cons e r ih =>
    show (encE e ++ fl r).length = _
    rw [List.length_append, ih, List.length_cons]
    show 2 + _ = _
    omega
theorem fl_get : ∀ (l : List En) (t : Nat), t < l.length * 2 → (fl l)[t]? = some (encE (l[t / 2]!))[t % 2]!
  | [], t, h => by simp at h
  | e :: r, 0, _ => rfl
  | e :: r, 1, _ => rfl
  | e :: r, t + 2, h => by
    have ih := fl_get r t (by simp at h; omega)
    have e1 : (t + 2) / 2 = t / 2 + 1 := by omega
    have e2 : (t + 2) % 2 = t % 2 := by omega
    rw [e1, e2]
    show (encE e ++ fl r)[t + 2]? = _
    rw [List.getElem?_append_right (by show (2 : Nat) ≤ _; omega)]
    exact ih
open Go.Sort in
theorem flat_fl (d : Array En) (t : Nat) (h : t < d.size * 2) : (fl d.toList)[t]? = some (flatK encE 2 d)[t]! := by
  have e : d.toList[t / 2]! = d[t / 2]! := by
    have h2 : t / 2 < d.size := by omega
    rw [getElem!_pos d _ h2, getElem!_pos d.toList _ (by simpa using h2)]
    rfl
  rw [get_flatK _ _ _ _ h, fl_get d.toList t (by simpa using h), e]
open Go.Sort in
theorem holdsE {W : World} {g : Nat} {d : Array En} (hc : ∀ (j : Nat) v, (fl d.toList)[j]? = some v → W.cell? ⟨g, j, none⟩ = some v) (hf : ∀ j, W.frozen? ⟨g, j, none⟩ = false) : HoldsK encE 2 W g 0 d := by
  intro t ht
  rw [size_flatK] at ht
  rw [Nat.zero_add]
  exact ⟨hc t _ (flat_fl d t ht), hf t⟩
/-- A row has been sorted. -/
structure SoW (W : World) (g : Nat) (d d' : Array En) (W' : World) : Prop where
  os : W'.os = W.os
  tape : W'.tape = W.tape
  output : W'.output = W.output
  size : W.heap.size ≤ W'.heap.size
  far : ∀ k, k < W.heap.size → k ≠ g → W'.heap[k]? = W.heap[k]?
  cells : ∀ (j : Nat) v, (fl d'.toList)[j]? = some v → W'.cell? ⟨g, j, none⟩ = some v
  blk : ∀ cs T, Blk W g cs T → ∃ cs', Blk W' g cs' T
  perm : d'.toList.Perm d.toList
  sorted : ∀ i j, i < j → j < d'.size → ¬ cmpE d'[j]! d'[i]! < 0
/-- SortStableFunc sorts so many entries. -/
def SortsE (m : Nat) : Prop := ∀ (g cap : Nat) (d : Array En) (W : World), d.size = m → (∀ (j : Nat) v, (fl d.toList)[j]? = some v → W.cell? ⟨g, j, none⟩ = some v) → (∀ j, W.frozen? ⟨g, j, none⟩ = false) → g < W.heap.size →
  Calls Tryz.prog 158 #[.slice (some ⟨g, 0, none⟩) m cap, .func (.func 159) #[] #[]] W fun e w' => e = .returned (.tuple #[]) ∧ ∃ d', SoW W g d d' w'
open Go.Sort in
theorem soW_of (W : World) (g n : Nat) (d d' : Array En) (os : Array Obj) (hH : HoldsK encE 2 W g 0 d) (hg : g < W.heap.size) (hp : PermIn 0 d.size d d') (hs : SortedIn (ltOf cmpE) 0 d.size d') : SoW W g d d' (sortWorldK encE 2 W g 0 n d' os) := by
  have hsz : d'.size = d.size := hp.1
  refine ⟨rfl, rfl, rfl, size_sortWorldK_c encE 2 W g 0 n d' os, fun k hk hne => ?_, fun j v hj => ?_, ?_, ?_, ?_⟩
  · unfold sortWorldK
    show (_ ++ os)[k]? = _
    rw [Array.getElem?_append_left (by rw [size_putRowK]; exact hk)]
    unfold putRowK putRow mapBlock
    show (Array.modify _ _ _)[k]? = _
    rw [Array.getElem?_modify, if_neg (Ne.symm hne)]
    rfl
  · have hh := holdsK_sortWorldK_c encE 2 W g 0 d d' n os hH hg hsz
    have hjl : j < d'.size * 2 := by
      rcases Nat.lt_or_ge j (d'.size * 2) with q | q
      · exact q
      · rw [List.getElem?_eq_none (by rw [fl_len]; simp; omega)] at hj; cases hj
    have := (hh j (by rw [size_flatK]; exact hjl)).1
    rw [Nat.zero_add] at this
    rw [flat_fl d' j hjl] at hj
    exact this.trans hj
  · intro cs T hb
    refine ⟨putCells id 0 (flatK encE 2 d') cs, ?_⟩
    unfold Blk at hb ⊢
    unfold sortWorldK
    show (_ ++ os)[g]? = _
    rw [Array.getElem?_append_left (by rw [size_putRowK]; exact hg)]
    unfold putRowK putRow mapBlock
    show (Array.modify _ _ _)[g]? = _
    rw [Array.getElem?_modify, if_pos rfl]
    show Option.map _ (W.heap[g]?) = _
    rw [hb]
    rfl
  · have := hp.2.2
    rw [← hsz] at this
    simp only [Array.extract_size] at this
    rw [hsz] at this
    simpa using this
  · intro i j hij hj
    exact of_decide_eq_false (hs i j (Nat.zero_le _) hij (by omega))
theorem sortsE_small (m : Nat) (h : m ≤ 19) : SortsE m := by
  intro g cap d W hd hc hf hg
  subst hd
  have hH := holdsE hc hf
  refine (sortE_small g cap d W hH hg h).mono fun e w' ⟨he, n, os, hw⟩ => ⟨he, Go.Sort.insertionSort (ltOf cmpE) d 0 d.size, ?_⟩
  have hi := Go.Sort.insertionSort_holds (lt := ltOf cmpE) swoE d 0 d.size (Nat.zero_le _) (Nat.le_refl _)
  rw [hw]
  exact soW_of W g n d _ os hH hg hi.1 hi.2

theorem madeL_len : ∀ (pa : List DT) (ls : List VT), madeL pa = some ls → ls.length = pa.length
  | [], ls, h => by rw [madeL] at h; cases h; rfl
  | x :: r, ls, h => by
    rw [madeL] at h
    cases hx : madeT x with
    | none => rw [hx] at h; cases h
    | some v =>
      rw [hx] at h
      simp only at h
      cases hr : madeL r with
      | none => rw [hr] at h; cases h
      | some l =>
        rw [hr] at h
        simp only [Option.some.injEq] at h
        subst h
        rw [List.length_cons, List.length_cons, madeL_len r l hr]
theorem madeL_get : ∀ (pa : List DT) (ls : List VT), madeL pa = some ls → ∀ (k : Nat) x, pa[k]? = some x → ∃ V, ls[k]? = some V ∧ madeT x = some V
  | [], ls, h, k, x, hk => by simp at hk
  | y :: r, ls, h, k, x, hk => by
    rw [madeL] at h
    cases hx : madeT y with
    | none => rw [hx] at h; cases h
    | some v =>
      rw [hx] at h
      simp only at h
      cases hr : madeL r with
      | none => rw [hr] at h; cases h
      | some l =>
        rw [hr] at h
        simp only [Option.some.injEq] at h
        subst h
        cases k with
        | zero =>
          simp only [List.getElem?_cons_zero, Option.some.injEq] at hk ⊢
          subst hk
          exact ⟨v, rfl, hx⟩
        | succ k =>
          rw [List.getElem?_cons_succ] at hk ⊢
          exact madeL_get r l hr k x hk
theorem VAt.leaf_eq {w : World} {S : Nat → Prop} {u v : Value} (h : VAt w S u (.leaf v)) : u = v := by cases h; rfl
/-- What was made, two by two, as entries. -/
theorem entries_ex : ∀ (j : Nat) (pa : List DT) (us : List Value) (ls : List VT), pa.length = 2 * j → us.length = 2 * j → ls.length = 2 * j →
    (∀ (k : Nat) u, us[k]? = some u → ∃ t x, u = .iface t x) → (∀ (i : Nat) x u, pa[2 * i]? = some x → us[2 * i]? = some u → keyB x.de.k = true ∧ u = leafV x.de) →
    ∃ es : List En, es.length = j ∧ fl es = us ∧ es.map (fun e => (e.kv, e.V)) = entriesT pa ls ∧ ∀ e ∈ es, ∃ k : Nat, us[k]? = some e.u ∧ ls[k]? = some e.V
  | 0, pa, us, ls, h1, h2, h3, _, _ => by
    rw [List.eq_nil_of_length_eq_zero h1, List.eq_nil_of_length_eq_zero h2, List.eq_nil_of_length_eq_zero h3]
    exact ⟨[], rfl, rfl, rfl, fun e he => by cases he⟩
  | j + 1, x :: x' :: pa, u :: u' :: us, v :: v' :: ls, h1, h2, h3, hi, hk => by
    obtain ⟨es, e1, e2, e3, e4⟩ := entries_ex j pa us ls (by simp at h1; omega) (by simp at h2; omega) (by simp at h3; omega) (fun k y hy => hi (k + 2) y hy) (fun i y z hy hz => hk (i + 1) y z hy hz)
    obtain ⟨t, y, hu'⟩ := hi 1 u' rfl
    obtain ⟨hkb, hu⟩ := hk 0 x u rfl rfl
    refine ⟨⟨kvOf x.de, kvOf_ok x.de hkb, t, y, v'⟩ :: es, by rw [List.length_cons, e1], ?_, ?_, ?_⟩
    · show encE _ ++ fl es = _
      rw [e2]
      show kvV (kvOf x.de) :: Value.iface t y :: us = _
      rw [kvOf_val x.de hkb, ← hu, ← hu']
    · rw [List.map_cons, e3, entriesT]
    · intro e he
      rcases List.mem_cons.1 he with rfl | he
      · exact ⟨1, by rw [hu']; rfl, rfl⟩
      · obtain ⟨k, q1, q2⟩ := e4 e he
        exact ⟨k + 2, q1, q2⟩
  | j + 1, [], _, _, h1, _, _, _, _ => by simp at h1
  | j + 1, [_], _, _, h1, _, _, _, _ => by simp at h1; omega
  | j + 1, _ :: _ :: _, [], _, _, h2, _, _, _ => by simp at h2
  | j + 1, _ :: _ :: _, [_], _, _, h2, _, _, _ => by simp at h2; omega
  | j + 1, _ :: _ :: _, _ :: _ :: _, [], _, _, h3, _, _ => by simp at h3
  | j + 1, _ :: _ :: _, _ :: _ :: _, [_], _, _, h3, _, _ => by simp at h3; omega
abbrev enP (e : En) : KV × VT := (e.kv, e.V)
theorem flatT_len (l : List En) : (flatT (l.map enP)).length = 2 * l.length := by
  induction l with
  | nil => rfl
  | cons e r ih =>
    show (flatT (enP e :: r.map enP)).length = _
    rw [flatT, List.length_cons, List.length_cons, ih, List.length_cons]
    omega
theorem flat_kids {w : World} {S : Nat → Prop} : ∀ (es : List En), (∀ e ∈ es, VAt w S e.u e.V) → ∀ (i : Nat) u x, (fl es)[i]? = some u → (flatT (es.map enP))[i]? = some x → VAt w S u x
  | [], _, i, u, x, hu, _ => by simp [fl] at hu
  | e :: r, h, 0, u, x, hu, hx => by
    obtain ⟨t, y, hky⟩ := kv_iface e.kv
    have e1 : u = kvV e.kv := by
      have : (kvV e.kv :: e.u :: fl r)[0]? = some u := hu
      simpa using this.symm
    have e2 : x = .leaf (kvV e.kv) := by
      have : (VT.leaf (kvV e.kv) :: e.V :: flatT (r.map enP))[0]? = some x := hx
      simpa using this.symm
    rw [e1, e2]
    exact .leaf _ t y hky
  | e :: r, h, 1, u, x, hu, hx => by
    have e1 : u = e.u := by
      have : (kvV e.kv :: e.u :: fl r)[1]? = some u := hu
      simpa using this.symm
    have e2 : x = e.V := by
      have : (VT.leaf (kvV e.kv) :: e.V :: flatT (r.map enP))[1]? = some x := hx
      simpa using this.symm
    rw [e1, e2]
    exact h e (List.mem_cons_self ..)
  | e :: r, h, i + 2, u, x, hu, hx => flat_kids r (fun y hy => h y (List.mem_cons_of_mem _ hy)) i u x hu hx
/-- A sorted map. -/
theorem map_node {w wl W W' : World} {D : De} {pa : List DT} {lA : Option Addr} {lc i j g : Nat} {us : List Value} {ls : List VT} {es : List En} {d' : Array En} {mc M : Nat} (hI : GrI w D pa wl (.slice lA i lc) i us ls) (hM : wl.heap.size = M) (hb : Below M wl W) (hgM : M < g) (hgW : g < W.heap.size) {bcs : Array Value} (hgB : Blk W g bcs 252)
    (hes : ∀ e ∈ es, ∃ k : Nat, us[k]? = some e.u ∧ ls[k]? = some e.V) (hs : SoW W g es.toArray d' W') (hj : es.length = j) (ty : ByteArray) (hk : Int) :
    VAt W' (fun b => w.heap.size ≤ b) (.iface 198 (.agg #[.int .i64 21, .string ty, .int .i64 hk, .slice (some ⟨g, 0, none⟩) j mc])) (.node 21 ty hk 0 [] (flatT (d'.toList.map enP))) := by
  have hlen : d'.toList.length = j := by rw [hs.perm.length_eq]; exact hj
  have key := VAt.node (w := W') (S := fun b => w.heap.size ≤ b) 21 ty hk 0 [] (flatT (d'.toList.map enP)) (.slice (some ⟨g, 0, none⟩) j mc) (fl d'.toList) (by rw [fl_len, flatT_len]) (fun _ => ?_) (flat_kids d'.toList fun e he => ?_)
  · exact key
  · obtain ⟨cs', hcs'⟩ := hs.blk _ _ hgB
    refine ⟨some ⟨g, 0, none⟩, mc, ?_, fun _ => ⟨g, cs', 252, rfl, ?_, hcs', by decide, fun q v hq => ?_⟩⟩
    · show Value.slice _ j mc = .slice _ (itemN 21 (fl d'.toList)) mc
      unfold itemN
      rw [if_pos rfl, fl_len, hlen, Nat.mul_comm, Nat.mul_div_cancel _ (by decide)]
    · have := hI.bel.size
      show w.heap.size ≤ g
      omega
    · unfold rowC at hq
      rw [if_neg (by decide)] at hq
      rw [← hcs'.cell]
      exact hs.cells q v hq
  · have he' : e ∈ es := by simpa using hs.perm.mem_iff.1 he
    obtain ⟨k, h1, h2⟩ := hes e he'
    refine (hI.kids k e.u e.V h1 h2).mono fun b hbs hlt => ⟨hbs.1, ?_⟩
    have := hb.size
    rw [hs.far b (by omega) (by omega)]
    exact hb.block b (by omega)
theorem pair_idx {es : Array En} {k : Nat} (h : k < es.size) : es.toList[k]? = some es[k]! := by
  rw [getElem!_pos es k h]
  simp [h]
/-- No two neighbours alike: the row is the sorted one. -/
theorem sorted_of {W W' : World} {g : Nat} {es : List En} {d' : Array En} (hs : SoW W g es.toArray d' W') (hne : ∀ k, k + 1 < d'.size → cmpE d'[k]! d'[k + 1]! ≠ 0) : Sorted (es.map enP) (d'.toList.map enP) := by
  refine ⟨hs.perm.map _, ?_⟩
  rw [List.pairwise_map]
  have step : ∀ k, k + 1 < d'.size → cmpE d'[k]! d'[k + 1]! < 0 := fun k hk => by
    have h1 := hs.sorted k (k + 1) (by omega) hk
    have h2 := hne k hk
    have e1 := cmpK_L d'[k]!.kv d'[k + 1]!.kv d'[k]!.ok d'[k + 1]!.ok
    have e2 := cmpK_L d'[k + 1]!.kv d'[k]!.kv d'[k + 1]!.ok d'[k]!.ok
    have := c3_L.swap d'[k]!.kv d'[k + 1]!.kv
    unfold cmpE at h1 h2 ⊢
    omega
  have all : ∀ n i, i + n + 1 < d'.size → cmpE d'[i]! d'[i + n + 1]! < 0 := by
    intro n
    induction n with
    | zero => intro i hi; exact step i hi
    | succ n ih =>
      intro i hi
      have h1 := ih i (by omega)
      have h2 := step (i + n + 1) (by omega)
      have e1 := cmpK_L d'[i]!.kv d'[i + n + 1]!.kv d'[i]!.ok d'[i + n + 1]!.ok
      have e2 := cmpK_L d'[i + n + 1]!.kv d'[i + n + 1 + 1]!.kv d'[i + n + 1]!.ok d'[i + n + 1 + 1]!.ok
      have e3 := cmpK_L d'[i]!.kv d'[i + n + 1 + 1]!.kv d'[i]!.ok d'[i + n + 1 + 1]!.ok
      show cmpE d'[i]! d'[i + n + 1 + 1]! < 0
      unfold cmpE at h1 h2 ⊢
      rw [e1] at h1
      rw [e2] at h2
      rw [e3]
      exact c3_L.trans _ _ _ h1 h2
  rw [List.pairwise_iff_getElem]
  intro a b ha hb hab
  have := all (b - a - 1) a (by simp at hb; omega)
  rw [show a + (b - a - 1) + 1 = b by omega] at this
  rw [getElem!_pos d' a (by simpa using ha), getElem!_pos d' b (by simpa using hb)] at this
  simpa [cmpE] using this
/-- Two neighbours alike: there is no sorted row. -/
theorem sorted_no {W W' : World} {g k : Nat} {es : List En} {d' : Array En} (hs : SoW W g es.toArray d' W') (hk : k + 1 < d'.size) (h0 : cmpE d'[k]! d'[k + 1]! = 0) : ¬ ∃ s, Sorted (es.map enP) s := by
  rintro ⟨s, hp, hw⟩
  have h1 : s.Pairwise fun a b => ¬ (a.1.ok ∧ b.1.ok ∧ cmpK a.1 b.1 = 0) := hw.imp fun {a b} h hh => by have := hh.2.2; omega
  have h2 : (d'.toList.map enP).Pairwise fun a b => ¬ (a.1.ok ∧ b.1.ok ∧ cmpK a.1 b.1 = 0) := by
    refine (List.Perm.pairwise_iff (fun {a b} h hh => h ⟨hh.2.1, hh.1, ?_⟩) (hp.trans (hs.perm.map enP).symm)).1 h1
    have q1 := hh.2.2
    rw [cmpK_L _ _ hh.1 hh.2.1] at q1
    rw [cmpK_L _ _ hh.2.1 hh.1]
    have := c3_L.swap b.1 a.1
    omega
  rw [List.pairwise_map, List.pairwise_iff_getElem] at h2
  refine h2 k (k + 1) (by simp; omega) (by simp; omega) (by omega) ⟨En.ok _, En.ok _, ?_⟩
  rw [getElem!_pos d' k (by omega), getElem!_pos d' (k + 1) hk] at h0
  simpa [cmpE] using h0
set_option maxHeartbeats 2000000 in
set_option maxRecDepth 100000 in
theorem ins_zero (A : Option Addr) (c : Nat) (w : World) : Calls Tryz.prog 201 #[.slice A 0 c, .int .i64 0, .int .i64 0, .func (.func 159) #[] #[]] w fun e w' => e = .returned (.tuple #[]) ∧ w = w' := by
  go_enter Tryz.func201, Tryz.ntmps201
  go_wp2_with fail
  refine wp_loop_rounds 1 ?_
  rw [rounds_succ]
  go_wp2_with fail
  go_end0
  exact ⟨rfl, rfl⟩
set_option maxHeartbeats 2000000 in
set_option maxRecDepth 100000 in
theorem stable_zero (A : Option Addr) (c : Nat) (w : World) : Calls Tryz.prog 177 #[.slice A 0 c, .int .i64 0, .func (.func 159) #[] #[]] w fun e w' => e = .returned (.tuple #[]) ∧ w = w' := by
  have IZ := hid (fun W => ins_zero A c W)
  go_enter Tryz.func177, Tryz.ntmps177
  go_wp2_with fail
  refine wp_loop_rounds 1 ?_
  rw [rounds_succ]
  go_wp2_with fail
  refine (IZ.out _).mono ?_
  rintro e w1 ⟨rfl, rfl⟩
  go_wp2_with fail
  refine wp_loop_rounds 1 ?_
  rw [rounds_succ]
  go_wp2_with fail
  go_end0
  exact ⟨rfl, rfl⟩
set_option maxHeartbeats 2000000 in
set_option maxRecDepth 100000 in
theorem sort_zero (A : Option Addr) (c : Nat) (w : World) : Calls Tryz.prog 158 #[.slice A 0 c, .func (.func 159) #[] #[]] w fun e w' => e = .returned (.tuple #[]) ∧ w = w' := by
  have IZ := hid (fun W => stable_zero A c W)
  go_enter Tryz.func158, Tryz.ntmps158
  go_wp2_with fail
  refine (IZ.out _).mono ?_
  rintro e w1 ⟨rfl, rfl⟩
  go_wp2_with fail
  go_end0
  exact ⟨rfl, rfl⟩
theorem own_atz {w : World} {base n z : Nat} {e : TypeId} {A : Option Addr} {c : Nat} {xs : List Value} (h : w.ownsRow base e z (.slice A n c) n xs) (hn : 0 < n) :
    ∃ g, A = some ⟨g, 0, none⟩ ∧ base ≤ g ∧ g < w.heap.size ∧ (∀ (k : Nat) u, xs[k]? = some u → w.cell? ⟨g, k, none⟩ = some u) ∧ (∀ k, w.frozen? ⟨g, k, none⟩ = false) ∧ ∃ cur, Blk w g cur e := by
  rcases h.2 with ⟨h0, h1⟩ | ⟨g, cap, cur, h1, h2, h3, _⟩
  · omega
  · cases h1
    refine ⟨g, rfl, h2, Blk.lt (t := e) (cs := cur) h3, fun k u hu => ?_, fun k => Blk.frozen (t := e) (cs := cur) h3 k, cur, h3⟩
    have := h.cells (g := g) rfl k u hu
    rw [Addr.add_mid, Nat.zero_add] at this
    exact this
theorem madeT_key {x : DT} (h : keyB x.de.k = true) : madeT x = some (.leaf (leafV x.de)) := by
  obtain ⟨d, nm, pa⟩ := x
  have h' : keyB d.k = true := h
  have hg : great d.k = false := by
    unfold great
    have := of_decide_eq_true h'
    exact decide_eq_false (by omega)
  rw [madeT, hg]
  rfl
theorem fl_key (d : Array En) (k : Nat) (h : k < d.size) : (fl d.toList)[k * 2]? = some (kvV d[k]!.kv) := by
  rw [flat_fl d (k * 2) (by omega), Go.Sort.get_flatK _ _ _ _ (by omega)]
  rw [Nat.mul_div_cancel _ (by decide), Nat.mul_mod_left]
  rfl
theorem keys_of {w wl : World} {D : De} {pa : List DT} {v : Value} {i : Nat} {us : List Value} {ls : List VT} (hI : GrI w D pa wl v i us ls) (hm : madeL pa = some ls) (hk : ∀ (j : Nat) x, pa[2 * j]? = some x → keyB x.de.k = true) :
    (∀ (k : Nat) u, us[k]? = some u → ∃ t x, u = .iface t x) ∧ ∀ (i : Nat) x u, pa[2 * i]? = some x → us[2 * i]? = some u → keyB x.de.k = true ∧ u = leafV x.de := by
  have hl : ls.length = us.length := hI.lenl.trans hI.len.symm
  constructor
  · intro k u hu
    have hk : k < us.length := (List.getElem?_eq_some_iff.1 hu).1
    exact (hI.kids k u _ hu (List.getElem?_eq_getElem (by omega))).iface
  · intro i x u hx hu
    have hb := hk i x hx
    obtain ⟨V, hV, hm2⟩ := madeL_get pa ls hm (2 * i) x hx
    rw [madeT_key hb] at hm2
    cases hm2
    exact ⟨hb, (hI.kids (2 * i) u _ hu hV).leaf_eq⟩
theorem map_node0 {w W : World} (ty : ByteArray) (hk : Int) (mA : Option Addr) (mc : Nat) : VAt W (fun b => w.heap.size ≤ b) (.iface 198 (.agg #[.int .i64 21, .string ty, .int .i64 hk, .slice mA 0 mc])) (.node 21 ty hk 0 [] []) :=
  VAt.node (w := W) (S := fun b => w.heap.size ≤ b) 21 ty hk 0 [] [] (.slice mA 0 mc) [] rfl (fun _ => ⟨mA, mc, rfl, fun h => absurd rfl h⟩) (fun i u x hu => by simp at hu)
end Go.Proofs.YtdjhmanccoekjaaGreatDoor
end
