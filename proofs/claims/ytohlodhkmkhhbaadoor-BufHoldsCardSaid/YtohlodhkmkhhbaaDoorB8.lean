/-
  Walks of layer 1: a buffer's methods.
-/
import Derived.Test.YtohlodhkmkhhbaaDoorB7
import Derived.Lib.AppendStr
import Derived.Laws.OwnMore
namespace Go.Proofs.YtohlodhkmkhhbaaDoor
open Go.RowKit Go.Proofs

/-- Bytes as cells. -/
def bc (l : List UInt8) : List Value := l.map fun b => Value.int .u8 b.toNat
theorem bc_append (a b : List UInt8) : bc (a ++ b) = bc a ++ bc b := by simp [bc]
theorem strCells_bc (s : ByteArray) : Lib.strCells s = bc s.data.toList := rfl

/-- A block that is known whole. -/
def Blk (w : World) (g : Nat) (cs : Array Value) (t : TypeId) : Prop := w.heap[g]? = some (.cells cs t (0, 0))
section
variable {w w' : World} {g : Nat} {cs : Array Value} {t : TypeId}
theorem Blk.lt (h : Blk w g cs t) : g < w.heap.size := by
  rcases Nat.lt_or_ge g w.heap.size with hlt | hge
  · exact hlt
  · unfold Blk at h
    rw [Array.getElem?_eq_none hge] at h
    cases h
theorem Blk.cell (h : Blk w g cs t) (i : Nat) : w.cell? ⟨g, i, none⟩ = cs[i]? := cell_of_row w g i cs t (0, 0) h
theorem Blk.frozen (h : Blk w g cs t) (i : Nat) : w.frozen? ⟨g, i, none⟩ = false := by
  unfold Blk at h
  simp [World.frozen?, h]
theorem Blk.set_ (h : Blk w g cs t) (i : Nat) (u : Value) : Blk (w.setCell ⟨g, i, none⟩ u) g (cs.setIfInBounds i u) t := by
  unfold Blk at h ⊢
  simp [World.setCell, Array.getElem?_modify, h]
theorem Blk.same (h : Blk w g cs t) (e : w'.heap[g]? = w.heap[g]?) : Blk w' g cs t := e.trans h
theorem Blk.new (w : World) (cs : Array Value) (t : TypeId) : Blk (w.alloc (.cells cs t)) w.heap.size cs t := heap_alloc_new w _
end

/-- Below B all but block b is as it was. -/
structure OnlyB (B b : Nat) (w w' : World) : Prop where
  os : w'.os = w.os
  tape : w'.tape = w.tape
  output : w'.output = w.output
  size : w.heap.size ≤ w'.heap.size
  block : ∀ k, k < B → k ≠ b → w'.heap[k]? = w.heap[k]?
  kept : ∀ k cs t, k ≠ b → t ≠ 5 → Blk w k cs t → Blk w' k cs t
theorem OnlyB.refl (B b : Nat) (w : World) : OnlyB B b w w := ⟨rfl, rfl, rfl, Nat.le_refl _, fun _ _ _ => rfl, fun _ _ _ _ _ h => h⟩
theorem OnlyB.trans {B b : Nat} {a c d : World} (h : OnlyB B b a c) (k : OnlyB B b c d) : OnlyB B b a d :=
  ⟨k.os.trans h.os, k.tape.trans h.tape, k.output.trans h.output, Nat.le_trans h.size k.size, fun i hi hb => (k.block i hi hb).trans (h.block i hi hb), fun i cs t h1 h2 h3 => k.kept i cs t h1 h2 (h.kept i cs t h1 h2 h3)⟩
theorem OnlyB.below {B b : Nat} {a c : World} (h : OnlyB B b a c) {B' : Nat} (h1 : B' ≤ B) (h2 : B' ≤ b) : Below B' a c :=
  ⟨h.os, h.tape, h.output, h.size, fun k hk => h.block k (by omega) (by omega)⟩

/-- The buffer in block b holds all that was put. -/
def BufAt (w : World) (B b : Nat) (all : List UInt8) : Prop :=
  ∃ v, Blk w b #[v, .int .i64 all.length] 44 ∧ w.ownsRow B 5 1 v (min 4096 all.length) (bc (all.take 4096))

theorem BufAt.same {w w' : World} {B b : Nat} {all : List UInt8} (h : BufAt w B b all) (e : ∀ k, k < w.heap.size → k = b ∨ B ≤ k → w'.heap[k]? = w.heap[k]?) : BufAt w' B b all := by
  obtain ⟨v, hb, ho⟩ := h
  refine ⟨v, hb.same (e b hb.lt (.inl rfl)), ho.1, ?_⟩
  rcases ho.2 with h0 | ⟨g, cap, cur, h1, h2, h3, h4⟩
  · exact .inl h0
  · exact .inr ⟨g, cap, cur, h1, h2, (e g (Blk.lt (t := 5) h3) (.inr h2)).trans h3, h4⟩

theorem info_u8 : (Tryd.prog.info? 5).map (fun i => (i.zero, i.size, i.bytes)) = some (some (.int .u8 0), 1, 1) := by kernel_rfl

theorem take_put (all l : List UInt8) (n : Nat) (hn : n = min 4096 all.length) :
    (if 4096 - n < l.length then l.take (4096 - n) else l).length = min 4096 (all.length + l.length) - n ∧ all.take 4096 ++ (if 4096 - n < l.length then l.take (4096 - n) else l) = (all ++ l).take 4096 := by
  have h1 : (4096 - n) = 4096 - all.length := by omega
  rw [h1, List.take_append]
  constructor
  · split
    · rw [List.length_take]; omega
    · omega
  · split
    · rfl
    · rw [List.take_of_length_le (l := l) (by omega)]

theorem slice_form {w : World} {base n : Nat} {e : TypeId} {v : Value} {xs : List Value} (h : w.ownsRow base e 1 v n xs) : ∃ A c, v = .slice A n c := by
  rcases h.2 with ⟨rfl, rfl⟩ | ⟨g, cap, cur, rfl, _⟩
  · exact ⟨none, 0, rfl⟩
  · exact ⟨_, cap, rfl⟩
theorem own_set {w : World} {base n : Nat} {e : TypeId} {v : Value} {xs : List Value} (h : w.ownsRow base e 1 v n xs) {p : Addr} (hp : p.block < base) (u : Value) : (w.setCell p u).ownsRow base e 1 v n xs := by
  refine ⟨h.1, ?_⟩
  rcases h.2 with h0 | ⟨g, cap, cur, h1, h2, h3, h4⟩
  · exact .inl h0
  · exact .inr ⟨g, cap, cur, h1, h2, (Below.heap_setCell w p u g (by omega)).trans h3, h4⟩

theorem own_ge {w : World} {base n : Nat} {e : TypeId} {v : Value} {xs : List Value} (h : w.ownsRow base e 1 v n xs) {g : Nat} (hg : v.ownBlock = some g) : base ≤ g := by
  rcases h.2 with ⟨rfl, _⟩ | ⟨g', cap, cur, rfl, h2, _⟩
  · cases hg
  · simp only [Value.ownBlock, Option.some.injEq] at hg
    omega

/-- What is left behind the append and the last store. -/
theorem put_end {w w1 : World} {B b n : Nat} {all l : List UInt8} {A A1 : Option Addr} {c c1 : Nat} {L : Int} {t : ByteArray} (hb : Blk w b #[.slice A n c, .int .i64 L] 44) (hB : B ≤ w.heap.size) (hbB : b < B)
    (ho : w.ownsRow B 5 1 (.slice A n c) n (bc (all.take 4096))) (hn : n = min 4096 all.length) (hL : L = all.length) {s : Int} (hl : (l.length : Int) = s)
    (hp : t.size = min 4096 (all.length + l.length) - n ∧ all.take 4096 ++ t.data.toList = (all ++ l).take 4096)
    (ho3 : w1.ownsRow B 5 1 (.slice A1 (n + t.size) c1) (n + t.size) (bc (all.take 4096) ++ Lib.strCells t))
    (hg : (w.setCell ⟨b, 1, none⟩ (.int .i64 (L + s))).grownBy w1 (Value.slice A n c).ownBlock) :
    Blk w1 b #[.slice A n c, .int .i64 (L + s)] 44 ∧ BufAt (w1.setCell ⟨b, 0, none⟩ (.slice A1 (n + t.size) c1)) B b (all ++ l) ∧ OnlyB B b w (w1.setCell ⟨b, 0, none⟩ (.slice A1 (n + t.size) c1)) := by
  have hsz : (w.setCell ⟨b, 1, none⟩ (.int .i64 (L + s))).heap.size = w.heap.size := by simp [World.setCell]
  have hne : ∀ k, k < B → some k ≠ (Value.slice A n c).ownBlock := fun k hk e => by
    have := own_ge ho e.symm
    omega
  have hb2 : Blk (w.setCell ⟨b, 1, none⟩ (.int .i64 (L + s))) b #[.slice A n c, .int .i64 (L + s)] 44 := hb.set_ 1 _
  have hb3 : Blk w1 b #[.slice A n c, .int .i64 (L + s)] 44 := hb2.same (hg.block b (by rw [hsz]; exact hb.lt) (hne b hbB))
  refine ⟨hb3, ⟨.slice A1 (n + t.size) c1, ?_, ?_⟩, ⟨hg.os, hg.tape, hg.output, ?_, fun k hk hkb => ?_, fun k cs ty hkb hty hk => ?_⟩⟩
  · have := hb3.set_ 0 (.slice A1 (n + t.size) c1)
    have e : (L + s : Int) = ((all ++ l).length : Nat) := by rw [List.length_append, hL, ← hl]; omega
    rw [e] at this
    exact this
  · have e : n + t.size = min 4096 (all ++ l).length := by rw [List.length_append]; omega
    have := own_set ho3 (p := ⟨b, 0, none⟩) hbB (.slice A1 (n + t.size) c1)
    rw [strCells_bc, ← bc_append, hp.2] at this
    rw [← e]
    exact this
  · have := hg.size
    rw [hsz] at this
    simpa [World.setCell] using this
  · rw [Below.heap_setCell _ _ _ _ hkb, hg.block k (by rw [hsz]; omega) (hne k hk), Below.heap_setCell _ _ _ _ hkb]
  · have hrow : some k ≠ (Value.slice A n c).ownBlock := fun e => by
      rcases ho.2 with ⟨h1, _⟩ | ⟨g, cap, cur, h1, h2, h3, _⟩
      · rw [h1] at e; cases e
      · rw [h1] at e
        simp only [Value.ownBlock, Option.some.injEq] at e
        subst e
        unfold Blk at hk
        rw [h3] at hk
        injection hk with hk
        injection hk with _ hk
        exact hty hk.symm
    unfold Blk at hk ⊢
    rw [Below.heap_setCell _ _ _ _ hkb, hg.block k (by rw [hsz]; exact Blk.lt hk) hrow, Below.heap_setCell _ _ _ _ hkb]
    exact hk

set_option maxRecDepth 100000 in
set_option maxHeartbeats 1000000 in
theorem put_any (B b : Nat) (all : List UInt8) (s : ByteArray) (w : World) (h : BufAt w B b all) (hB : B ≤ w.heap.size) (hbB : b < B) (hal : all.length ≤ 4611686018427387904) (hsl : s.size ≤ 140737488355328) :
    Calls Tryd.prog 27 #[.pointer (some ⟨b, 0, none⟩), .string s] w fun e w' => e = .returned (.tuple #[]) ∧ BufAt w' B b (all ++ s.data.toList) ∧ OnlyB B b w w' := by
  obtain ⟨i0, hi, hz0, hz1, hz2⟩ := info_parts info_u8
  obtain ⟨v, hb, ho⟩ := h
  obtain ⟨n, hn⟩ : ∃ n, n = min 4096 all.length := ⟨_, rfl⟩
  have hn4 : n ≤ 4096 := by omega
  rw [← hn] at ho
  obtain ⟨L, hL⟩ : ∃ L : Int, L = all.length := ⟨_, rfl⟩
  rw [← hL] at hb
  have hL0 : 0 ≤ L := by omega
  have hL1 : L ≤ 4611686018427387904 := by omega
  have HN := hid hn
  have HL := hid hL
  clear hn hL
  obtain ⟨A, c, hv⟩ := slice_form ho
  subst hv
  have hc0 : w.cell? ⟨b, 0, none⟩ = some (.slice A n c) := hb.cell 0
  have hc1 : w.cell? ⟨b, 1, none⟩ = some (.int .i64 L) := hb.cell 1
  have hf0 := hb.frozen 0
  have hf1 := hb.frozen 1
  obtain ⟨t, ht⟩ : ∃ t : ByteArray, t = if 4096 - n < s.size then s.extract 0 (4096 - n) else s := ⟨_, rfl⟩
  have htl : t.data.toList = if 4096 - n < s.data.toList.length then s.data.toList.take (4096 - n) else s.data.toList := by
    rw [ht, ← Utf.size_eq]
    split
    · rw [Lib.extract_data]; simp
    · rfl
  have hp := take_put all s.data.toList n HN.out
  rw [← htl, ← Utf.size_eq, ← Utf.size_eq] at hp
  have htz : t.size ≤ 4096 - n := by omega
  have hb2 := hb.set_ 1 (.int .i64 (L + s.size))
  have ho2 := own_set ho (p := ⟨b, 1, none⟩) hbB (.int .i64 (L + s.size))
  have hB2 : B ≤ (w.setCell ⟨b, 1, none⟩ (.int .i64 (L + s.size))).heap.size := by simpa [World.setCell] using hB
  have HE := hid ht
  have HP := hid hp
  clear ht hp htl
  go_enter Tryd.func27, Tryd.ntmps27
  by_cases hr : 4096 - n < s.size
  · have hrt : s.extract 0 (4096 - n) = t := by rw [HE.out, if_pos hr]
    go_wp2_with (at_builtin; refine Lib.wpList_append_own_string _ rfl _ _ 42 9 rfl B 5 i0 Tryd.underlying42 Tryd.underlying9 hi hz0 hz1 hz2 _ n _ rfl ho2 t rfl ?c3 ?c4 ?c5 ?_)
    case c3 => unfold maxLen; omega
    case c4 => omega
    case c5 => exact hB2
    intro v1 w1 ho3 hg3 _
    obtain ⟨A1, c1, hv1⟩ := slice_form ho3
    subst hv1
    obtain ⟨hb3, hbe, hoe⟩ := put_end hb hB hbB ho HN.out HL.out (l := s.data.toList) (by rw [← Utf.size_eq]) (by rw [← Utf.size_eq]; exact HP.out) ho3 hg3
    have hd0 : w1.cell? ⟨b, 0, none⟩ = some (.slice A n c) := hb3.cell 0
    have he0 := hb3.frozen 0
    have HBE := hid hbe
    have HOE := hid hoe
    clear hb3 hbe hoe ho3 hg3
    go_wp2_with fail
    go_end0
    exact ⟨rfl, HBE.out, HOE.out⟩
  · have hrt : t = s := by rw [HE.out, if_neg hr]
    subst hrt
    go_wp2_with (at_builtin; refine Lib.wpList_append_own_string _ rfl _ _ 42 9 rfl B 5 i0 Tryd.underlying42 Tryd.underlying9 hi hz0 hz1 hz2 _ n _ rfl ho2 t rfl ?c3 ?c4 ?c5 ?_)
    case c3 => unfold maxLen; omega
    case c4 => omega
    case c5 => exact hB2
    intro v1 w1 ho3 hg3 _
    obtain ⟨A1, c1, hv1⟩ := slice_form ho3
    subst hv1
    obtain ⟨hb3, hbe, hoe⟩ := put_end hb hB hbB ho HN.out HL.out (l := t.data.toList) (by rw [← Utf.size_eq]) (by rw [← Utf.size_eq]; exact HP.out) ho3 hg3
    have hd0 : w1.cell? ⟨b, 0, none⟩ = some (.slice A n c) := hb3.cell 0
    have he0 := hb3.frozen 0
    have HBE := hid hbe
    have HOE := hid hoe
    clear hb3 hbe hoe ho3 hg3
    go_wp2_with fail
    go_end0
    exact ⟨rfl, HBE.out, HOE.out⟩
end Go.Proofs.YtohlodhkmkhhbaaDoor
