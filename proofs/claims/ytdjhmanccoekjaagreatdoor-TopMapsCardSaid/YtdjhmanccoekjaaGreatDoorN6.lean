/-
  Texts of this claim, joined: TE, TC, TF, TG0.
-/
import Derived.Lib.ConvBytes
import Derived.Lib.AppendStr
import Derived.Laws.OwnMore
import Derived.Test.YtdjhmanccoekjaaGreatDoorN5
import Derived.Test.YtdjhmanccoekjaaGreatDoorN1

section
namespace Go.Proofs.YtdjhmanccoekjaaGreatDoor
open Go.RowKit Go.Proofs

def typedL (l : List UInt8) : Bool := l.all fun c => decide (33 ≤ c.toNat ∧ c.toNat ≤ 126)
/-- A type's name. -/
def typedB (s : ByteArray) : Bool := typedL s.data.toList && decide (s.size ≤ 32)
theorem typedL_cons (c : UInt8) (l : List UInt8) : typedL (c :: l) = (decide (33 ≤ c.toNat ∧ c.toNat ≤ 126) && typedL l) := rfl
theorem below_bytesW (w : World) (e : TypeId) (s : ByteArray) : Below w.heap.size w (Lib.bytesWorld w e s) :=
  ⟨rfl, rfl, rfl, by rw [Lib.bytesWorld_size]; omega, fun k hk => Lib.bytesWorld_at_old w e s k hk⟩
theorem drop_get {l : List UInt8} {i : Nat} (h : i < l.length) : l.drop i = l.getD i 0 :: l.drop (i + 1) := by
  rw [List.drop_eq_getElem_cons h, List.getD_eq_getElem?_getD, List.getElem?_eq_getElem h]
  rfl
set_option maxRecDepth 100000 in
set_option maxHeartbeats 1000000 in
theorem typed_any (s : ByteArray) (w : World) (hs : s.size ≤ 140737488355328) :
    Calls Tryz.prog 122 #[.string s] w fun e w' => e = .returned (.bool (typedB s)) ∧ Below w.heap.size w w' := by
  have hcv := Lib.run_convert_string_bytes (P := Tryz.prog) w 9 50 5 s Tryz.underlying9 Tryz.underlying50 Tryz.underlying5
  obtain ⟨N, hN⟩ : ∃ N, typedB s = N := ⟨_, rfl⟩
  rw [hN]
  have HN := hid hN
  clear hN
  have hbw := below_bytesW w 5 s
  have hcl := hid (Lib.bytesWorld_cell w 5 s)
  go_enter Tryz.func122, Tryz.ntmps122
  go_wp2_with fail
  obtain ⟨W1, hW1⟩ : ∃ W1, Lib.bytesWorld w 5 s = W1 := ⟨_, rfl⟩
  rw [hW1] at hbw hcl ⊢
  clear hcv hW1
  go_loopw [8] (fun iv wr => ∃ (i : Nat), iv = .int .i64 i ∧ i ≤ s.size ∧ wr = W1 ∧ Hid ((typedL (s.data.toList.drop i) && decide (s.size ≤ 32)) = N)) (fun iv _ => s.size - (match iv with | .int _ n => n.toNat | _ => 0))
  case atStart => exact ⟨0, rfl, Nat.zero_le _, rfl, HN⟩
  case round =>
    obtain ⟨i, rfl, hi, rfl, hk⟩ := hrel
    by_cases hp : i < s.size
    · have hlen : i < s.data.toList.length := by rw [← Utf.size_eq]; exact hp
      have hci := hcl.out i hp
      have hst := hk.out
      rw [drop_get hlen, typedL_cons] at hst
      obtain ⟨c, hc⟩ : ∃ c : Int, ((s.data.toList.getD i 0).toNat : Int) = c := ⟨_, rfl⟩
      rw [hc] at hci
      have hcc : decide (33 ≤ (s.data.toList.getD i 0).toNat ∧ (s.data.toList.getD i 0).toNat ≤ 126) = decide (33 ≤ c ∧ c ≤ 126) := by congr 1; apply propext; omega
      rw [hcc] at hst
      clear hc hcc
      have HST := hid hst
      clear hst
      by_cases h1 : c < 33
      · go_wp2_with fail
        go_ret
        have := HST.out
        rw [decide_eq_false (by omega)] at this
        simp only [Bool.false_and] at this
        subst this
        exact ⟨rfl, hbw⟩
      by_cases h2 : 126 < c
      · go_wp2_with fail
        go_ret
        have := HST.out
        rw [decide_eq_false (by omega)] at this
        simp only [Bool.false_and] at this
        subst this
        exact ⟨rfl, hbw⟩
      · go_wp2_with fail
        go_roundw
        case rel =>
          refine ⟨i + 1, by first | rfl | go_num, hp, by first | trivial | rfl, ?_⟩
          have := HST.out
          rw [decide_eq_true (by omega)] at this
          exact hid (by simpa using this)
        case measure => go_num
    · go_wp2_with fail
      go_ret
      have e : s.data.toList.drop i = [] := List.drop_eq_nil_of_le (by rw [← Utf.size_eq]; omega)
      have := hk.out
      rw [e] at this
      refine ⟨?_, hbw⟩
      rw [← this]
      show Ending.returned (.bool (decide ((s.size : Int) ≤ 32))) = .returned (.bool (true && decide (s.size ≤ 32)))
      rw [Bool.true_and]
      congr 2
      simp
      omega
/-- A descriptor without parts has no error of its own. -/
def formB (d : De) : Bool := decide (d.k = 0) || typedB d.ty
set_option maxRecDepth 100000 in
set_option maxHeartbeats 1000000 in
theorem formed_leaf (d : De) (w : World) (hs : d.ty.size ≤ 140737488355328) (h : ¬ (18 ≤ d.k ∧ d.k ≤ 22)) :
    Calls Tryz.prog 96 #[.agg (deV d)] w fun e w' => e = .returned (.bool (formB d)) ∧ Below w.heap.size w w' := by
  obtain ⟨k, ty, b, im, t, nm, pa, hk⟩ := d
  simp only at hs h ⊢
  have TY := hid (fun W => typed_any ty W hs)
  have g1 : (k == 18) = false := by simp; omega
  have g2 : (k == 21) = false := by simp; omega
  have g3 : (k == 22) = false := by simp; omega
  by_cases h0 : k = 0
  · subst h0
    clear h
    go_enter Tryz.func96, Tryz.ntmps96
    go_wp2_with fail
    go_ret
    exact ⟨rfl, (Below.refl _ _).alloc (Nat.le_refl _) _⟩
  · have h00 : (k == 0) = false := by simpa using h0
    have h01 : (k != 0) = true := by simpa using h0
    have hf : formB ⟨k, ty, b, im, t, nm, pa, hk⟩ = typedB ty := by
      unfold formB
      simp [h0]
    rw [hf]
    obtain ⟨x, hx⟩ : ∃ x, typedB ty = x := ⟨_, rfl⟩
    rw [hx] at TY ⊢
    clear h h0 hf hx
    have A0 := hid (Blk.new w (deV ⟨k, ty, b, im, t, nm, pa, hk⟩) 29)
    go_enter Tryz.func96, Tryz.ntmps96
    go_wp2_with fail
    refine (TY.out _).mono ?_
    rintro e w1 ⟨rfl, hb⟩
    obtain ⟨hb1, hA⟩ := box_below hb
    have HB := hid hb1
    obtain ⟨B, hB⟩ : ∃ B, w.heap.size = B := ⟨_, rfl⟩
    rw [hB] at hA ⊢
    have c0 : w1.cell? ⟨B, 0, none⟩ = some (.int .i64 k) := hA.cell 0
    clear hb hb1 hA hB
    cases x
    · go_wp2_with fail
      go_ret
      exact ⟨rfl, HB.out⟩
    · go_wp2_with fail
      go_ret
      exact ⟨rfl, HB.out⟩
set_option maxRecDepth 100000 in
set_option maxHeartbeats 1000000 in
theorem b2_ok (d : De) (w : World) (h : 0 ≤ d.k ∧ d.k ≤ 22) :
    Calls Tryz.prog 94 #[.agg (deV d)] w fun e w' => e = .returned (.tuple #[]) ∧ Below w.heap.size w w' := by
  obtain ⟨k, ty, b, im, t, nm, pa, hk⟩ := d
  simp only at h ⊢
  have MU := hid (fun W => must_ok 3 W)
  have d0 : decide (0 ≤ k) = true := by simp; omega
  have d1 : decide (k ≤ 22) = true := by simp; omega
  have d2 : decide (k ≥ 0) = true := by simp; omega
  go_enter Tryz.func94, Tryz.ntmps94
  go_wp2_with fail
  trace_state
  refine (MU.out _).mono ?_
  rintro e w1 ⟨rfl, rfl⟩
  go_wp2_with fail
  go_end0
  exact ⟨rfl, (Below.refl _ _).alloc (Nat.le_refl _) _⟩
set_option maxRecDepth 100000 in
set_option maxHeartbeats 1000000 in
theorem b3_ok (d : De) (w : World) (FO : ∀ W, Below w.heap.size w W → Calls Tryz.prog 96 #[.agg (deV d)] W fun e w' => e = .returned (.bool true) ∧ Below W.heap.size W w') :
    Calls Tryz.prog 95 #[.agg (deV d)] w fun e w' => e = .returned (.tuple #[]) ∧ Below w.heap.size w w' := by
  have MU := hid (fun W => must_ok 4 W)
  have B0 := hid ((Below.refl w.heap.size w).alloc (Nat.le_refl _) (.cells (deV d) 29))
  have F0 := hid (FO _ B0.out)
  clear FO
  go_enter Tryz.func95, Tryz.ntmps95
  go_wp2_with fail
  refine F0.out.mono ?_
  rintro e w1 ⟨rfl, hb⟩
  have HB := hid (B0.out.trans (hb.mono B0.out.size))
  clear hb
  go_wp2_with fail
  refine (MU.out _).mono ?_
  rintro e w1 ⟨rfl, rfl⟩
  go_wp2_with fail
  go_end0
  exact ⟨rfl, HB.out⟩
end Go.Proofs.YtdjhmanccoekjaaGreatDoor
end

section
namespace Go.Proofs.YtdjhmanccoekjaaGreatDoor
open Go.RowKit Go.Proofs

theorem st_cells (s : ByteArray) : Lib.strCells s = bc s.data.toList := rfl
theorem sl_form {w : World} {base n : Nat} {e : TypeId} {v : Value} {xs : List Value} (h : w.ownsRow base e 1 v n xs) : ∃ A c, v = .slice A n c := by
  rcases h.2 with ⟨rfl, rfl⟩ | ⟨g, cap, cur, rfl, _⟩
  · exact ⟨none, 0, rfl⟩
  · exact ⟨_, cap, rfl⟩
theorem own_set' {w : World} {base n : Nat} {e : TypeId} {v : Value} {xs : List Value} (h : w.ownsRow base e 1 v n xs) {p : Addr} (hp : p.block < base) (u : Value) : (w.setCell p u).ownsRow base e 1 v n xs := by
  refine ⟨h.1, ?_⟩
  rcases h.2 with h0 | ⟨g, cap, cur, h1, h2, h3, h4⟩
  · exact .inl h0
  · exact .inr ⟨g, cap, cur, h1, h2, (Below.heap_setCell w p u g (by omega)).trans h3, h4⟩
/-- A block of cells of another type than bytes, other than b, stays; what lies below b stays. -/
structure Kp (b : Nat) (w w' : World) : Prop where
  os : w'.os = w.os
  tape : w'.tape = w.tape
  output : w'.output = w.output
  size : w.heap.size ≤ w'.heap.size
  block : ∀ k, k < b → w'.heap[k]? = w.heap[k]?
  kept : ∀ k cs t, k ≠ b → t ≠ 5 → Blk w k cs t → Blk w' k cs t
theorem Kp.refl (b : Nat) (w : World) : Kp b w w := ⟨rfl, rfl, rfl, Nat.le_refl _, fun _ _ => rfl, fun _ _ _ _ _ h => h⟩
theorem Kp.trans {b : Nat} {a c d : World} (h : Kp b a c) (k : Kp b c d) : Kp b a d :=
  ⟨k.os.trans h.os, k.tape.trans h.tape, k.output.trans h.output, Nat.le_trans h.size k.size, fun i hi => (k.block i hi).trans (h.block i hi), fun i cs t h1 h2 h3 => k.kept i cs t h1 h2 (h.kept i cs t h1 h2 h3)⟩
theorem Kp.below {b B : Nat} {a c : World} (h : Kp b a c) (h1 : B ≤ b) : Below B a c :=
  ⟨h.os, h.tape, h.output, h.size, fun k hk => h.block k (by omega)⟩
theorem Kp.of_below {b : Nat} {a c : World} (hb : b < a.heap.size) (h : Below a.heap.size a c) : Kp b a c :=
  ⟨h.os, h.tape, h.output, h.size, fun k hk => h.block k (by omega), fun k cs t _ _ hk => hk.below h hk.lt⟩
theorem Kp.alloc {b : Nat} {a c : World} (h : Kp b a c) (hb : b < c.heap.size) (o : Obj) : Kp b a (c.alloc o) :=
  h.trans (Kp.of_below hb ((Below.refl _ _).alloc (Nat.le_refl _) o))
theorem Kp.drew {b : Nat} {a c : World} (h : Kp b a c) : Kp b a c.drew := ⟨h.os, h.tape, h.output, h.size, h.block, h.kept⟩
theorem Kp.drewN {b : Nat} {a c : World} (h : Kp b a c) (n : Nat) : Kp b a (c.drewN n) := ⟨h.os, h.tape, h.output, h.size, h.block, h.kept⟩
theorem Kp.set_ {b : Nat} {a c : World} (h : Kp b a c) (i : Nat) (u : Value) : Kp b a (c.setCell ⟨b, i, none⟩ u) :=
  h.trans ⟨rfl, rfl, rfl, by simp [World.setCell], fun k hk => Below.heap_setCell c _ u k (by show k ≠ b; omega), fun k cs t hk _ hq => hq.far hk u⟩

/-- A print under way. -/
structure St where
  all : List UInt8
  dep : Int
  tab : Value
  args : List Value
  next : Int
  reo : Bool
/-- It lies in block b. -/
structure StAt (w : World) (b : Nat) (s : St) (v va : Value) : Prop where
  blk : Blk w b #[v, .int .i64 s.all.length, .int .i64 s.dep, s.tab, va, .int .i64 s.next, .bool s.reo] 87
  own : w.ownsRow (b + 1) 5 1 v (min 4096 s.all.length) (bc (s.all.take 4096))
  arg : w.ownsRow (b + 1) 103 1 va s.args.length s.args
theorem StAt.lt {w : World} {b : Nat} {s : St} {v va : Value} (h : StAt w b s v va) : b < w.heap.size := h.blk.lt
theorem own_block {w w' : World} {B n : Nat} {e : TypeId} {v : Value} {xs : List Value} (h : w.ownsRow B e 1 v n xs) (hs : ∀ k cs, B ≤ k → Blk w k cs e → Blk w' k cs e) : w'.ownsRow B e 1 v n xs := by
  refine ⟨h.1, ?_⟩
  rcases h.2 with h0 | ⟨g, cap, cur, h1, h2, h3, h4⟩
  · exact .inl h0
  · exact .inr ⟨g, cap, cur, h1, h2, hs g cur h2 h3, h4⟩
theorem StAt.below {w w' : World} {b : Nat} {s : St} {v va : Value} (h : StAt w b s v va) (hb : Below w.heap.size w w') : StAt w' b s v va :=
  ⟨h.blk.below hb h.lt, own_block h.own fun _ _ _ hk => hk.below hb hk.lt, own_block h.arg fun _ _ _ hk => hk.below hb hk.lt⟩
theorem StAt.drew {w : World} {b : Nat} {s : St} {v va : Value} (h : StAt w b s v va) : StAt w.drew b s v va := h.below (Below.refl _ _).drew
theorem u8_ne : (103 : TypeId) ≠ 5 := by decide
theorem StAt.set_ {w : World} {b : Nat} {s : St} {v va : Value} (h : StAt w b s v va) (i : Nat) (u : Value) (s' : St) (hs : #[v, Value.int .i64 s'.all.length, .int .i64 s'.dep, s'.tab, va, .int .i64 s'.next, .bool s'.reo] = (#[v, Value.int .i64 s.all.length, .int .i64 s.dep, s.tab, va, .int .i64 s.next, .bool s.reo] : Array Value).setIfInBounds i u) (h1 : s'.all = s.all) (h2 : s'.args = s.args) : StAt (w.setCell ⟨b, i, none⟩ u) b s' v va := by
  refine ⟨?_, ?_, ?_⟩
  · rw [hs]; exact h.blk.set_ i u
  · rw [h1]; exact own_set' h.own (by show b < b + 1; omega) u
  · rw [h2]; exact own_set' h.arg (by show b < b + 1; omega) u

theorem st_take (all l : List UInt8) (n : Nat) (hn : n = min 4096 all.length) :
    (if 4096 - n < l.length then l.take (4096 - n) else l).length = min 4096 (all.length + l.length) - n ∧ all.take 4096 ++ (if 4096 - n < l.length then l.take (4096 - n) else l) = (all ++ l).take 4096 := by
  have h1 : (4096 - n) = 4096 - all.length := by omega
  rw [h1, List.take_append]
  constructor
  · split
    · rw [List.length_take]; omega
    · omega
  · split
    · rfl
    · rw [List.take_of_length_le (l := l) (by omega)]
/-- What is left behind the append and the last store. -/
theorem st_end {w w1 : World} {b n : Nat} {st : St} {l : List UInt8} {A A1 : Option Addr} {c c1 : Nat} {va : Value} {L : Int} {t : ByteArray}
    (h : StAt w b st (.slice A n c) va) (hn : n = min 4096 st.all.length) (hL : L = st.all.length) {s : Int} (hl : (l.length : Int) = s)
    (hp : t.size = min 4096 (st.all.length + l.length) - n ∧ st.all.take 4096 ++ t.data.toList = (st.all ++ l).take 4096)
    (ho3 : w1.ownsRow (b + 1) 5 1 (.slice A1 (n + t.size) c1) (n + t.size) (bc (st.all.take 4096) ++ Lib.strCells t))
    (hg : (w.setCell ⟨b, 1, none⟩ (.int .i64 (L + s))).grownBy w1 (Value.slice A n c).ownBlock) :
    Blk w1 b #[.slice A n c, .int .i64 (L + s), .int .i64 st.dep, st.tab, va, .int .i64 st.next, .bool st.reo] 87 ∧ StAt (w1.setCell ⟨b, 0, none⟩ (.slice A1 (n + t.size) c1)) b { st with all := st.all ++ l } (.slice A1 (n + t.size) c1) va ∧ Kp b w (w1.setCell ⟨b, 0, none⟩ (.slice A1 (n + t.size) c1)) := by
  obtain ⟨hb, ho, ha⟩ := h
  have hsz : (w.setCell ⟨b, 1, none⟩ (.int .i64 (L + s))).heap.size = w.heap.size := by simp [World.setCell]
  have hne : ∀ k, k < b + 1 → some k ≠ (Value.slice A n c).ownBlock := fun k hk e => by
    have := own_ge ho e.symm
    omega
  have hb2 := hb.set_ 1 (.int .i64 (L + s))
  have hb3 : Blk w1 b #[.slice A n c, .int .i64 (L + s), .int .i64 st.dep, st.tab, va, .int .i64 st.next, .bool st.reo] 87 := hb2.same (hg.block b (by rw [hsz]; exact hb.lt) (hne b (by omega)))
  have hkept : ∀ k cs t', k ≠ b → t' ≠ 5 → Blk w k cs t' → Blk (w1.setCell ⟨b, 0, none⟩ (.slice A1 (n + t.size) c1)) k cs t' := fun k cs ty hkb hty hk => by
    have hrow : some k ≠ (Value.slice A n c).ownBlock := fun e => by
      rcases ho.2 with ⟨h1, _⟩ | ⟨g, cap, cur, h1, h2, h3, _⟩
      · rw [h1] at e; cases e
      · rw [h1] at e
        simp only [Value.ownBlock, Option.some.injEq] at e
        subst e
        unfold Blk at hk
        rw [h3] at hk
        injection hk with hk
        injection hk with _ hk
        exact hty hk.symm
    unfold Blk at hk ⊢
    rw [Below.heap_setCell _ _ _ _ hkb, hg.block k (by rw [hsz]; exact Blk.lt hk) hrow, Below.heap_setCell _ _ _ _ hkb]
    exact hk
  refine ⟨hb3, ⟨?_, ?_, ?_⟩, ⟨hg.os, hg.tape, hg.output, ?_, fun k hk => ?_, hkept⟩⟩
  · have := hb3.set_ 0 (.slice A1 (n + t.size) c1)
    have e : (L + s : Int) = ((st.all ++ l).length : Nat) := by rw [List.length_append, hL, ← hl]; omega
    rw [e] at this
    exact this
  · have e : n + t.size = min 4096 (st.all ++ l).length := by rw [List.length_append]; omega
    have := own_set' ho3 (p := ⟨b, 0, none⟩) (by show b < b + 1; omega) (.slice A1 (n + t.size) c1)
    rw [st_cells, ← bc_append, hp.2] at this
    show (w1.setCell _ _).ownsRow _ _ _ _ (min 4096 (st.all ++ l).length) _
    rw [← e]
    exact this
  · exact own_block ha fun k cs hk hq => hkept k cs _ (by omega) u8_ne hq
  · have := hg.size
    rw [hsz] at this
    simpa [World.setCell] using this
  · rw [Below.heap_setCell _ _ _ _ (by show k ≠ b; omega), hg.block k (by rw [hsz]; have := hb.lt; omega) (hne k (by omega)), Below.heap_setCell _ _ _ _ (by show k ≠ b; omega)]

set_option maxRecDepth 100000 in
set_option maxHeartbeats 1000000 in
theorem sput_any (b : Nat) (st : St) (v va : Value) (s : ByteArray) (w : World) (h : StAt w b st v va) (hal : st.all.length ≤ 4611686018427387904) (hsl : s.size ≤ 140737488355328) :
    Calls Tryz.prog 46 #[.pointer (some ⟨b, 0, none⟩), .string s] w fun e w' => e = .returned (.tuple #[]) ∧ ∃ v', StAt w' b { st with all := st.all ++ s.data.toList } v' va ∧ Kp b w w' := by
  obtain ⟨i0, hi, hz0, hz1, hz2⟩ := info_parts info_u8
  have hbB : b + 1 ≤ w.heap.size := h.lt
  obtain ⟨n, hn⟩ : ∃ n, n = min 4096 st.all.length := ⟨_, rfl⟩
  have hn4 : n ≤ 4096 := by omega
  have hown := h.own
  rw [← hn] at hown
  obtain ⟨A, c, hv⟩ := sl_form hown
  subst hv
  obtain ⟨L, hL⟩ : ∃ L : Int, L = st.all.length := ⟨_, rfl⟩
  have hL0 : 0 ≤ L := by omega
  have hL1 : L ≤ 4611686018427387904 := by omega
  have HH := hid h
  have hb := h.blk
  have HN := hid hn
  have HL := hid hL
  rw [← hL] at hb
  clear hn hL h
  have hc0 : w.cell? ⟨b, 0, none⟩ = some (.slice A n c) := hb.cell 0
  have hc1 : w.cell? ⟨b, 1, none⟩ = some (.int .i64 L) := hb.cell 1
  have hf0 := hb.frozen 0
  have hf1 := hb.frozen 1
  obtain ⟨t, ht⟩ : ∃ t : ByteArray, t = if 4096 - n < s.size then s.extract 0 (4096 - n) else s := ⟨_, rfl⟩
  have htl : t.data.toList = if 4096 - n < s.data.toList.length then s.data.toList.take (4096 - n) else s.data.toList := by
    rw [ht, ← Utf.size_eq]
    split
    · rw [Lib.extract_data]; simp
    · rfl
  have hp := st_take st.all s.data.toList n HN.out
  rw [← htl, ← Utf.size_eq, ← Utf.size_eq] at hp
  have htz : t.size ≤ 4096 - n := by omega
  have ho2 := own_set' hown (p := ⟨b, 1, none⟩) (by show b < b + 1; omega) (.int .i64 (L + s.size))
  have hB2 : b + 1 ≤ (w.setCell ⟨b, 1, none⟩ (.int .i64 (L + s.size))).heap.size := by simpa [World.setCell] using hbB
  have HE := hid ht
  have HP := hid hp
  clear ht hp htl hb hown
  go_enter Tryz.func46, Tryz.ntmps46
  by_cases hr : 4096 - n < s.size
  · have hrt : s.extract 0 (4096 - n) = t := by rw [HE.out, if_pos hr]
    go_wp2_with (at_builtin; refine Lib.wpList_append_own_string _ rfl _ _ 50 9 rfl (b + 1) 5 i0 Tryz.underlying50 Tryz.underlying9 hi hz0 hz1 hz2 _ n _ rfl ho2 t rfl ?c3 ?c4 ?c5 ?_)
    case c3 => unfold maxLen; omega
    case c4 => omega
    case c5 => exact hB2
    intro v1 w1 ho3 hg3 _
    obtain ⟨A1, c1, hv1⟩ := sl_form ho3
    subst hv1
    obtain ⟨hb3, hbe, hoe⟩ := st_end HH.out HN.out HL.out (l := s.data.toList) (by rw [← Utf.size_eq]) (by rw [← Utf.size_eq]; exact HP.out) ho3 hg3
    have hd0 : w1.cell? ⟨b, 0, none⟩ = some (.slice A n c) := hb3.cell 0
    have he0 := hb3.frozen 0
    have HBE := hid hbe
    have HOE := hid hoe
    clear hb3 hbe hoe ho3 hg3
    go_wp2_with fail
    go_end0
    exact ⟨rfl, _, HBE.out, HOE.out⟩
  · have hrt : t = s := by rw [HE.out, if_neg hr]
    subst hrt
    go_wp2_with (at_builtin; refine Lib.wpList_append_own_string _ rfl _ _ 50 9 rfl (b + 1) 5 i0 Tryz.underlying50 Tryz.underlying9 hi hz0 hz1 hz2 _ n _ rfl ho2 t rfl ?c3 ?c4 ?c5 ?_)
    case c3 => unfold maxLen; omega
    case c4 => omega
    case c5 => exact hB2
    intro v1 w1 ho3 hg3 _
    obtain ⟨A1, c1, hv1⟩ := sl_form ho3
    subst hv1
    obtain ⟨hb3, hbe, hoe⟩ := st_end HH.out HN.out HL.out (l := t.data.toList) (by rw [← Utf.size_eq]) (by rw [← Utf.size_eq]; exact HP.out) ho3 hg3
    have hd0 : w1.cell? ⟨b, 0, none⟩ = some (.slice A n c) := hb3.cell 0
    have he0 := hb3.frozen 0
    have HBE := hid hbe
    have HOE := hid hoe
    clear hb3 hbe hoe ho3 hg3
    go_wp2_with fail
    go_end0
    exact ⟨rfl, _, HBE.out, HOE.out⟩

/-- What stands behind a print that was cut. -/
def stLong : List UInt8 := [37, 33, 40, 84, 79, 79, 76, 79, 78, 71, 41]
/-- What a buffer tells of all that was put. -/
def stText (all : List UInt8) : List UInt8 := if 4096 < all.length then all.take 4096 ++ stLong else all
theorem st_conv {w : World} {B n c : Nat} {A : Option Addr} {l : List UInt8} (h : w.ownsRow B 5 1 (.slice A n c) n (bc l)) :
    (convert 50 9 (.slice A n c)).run Tryz.prog w = .ok (.string ⟨l.toArray⟩) w := by
  have hl : l.length = n := by
    have := h.1
    simpa [bc] using this
  rcases h.2 with ⟨h0, h1⟩ | ⟨g, cap, cur, h1, h2, h3, h4, h5, h6, h7⟩
  · cases h0
    have e : l = [] := List.eq_nil_of_length_eq_zero hl
    subst e
    exact run_convert_bytes_nil w 50 5 Tryz.underlying50 Tryz.underlying5 0 0 9 Tryz.underlying9
  · cases h1
    subst hl
    refine run_convert_bytes_back w 50 9 5 ⟨g, 0, none⟩ c l Tryz.underlying50 Tryz.underlying5 Tryz.underlying9 (fun j hj => ?_)
    have hc := h.cells (g := g) rfl j (.int .u8 (l[j].toNat : Int)) (by simp [bc, List.getElem?_eq_getElem hj])
    exact hc
theorem sover_any (b : Nat) (st : St) (v va : Value) (w : World) (h : StAt w b st v va) : Calls Tryz.prog 66 #[.pointer (some ⟨b, 0, none⟩)] w fun e w' => e = .returned (.bool (decide (4096 < st.all.length))) ∧ w = w' := by
  have hb := h.blk
  obtain ⟨L, hL⟩ : ∃ L : Int, L = st.all.length := ⟨_, rfl⟩
  rw [← hL] at hb
  have hc1 : w.cell? ⟨b, 1, none⟩ = some (.int .i64 L) := hb.cell 1
  have hr : decide (4096 < st.all.length) = decide (4096 < L) := by rw [hL]; congr 1; apply propext; omega
  rw [hr]
  clear hb h hL hr
  go_enter Tryz.func66, Tryz.ntmps66
  go_wp2_with fail
  go_ret
  exact ⟨rfl, rfl⟩
set_option maxRecDepth 100000 in
theorem stext_any (b : Nat) (st : St) (v va : Value) (w : World) (h : StAt w b st v va) : Calls Tryz.prog 43 #[.pointer (some ⟨b, 0, none⟩)] w fun e w' => e = .returned (.string ⟨(stText st.all).toArray⟩) ∧ w = w' := by
  have hO := sover_any b st v va w h
  obtain ⟨r, hr⟩ : ∃ r : ByteArray, r = ⟨(stText st.all).toArray⟩ := ⟨_, rfl⟩
  rw [← hr]
  have HR := hid hr
  have hb := h.blk
  have ho := h.own
  obtain ⟨n, hn⟩ : ∃ n, n = min 4096 st.all.length := ⟨_, rfl⟩
  rw [← hn] at ho
  obtain ⟨A, c, hv⟩ := sl_form ho
  subst hv
  have hcv := st_conv ho
  obtain ⟨p, hp⟩ : ∃ p : ByteArray, p = ⟨(st.all.take 4096).toArray⟩ := ⟨_, rfl⟩
  rw [← hp] at hcv
  have hpz : p.size ≤ 4096 := by rw [hp, Utf.size_eq]; simp only [List.length_take]; omega
  have hc0 : w.cell? ⟨b, 0, none⟩ = some (.slice A n c) := hb.cell 0
  have HO := hid hO
  have HP := hid hp
  clear hO hb ho hr hn hp h
  by_cases hd : 4096 < st.all.length
  · have ht : r = p ++ ⟨#[37, 33, 40, 84, 79, 79, 76, 79, 78, 71, 41]⟩ := by
      rw [HR.out, HP.out]
      unfold stText
      rw [if_pos hd]
      apply ByteArray.ext
      apply Array.ext'
      simp [stLong]
    have HT := hid ht
    have ho : Calls Tryz.prog 66 #[.pointer (some ⟨b, 0, none⟩)] w fun e w' => e = .returned (.bool true) ∧ w = w' := by
      have := HO.out
      rw [decide_eq_true hd] at this
      exact this
    have HV := hid ho
    clear ht ho hd
    go_enter Tryz.func43, Tryz.ntmps43
    go_wp2_with fail
    refine HV.out.mono ?_
    rintro e w1 ⟨rfl, rfl⟩
    go_wp2_with fail
    go_ret
    exact ⟨ret_str HT.out.symm, rfl⟩
  · have ht : r = p := by
      rw [HR.out, HP.out]
      unfold stText
      rw [if_neg hd, List.take_of_length_le (by omega)]
    have HT := hid ht
    have ho : Calls Tryz.prog 66 #[.pointer (some ⟨b, 0, none⟩)] w fun e w' => e = .returned (.bool false) ∧ w = w' := by
      have := HO.out
      rw [decide_eq_false hd] at this
      exact this
    have HV := hid ho
    clear ht ho hd
    go_enter Tryz.func43, Tryz.ntmps43
    go_wp2_with fail
    refine HV.out.mono ?_
    rintro e w1 ⟨rfl, rfl⟩
    go_wp2_with fail
    go_ret
    exact ⟨ret_str HT.out.symm, rfl⟩
end Go.Proofs.YtdjhmanccoekjaaGreatDoor
end

section
namespace Go.Proofs.YtdjhmanccoekjaaGreatDoor
open Go.RowKit Go.Proofs

/-- What is known of blocks from B on, bytes apart. -/
def Fp (B : Nat) (M : World → Prop) : Prop := ∀ W W', M W → (∀ k cs t, B ≤ k → t ≠ 5 → Blk W k cs t → Blk W' k cs t) → M W'
theorem Fp.mono {B C : Nat} {M : World → Prop} (h : Fp B M) (hBC : C ≤ B) : Fp C M := fun W W' hm hk => h W W' hm fun k cs t h1 => hk k cs t (by omega)
theorem Fp.below {B : Nat} {M : World → Prop} (h : Fp B M) {W W' : World} (hm : M W) (hb : Below W.heap.size W W') : M W' := h W W' hm fun _ _ _ _ _ hk => hk.below hb hk.lt
theorem Fp.set_ {B : Nat} {M : World → Prop} (h : Fp B M) {W : World} (hm : M W) {p : Addr} (hp : p.block < B) (u : Value) : M (W.setCell p u) := h W _ hm fun _ _ _ h1 _ hk => hk.far (by omega) u
theorem Fp.const (B : Nat) (P : Prop) : Fp B fun _ => P := fun _ _ h _ => h
set_option maxHeartbeats 1000000 in
theorem b1_idle (p q : Addr) (w : World) :
    CallsD Tryz.prog 89 #[.pointer (some p), .pointer (some q)] .returning w fun e u' w' => e = .returned (.tuple #[]) ∧ u' = .returning ∧ w' = w := by
  refine callsD_of_wpS Tryz.func89 rfl fun c₀ cs hu => ?_
  apply wpS_seq
  apply wpS_region
  simp [wpOpsS, go_sem, recoverD, hu, Tryz.ntmps89, Exit.thenS]
  refine wpS_of_wp ?_
  go_wp2_with fail
  cases c₀
  simp_all [bodyPostS, results, Tryz.results89]
/-- Build's own blocks. -/
structure Bd (w : World) (B : Nat) (d : De) (W : World) : Prop where
  low : Below w.heap.size w W
  box : Blk W B (deV d) 29
  res : Blk W (B + 1) #[.nilIface] 103
  err : Blk W (B + 1 + 1) #[.int .i64 0] 122
theorem Bd.kept {w : World} {B : Nat} {d : De} {W W' : World} (h : Bd w B d W) (hb : Below W.heap.size W W') : Bd w B d W' :=
  ⟨h.low.trans (hb.mono h.low.size), h.box.below hb h.box.lt, h.res.below hb h.res.lt, h.err.below hb h.err.lt⟩
theorem Bd.start (w : World) (d : De) : Bd w w.heap.size d (((w.alloc (.cells (deV d) 29)).alloc (.cells #[.nilIface] 103)).alloc (.cells #[.int .i64 0] 122)) := by
  refine ⟨(((Below.refl _ _).alloc (Nat.le_refl _) _).alloc (by simp) _).alloc (by simp; omega) _, ((Blk.new w _ _).alloc _).alloc _, ?_, ?_⟩
  · have := (Blk.new (w.alloc (.cells (deV d) 29)) #[.nilIface] 103).alloc (.cells #[.int .i64 0] 122)
    rw [World.size_alloc] at this
    exact this
  · have := Blk.new ((w.alloc (.cells (deV d) 29)).alloc (.cells #[.nilIface] 103)) #[.int .i64 0] 122
    rw [World.size_alloc, World.size_alloc] at this
    exact this
theorem Bd.cells {w : World} {B : Nat} {d : De} {W : World} (h : Bd w B d W) :
    W.cell? ⟨B, 0, none⟩ = some (.int .i64 d.k) ∧ W.cell? ⟨B, 1, none⟩ = some (.string d.ty) ∧ W.cell? ⟨B, 2, none⟩ = some (.int .u64 d.b) ∧ W.cell? ⟨B, 3, none⟩ = some (.int .u64 d.im) ∧ W.cell? ⟨B, 4, none⟩ = some (.string d.t) ∧ W.cell? ⟨B, 5, none⟩ = some (slV d.nm) ∧ W.cell? ⟨B, 6, none⟩ = some (slV d.pa) ∧ W.cell? ⟨B, 7, none⟩ = some (.int .i64 d.hk) :=
  ⟨h.box.cell 0, h.box.cell 1, h.box.cell 2, h.box.cell 3, h.box.cell 4, h.box.cell 5, h.box.cell 6, h.box.cell 7⟩
set_option maxRecDepth 100000 in
set_option maxHeartbeats 4000000 in
theorem build_ok (d : De) (n t k : Int) (M : Value → World → Prop) (w : World)
    (CO : ∀ W, Below w.heap.size w W → Calls Tryz.prog 90 #[.agg (deV d), .int .i64 64] W fun e w' => e = .returned (.tuple #[.int .i64 n, .int .i64 t]) ∧ Below W.heap.size W w') (hn : 0 ≤ n) (ht : t ≤ 1024)
    (DE : ∀ W, Below w.heap.size w W → Calls Tryz.prog 92 #[.agg (deV d)] W fun e w' => e = .returned (.int .i64 k) ∧ Below W.heap.size W w') (hk : k ≤ 8)
    (E2 : ∀ W, Below w.heap.size w W → Calls Tryz.prog 93 #[.agg (deV d), .func (.func 94) #[] #[]] W fun e w' => e = .returned (.tuple #[]) ∧ Below W.heap.size W w')
    (E3 : ∀ W, Below w.heap.size w W → Calls Tryz.prog 93 #[.agg (deV d), .func (.func 95) #[] #[]] W fun e w' => e = .returned (.tuple #[]) ∧ Below W.heap.size W w')
    (MA : ∀ W, Below w.heap.size w W → w.heap.size + 3 ≤ W.heap.size → Calls Tryz.prog 97 #[.agg (deV d)] W fun e w' => ∃ T x, e = .returned (.iface T x) ∧ M (.iface T x) w' ∧ Below W.heap.size W w')
    (FM : ∀ v, Fp (w.heap.size + 3) (M v)) :
    Calls Tryz.prog 65 #[.agg (deV d)] w fun e w' => ∃ T x, e = .returned (.tuple #[.iface T x, .int .i64 0]) ∧ M (.iface T x) w' ∧ Below w.heap.size w w' := by
  have hmf : ∀ (fn : Fn) (first cap : Array Value) (w : World), (Instr.makeFunc fn first cap).run Tryz.prog w = .ok (.func fn first cap) w := fun _ _ _ _ => rfl
  have CO := hid CO
  have DE := hid DE
  have E2 := hid E2
  have E3 := hid E3
  have MA := hid MA
  have FM := hid FM
  have MU := hid (fun e W => must_ok e W)
  have d1 : decide (0 ≤ n) = true := decide_eq_true hn
  have d2 : decide (t ≤ 1024) = true := decide_eq_true ht
  have d3 : decide (k ≤ 8) = true := decide_eq_true hk
  go_enter_defers Tryz.func65, Tryz.ntmps65
  have S0 := hid (Bd.start w d)
  go_wp2_with fail
  obtain ⟨W0, hW0⟩ : ∃ W0, (((w.alloc (.cells (deV d) 29)).alloc (.cells #[.nilIface] 103)).alloc (.cells #[.int .i64 0] 122)) = W0 := ⟨_, rfl⟩
  obtain ⟨B, hB⟩ : ∃ B, w.heap.size = B := ⟨_, rfl⟩
  rw [hW0] at S0 ⊢
  rw [hB]
  have HBB := hid hB
  rw [hB] at S0
  clear hW0 hB
  refine (CO.out _ S0.out.low).mono ?_
  rintro e W1 ⟨rfl, hb⟩
  have S1 := hid (S0.out.kept hb)
  obtain ⟨c0, c1, c2, c3, c4, c5, c6, c7⟩ := S1.out.cells
  clear hb
  go_wp2_with fail
  refine (MU.out _ _).mono ?_
  rintro e W2 ⟨rfl, rfl⟩
  go_wp2_with fail
  refine (DE.out _ S1.out.low).mono ?_
  rintro e W2 ⟨rfl, hb⟩
  have S2 := hid (S1.out.kept hb)
  clear hb c0 c1 c2 c3 c4 c5 c6 c7
  obtain ⟨c0, c1, c2, c3, c4, c5, c6, c7⟩ := S2.out.cells
  go_wp2_with fail
  refine (MU.out _ _).mono ?_
  rintro e W3 ⟨rfl, rfl⟩
  go_wp2_with fail
  refine (E2.out _ S2.out.low).mono ?_
  rintro e W3 ⟨rfl, hb⟩
  have S3 := hid (S2.out.kept hb)
  clear hb c0 c1 c2 c3 c4 c5 c6 c7
  obtain ⟨c0, c1, c2, c3, c4, c5, c6, c7⟩ := S3.out.cells
  go_wp2_with fail
  refine (E3.out _ S3.out.low).mono ?_
  rintro e W4 ⟨rfl, hb⟩
  have S4 := hid (S3.out.kept hb)
  clear hb c0 c1 c2 c3 c4 c5 c6 c7
  obtain ⟨c0, c1, c2, c3, c4, c5, c6, c7⟩ := S4.out.cells
  go_wp2_with fail
  refine (MA.out _ S4.out.low (by have := S4.out.err.lt; have := HBB.out; omega)).mono ?_
  rintro e W5 ⟨T, x, rfl, hm, hb⟩
  have S5 := hid (S4.out.kept hb)
  clear hb c0 c1 c2 c3 c4 c5 c6 c7
  have r0 : W5.cell? ⟨B + 1, 0, none⟩ = some .nilIface := S5.out.res.cell 0
  have rf : W5.frozen? ⟨B + 1, 0, none⟩ = false := S5.out.res.frozen 0
  have hm1 := (FM.out (.iface T x)).set_ hm (p := ⟨B + 1, 0, none⟩) (by have := HBB.out; show B + 1 < _; omega) (.iface T x)
  have e1 : Blk (W5.setCell ⟨B + 1, 0, none⟩ (.iface T x)) (B + 1 + 1) #[.int .i64 0] 122 := S5.out.err.far (by show B + 1 + 1 ≠ B + 1; omega) (.iface T x)
  have v1 : Blk (W5.setCell ⟨B + 1, 0, none⟩ (.iface T x)) (B + 1) #[.iface T x] 103 := S5.out.res.set_ 0 (.iface T x)
  have ec := e1.cell 0
  have ef := e1.frozen 0
  have hm2 := (FM.out (.iface T x)).set_ hm1 (p := ⟨B + 1 + 1, 0, none⟩) (by have := HBB.out; show B + 1 + 1 < _; omega) (.int .i64 0)
  have e2 := e1.set_ 0 (.int .i64 0)
  have v2 : Blk ((W5.setCell ⟨B + 1, 0, none⟩ (.iface T x)).setCell ⟨B + 1 + 1, 0, none⟩ (.int .i64 0)) (B + 1) #[.iface T x] 103 := v1.far (by show B + 1 ≠ B + 1 + 1; omega) _
  have lw := (S5.out.low.setCell (p := ⟨B + 1, 0, none⟩) (by have := HBB.out; show w.heap.size ≤ B + 1; omega) (.iface T x)).setCell (p := ⟨B + 1 + 1, 0, none⟩) (by have := HBB.out; show w.heap.size ≤ B + 1 + 1; omega) (.int .i64 0)
  have N := hid (And.intro hm2 (And.intro e2 (And.intro v2 lw)))
  clear hm hm1 hm2 e1 e2 v1 v2 lw
  go_wp2_with fail
  refine leaves_cons (f := 89) (args := #[.pointer (some ⟨B + 1, 0, none⟩), .pointer (some ⟨B + 1 + 1, 0, none⟩)]) (by simp) (by simp [go_sem]) ?_
  refine (b1_idle ⟨B + 1, 0, none⟩ ⟨B + 1 + 1, 0, none⟩ _).mono ?_
  rintro e u' w'' ⟨rfl, rfl, rfl⟩
  have yr := N.out.2.2.1.cell 0
  have ye := N.out.2.1.cell 0
  simp [Leaves, settle, results, Tryz.results65, go_sem, yr, ye]
  exact ⟨T, x, ⟨rfl, rfl⟩, N.out.1, N.out.2.2.2⟩
theorem leafV_iface (d : De) : ∃ T x, leafV d = .iface T x := by
  unfold leafV
  split
  · exact ⟨_, _, rfl⟩
  split
  · exact ⟨_, _, rfl⟩
  split
  · exact ⟨_, _, rfl⟩
  split
  · exact ⟨_, _, rfl⟩
  split
  · exact ⟨_, _, rfl⟩
  split
  · exact ⟨_, _, rfl⟩
  split
  · exact ⟨_, _, rfl⟩
  split
  · exact ⟨_, _, rfl⟩
  split
  · exact ⟨_, _, rfl⟩
  exact ⟨_, _, rfl⟩
theorem build_leaf (d : De) (w : World) (hB : DeB d) (h : 0 ≤ d.k ∧ d.k ≤ 17) (ht : d.t.size ≤ 1024) (hs : d.ty.size ≤ 140737488355328) (hf : formB d = true) :
    Calls Tryz.prog 65 #[.agg (deV d)] w fun e w' => e = .returned (.tuple #[leafV d, .int .i64 0]) ∧ Below w.heap.size w w' := by
  have hg : ¬ (18 ≤ d.k ∧ d.k ≤ 22) := by omega
  refine (build_ok d 63 (if d.k = 16 ∨ d.k = 17 then d.t.size else 0) 1 (fun v _ => v = leafV d) w (fun W _ => count_leaf d 64 W hg (by decide) (by decide)) (by decide) (by split <;> omega)
    (fun W _ => depth_leaf d W hg) (by decide) (fun W _ => each_leaf2 d W hg fun W => b2_ok d W (by omega))
    (fun W _ => each_leaf3 d W hg fun W => b3_ok d W fun W _ => by have := formed_leaf d W hs hg; rw [hf] at this; exact this)
    (fun W _ _ => ?_) (fun v => Fp.const _ _)).mono ?_
  · obtain ⟨T, x, hx⟩ := leafV_iface d
    exact (made_leaf d W hB h).mono fun e w' he => ⟨T, x, by rw [he.1, hx], hx.symm, he.2⟩
  · rintro e w' ⟨T, x, rfl, hx, hb⟩
    exact ⟨by rw [hx], hb⟩
end Go.Proofs.YtdjhmanccoekjaaGreatDoor
end

section
namespace Go.Proofs.YtdjhmanccoekjaaGreatDoor
open Go.RowKit Go.Proofs

theorem ta_Bool_Bool (cs : Array Value) (w : World) : (Instr.typeAssert (.iface 179 (.agg cs)) 103 179 true).run Tryz.prog w = .ok (.tuple #[.agg cs, .bool true]) w := by kernel_rfl
theorem ta_Bool_Int (cs : Array Value) (w : World) : (Instr.typeAssert (.iface 179 (.agg cs)) 103 181 true).run Tryz.prog w = .ok (.tuple #[.agg #[.int .i64 0, .string ⟨#[]⟩, .int .i64 0, .int .i64 0], .bool false]) w := by kernel_rfl
theorem ta_Bool_Uint (cs : Array Value) (w : World) : (Instr.typeAssert (.iface 179 (.agg cs)) 103 183 true).run Tryz.prog w = .ok (.tuple #[.agg #[.int .i64 0, .string ⟨#[]⟩, .int .i64 0, .int .u64 0], .bool false]) w := by kernel_rfl
theorem ta_Bool_Float (cs : Array Value) (w : World) : (Instr.typeAssert (.iface 179 (.agg cs)) 103 185 true).run Tryz.prog w = .ok (.tuple #[.agg #[.int .i64 0, .string ⟨#[]⟩, .int .i64 0, .int .u64 0, .int .i64 0], .bool false]) w := by kernel_rfl
theorem ta_Bool_Complex (cs : Array Value) (w : World) : (Instr.typeAssert (.iface 179 (.agg cs)) 103 187 true).run Tryz.prog w = .ok (.tuple #[.agg #[.int .i64 0, .string ⟨#[]⟩, .int .i64 0, .int .u64 0, .int .u64 0, .int .i64 0], .bool false]) w := by kernel_rfl
theorem ta_Bool_Text (cs : Array Value) (w : World) : (Instr.typeAssert (.iface 179 (.agg cs)) 103 189 true).run Tryz.prog w = .ok (.tuple #[.agg #[.int .i64 0, .string ⟨#[]⟩, .int .i64 0, .string ⟨#[]⟩], .bool false]) w := by kernel_rfl
theorem ta_Bool_Bytes (cs : Array Value) (w : World) : (Instr.typeAssert (.iface 179 (.agg cs)) 103 190 true).run Tryz.prog w = .ok (.tuple #[.agg #[.int .i64 0, .string ⟨#[]⟩, .int .i64 0, .string ⟨#[]⟩], .bool false]) w := by kernel_rfl
theorem ta_Bool_Struct (cs : Array Value) (w : World) : (Instr.typeAssert (.iface 179 (.agg cs)) 103 193 true).run Tryz.prog w = .ok (.tuple #[.agg #[.int .i64 0, .string ⟨#[]⟩, .int .i64 0, .slice none 0 0], .bool false]) w := by kernel_rfl
theorem ta_Bool_List (cs : Array Value) (w : World) : (Instr.typeAssert (.iface 179 (.agg cs)) 103 195 true).run Tryz.prog w = .ok (.tuple #[.agg #[.int .i64 0, .string ⟨#[]⟩, .int .i64 0, .slice none 0 0], .bool false]) w := by kernel_rfl
theorem ta_Bool_Map (cs : Array Value) (w : World) : (Instr.typeAssert (.iface 179 (.agg cs)) 103 198 true).run Tryz.prog w = .ok (.tuple #[.agg #[.int .i64 0, .string ⟨#[]⟩, .int .i64 0, .slice none 0 0], .bool false]) w := by kernel_rfl
theorem ta_Bool_Ptr (cs : Array Value) (w : World) : (Instr.typeAssert (.iface 179 (.agg cs)) 103 148 true).run Tryz.prog w = .ok (.tuple #[.agg #[.int .i64 0, .string ⟨#[]⟩, .int .i64 0, .int .u64 0, .nilIface], .bool false]) w := by kernel_rfl
theorem ta_Bool_Nil (cs : Array Value) (w : World) : (Instr.typeAssert (.iface 179 (.agg cs)) 103 217 true).run Tryz.prog w = .ok (.tuple #[.agg #[], .bool false]) w := by kernel_rfl
theorem tn_Bool (x : Value) (w : World) : (binOp BinOp.eql 103 (.iface 179 x) .nilIface).run Tryz.prog w = .ok (.bool false) w := by kernel_rfl
theorem ta_Int_Bool (cs : Array Value) (w : World) : (Instr.typeAssert (.iface 181 (.agg cs)) 103 179 true).run Tryz.prog w = .ok (.tuple #[.agg #[.int .i64 0, .string ⟨#[]⟩, .int .i64 0, .bool false], .bool false]) w := by kernel_rfl
theorem ta_Int_Int (cs : Array Value) (w : World) : (Instr.typeAssert (.iface 181 (.agg cs)) 103 181 true).run Tryz.prog w = .ok (.tuple #[.agg cs, .bool true]) w := by kernel_rfl
theorem ta_Int_Uint (cs : Array Value) (w : World) : (Instr.typeAssert (.iface 181 (.agg cs)) 103 183 true).run Tryz.prog w = .ok (.tuple #[.agg #[.int .i64 0, .string ⟨#[]⟩, .int .i64 0, .int .u64 0], .bool false]) w := by kernel_rfl
theorem ta_Int_Float (cs : Array Value) (w : World) : (Instr.typeAssert (.iface 181 (.agg cs)) 103 185 true).run Tryz.prog w = .ok (.tuple #[.agg #[.int .i64 0, .string ⟨#[]⟩, .int .i64 0, .int .u64 0, .int .i64 0], .bool false]) w := by kernel_rfl
theorem ta_Int_Complex (cs : Array Value) (w : World) : (Instr.typeAssert (.iface 181 (.agg cs)) 103 187 true).run Tryz.prog w = .ok (.tuple #[.agg #[.int .i64 0, .string ⟨#[]⟩, .int .i64 0, .int .u64 0, .int .u64 0, .int .i64 0], .bool false]) w := by kernel_rfl
theorem ta_Int_Text (cs : Array Value) (w : World) : (Instr.typeAssert (.iface 181 (.agg cs)) 103 189 true).run Tryz.prog w = .ok (.tuple #[.agg #[.int .i64 0, .string ⟨#[]⟩, .int .i64 0, .string ⟨#[]⟩], .bool false]) w := by kernel_rfl
theorem ta_Int_Bytes (cs : Array Value) (w : World) : (Instr.typeAssert (.iface 181 (.agg cs)) 103 190 true).run Tryz.prog w = .ok (.tuple #[.agg #[.int .i64 0, .string ⟨#[]⟩, .int .i64 0, .string ⟨#[]⟩], .bool false]) w := by kernel_rfl
theorem ta_Int_Struct (cs : Array Value) (w : World) : (Instr.typeAssert (.iface 181 (.agg cs)) 103 193 true).run Tryz.prog w = .ok (.tuple #[.agg #[.int .i64 0, .string ⟨#[]⟩, .int .i64 0, .slice none 0 0], .bool false]) w := by kernel_rfl
theorem ta_Int_List (cs : Array Value) (w : World) : (Instr.typeAssert (.iface 181 (.agg cs)) 103 195 true).run Tryz.prog w = .ok (.tuple #[.agg #[.int .i64 0, .string ⟨#[]⟩, .int .i64 0, .slice none 0 0], .bool false]) w := by kernel_rfl
theorem ta_Int_Map (cs : Array Value) (w : World) : (Instr.typeAssert (.iface 181 (.agg cs)) 103 198 true).run Tryz.prog w = .ok (.tuple #[.agg #[.int .i64 0, .string ⟨#[]⟩, .int .i64 0, .slice none 0 0], .bool false]) w := by kernel_rfl
theorem ta_Int_Ptr (cs : Array Value) (w : World) : (Instr.typeAssert (.iface 181 (.agg cs)) 103 148 true).run Tryz.prog w = .ok (.tuple #[.agg #[.int .i64 0, .string ⟨#[]⟩, .int .i64 0, .int .u64 0, .nilIface], .bool false]) w := by kernel_rfl
theorem ta_Int_Nil (cs : Array Value) (w : World) : (Instr.typeAssert (.iface 181 (.agg cs)) 103 217 true).run Tryz.prog w = .ok (.tuple #[.agg #[], .bool false]) w := by kernel_rfl
theorem tn_Int (x : Value) (w : World) : (binOp BinOp.eql 103 (.iface 181 x) .nilIface).run Tryz.prog w = .ok (.bool false) w := by kernel_rfl
theorem ta_Uint_Bool (cs : Array Value) (w : World) : (Instr.typeAssert (.iface 183 (.agg cs)) 103 179 true).run Tryz.prog w = .ok (.tuple #[.agg #[.int .i64 0, .string ⟨#[]⟩, .int .i64 0, .bool false], .bool false]) w := by kernel_rfl
theorem ta_Uint_Int (cs : Array Value) (w : World) : (Instr.typeAssert (.iface 183 (.agg cs)) 103 181 true).run Tryz.prog w = .ok (.tuple #[.agg #[.int .i64 0, .string ⟨#[]⟩, .int .i64 0, .int .i64 0], .bool false]) w := by kernel_rfl
theorem ta_Uint_Uint (cs : Array Value) (w : World) : (Instr.typeAssert (.iface 183 (.agg cs)) 103 183 true).run Tryz.prog w = .ok (.tuple #[.agg cs, .bool true]) w := by kernel_rfl
theorem ta_Uint_Float (cs : Array Value) (w : World) : (Instr.typeAssert (.iface 183 (.agg cs)) 103 185 true).run Tryz.prog w = .ok (.tuple #[.agg #[.int .i64 0, .string ⟨#[]⟩, .int .i64 0, .int .u64 0, .int .i64 0], .bool false]) w := by kernel_rfl
theorem ta_Uint_Complex (cs : Array Value) (w : World) : (Instr.typeAssert (.iface 183 (.agg cs)) 103 187 true).run Tryz.prog w = .ok (.tuple #[.agg #[.int .i64 0, .string ⟨#[]⟩, .int .i64 0, .int .u64 0, .int .u64 0, .int .i64 0], .bool false]) w := by kernel_rfl
theorem ta_Uint_Text (cs : Array Value) (w : World) : (Instr.typeAssert (.iface 183 (.agg cs)) 103 189 true).run Tryz.prog w = .ok (.tuple #[.agg #[.int .i64 0, .string ⟨#[]⟩, .int .i64 0, .string ⟨#[]⟩], .bool false]) w := by kernel_rfl
theorem ta_Uint_Bytes (cs : Array Value) (w : World) : (Instr.typeAssert (.iface 183 (.agg cs)) 103 190 true).run Tryz.prog w = .ok (.tuple #[.agg #[.int .i64 0, .string ⟨#[]⟩, .int .i64 0, .string ⟨#[]⟩], .bool false]) w := by kernel_rfl
theorem ta_Uint_Struct (cs : Array Value) (w : World) : (Instr.typeAssert (.iface 183 (.agg cs)) 103 193 true).run Tryz.prog w = .ok (.tuple #[.agg #[.int .i64 0, .string ⟨#[]⟩, .int .i64 0, .slice none 0 0], .bool false]) w := by kernel_rfl
theorem ta_Uint_List (cs : Array Value) (w : World) : (Instr.typeAssert (.iface 183 (.agg cs)) 103 195 true).run Tryz.prog w = .ok (.tuple #[.agg #[.int .i64 0, .string ⟨#[]⟩, .int .i64 0, .slice none 0 0], .bool false]) w := by kernel_rfl
theorem ta_Uint_Map (cs : Array Value) (w : World) : (Instr.typeAssert (.iface 183 (.agg cs)) 103 198 true).run Tryz.prog w = .ok (.tuple #[.agg #[.int .i64 0, .string ⟨#[]⟩, .int .i64 0, .slice none 0 0], .bool false]) w := by kernel_rfl
theorem ta_Uint_Ptr (cs : Array Value) (w : World) : (Instr.typeAssert (.iface 183 (.agg cs)) 103 148 true).run Tryz.prog w = .ok (.tuple #[.agg #[.int .i64 0, .string ⟨#[]⟩, .int .i64 0, .int .u64 0, .nilIface], .bool false]) w := by kernel_rfl
theorem ta_Uint_Nil (cs : Array Value) (w : World) : (Instr.typeAssert (.iface 183 (.agg cs)) 103 217 true).run Tryz.prog w = .ok (.tuple #[.agg #[], .bool false]) w := by kernel_rfl
theorem tn_Uint (x : Value) (w : World) : (binOp BinOp.eql 103 (.iface 183 x) .nilIface).run Tryz.prog w = .ok (.bool false) w := by kernel_rfl
theorem ta_Float_Bool (cs : Array Value) (w : World) : (Instr.typeAssert (.iface 185 (.agg cs)) 103 179 true).run Tryz.prog w = .ok (.tuple #[.agg #[.int .i64 0, .string ⟨#[]⟩, .int .i64 0, .bool false], .bool false]) w := by kernel_rfl
theorem ta_Float_Int (cs : Array Value) (w : World) : (Instr.typeAssert (.iface 185 (.agg cs)) 103 181 true).run Tryz.prog w = .ok (.tuple #[.agg #[.int .i64 0, .string ⟨#[]⟩, .int .i64 0, .int .i64 0], .bool false]) w := by kernel_rfl
theorem ta_Float_Uint (cs : Array Value) (w : World) : (Instr.typeAssert (.iface 185 (.agg cs)) 103 183 true).run Tryz.prog w = .ok (.tuple #[.agg #[.int .i64 0, .string ⟨#[]⟩, .int .i64 0, .int .u64 0], .bool false]) w := by kernel_rfl
theorem ta_Float_Float (cs : Array Value) (w : World) : (Instr.typeAssert (.iface 185 (.agg cs)) 103 185 true).run Tryz.prog w = .ok (.tuple #[.agg cs, .bool true]) w := by kernel_rfl
theorem ta_Float_Complex (cs : Array Value) (w : World) : (Instr.typeAssert (.iface 185 (.agg cs)) 103 187 true).run Tryz.prog w = .ok (.tuple #[.agg #[.int .i64 0, .string ⟨#[]⟩, .int .i64 0, .int .u64 0, .int .u64 0, .int .i64 0], .bool false]) w := by kernel_rfl
theorem ta_Float_Text (cs : Array Value) (w : World) : (Instr.typeAssert (.iface 185 (.agg cs)) 103 189 true).run Tryz.prog w = .ok (.tuple #[.agg #[.int .i64 0, .string ⟨#[]⟩, .int .i64 0, .string ⟨#[]⟩], .bool false]) w := by kernel_rfl
theorem ta_Float_Bytes (cs : Array Value) (w : World) : (Instr.typeAssert (.iface 185 (.agg cs)) 103 190 true).run Tryz.prog w = .ok (.tuple #[.agg #[.int .i64 0, .string ⟨#[]⟩, .int .i64 0, .string ⟨#[]⟩], .bool false]) w := by kernel_rfl
theorem ta_Float_Struct (cs : Array Value) (w : World) : (Instr.typeAssert (.iface 185 (.agg cs)) 103 193 true).run Tryz.prog w = .ok (.tuple #[.agg #[.int .i64 0, .string ⟨#[]⟩, .int .i64 0, .slice none 0 0], .bool false]) w := by kernel_rfl
theorem ta_Float_List (cs : Array Value) (w : World) : (Instr.typeAssert (.iface 185 (.agg cs)) 103 195 true).run Tryz.prog w = .ok (.tuple #[.agg #[.int .i64 0, .string ⟨#[]⟩, .int .i64 0, .slice none 0 0], .bool false]) w := by kernel_rfl
theorem ta_Float_Map (cs : Array Value) (w : World) : (Instr.typeAssert (.iface 185 (.agg cs)) 103 198 true).run Tryz.prog w = .ok (.tuple #[.agg #[.int .i64 0, .string ⟨#[]⟩, .int .i64 0, .slice none 0 0], .bool false]) w := by kernel_rfl
theorem ta_Float_Ptr (cs : Array Value) (w : World) : (Instr.typeAssert (.iface 185 (.agg cs)) 103 148 true).run Tryz.prog w = .ok (.tuple #[.agg #[.int .i64 0, .string ⟨#[]⟩, .int .i64 0, .int .u64 0, .nilIface], .bool false]) w := by kernel_rfl
theorem ta_Float_Nil (cs : Array Value) (w : World) : (Instr.typeAssert (.iface 185 (.agg cs)) 103 217 true).run Tryz.prog w = .ok (.tuple #[.agg #[], .bool false]) w := by kernel_rfl
theorem tn_Float (x : Value) (w : World) : (binOp BinOp.eql 103 (.iface 185 x) .nilIface).run Tryz.prog w = .ok (.bool false) w := by kernel_rfl
theorem ta_Complex_Bool (cs : Array Value) (w : World) : (Instr.typeAssert (.iface 187 (.agg cs)) 103 179 true).run Tryz.prog w = .ok (.tuple #[.agg #[.int .i64 0, .string ⟨#[]⟩, .int .i64 0, .bool false], .bool false]) w := by kernel_rfl
theorem ta_Complex_Int (cs : Array Value) (w : World) : (Instr.typeAssert (.iface 187 (.agg cs)) 103 181 true).run Tryz.prog w = .ok (.tuple #[.agg #[.int .i64 0, .string ⟨#[]⟩, .int .i64 0, .int .i64 0], .bool false]) w := by kernel_rfl
theorem ta_Complex_Uint (cs : Array Value) (w : World) : (Instr.typeAssert (.iface 187 (.agg cs)) 103 183 true).run Tryz.prog w = .ok (.tuple #[.agg #[.int .i64 0, .string ⟨#[]⟩, .int .i64 0, .int .u64 0], .bool false]) w := by kernel_rfl
theorem ta_Complex_Float (cs : Array Value) (w : World) : (Instr.typeAssert (.iface 187 (.agg cs)) 103 185 true).run Tryz.prog w = .ok (.tuple #[.agg #[.int .i64 0, .string ⟨#[]⟩, .int .i64 0, .int .u64 0, .int .i64 0], .bool false]) w := by kernel_rfl
theorem ta_Complex_Complex (cs : Array Value) (w : World) : (Instr.typeAssert (.iface 187 (.agg cs)) 103 187 true).run Tryz.prog w = .ok (.tuple #[.agg cs, .bool true]) w := by kernel_rfl
theorem ta_Complex_Text (cs : Array Value) (w : World) : (Instr.typeAssert (.iface 187 (.agg cs)) 103 189 true).run Tryz.prog w = .ok (.tuple #[.agg #[.int .i64 0, .string ⟨#[]⟩, .int .i64 0, .string ⟨#[]⟩], .bool false]) w := by kernel_rfl
theorem ta_Complex_Bytes (cs : Array Value) (w : World) : (Instr.typeAssert (.iface 187 (.agg cs)) 103 190 true).run Tryz.prog w = .ok (.tuple #[.agg #[.int .i64 0, .string ⟨#[]⟩, .int .i64 0, .string ⟨#[]⟩], .bool false]) w := by kernel_rfl
theorem ta_Complex_Struct (cs : Array Value) (w : World) : (Instr.typeAssert (.iface 187 (.agg cs)) 103 193 true).run Tryz.prog w = .ok (.tuple #[.agg #[.int .i64 0, .string ⟨#[]⟩, .int .i64 0, .slice none 0 0], .bool false]) w := by kernel_rfl
theorem ta_Complex_List (cs : Array Value) (w : World) : (Instr.typeAssert (.iface 187 (.agg cs)) 103 195 true).run Tryz.prog w = .ok (.tuple #[.agg #[.int .i64 0, .string ⟨#[]⟩, .int .i64 0, .slice none 0 0], .bool false]) w := by kernel_rfl
theorem ta_Complex_Map (cs : Array Value) (w : World) : (Instr.typeAssert (.iface 187 (.agg cs)) 103 198 true).run Tryz.prog w = .ok (.tuple #[.agg #[.int .i64 0, .string ⟨#[]⟩, .int .i64 0, .slice none 0 0], .bool false]) w := by kernel_rfl
theorem ta_Complex_Ptr (cs : Array Value) (w : World) : (Instr.typeAssert (.iface 187 (.agg cs)) 103 148 true).run Tryz.prog w = .ok (.tuple #[.agg #[.int .i64 0, .string ⟨#[]⟩, .int .i64 0, .int .u64 0, .nilIface], .bool false]) w := by kernel_rfl
theorem ta_Complex_Nil (cs : Array Value) (w : World) : (Instr.typeAssert (.iface 187 (.agg cs)) 103 217 true).run Tryz.prog w = .ok (.tuple #[.agg #[], .bool false]) w := by kernel_rfl
theorem tn_Complex (x : Value) (w : World) : (binOp BinOp.eql 103 (.iface 187 x) .nilIface).run Tryz.prog w = .ok (.bool false) w := by kernel_rfl
theorem ta_Text_Bool (cs : Array Value) (w : World) : (Instr.typeAssert (.iface 189 (.agg cs)) 103 179 true).run Tryz.prog w = .ok (.tuple #[.agg #[.int .i64 0, .string ⟨#[]⟩, .int .i64 0, .bool false], .bool false]) w := by kernel_rfl
theorem ta_Text_Int (cs : Array Value) (w : World) : (Instr.typeAssert (.iface 189 (.agg cs)) 103 181 true).run Tryz.prog w = .ok (.tuple #[.agg #[.int .i64 0, .string ⟨#[]⟩, .int .i64 0, .int .i64 0], .bool false]) w := by kernel_rfl
theorem ta_Text_Uint (cs : Array Value) (w : World) : (Instr.typeAssert (.iface 189 (.agg cs)) 103 183 true).run Tryz.prog w = .ok (.tuple #[.agg #[.int .i64 0, .string ⟨#[]⟩, .int .i64 0, .int .u64 0], .bool false]) w := by kernel_rfl
theorem ta_Text_Float (cs : Array Value) (w : World) : (Instr.typeAssert (.iface 189 (.agg cs)) 103 185 true).run Tryz.prog w = .ok (.tuple #[.agg #[.int .i64 0, .string ⟨#[]⟩, .int .i64 0, .int .u64 0, .int .i64 0], .bool false]) w := by kernel_rfl
theorem ta_Text_Complex (cs : Array Value) (w : World) : (Instr.typeAssert (.iface 189 (.agg cs)) 103 187 true).run Tryz.prog w = .ok (.tuple #[.agg #[.int .i64 0, .string ⟨#[]⟩, .int .i64 0, .int .u64 0, .int .u64 0, .int .i64 0], .bool false]) w := by kernel_rfl
theorem ta_Text_Text (cs : Array Value) (w : World) : (Instr.typeAssert (.iface 189 (.agg cs)) 103 189 true).run Tryz.prog w = .ok (.tuple #[.agg cs, .bool true]) w := by kernel_rfl
theorem ta_Text_Bytes (cs : Array Value) (w : World) : (Instr.typeAssert (.iface 189 (.agg cs)) 103 190 true).run Tryz.prog w = .ok (.tuple #[.agg #[.int .i64 0, .string ⟨#[]⟩, .int .i64 0, .string ⟨#[]⟩], .bool false]) w := by kernel_rfl
theorem ta_Text_Struct (cs : Array Value) (w : World) : (Instr.typeAssert (.iface 189 (.agg cs)) 103 193 true).run Tryz.prog w = .ok (.tuple #[.agg #[.int .i64 0, .string ⟨#[]⟩, .int .i64 0, .slice none 0 0], .bool false]) w := by kernel_rfl
theorem ta_Text_List (cs : Array Value) (w : World) : (Instr.typeAssert (.iface 189 (.agg cs)) 103 195 true).run Tryz.prog w = .ok (.tuple #[.agg #[.int .i64 0, .string ⟨#[]⟩, .int .i64 0, .slice none 0 0], .bool false]) w := by kernel_rfl
theorem ta_Text_Map (cs : Array Value) (w : World) : (Instr.typeAssert (.iface 189 (.agg cs)) 103 198 true).run Tryz.prog w = .ok (.tuple #[.agg #[.int .i64 0, .string ⟨#[]⟩, .int .i64 0, .slice none 0 0], .bool false]) w := by kernel_rfl
theorem ta_Text_Ptr (cs : Array Value) (w : World) : (Instr.typeAssert (.iface 189 (.agg cs)) 103 148 true).run Tryz.prog w = .ok (.tuple #[.agg #[.int .i64 0, .string ⟨#[]⟩, .int .i64 0, .int .u64 0, .nilIface], .bool false]) w := by kernel_rfl
theorem ta_Text_Nil (cs : Array Value) (w : World) : (Instr.typeAssert (.iface 189 (.agg cs)) 103 217 true).run Tryz.prog w = .ok (.tuple #[.agg #[], .bool false]) w := by kernel_rfl
theorem tn_Text (x : Value) (w : World) : (binOp BinOp.eql 103 (.iface 189 x) .nilIface).run Tryz.prog w = .ok (.bool false) w := by kernel_rfl
theorem ta_Bytes_Bool (cs : Array Value) (w : World) : (Instr.typeAssert (.iface 190 (.agg cs)) 103 179 true).run Tryz.prog w = .ok (.tuple #[.agg #[.int .i64 0, .string ⟨#[]⟩, .int .i64 0, .bool false], .bool false]) w := by kernel_rfl
theorem ta_Bytes_Int (cs : Array Value) (w : World) : (Instr.typeAssert (.iface 190 (.agg cs)) 103 181 true).run Tryz.prog w = .ok (.tuple #[.agg #[.int .i64 0, .string ⟨#[]⟩, .int .i64 0, .int .i64 0], .bool false]) w := by kernel_rfl
theorem ta_Bytes_Uint (cs : Array Value) (w : World) : (Instr.typeAssert (.iface 190 (.agg cs)) 103 183 true).run Tryz.prog w = .ok (.tuple #[.agg #[.int .i64 0, .string ⟨#[]⟩, .int .i64 0, .int .u64 0], .bool false]) w := by kernel_rfl
theorem ta_Bytes_Float (cs : Array Value) (w : World) : (Instr.typeAssert (.iface 190 (.agg cs)) 103 185 true).run Tryz.prog w = .ok (.tuple #[.agg #[.int .i64 0, .string ⟨#[]⟩, .int .i64 0, .int .u64 0, .int .i64 0], .bool false]) w := by kernel_rfl
theorem ta_Bytes_Complex (cs : Array Value) (w : World) : (Instr.typeAssert (.iface 190 (.agg cs)) 103 187 true).run Tryz.prog w = .ok (.tuple #[.agg #[.int .i64 0, .string ⟨#[]⟩, .int .i64 0, .int .u64 0, .int .u64 0, .int .i64 0], .bool false]) w := by kernel_rfl
theorem ta_Bytes_Text (cs : Array Value) (w : World) : (Instr.typeAssert (.iface 190 (.agg cs)) 103 189 true).run Tryz.prog w = .ok (.tuple #[.agg #[.int .i64 0, .string ⟨#[]⟩, .int .i64 0, .string ⟨#[]⟩], .bool false]) w := by kernel_rfl
theorem ta_Bytes_Bytes (cs : Array Value) (w : World) : (Instr.typeAssert (.iface 190 (.agg cs)) 103 190 true).run Tryz.prog w = .ok (.tuple #[.agg cs, .bool true]) w := by kernel_rfl
theorem ta_Bytes_Struct (cs : Array Value) (w : World) : (Instr.typeAssert (.iface 190 (.agg cs)) 103 193 true).run Tryz.prog w = .ok (.tuple #[.agg #[.int .i64 0, .string ⟨#[]⟩, .int .i64 0, .slice none 0 0], .bool false]) w := by kernel_rfl
theorem ta_Bytes_List (cs : Array Value) (w : World) : (Instr.typeAssert (.iface 190 (.agg cs)) 103 195 true).run Tryz.prog w = .ok (.tuple #[.agg #[.int .i64 0, .string ⟨#[]⟩, .int .i64 0, .slice none 0 0], .bool false]) w := by kernel_rfl
theorem ta_Bytes_Map (cs : Array Value) (w : World) : (Instr.typeAssert (.iface 190 (.agg cs)) 103 198 true).run Tryz.prog w = .ok (.tuple #[.agg #[.int .i64 0, .string ⟨#[]⟩, .int .i64 0, .slice none 0 0], .bool false]) w := by kernel_rfl
theorem ta_Bytes_Ptr (cs : Array Value) (w : World) : (Instr.typeAssert (.iface 190 (.agg cs)) 103 148 true).run Tryz.prog w = .ok (.tuple #[.agg #[.int .i64 0, .string ⟨#[]⟩, .int .i64 0, .int .u64 0, .nilIface], .bool false]) w := by kernel_rfl
theorem ta_Bytes_Nil (cs : Array Value) (w : World) : (Instr.typeAssert (.iface 190 (.agg cs)) 103 217 true).run Tryz.prog w = .ok (.tuple #[.agg #[], .bool false]) w := by kernel_rfl
theorem tn_Bytes (x : Value) (w : World) : (binOp BinOp.eql 103 (.iface 190 x) .nilIface).run Tryz.prog w = .ok (.bool false) w := by kernel_rfl
theorem ta_Struct_Bool (cs : Array Value) (w : World) : (Instr.typeAssert (.iface 193 (.agg cs)) 103 179 true).run Tryz.prog w = .ok (.tuple #[.agg #[.int .i64 0, .string ⟨#[]⟩, .int .i64 0, .bool false], .bool false]) w := by kernel_rfl
theorem ta_Struct_Int (cs : Array Value) (w : World) : (Instr.typeAssert (.iface 193 (.agg cs)) 103 181 true).run Tryz.prog w = .ok (.tuple #[.agg #[.int .i64 0, .string ⟨#[]⟩, .int .i64 0, .int .i64 0], .bool false]) w := by kernel_rfl
theorem ta_Struct_Uint (cs : Array Value) (w : World) : (Instr.typeAssert (.iface 193 (.agg cs)) 103 183 true).run Tryz.prog w = .ok (.tuple #[.agg #[.int .i64 0, .string ⟨#[]⟩, .int .i64 0, .int .u64 0], .bool false]) w := by kernel_rfl
theorem ta_Struct_Float (cs : Array Value) (w : World) : (Instr.typeAssert (.iface 193 (.agg cs)) 103 185 true).run Tryz.prog w = .ok (.tuple #[.agg #[.int .i64 0, .string ⟨#[]⟩, .int .i64 0, .int .u64 0, .int .i64 0], .bool false]) w := by kernel_rfl
theorem ta_Struct_Complex (cs : Array Value) (w : World) : (Instr.typeAssert (.iface 193 (.agg cs)) 103 187 true).run Tryz.prog w = .ok (.tuple #[.agg #[.int .i64 0, .string ⟨#[]⟩, .int .i64 0, .int .u64 0, .int .u64 0, .int .i64 0], .bool false]) w := by kernel_rfl
theorem ta_Struct_Text (cs : Array Value) (w : World) : (Instr.typeAssert (.iface 193 (.agg cs)) 103 189 true).run Tryz.prog w = .ok (.tuple #[.agg #[.int .i64 0, .string ⟨#[]⟩, .int .i64 0, .string ⟨#[]⟩], .bool false]) w := by kernel_rfl
theorem ta_Struct_Bytes (cs : Array Value) (w : World) : (Instr.typeAssert (.iface 193 (.agg cs)) 103 190 true).run Tryz.prog w = .ok (.tuple #[.agg #[.int .i64 0, .string ⟨#[]⟩, .int .i64 0, .string ⟨#[]⟩], .bool false]) w := by kernel_rfl
theorem ta_Struct_Struct (cs : Array Value) (w : World) : (Instr.typeAssert (.iface 193 (.agg cs)) 103 193 true).run Tryz.prog w = .ok (.tuple #[.agg cs, .bool true]) w := by kernel_rfl
theorem ta_Struct_List (cs : Array Value) (w : World) : (Instr.typeAssert (.iface 193 (.agg cs)) 103 195 true).run Tryz.prog w = .ok (.tuple #[.agg #[.int .i64 0, .string ⟨#[]⟩, .int .i64 0, .slice none 0 0], .bool false]) w := by kernel_rfl
theorem ta_Struct_Map (cs : Array Value) (w : World) : (Instr.typeAssert (.iface 193 (.agg cs)) 103 198 true).run Tryz.prog w = .ok (.tuple #[.agg #[.int .i64 0, .string ⟨#[]⟩, .int .i64 0, .slice none 0 0], .bool false]) w := by kernel_rfl
theorem ta_Struct_Ptr (cs : Array Value) (w : World) : (Instr.typeAssert (.iface 193 (.agg cs)) 103 148 true).run Tryz.prog w = .ok (.tuple #[.agg #[.int .i64 0, .string ⟨#[]⟩, .int .i64 0, .int .u64 0, .nilIface], .bool false]) w := by kernel_rfl
theorem ta_Struct_Nil (cs : Array Value) (w : World) : (Instr.typeAssert (.iface 193 (.agg cs)) 103 217 true).run Tryz.prog w = .ok (.tuple #[.agg #[], .bool false]) w := by kernel_rfl
theorem tn_Struct (x : Value) (w : World) : (binOp BinOp.eql 103 (.iface 193 x) .nilIface).run Tryz.prog w = .ok (.bool false) w := by kernel_rfl
theorem ta_List_Bool (cs : Array Value) (w : World) : (Instr.typeAssert (.iface 195 (.agg cs)) 103 179 true).run Tryz.prog w = .ok (.tuple #[.agg #[.int .i64 0, .string ⟨#[]⟩, .int .i64 0, .bool false], .bool false]) w := by kernel_rfl
theorem ta_List_Int (cs : Array Value) (w : World) : (Instr.typeAssert (.iface 195 (.agg cs)) 103 181 true).run Tryz.prog w = .ok (.tuple #[.agg #[.int .i64 0, .string ⟨#[]⟩, .int .i64 0, .int .i64 0], .bool false]) w := by kernel_rfl
theorem ta_List_Uint (cs : Array Value) (w : World) : (Instr.typeAssert (.iface 195 (.agg cs)) 103 183 true).run Tryz.prog w = .ok (.tuple #[.agg #[.int .i64 0, .string ⟨#[]⟩, .int .i64 0, .int .u64 0], .bool false]) w := by kernel_rfl
theorem ta_List_Float (cs : Array Value) (w : World) : (Instr.typeAssert (.iface 195 (.agg cs)) 103 185 true).run Tryz.prog w = .ok (.tuple #[.agg #[.int .i64 0, .string ⟨#[]⟩, .int .i64 0, .int .u64 0, .int .i64 0], .bool false]) w := by kernel_rfl
theorem ta_List_Complex (cs : Array Value) (w : World) : (Instr.typeAssert (.iface 195 (.agg cs)) 103 187 true).run Tryz.prog w = .ok (.tuple #[.agg #[.int .i64 0, .string ⟨#[]⟩, .int .i64 0, .int .u64 0, .int .u64 0, .int .i64 0], .bool false]) w := by kernel_rfl
theorem ta_List_Text (cs : Array Value) (w : World) : (Instr.typeAssert (.iface 195 (.agg cs)) 103 189 true).run Tryz.prog w = .ok (.tuple #[.agg #[.int .i64 0, .string ⟨#[]⟩, .int .i64 0, .string ⟨#[]⟩], .bool false]) w := by kernel_rfl
theorem ta_List_Bytes (cs : Array Value) (w : World) : (Instr.typeAssert (.iface 195 (.agg cs)) 103 190 true).run Tryz.prog w = .ok (.tuple #[.agg #[.int .i64 0, .string ⟨#[]⟩, .int .i64 0, .string ⟨#[]⟩], .bool false]) w := by kernel_rfl
theorem ta_List_Struct (cs : Array Value) (w : World) : (Instr.typeAssert (.iface 195 (.agg cs)) 103 193 true).run Tryz.prog w = .ok (.tuple #[.agg #[.int .i64 0, .string ⟨#[]⟩, .int .i64 0, .slice none 0 0], .bool false]) w := by kernel_rfl
theorem ta_List_List (cs : Array Value) (w : World) : (Instr.typeAssert (.iface 195 (.agg cs)) 103 195 true).run Tryz.prog w = .ok (.tuple #[.agg cs, .bool true]) w := by kernel_rfl
theorem ta_List_Map (cs : Array Value) (w : World) : (Instr.typeAssert (.iface 195 (.agg cs)) 103 198 true).run Tryz.prog w = .ok (.tuple #[.agg #[.int .i64 0, .string ⟨#[]⟩, .int .i64 0, .slice none 0 0], .bool false]) w := by kernel_rfl
theorem ta_List_Ptr (cs : Array Value) (w : World) : (Instr.typeAssert (.iface 195 (.agg cs)) 103 148 true).run Tryz.prog w = .ok (.tuple #[.agg #[.int .i64 0, .string ⟨#[]⟩, .int .i64 0, .int .u64 0, .nilIface], .bool false]) w := by kernel_rfl
theorem ta_List_Nil (cs : Array Value) (w : World) : (Instr.typeAssert (.iface 195 (.agg cs)) 103 217 true).run Tryz.prog w = .ok (.tuple #[.agg #[], .bool false]) w := by kernel_rfl
theorem tn_List (x : Value) (w : World) : (binOp BinOp.eql 103 (.iface 195 x) .nilIface).run Tryz.prog w = .ok (.bool false) w := by kernel_rfl
theorem ta_Map_Bool (cs : Array Value) (w : World) : (Instr.typeAssert (.iface 198 (.agg cs)) 103 179 true).run Tryz.prog w = .ok (.tuple #[.agg #[.int .i64 0, .string ⟨#[]⟩, .int .i64 0, .bool false], .bool false]) w := by kernel_rfl
theorem ta_Map_Int (cs : Array Value) (w : World) : (Instr.typeAssert (.iface 198 (.agg cs)) 103 181 true).run Tryz.prog w = .ok (.tuple #[.agg #[.int .i64 0, .string ⟨#[]⟩, .int .i64 0, .int .i64 0], .bool false]) w := by kernel_rfl
theorem ta_Map_Uint (cs : Array Value) (w : World) : (Instr.typeAssert (.iface 198 (.agg cs)) 103 183 true).run Tryz.prog w = .ok (.tuple #[.agg #[.int .i64 0, .string ⟨#[]⟩, .int .i64 0, .int .u64 0], .bool false]) w := by kernel_rfl
theorem ta_Map_Float (cs : Array Value) (w : World) : (Instr.typeAssert (.iface 198 (.agg cs)) 103 185 true).run Tryz.prog w = .ok (.tuple #[.agg #[.int .i64 0, .string ⟨#[]⟩, .int .i64 0, .int .u64 0, .int .i64 0], .bool false]) w := by kernel_rfl
theorem ta_Map_Complex (cs : Array Value) (w : World) : (Instr.typeAssert (.iface 198 (.agg cs)) 103 187 true).run Tryz.prog w = .ok (.tuple #[.agg #[.int .i64 0, .string ⟨#[]⟩, .int .i64 0, .int .u64 0, .int .u64 0, .int .i64 0], .bool false]) w := by kernel_rfl
theorem ta_Map_Text (cs : Array Value) (w : World) : (Instr.typeAssert (.iface 198 (.agg cs)) 103 189 true).run Tryz.prog w = .ok (.tuple #[.agg #[.int .i64 0, .string ⟨#[]⟩, .int .i64 0, .string ⟨#[]⟩], .bool false]) w := by kernel_rfl
theorem ta_Map_Bytes (cs : Array Value) (w : World) : (Instr.typeAssert (.iface 198 (.agg cs)) 103 190 true).run Tryz.prog w = .ok (.tuple #[.agg #[.int .i64 0, .string ⟨#[]⟩, .int .i64 0, .string ⟨#[]⟩], .bool false]) w := by kernel_rfl
theorem ta_Map_Struct (cs : Array Value) (w : World) : (Instr.typeAssert (.iface 198 (.agg cs)) 103 193 true).run Tryz.prog w = .ok (.tuple #[.agg #[.int .i64 0, .string ⟨#[]⟩, .int .i64 0, .slice none 0 0], .bool false]) w := by kernel_rfl
theorem ta_Map_List (cs : Array Value) (w : World) : (Instr.typeAssert (.iface 198 (.agg cs)) 103 195 true).run Tryz.prog w = .ok (.tuple #[.agg #[.int .i64 0, .string ⟨#[]⟩, .int .i64 0, .slice none 0 0], .bool false]) w := by kernel_rfl
theorem ta_Map_Map (cs : Array Value) (w : World) : (Instr.typeAssert (.iface 198 (.agg cs)) 103 198 true).run Tryz.prog w = .ok (.tuple #[.agg cs, .bool true]) w := by kernel_rfl
theorem ta_Map_Ptr (cs : Array Value) (w : World) : (Instr.typeAssert (.iface 198 (.agg cs)) 103 148 true).run Tryz.prog w = .ok (.tuple #[.agg #[.int .i64 0, .string ⟨#[]⟩, .int .i64 0, .int .u64 0, .nilIface], .bool false]) w := by kernel_rfl
theorem ta_Map_Nil (cs : Array Value) (w : World) : (Instr.typeAssert (.iface 198 (.agg cs)) 103 217 true).run Tryz.prog w = .ok (.tuple #[.agg #[], .bool false]) w := by kernel_rfl
theorem tn_Map (x : Value) (w : World) : (binOp BinOp.eql 103 (.iface 198 x) .nilIface).run Tryz.prog w = .ok (.bool false) w := by kernel_rfl
theorem ta_Ptr_Bool (cs : Array Value) (w : World) : (Instr.typeAssert (.iface 148 (.agg cs)) 103 179 true).run Tryz.prog w = .ok (.tuple #[.agg #[.int .i64 0, .string ⟨#[]⟩, .int .i64 0, .bool false], .bool false]) w := by kernel_rfl
theorem ta_Ptr_Int (cs : Array Value) (w : World) : (Instr.typeAssert (.iface 148 (.agg cs)) 103 181 true).run Tryz.prog w = .ok (.tuple #[.agg #[.int .i64 0, .string ⟨#[]⟩, .int .i64 0, .int .i64 0], .bool false]) w := by kernel_rfl
theorem ta_Ptr_Uint (cs : Array Value) (w : World) : (Instr.typeAssert (.iface 148 (.agg cs)) 103 183 true).run Tryz.prog w = .ok (.tuple #[.agg #[.int .i64 0, .string ⟨#[]⟩, .int .i64 0, .int .u64 0], .bool false]) w := by kernel_rfl
theorem ta_Ptr_Float (cs : Array Value) (w : World) : (Instr.typeAssert (.iface 148 (.agg cs)) 103 185 true).run Tryz.prog w = .ok (.tuple #[.agg #[.int .i64 0, .string ⟨#[]⟩, .int .i64 0, .int .u64 0, .int .i64 0], .bool false]) w := by kernel_rfl
theorem ta_Ptr_Complex (cs : Array Value) (w : World) : (Instr.typeAssert (.iface 148 (.agg cs)) 103 187 true).run Tryz.prog w = .ok (.tuple #[.agg #[.int .i64 0, .string ⟨#[]⟩, .int .i64 0, .int .u64 0, .int .u64 0, .int .i64 0], .bool false]) w := by kernel_rfl
theorem ta_Ptr_Text (cs : Array Value) (w : World) : (Instr.typeAssert (.iface 148 (.agg cs)) 103 189 true).run Tryz.prog w = .ok (.tuple #[.agg #[.int .i64 0, .string ⟨#[]⟩, .int .i64 0, .string ⟨#[]⟩], .bool false]) w := by kernel_rfl
theorem ta_Ptr_Bytes (cs : Array Value) (w : World) : (Instr.typeAssert (.iface 148 (.agg cs)) 103 190 true).run Tryz.prog w = .ok (.tuple #[.agg #[.int .i64 0, .string ⟨#[]⟩, .int .i64 0, .string ⟨#[]⟩], .bool false]) w := by kernel_rfl
theorem ta_Ptr_Struct (cs : Array Value) (w : World) : (Instr.typeAssert (.iface 148 (.agg cs)) 103 193 true).run Tryz.prog w = .ok (.tuple #[.agg #[.int .i64 0, .string ⟨#[]⟩, .int .i64 0, .slice none 0 0], .bool false]) w := by kernel_rfl
theorem ta_Ptr_List (cs : Array Value) (w : World) : (Instr.typeAssert (.iface 148 (.agg cs)) 103 195 true).run Tryz.prog w = .ok (.tuple #[.agg #[.int .i64 0, .string ⟨#[]⟩, .int .i64 0, .slice none 0 0], .bool false]) w := by kernel_rfl
theorem ta_Ptr_Map (cs : Array Value) (w : World) : (Instr.typeAssert (.iface 148 (.agg cs)) 103 198 true).run Tryz.prog w = .ok (.tuple #[.agg #[.int .i64 0, .string ⟨#[]⟩, .int .i64 0, .slice none 0 0], .bool false]) w := by kernel_rfl
theorem ta_Ptr_Ptr (cs : Array Value) (w : World) : (Instr.typeAssert (.iface 148 (.agg cs)) 103 148 true).run Tryz.prog w = .ok (.tuple #[.agg cs, .bool true]) w := by kernel_rfl
theorem ta_Ptr_Nil (cs : Array Value) (w : World) : (Instr.typeAssert (.iface 148 (.agg cs)) 103 217 true).run Tryz.prog w = .ok (.tuple #[.agg #[], .bool false]) w := by kernel_rfl
theorem tn_Ptr (x : Value) (w : World) : (binOp BinOp.eql 103 (.iface 148 x) .nilIface).run Tryz.prog w = .ok (.bool false) w := by kernel_rfl
theorem ta_Nil_Bool (cs : Array Value) (w : World) : (Instr.typeAssert (.iface 217 (.agg cs)) 103 179 true).run Tryz.prog w = .ok (.tuple #[.agg #[.int .i64 0, .string ⟨#[]⟩, .int .i64 0, .bool false], .bool false]) w := by kernel_rfl
theorem ta_Nil_Int (cs : Array Value) (w : World) : (Instr.typeAssert (.iface 217 (.agg cs)) 103 181 true).run Tryz.prog w = .ok (.tuple #[.agg #[.int .i64 0, .string ⟨#[]⟩, .int .i64 0, .int .i64 0], .bool false]) w := by kernel_rfl
theorem ta_Nil_Uint (cs : Array Value) (w : World) : (Instr.typeAssert (.iface 217 (.agg cs)) 103 183 true).run Tryz.prog w = .ok (.tuple #[.agg #[.int .i64 0, .string ⟨#[]⟩, .int .i64 0, .int .u64 0], .bool false]) w := by kernel_rfl
theorem ta_Nil_Float (cs : Array Value) (w : World) : (Instr.typeAssert (.iface 217 (.agg cs)) 103 185 true).run Tryz.prog w = .ok (.tuple #[.agg #[.int .i64 0, .string ⟨#[]⟩, .int .i64 0, .int .u64 0, .int .i64 0], .bool false]) w := by kernel_rfl
theorem ta_Nil_Complex (cs : Array Value) (w : World) : (Instr.typeAssert (.iface 217 (.agg cs)) 103 187 true).run Tryz.prog w = .ok (.tuple #[.agg #[.int .i64 0, .string ⟨#[]⟩, .int .i64 0, .int .u64 0, .int .u64 0, .int .i64 0], .bool false]) w := by kernel_rfl
theorem ta_Nil_Text (cs : Array Value) (w : World) : (Instr.typeAssert (.iface 217 (.agg cs)) 103 189 true).run Tryz.prog w = .ok (.tuple #[.agg #[.int .i64 0, .string ⟨#[]⟩, .int .i64 0, .string ⟨#[]⟩], .bool false]) w := by kernel_rfl
theorem ta_Nil_Bytes (cs : Array Value) (w : World) : (Instr.typeAssert (.iface 217 (.agg cs)) 103 190 true).run Tryz.prog w = .ok (.tuple #[.agg #[.int .i64 0, .string ⟨#[]⟩, .int .i64 0, .string ⟨#[]⟩], .bool false]) w := by kernel_rfl
theorem ta_Nil_Struct (cs : Array Value) (w : World) : (Instr.typeAssert (.iface 217 (.agg cs)) 103 193 true).run Tryz.prog w = .ok (.tuple #[.agg #[.int .i64 0, .string ⟨#[]⟩, .int .i64 0, .slice none 0 0], .bool false]) w := by kernel_rfl
theorem ta_Nil_List (cs : Array Value) (w : World) : (Instr.typeAssert (.iface 217 (.agg cs)) 103 195 true).run Tryz.prog w = .ok (.tuple #[.agg #[.int .i64 0, .string ⟨#[]⟩, .int .i64 0, .slice none 0 0], .bool false]) w := by kernel_rfl
theorem ta_Nil_Map (cs : Array Value) (w : World) : (Instr.typeAssert (.iface 217 (.agg cs)) 103 198 true).run Tryz.prog w = .ok (.tuple #[.agg #[.int .i64 0, .string ⟨#[]⟩, .int .i64 0, .slice none 0 0], .bool false]) w := by kernel_rfl
theorem ta_Nil_Ptr (cs : Array Value) (w : World) : (Instr.typeAssert (.iface 217 (.agg cs)) 103 148 true).run Tryz.prog w = .ok (.tuple #[.agg #[.int .i64 0, .string ⟨#[]⟩, .int .i64 0, .int .u64 0, .nilIface], .bool false]) w := by kernel_rfl
theorem ta_Nil_Nil (cs : Array Value) (w : World) : (Instr.typeAssert (.iface 217 (.agg cs)) 103 217 true).run Tryz.prog w = .ok (.tuple #[.agg cs, .bool true]) w := by kernel_rfl
theorem tn_Nil (x : Value) (w : World) : (binOp BinOp.eql 103 (.iface 217 x) .nilIface).run Tryz.prog w = .ok (.bool false) w := by kernel_rfl
end Go.Proofs.YtdjhmanccoekjaaGreatDoor
end
