/-
  Layer 3: what the laws say of what is written, in plain Lean; a box of one spec.
-/
import Derived.Test.YtampkhdlhhgneaaQA
namespace Go.Proofs.Ytampkhdlhhgneaa
open Go.RowKit Go.Proofs

/-- A spec's box, kept. -/
structure Bx (w : World) (H : Nat) (C : Array Value) (W : World) : Prop where
  b : Blk W H C 27
  below : Below w.heap.size w W
theorem Bx.kept {w W W' : World} {H : Nat} {C : Array Value} (h : Bx w H C W) (hb : Below W.heap.size W W') : Bx w H C W' :=
  ⟨h.b.below hb h.b.lt, h.below.trans (hb.mono h.below.size)⟩
theorem Bx.cells {w W : World} {H : Nat} {pl mi sh sp ze : Bool} {wid prec verb : Int} (h : Bx w H (sp8 pl mi sh sp ze wid prec verb) W) :
    W.cell? ⟨H, 0, none⟩ = some (.bool pl) ∧ W.cell? ⟨H, 1, none⟩ = some (.bool mi) ∧ W.cell? ⟨H, 2, none⟩ = some (.bool sh) ∧ W.cell? ⟨H, 3, none⟩ = some (.bool sp) ∧ W.cell? ⟨H, 4, none⟩ = some (.bool ze) ∧ W.cell? ⟨H, 5, none⟩ = some (.int .i64 wid) ∧ W.cell? ⟨H, 6, none⟩ = some (.int .i64 prec) ∧ W.cell? ⟨H, 7, none⟩ = some (.int .i32 verb) :=
  ⟨h.b.cell 0, h.b.cell 1, h.b.cell 2, h.b.cell 3, h.b.cell 4, h.b.cell 5, h.b.cell 6, h.b.cell 7⟩
theorem bx_start (w : World) (C : Array Value) : Bx w w.heap.size C (w.alloc (.cells C 27)) :=
  ⟨Blk.new w C _, (Below.refl _ _).alloc (Nat.le_refl _) _⟩
theorem Bx.set {w W : World} {H : Nat} {C : Array Value} (h : Bx w H C W) (hH : w.heap.size ≤ H) (i : Nat) (u : Value) : Bx w H (C.setIfInBounds i u) (W.setCell ⟨H, i, none⟩ u) :=
  ⟨h.b.set_ i u, h.below.setCell hH u⟩
theorem Bx.frozen {w W : World} {H : Nat} {C : Array Value} (h : Bx w H C W) (i : Nat) : W.frozen? ⟨H, i, none⟩ = false := h.b.frozen i

/-- Without a sign it is said as with one that is not below 0, but by v with Sharp. -/
theorem write_uns (n : Nat) (pl mi sh sp ze : Bool) (wid prec verb : Int) (h : ¬ (verb = 118 ∧ sh = true)) : writeS false true n n pl mi sh sp ze wid prec verb = writeS false false n n pl mi sh sp ze wid prec verb := by
  unfold writeS
  have h1 : ¬ (verb = 118 ∧ True ∧ sh = true) := fun ⟨a, _, c⟩ => h ⟨a, c⟩
  simp only [h1, if_false, false_and, and_false, Bool.false_eq_true]
/-- Nothing is padded to no width. -/
theorem pad_none (t : ByteArray) (mi ze : Bool) : padS t mi ze (-1) = t := by
  unfold padS
  rw [if_pos (by omega)]
/-- Without Zero, what is written is the bare text padded. -/
theorem write_bare (neg uns : Bool) (n bits : Nat) (pl mi sh sp : Bool) (wid prec verb : Int) : writeS neg uns n bits pl mi sh sp false wid prec verb = (writeS neg uns n bits pl false sh sp false (-1) prec verb).map (fun t => padS t mi false wid) := by
  unfold writeS
  split
  · simp [pad_none]
  split
  · simp [pad_none]
  split
  · simp [pad_none]
  split
  · simp [basedS, pad_none, IP.bodyL]
  · cases IP.baseOf verb with
    | none => rfl
    | some x =>
      obtain ⟨b, m, al, g⟩ := x
      simp [basedS, pad_none, IP.bodyL]
/-- What is written is a text padded to the width. -/
theorem write_some (neg uns : Bool) (n bits : Nat) (pl mi sh sp ze : Bool) (wid prec verb : Int) (s : ByteArray) (h : writeS neg uns n bits pl mi sh sp ze wid prec verb = some s) (hn : n < 18446744073709551616) (hb : bits < 18446744073709551616) :
    ∃ t z, s = padS t mi z wid ∧ t.size ≤ 3100 := by
  have key : ∀ (b : Nat) (m : List UInt8) (g : Bool), 2 ≤ b → m.length ≤ 2 → (⟨(IP.bodyL neg n b g m pl mi sp ze wid prec).toArray⟩ : ByteArray).size ≤ 3100 := by
    intro b m g hb2 hm
    have e : (⟨(IP.bodyL neg n b g m pl mi sp ze wid prec).toArray⟩ : ByteArray).size = (IP.bodyL neg n b g m pl mi sp ze wid prec).length := by simp [ByteArray.size]
    rw [e]
    unfold IP.bodyL
    have hd := IP.dgb_len64 b g hb2 n hn
    have hs := IP.signL_len neg pl sp
    have hp : (IP.limI prec).toNat ≤ 1000 := by unfold IP.limI; omega
    have hw : (IP.limI wid).toNat ≤ 1000 := by unfold IP.limI; omega
    have hz := IP.zerosTo_len (IP.limI prec) (IP.dgb b g n)
    have hmk : (IP.markL m (IP.zerosTo (IP.limI prec) (IP.dgb b g n))).length ≤ 2 := by
      unfold IP.markL
      split
      · decide
      · exact hm
    split
    · decide
    · simp only []
      split
      · simp only [List.length_append, IP.zerosTo_len]
        omega
      · simp only [List.length_append]
        omega
  unfold writeS at h
  split at h
  · cases h
    refine ⟨_, _, rfl, ?_⟩
    have := Utf.encL_pos (IP.pointI bits)
    rw [Utf.size_eq]
    show (Utf.encL _).length ≤ _
    omega
  split at h
  · cases h
    refine ⟨_, _, rfl, ?_⟩
    have := IP.inL_len (Utf.cp (IP.pointI bits) : Int) 39 pl
    have e : (⟨(IP.charL (IP.pointI bits) pl).toArray⟩ : ByteArray).size = (IP.charL (IP.pointI bits) pl).length := by simp [ByteArray.size]
    rw [e]
    unfold IP.charL
    simp only [List.length_cons, List.length_append, List.length_nil]
    omega
  split at h
  · cases h
    refine ⟨_, _, rfl, ?_⟩
    have e : (⟨(IP.uniL bits sh prec).toArray⟩ : ByteArray).size = (IP.uniL bits sh prec).length := by simp [ByteArray.size]
    rw [e]
    unfold IP.uniL
    have hd := IP.dgb_len64 16 true (by decide) bits hb
    have hz := IP.zerosTo_len (max 4 (IP.limI prec)) (IP.dgb 16 true bits)
    have hp : (max 4 (IP.limI prec)).toNat ≤ 1000 := by unfold IP.limI; omega
    have := Utf.encL_pos (bits : Int)
    simp only [List.length_append, List.length_cons, List.length_nil]
    split
    · simp only [List.length_append, List.length_cons, List.length_nil]
      omega
    · simp only [List.length_nil]
      omega
  split at h
  · cases h
    exact ⟨_, _, rfl, key _ _ _ (by decide) (by decide)⟩
  · have hbase : ∀ b m al g, IP.baseOf verb = some (b, m, al, g) → 2 ≤ b ∧ m.length ≤ 2 := by
      intro b m al g hx
      unfold IP.baseOf at hx
      repeat (split at hx; · cases hx; decide)
      cases hx
    cases hx : IP.baseOf verb with
    | none => rw [hx] at h; cases h
    | some x =>
      obtain ⟨b, m, al, g⟩ := x
      obtain ⟨k1, k2⟩ := hbase b m al g hx
      rw [hx] at h
      simp only [Option.some.injEq] at h
      refine ⟨_, _, h.symm, key _ _ _ k1 ?_⟩
      split
      · exact k2
      · decide
/-- Refused, or not: by the verb alone, and the way it is said. -/
theorem write_none (neg uns : Bool) (n bits : Nat) (pl mi sh sp ze : Bool) (wid prec verb : Int) (neg' : Bool) (n' bits' : Nat) (uns' : Bool) : writeS neg uns n bits pl mi sh sp ze wid prec verb = none ↔ writeS neg' uns' n' bits' pl mi sh sp ze wid prec verb = none := by
  have key : ∀ neg uns n bits, writeS neg uns n bits pl mi sh sp ze wid prec verb = none ↔ (¬ verb = 99 ∧ ¬ verb = 113 ∧ ¬ verb = 85 ∧ IP.baseOf verb = none) := by
    intro neg uns n bits
    unfold writeS
    by_cases h1 : verb = 99
    · simp [h1]
    by_cases h2 : verb = 113
    · simp [h2]
    by_cases h3 : verb = 85
    · simp [h3]
    rw [if_neg h1, if_neg h2, if_neg h3]
    by_cases h4 : verb = 118 ∧ uns = true ∧ sh = true
    · rw [if_pos h4]
      have : IP.baseOf verb = some (10, [], false, false) := by unfold IP.baseOf; rw [if_pos (Or.inr h4.1)]
      simp [this]
    · rw [if_neg h4]
      cases hx : IP.baseOf verb with
      | none => simp [h1, h2, h3]
      | some x => simp
  rw [key, key]
theorem pad_size (t : ByteArray) (mi ze : Bool) (wid : Int) : (padS t mi ze wid).size ≤ t.size + 1000 ∧ t.size ≤ (padS t mi ze wid).size := by
  have f1 := fillS_size 32 (max 0 (min wid 1000) - (Utf.count t.data.toList : Int))
  have f2 := fillS_size 48 (max 0 (min wid 1000) - (Utf.count t.data.toList : Int))
  unfold padS
  simp only []
  split
  · omega
  split
  · rw [ByteArray.size_append]; omega
  split
  · rw [ByteArray.size_append]; omega
  · rw [ByteArray.size_append]; omega
end Go.Proofs.Ytampkhdlhhgneaa
