/-
  PLAIN LEAN: code points as bytes: what decoding gives of what encoding writes, and back; runes counted and cut. No Go and no memory.
-/
import GoSem.Core.Utf8
namespace Go.Proofs.YtdjhmanccoekjaaGreatDoor.Utf

/-- The bytes of a code point (of what is none: those of fffd). -/
def encL (r : Int) : List UInt8 := (Utf8.encode r).data.toList

/-- The first rune of a list of bytes, and its width. -/
def decL (l : List UInt8) : Nat × Nat :=
  let at' (k : Nat) : Nat := (l[k]?.getD 0).toNat
  let cont (k : Nat) : Bool := k < l.length && at' k / 64 == 2
  let b0 := at' 0
  if b0 < 0x80 then (b0, 1)
  else if b0 / 32 == 6 && cont 1 then
    let c := (b0 % 32) * 64 + at' 1 % 64
    if c ≥ 0x80 then (c, 2) else (0xFFFD, 1)
  else if b0 / 16 == 14 && cont 1 && cont 2 then
    let c := (b0 % 16) * 4096 + (at' 1 % 64) * 64 + at' 2 % 64
    if c ≥ 0x800 && Utf8.valid c then (c, 3) else (0xFFFD, 1)
  else if b0 / 8 == 30 && cont 1 && cont 2 && cont 3 then
    let c := (b0 % 8) * 262144 + (at' 1 % 64) * 4096 + (at' 2 % 64) * 64 + at' 3 % 64
    if c ≥ 0x10000 && Utf8.valid c then (c, 4) else (0xFFFD, 1)
  else (0xFFFD, 1)

theorem get!_eq (s : ByteArray) (k : Nat) : s.get! k = s.data.toList[k]?.getD 0 := by
  cases s with
  | mk a =>
    show a[k]! = _
    rw [Array.getElem?_toList]
    by_cases h : k < a.size
    · rw [Array.getElem?_eq_getElem h, getElem!_pos a k h]; rfl
    · rw [Array.getElem?_eq_none (Nat.le_of_not_lt h), getElem!_neg a k h]; rfl

theorem size_eq (s : ByteArray) : s.size = s.data.toList.length := by
  cases s with
  | mk a => simp [ByteArray.size]

theorem decode_eq (s : ByteArray) (i : Nat) : Utf8.decode s i = decL (s.data.toList.drop i) := by
  have h1 : ∀ k, s.get! (i + k) = ((s.data.toList.drop i)[k]?.getD 0) := fun k => by
    rw [get!_eq, List.getElem?_drop]
  have h2 : ∀ k, decide (i + k < s.size) = decide (k < (s.data.toList.drop i).length) := fun k => by
    rw [size_eq, List.length_drop]
    congr 1
    apply propext
    constructor <;> intro h <;> omega
  unfold Utf8.decode decL
  simp only [h1, h2]
  rfl

theorem toNat_ofNat {n : Nat} (h : n < 256) : (UInt8.ofNat n).toNat = n := by
  rw [UInt8.toNat_ofNat']; omega

theorem u8_eq {a : UInt8} {n : Nat} (h : n < 256) : a = UInt8.ofNat n ↔ a.toNat = n := by
  constructor
  · rintro rfl; exact toNat_ofNat h
  · intro e; apply UInt8.toNat_inj.1; rw [toNat_ofNat h]; exact e

theorem valid_iff (r : Int) : Utf8.valid r = true ↔ (0 ≤ r ∧ r < 55296) ∨ (57344 ≤ r ∧ r ≤ 1114111) := by
  unfold Utf8.valid
  simp

/-- The number that is written. -/
def cp (r : Int) : Nat := if Utf8.valid r then r.toNat else 65533

theorem cp_valid (r : Int) : Utf8.valid (cp r : Int) = true := by
  unfold cp
  split
  · rename_i h
    have := (valid_iff r).1 h
    rw [valid_iff]; omega
  · decide

theorem cp_bound (r : Int) : (cp r < 55296 ∨ 57344 ≤ cp r) ∧ cp r ≤ 1114111 := by
  have := (valid_iff _).1 (cp_valid r); omega

theorem cp_of_valid {r : Int} (h : Utf8.valid r = true) : (cp r : Int) = r := by
  unfold cp
  rw [if_pos h]
  have := (valid_iff r).1 h
  omega

theorem encL_eq (r : Int) : encL r =
    if cp r < 128 then [UInt8.ofNat (cp r)]
    else if cp r < 2048 then [UInt8.ofNat (192 + cp r / 64), UInt8.ofNat (128 + cp r % 64)]
    else if cp r < 65536 then [UInt8.ofNat (224 + cp r / 4096), UInt8.ofNat (128 + cp r / 64 % 64), UInt8.ofNat (128 + cp r % 64)]
    else [UInt8.ofNat (240 + cp r / 262144), UInt8.ofNat (128 + cp r / 4096 % 64), UInt8.ofNat (128 + cp r / 64 % 64), UInt8.ofNat (128 + cp r % 64)] := by
  unfold encL Utf8.encode
  have e : (if Utf8.valid r then r.toNat else Utf8.runeError) = cp r := rfl
  simp only [e]
  split
  · rfl
  · split
    · rfl
    · split <;> rfl

theorem encL_cp (r : Int) : encL (cp r : Int) = encL r := by
  have e : cp (cp r : Int) = cp r := by
    have := cp_of_valid (cp_valid r)
    omega
  rw [encL_eq, encL_eq r, e]

theorem encL_len (r : Int) : (encL r).length = if cp r < 128 then 1 else if cp r < 2048 then 2 else if cp r < 65536 then 3 else 4 := by
  rw [encL_eq]
  split
  · rfl
  · split
    · rfl
    · split <;> rfl

theorem encL_pos (r : Int) : 1 ≤ (encL r).length ∧ (encL r).length ≤ 4 := by
  rw [encL_len]
  split
  · omega
  · split
    · omega
    · split <;> omega

/-- What is written of a code point is read as it, whatever stands behind. -/
theorem dec_enc (r : Int) (t : List UInt8) : decL (encL r ++ t) = (cp r, (encL r).length) := by
  have hb := cp_bound r
  have hv := cp_valid r
  rw [encL_len, encL_eq]
  generalize cp r = n at *
  by_cases h1 : n < 128
  · simp only [if_pos h1]
    simp [decL, toNat_ofNat (show n < 256 by omega), h1]
  · by_cases h2 : n < 2048
    · simp only [if_neg h1, if_pos h2]
      have e0 : (UInt8.ofNat (192 + n / 64)).toNat = 192 + n / 64 := toNat_ofNat (by omega)
      have e1 : (UInt8.ofNat (128 + n % 64)).toNat = 128 + n % 64 := toNat_ofNat (by omega)
      simp only [decL, List.cons_append, List.nil_append, List.length_cons, List.getElem?_cons_zero, List.getElem?_cons_succ, Option.getD_some, e0, e1]
      have a0 : ¬ (192 + n / 64 < 128) := by omega
      have a1 : ((192 + n / 64) / 32 == 6) = true := by rw [beq_iff_eq]; omega
      have a2 : ((128 + n % 64) / 64 == 2) = true := by rw [beq_iff_eq]; omega
      have a3 : (192 + n / 64) % 32 * 64 + (128 + n % 64) % 64 = n := by omega
      simp only [if_neg a0, a1, a2, a3]
      simp
      omega
    · by_cases h3 : n < 65536
      · simp only [if_neg h1, if_neg h2, if_pos h3]
        have e0 : (UInt8.ofNat (224 + n / 4096)).toNat = 224 + n / 4096 := toNat_ofNat (by omega)
        have e1 : (UInt8.ofNat (128 + n / 64 % 64)).toNat = 128 + n / 64 % 64 := toNat_ofNat (by omega)
        have e2 : (UInt8.ofNat (128 + n % 64)).toNat = 128 + n % 64 := toNat_ofNat (by omega)
        simp only [decL, List.cons_append, List.nil_append, List.length_cons, List.getElem?_cons_zero, List.getElem?_cons_succ, Option.getD_some, e0, e1, e2]
        have a0 : ¬ (224 + n / 4096 < 128) := by omega
        have a1 : ((224 + n / 4096) / 32 == 6) = false := by rw [beq_eq_false_iff_ne]; omega
        have a1' : ((224 + n / 4096) / 16 == 14) = true := by rw [beq_iff_eq]; omega
        have a2 : ((128 + n / 64 % 64) / 64 == 2) = true := by rw [beq_iff_eq]; omega
        have a2' : ((128 + n % 64) / 64 == 2) = true := by rw [beq_iff_eq]; omega
        have a3 : (224 + n / 4096) % 16 * 4096 + (128 + n / 64 % 64) % 64 * 64 + (128 + n % 64) % 64 = n := by omega
        simp only [if_neg a0, a1, a1', a2, a2', a3, hv]
        simp
        omega
      · simp only [if_neg h1, if_neg h2, if_neg h3]
        have e0 : (UInt8.ofNat (240 + n / 262144)).toNat = 240 + n / 262144 := toNat_ofNat (by omega)
        have e1 : (UInt8.ofNat (128 + n / 4096 % 64)).toNat = 128 + n / 4096 % 64 := toNat_ofNat (by omega)
        have e2 : (UInt8.ofNat (128 + n / 64 % 64)).toNat = 128 + n / 64 % 64 := toNat_ofNat (by omega)
        have e3 : (UInt8.ofNat (128 + n % 64)).toNat = 128 + n % 64 := toNat_ofNat (by omega)
        simp only [decL, List.cons_append, List.nil_append, List.length_cons, List.getElem?_cons_zero, List.getElem?_cons_succ, Option.getD_some, e0, e1, e2, e3]
        have a0 : ¬ (240 + n / 262144 < 128) := by omega
        have a1 : ((240 + n / 262144) / 32 == 6) = false := by rw [beq_eq_false_iff_ne]; omega
        have a1' : ((240 + n / 262144) / 16 == 14) = false := by rw [beq_eq_false_iff_ne]; omega
        have a1'' : ((240 + n / 262144) / 8 == 30) = true := by rw [beq_iff_eq]; omega
        have a2 : ((128 + n / 4096 % 64) / 64 == 2) = true := by rw [beq_iff_eq]; omega
        have a2' : ((128 + n / 64 % 64) / 64 == 2) = true := by rw [beq_iff_eq]; omega
        have a2'' : ((128 + n % 64) / 64 == 2) = true := by rw [beq_iff_eq]; omega
        have a3 : (240 + n / 262144) % 8 * 262144 + (128 + n / 4096 % 64) % 64 * 4096 + (128 + n / 64 % 64) % 64 * 64 + (128 + n % 64) % 64 = n := by omega
        simp only [if_neg a0, a1, a1', a1'', a2, a2', a2'', a3, hv]
        simp
        omega

/-- The number that so many bytes would be, without asking. -/
def cval (l : List UInt8) (n : Nat) : Nat :=
  let at' (k : Nat) : Nat := (l[k]?.getD 0).toNat
  if n = 1 then at' 0
  else if n = 2 then (at' 0 % 32) * 64 + at' 1 % 64
  else if n = 3 then ((at' 0 % 16) * 64 + at' 1 % 64) * 64 + at' 2 % 64
  else (((at' 0 % 8) * 64 + at' 1 % 64) * 64 + at' 2 % 64) * 64 + at' 3 % 64

theorem at_lt (l : List UInt8) (k : Nat) : (l[k]?.getD 0).toNat < 256 := UInt8.toNat_lt _

/-- The four shapes of what is read. -/
theorem dec_shapes (l : List UInt8) : let at' (k : Nat) : Nat := (l[k]?.getD 0).toNat
    (at' 0 < 128 ∧ decL l = (at' 0, 1)) ∨
    (at' 0 / 32 = 6 ∧ 1 < l.length ∧ at' 1 / 64 = 2 ∧ 128 ≤ cval l 2 ∧ decL l = (cval l 2, 2)) ∨
    (at' 0 / 16 = 14 ∧ 2 < l.length ∧ at' 1 / 64 = 2 ∧ at' 2 / 64 = 2 ∧ 2048 ≤ cval l 3 ∧ Utf8.valid (cval l 3) = true ∧ decL l = (cval l 3, 3)) ∨
    (at' 0 / 8 = 30 ∧ 3 < l.length ∧ at' 1 / 64 = 2 ∧ at' 2 / 64 = 2 ∧ at' 3 / 64 = 2 ∧ 65536 ≤ cval l 4 ∧ Utf8.valid (cval l 4) = true ∧ decL l = (cval l 4, 4)) ∨
    (128 ≤ at' 0 ∧ decL l = (65533, 1)) := by
  intro at'
  have c2 : cval l 2 = (at' 0 % 32) * 64 + at' 1 % 64 := rfl
  have c3 : cval l 3 = (at' 0 % 16) * 4096 + (at' 1 % 64) * 64 + at' 2 % 64 := by
    show ((at' 0 % 16) * 64 + at' 1 % 64) * 64 + at' 2 % 64 = _
    omega
  have c4 : cval l 4 = (at' 0 % 8) * 262144 + (at' 1 % 64) * 4096 + (at' 2 % 64) * 64 + at' 3 % 64 := by
    show (((at' 0 % 8) * 64 + at' 1 % 64) * 64 + at' 2 % 64) * 64 + at' 3 % 64 = _
    omega
  have hd : decL l = if at' 0 < 0x80 then (at' 0, 1)
      else if at' 0 / 32 == 6 && (decide (1 < l.length) && at' 1 / 64 == 2) then
        if cval l 2 ≥ 0x80 then (cval l 2, 2) else (0xFFFD, 1)
      else if at' 0 / 16 == 14 && (decide (1 < l.length) && at' 1 / 64 == 2) && (decide (2 < l.length) && at' 2 / 64 == 2) then
        if cval l 3 ≥ 0x800 && Utf8.valid (cval l 3) then (cval l 3, 3) else (0xFFFD, 1)
      else if at' 0 / 8 == 30 && (decide (1 < l.length) && at' 1 / 64 == 2) && (decide (2 < l.length) && at' 2 / 64 == 2) && (decide (3 < l.length) && at' 3 / 64 == 2) then
        if cval l 4 ≥ 0x10000 && Utf8.valid (cval l 4) then (cval l 4, 4) else (0xFFFD, 1)
      else (0xFFFD, 1) := by
    rw [c2, c3, c4]; rfl
  clear c2 c3 c4
  generalize cval l 2 = q2 at *
  generalize cval l 3 = q3 at *
  generalize cval l 4 = q4 at *
  by_cases h1 : at' 0 < 128
  · rw [if_pos h1] at hd; exact .inl ⟨h1, hd⟩
  rw [if_neg h1] at hd
  have h1' : 128 ≤ at' 0 := by omega
  by_cases h2 : (at' 0 / 32 == 6 && (decide (1 < l.length) && at' 1 / 64 == 2)) = true
  · rw [if_pos h2] at hd
    simp only [Bool.and_eq_true, beq_iff_eq, decide_eq_true_eq] at h2
    by_cases h : q2 ≥ 128
    · rw [if_pos h] at hd; exact .inr (.inl ⟨h2.1, h2.2.1, h2.2.2, h, hd⟩)
    · rw [if_neg h] at hd; exact .inr (.inr (.inr (.inr ⟨h1', hd⟩)))
  rw [if_neg h2] at hd
  by_cases h3 : (at' 0 / 16 == 14 && (decide (1 < l.length) && at' 1 / 64 == 2) && (decide (2 < l.length) && at' 2 / 64 == 2)) = true
  · rw [if_pos h3] at hd
    simp only [Bool.and_eq_true, beq_iff_eq, decide_eq_true_eq] at h3
    by_cases h : (decide (q3 ≥ 2048) && Utf8.valid q3) = true
    · rw [if_pos h] at hd
      simp only [Bool.and_eq_true, decide_eq_true_eq] at h
      exact .inr (.inr (.inl ⟨h3.1.1, h3.2.1, h3.1.2.2, h3.2.2, h.1, h.2, hd⟩))
    · rw [if_neg h] at hd; exact .inr (.inr (.inr (.inr ⟨h1', hd⟩)))
  rw [if_neg h3] at hd
  by_cases h4 : (at' 0 / 8 == 30 && (decide (1 < l.length) && at' 1 / 64 == 2) && (decide (2 < l.length) && at' 2 / 64 == 2) && (decide (3 < l.length) && at' 3 / 64 == 2)) = true
  · rw [if_pos h4] at hd
    simp only [Bool.and_eq_true, beq_iff_eq, decide_eq_true_eq] at h4
    by_cases h : (decide (q4 ≥ 65536) && Utf8.valid q4) = true
    · rw [if_pos h] at hd
      simp only [Bool.and_eq_true, decide_eq_true_eq] at h
      exact .inr (.inr (.inr (.inl ⟨h4.1.1.1, h4.2.1, h4.1.1.2.2, h4.1.2.2, h4.2.2, h.1, h.2, hd⟩)))
    · rw [if_neg h] at hd; exact .inr (.inr (.inr (.inr ⟨h1', hd⟩)))
  rw [if_neg h4] at hd
  exact .inr (.inr (.inr (.inr ⟨h1', hd⟩)))

theorem take1 {l : List UInt8} (h : 0 < l.length) : l.take 1 = [l[0]?.getD 0] := by
  match l, h with
  | a :: _, _ => simp
theorem take2 {l : List UInt8} (h : 1 < l.length) : l.take 2 = [l[0]?.getD 0, l[1]?.getD 0] := by
  match l, h with
  | a :: b :: _, _ => simp
theorem take3 {l : List UInt8} (h : 2 < l.length) : l.take 3 = [l[0]?.getD 0, l[1]?.getD 0, l[2]?.getD 0] := by
  match l, h with
  | a :: b :: c :: _, _ => simp
theorem take4 {l : List UInt8} (h : 3 < l.length) : l.take 4 = [l[0]?.getD 0, l[1]?.getD 0, l[2]?.getD 0, l[3]?.getD 0] := by
  match l, h with
  | a :: b :: c :: d :: _, _ => simp

theorem encL_one {n : Nat} (h : n < 128) : encL (n : Int) = [UInt8.ofNat n] := by
  have hv : Utf8.valid (n : Int) = true := by rw [valid_iff]; omega
  have e : cp (n : Int) = n := by have := cp_of_valid hv; omega
  rw [encL_eq, e, if_pos h]
theorem encL_two {n : Nat} (h0 : 128 ≤ n) (h : n < 2048) : encL (n : Int) = [UInt8.ofNat (192 + n / 64), UInt8.ofNat (128 + n % 64)] := by
  have hv : Utf8.valid (n : Int) = true := by rw [valid_iff]; omega
  have e : cp (n : Int) = n := by have := cp_of_valid hv; omega
  rw [encL_eq, e, if_neg (by omega), if_pos h]
theorem encL_three {n : Nat} (hv : Utf8.valid (n : Int) = true) (h0 : 2048 ≤ n) (h : n < 65536) : encL (n : Int) = [UInt8.ofNat (224 + n / 4096), UInt8.ofNat (128 + n / 64 % 64), UInt8.ofNat (128 + n % 64)] := by
  have e : cp (n : Int) = n := by have := cp_of_valid hv; omega
  rw [encL_eq, e, if_neg (by omega), if_neg (by omega), if_pos h]
theorem encL_four {n : Nat} (hv : Utf8.valid (n : Int) = true) (h0 : 65536 ≤ n) : encL (n : Int) = [UInt8.ofNat (240 + n / 262144), UInt8.ofNat (128 + n / 4096 % 64), UInt8.ofNat (128 + n / 64 % 64), UInt8.ofNat (128 + n % 64)] := by
  have e : cp (n : Int) = n := by have := cp_of_valid hv; omega
  rw [encL_eq, e, if_neg (by omega), if_neg (by omega), if_neg (by omega)]

/-- Is what is read the mark of a broken byte? -/
def Broken (l : List UInt8) : Prop := decL l = (65533, 1)
instance (l : List UInt8) : Decidable (Broken l) := inferInstanceAs (Decidable (decL l = (65533, 1)))

/-- What is read, if it isn't broken, is a code point, and stands there as it is written. -/
theorem enc_dec (l : List UInt8) (hl : l ≠ []) : Broken l ∨
    (Utf8.valid ((decL l).1 : Int) = true ∧ l.take (decL l).2 = encL ((decL l).1 : Int) ∧ (decL l).2 ≤ l.length ∧ cval l (decL l).2 = (decL l).1) := by
  have hlen : 0 < l.length := List.length_pos_iff.2 hl
  have b0 := at_lt l 0; have b1 := at_lt l 1; have b2 := at_lt l 2; have b3 := at_lt l 3
  have c2 : cval l 2 = ((l[0]?.getD 0).toNat % 32) * 64 + (l[1]?.getD 0).toNat % 64 := rfl
  have c3 : cval l 3 = (((l[0]?.getD 0).toNat % 16) * 64 + (l[1]?.getD 0).toNat % 64) * 64 + (l[2]?.getD 0).toNat % 64 := rfl
  have c4 : cval l 4 = ((((l[0]?.getD 0).toNat % 8) * 64 + (l[1]?.getD 0).toNat % 64) * 64 + (l[2]?.getD 0).toNat % 64) * 64 + (l[3]?.getD 0).toNat % 64 := rfl
  have hs := dec_shapes l
  dsimp only at hs
  rcases hs with ⟨h, e⟩ | ⟨h, hn, h1, hc, e⟩ | ⟨h, hn, h1, h2, hc, hv, e⟩ | ⟨h, hn, h1, h2, h3, hc, hv, e⟩ | ⟨_, e⟩
  · right
    rw [e]
    refine ⟨by rw [valid_iff]; simp only []; omega, ?_, hlen, rfl⟩
    rw [take1 hlen, encL_one h]
    simp
  · right
    rw [e]
    refine ⟨by rw [valid_iff]; simp only []; omega, ?_, by simp only []; omega, rfl⟩
    rw [take2 hn, encL_two hc (by omega)]
    rw [List.cons.injEq, List.cons.injEq, u8_eq (by omega), u8_eq (by omega)]
    refine ⟨by omega, by omega, rfl⟩
  · right
    rw [e]
    refine ⟨hv, ?_, by simp only []; omega, rfl⟩
    rw [take3 hn, encL_three hv hc (by omega)]
    rw [List.cons.injEq, List.cons.injEq, List.cons.injEq, u8_eq (by omega), u8_eq (by omega), u8_eq (by omega)]
    refine ⟨by omega, by omega, by omega, rfl⟩
  · right
    rw [e]
    have hv' := (valid_iff _).1 hv
    refine ⟨hv, ?_, by simp only []; omega, rfl⟩
    rw [take4 hn, encL_four hv hc]
    rw [List.cons.injEq, List.cons.injEq, List.cons.injEq, List.cons.injEq, u8_eq (by omega), u8_eq (by omega), u8_eq (by omega), u8_eq (by omega)]
    refine ⟨by omega, by omega, by omega, by omega, rfl⟩
  · exact .inl e

theorem dec_width (l : List UInt8) : 1 ≤ (decL l).2 ∧ (decL l).2 ≤ 4 := by
  have hs := dec_shapes l
  dsimp only at hs
  rcases hs with ⟨_, e⟩ | ⟨_, _, _, _, e⟩ | ⟨_, _, _, _, _, _, e⟩ | ⟨_, _, _, _, _, _, _, e⟩ | ⟨_, e⟩ <;> rw [e] <;> simp

theorem dec_le (l : List UInt8) (hl : l ≠ []) : (decL l).2 ≤ l.length := by
  rcases enc_dec l hl with h | h
  · rw [h]; exact List.length_pos_iff.2 hl
  · exact h.2.2.1

theorem dec_rune (l : List UInt8) : (decL l).1 ≤ 1114111 := by
  by_cases hl : l = []
  · subst hl; decide
  rcases enc_dec l hl with h | h
  · rw [h]; decide
  · have := (valid_iff _).1 h.1; omega

/-- Where the bytes of a code point stand, it is read, and it isn't broken. -/
theorem dec_of_take {l : List UInt8} {c n : Nat} (hv : Utf8.valid (c : Int) = true) (h : encL (c : Int) = l.take n) (hn : n ≤ l.length) : decL l = (c, n) := by
  have hl : (encL (c : Int)).length = n := by rw [h, List.length_take]; omega
  have e : cp (c : Int) = c := by have := cp_of_valid hv; omega
  have := dec_enc (c : Int) (l.drop n)
  rw [h, List.take_append_drop, e] at this
  rw [this, List.length_take, Nat.min_eq_left hn]

/-- Does the document find a code point of n bytes at the front? -/
def okAt (l : List UInt8) (n : Nat) : Bool := Utf8.valid (cval l n : Int) && encL (cval l n : Int) == l.take n

theorem okAt_dec {l : List UInt8} {n : Nat} (hn : n ≤ l.length) (h : okAt l n = true) : decL l = (cval l n, n) := by
  simp only [okAt, Bool.and_eq_true, beq_iff_eq] at h
  exact dec_of_take h.1 h.2 hn

theorem okAt_one {l : List UInt8} (h : okAt l 1 = true) (hn : 1 ≤ l.length) : ¬ Broken l := by
  intro hb
  have h1 := okAt_dec hn h
  rw [Broken, h1] at hb
  simp only [okAt, Bool.and_eq_true, beq_iff_eq] at h
  have hc : cval l 1 = 65533 := congrArg Prod.fst hb
  have hl := congrArg List.length h.2
  rw [hc, List.length_take] at hl
  have : (encL (65533 : Nat)).length = 3 := by decide
  omega

/-- The document's answer: the first length that fits is what is read; if none fits, it is broken. -/
theorem ref_some {l : List UInt8} {n : Nat} (hn : n ≤ l.length) (h1 : 1 ≤ n) (h : okAt l n = true) : decL l = (cval l n, n) ∧ ¬ Broken l := by
  have hd := okAt_dec hn h
  refine ⟨hd, fun hb => ?_⟩
  rw [Broken, hd] at hb
  have hn1 : n = 1 := congrArg Prod.snd hb
  subst hn1
  exact okAt_one h hn (by rw [Broken, hd]; exact hb)

theorem ref_none {l : List UInt8} (hl : l ≠ []) (h : ∀ n, 1 ≤ n → n ≤ 4 → n ≤ l.length → okAt l n = false) : Broken l := by
  rcases enc_dec l hl with hb | ⟨hv, ht, hn, hc⟩
  · exact hb
  · have hw := dec_width l
    have := h (decL l).2 hw.1 hw.2 hn
    rw [okAt, hc, hv, ← ht] at this
    simp at this

/-- What stands behind the first rune says nothing of it. -/
theorem dec_take (l : List UInt8) (m : Nat) (hl : l ≠ []) (hm : (decL l).2 ≤ m) : decL (l.take m) = decL l := by
  have hlen : 0 < l.length := List.length_pos_iff.2 hl
  have hw := dec_width l
  have htl : l.take m ≠ [] := by
    intro h
    have := congrArg List.length h
    rw [List.length_take, List.length_nil] at this
    omega
  rcases enc_dec l hl with hb | ⟨hv, ht, hn, hc⟩
  · rcases enc_dec (l.take m) htl with hb' | ⟨hv', ht', hn', hc'⟩
    · rw [hb, hb']
    · rw [List.take_take] at ht'
      have hn2 : (decL (l.take m)).2 ≤ m := by rw [List.length_take] at hn'; omega
      rw [Nat.min_eq_left hn2] at ht'
      have := dec_of_take hv' ht'.symm (by rw [List.length_take] at hn'; omega)
      rw [this]
  · have := dec_of_take (l := l.take m) hv (by rw [List.take_take, Nat.min_eq_left hm]; exact ht.symm) (by rw [List.length_take]; omega)
    rw [this]

theorem drop_short {l : List UInt8} (hl : l ≠ []) : (l.drop (decL l).2).length < l.length := by
  have h1 := (dec_width l).1
  have h2 := List.length_pos_iff.2 hl
  rw [List.length_drop]
  omega

/-- How many runes. -/
def count (l : List UInt8) : Nat := if h : l = [] then 0 else 1 + count (l.drop (decL l).2)
termination_by l.length
decreasing_by exact drop_short h

theorem count_nil : count [] = 0 := by rw [count]; simp
theorem count_step {l : List UInt8} (h : l ≠ []) : count l = 1 + count (l.drop (decL l).2) := by rw [count]; simp [h]

/-- Where the first n runes end. -/
def cutAt (n : Nat) (l : List UInt8) : Nat :=
  match n with
  | 0 => 0
  | n + 1 => if l = [] then 0 else (decL l).2 + cutAt n (l.drop (decL l).2)

theorem cutAt_nil (n : Nat) : cutAt n [] = 0 := by cases n <;> simp [cutAt]
theorem cutAt_step {n : Nat} {l : List UInt8} (h : l ≠ []) : cutAt (n + 1) l = (decL l).2 + cutAt n (l.drop (decL l).2) := by simp [cutAt, h]

theorem cutAt_le : ∀ (n : Nat) (l : List UInt8), cutAt n l ≤ l.length
  | 0, l => by simp [cutAt]
  | n + 1, l => by
    by_cases h : l = []
    · subst h; simp [cutAt]
    · rw [cutAt_step h]
      have := cutAt_le n (l.drop (decL l).2)
      have := dec_le l h
      rw [List.length_drop] at *
      omega

theorem count_le : ∀ (k : Nat) (l : List UInt8), l.length ≤ k → count l ≤ l.length
  | 0, l, h => by
    have : l = [] := List.eq_nil_of_length_eq_zero (by omega)
    subst this; rw [count_nil]; exact Nat.zero_le _
  | k + 1, l, h => by
    by_cases hl : l = []
    · subst hl; rw [count_nil]; exact Nat.zero_le _
    · have h1 := drop_short hl
      have := count_le k (l.drop (decL l).2) (by omega)
      rw [count_step hl]
      omega

/-- Whatever n: the runes ahead and those behind. -/
theorem count_cut : ∀ (n : Nat) (l : List UInt8), count (l.take (cutAt n l)) = min n (count l) ∧ count (l.drop (cutAt n l)) = count l - min n (count l)
  | 0, l => by simp [cutAt, count_nil]
  | n + 1, l => by
    by_cases h : l = []
    · subst h; simp [cutAt, count_nil]
    · rw [cutAt_step h, count_step h]
      obtain ⟨i1, i2⟩ := count_cut n (l.drop (decL l).2)
      have hw := dec_width l
      have hle := dec_le l h
      have hcl := cutAt_le n (l.drop (decL l).2)
      generalize cutAt n (l.drop (decL l).2) = q at *
      have hne : l.take ((decL l).2 + q) ≠ [] := by
        intro e
        have := congrArg List.length e
        rw [List.length_take, List.length_nil] at this
        omega
      constructor
      · rw [count_step hne, dec_take l _ h (by omega)]
        rw [List.drop_take, show (decL l).2 + q - (decL l).2 = q by omega, i1]
        omega
      · rw [← List.drop_drop, i2]
        omega

/-- A byte below 128 is a rune, wherever it stands; and it ends what stands ahead of it. -/
theorem dec_ascii {a : UInt8} {t : List UInt8} (h : a.toNat < 128) : decL (a :: t) = (a.toNat, 1) := by
  unfold decL
  simp [h]

theorem dec_stop (l : List UInt8) (a : UInt8) (t : List UInt8) (hl : l ≠ []) (ha : a.toNat < 128) : decL (l ++ a :: t) = decL l := by
  have hlen : 0 < l.length := List.length_pos_iff.2 hl
  have hne : l ++ a :: t ≠ [] := by simp
  have hle : (decL (l ++ a :: t)).2 ≤ l.length := by
    have hk : ∀ k, l.length = k → ((l ++ a :: t)[k]?.getD 0).toNat = a.toNat := fun k hk => by subst hk; simp
    have big : ∀ k, 0 < k → ((l ++ a :: t)[k]?.getD 0).toNat / 64 = 2 → l.length ≠ k := fun k _ h2 e => by
      have := hk k e; omega
    have hs := dec_shapes (l ++ a :: t)
    dsimp only at hs
    rcases hs with ⟨_, e⟩ | ⟨_, _, h1, _, e⟩ | ⟨_, _, h1, h2, _, _, e⟩ | ⟨_, _, h1, h2, h3, _, _, e⟩ | ⟨_, e⟩
    · rw [e]; exact hlen
    · have := big 1 (by omega) h1; rw [e]; simp only []; omega
    · have := big 1 (by omega) h1; have := big 2 (by omega) h2; rw [e]; simp only []; omega
    · have := big 1 (by omega) h1; have := big 2 (by omega) h2; have := big 3 (by omega) h3; rw [e]; simp only []; omega
    · rw [e]; exact hlen
  have := dec_take (l ++ a :: t) l.length hne hle
  rw [List.take_left] at this
  exact this.symm

theorem count_ascii {a : UInt8} {t : List UInt8} (h : a.toNat < 128) : count (a :: t) = 1 + count t := by
  rw [count_step (by simp), dec_ascii h]; rfl

theorem count_replicate (k : Nat) (a : UInt8) (t : List UInt8) (h : a.toNat < 128) : count (List.replicate k a ++ t) = k + count t := by
  induction k with
  | zero => simp
  | succ k ih => rw [List.replicate_succ, List.cons_append, count_ascii h, ih]; omega

theorem count_behind (a : UInt8) (t : List UInt8) (h : a.toNat < 128) : ∀ (n : Nat) (l : List UInt8), l.length ≤ n → count (l ++ a :: t) = count l + count (a :: t)
  | 0, l, hn => by
    have : l = [] := List.eq_nil_of_length_eq_zero (by omega)
    subst this; rw [count_nil]; simp
  | n + 1, l, hn => by
    by_cases hl : l = []
    · subst hl; rw [count_nil]; simp
    · have hle := dec_le l hl
      have h1 := drop_short hl
      rw [count_step (l := l ++ a :: t) (by simp), dec_stop l a t hl h, count_step hl]
      rw [List.drop_append_of_le_length hle, count_behind a t h n _ (by omega)]
      omega

theorem count_append_replicate (l : List UInt8) (k : Nat) (a : UInt8) (h : a.toNat < 128) : count (l ++ List.replicate k a) = count l + k := by
  cases k with
  | zero => simp
  | succ k =>
    have := count_replicate (k + 1) a [] h
    rw [List.append_nil, count_nil] at this
    rw [List.replicate_succ] at *
    rw [count_behind a _ h l.length l (Nat.le_refl _), this]

end Go.Proofs.YtdjhmanccoekjaaGreatDoor.Utf
