/-
  PLAIN LEAN: runes in quotes, and numbers as they are written: by lists of bytes. No Go and no memory.
-/
import Derived.Test.YtaniahkagmjkoaaDoorUtf
namespace Go.Proofs.YtaniahkagmjkoaaDoor.IP

/-- A plain code point. -/
def plainB (c : Int) : Bool := decide ((32 ≤ c ∧ c ≤ 126) ∨ (161 ≤ c ∧ c ≤ 55295 ∧ c ≠ 173) ∨ (57344 ≤ c ∧ c ≤ 65532) ∨ (65536 ≤ c ∧ c ≤ 1114111))
/-- A digit. -/
def hexd (g : Bool) (d : Nat) : UInt8 := UInt8.ofNat (if d < 10 then 48 + d else if g then 55 + d else 87 + d)
theorem hexd_toNat (g : Bool) (d : Nat) (h : d < 16) : (hexd g d).toNat = if d < 10 then 48 + d else if g then 55 + d else 87 + d := by
  unfold hexd
  refine Utf.toNat_ofNat ?_
  split
  · omega
  · split <;> omega
/-- A number in so many digits. -/
def hexW : Nat → Nat → List UInt8
  | _, 0 => []
  | n, w + 1 => hexW (n / 16) w ++ [hexd false (n % 16)]
theorem hexW_len : ∀ (w n : Nat), (hexW n w).length = w
  | 0, _ => rfl
  | w + 1, n => by rw [hexW, List.length_append, hexW_len w]; rfl
/-- The letters of the escapes. -/
def letter (k : Nat) : UInt8 := [97, 98, 116, 110, 118, 102, 114].getD k 0
/-- A rune in quotes. -/
def inL (c q : Int) (ascii : Bool) : List UInt8 :=
  if c = q ∨ c = 92 then [92, UInt8.ofNat c.toNat]
  else if 7 ≤ c ∧ c ≤ 13 then [92, letter (c - 7).toNat]
  else if (32 ≤ c ∧ c ≤ 126) ∨ (ascii = false ∧ plainB c = true) then Utf.encL c
  else if c < 128 then 92 :: 120 :: hexW c.toNat 2
  else if c ≤ 65535 then 92 :: 117 :: hexW c.toNat 4
  else 92 :: 85 :: hexW c.toNat 8
theorem inL_len (c q : Int) (ascii : Bool) : 1 ≤ (inL c q ascii).length ∧ (inL c q ascii).length ≤ 10 := by
  have he := Utf.encL_pos c
  unfold inL
  split
  · simp
  · split
    · simp
    · split
      · omega
      · split
        · simp [hexW_len]
        · split <;> simp [hexW_len]
/-- A code point in quotes. -/
def charL (c : Int) (ascii : Bool) : List UInt8 := 39 :: (inL (Utf.cp c : Int) 39 ascii ++ [39])

/-- A number's digits to a base. -/
def dgb (b : Nat) (g : Bool) (n : Nat) : List UInt8 := if _h : 2 ≤ b ∧ b ≤ n then dgb b g (n / b) ++ [hexd g (n % b)] else [hexd g n]
termination_by n
decreasing_by exact Nat.div_lt_self (by omega) (by omega)
theorem dgb_small {b n : Nat} (g : Bool) (h : n < b) : dgb b g n = [hexd g n] := by rw [dgb, dif_neg (by omega)]
theorem dgb_big {b n : Nat} (g : Bool) (h2 : 2 ≤ b) (h : b ≤ n) : dgb b g n = dgb b g (n / b) ++ [hexd g (n % b)] := by rw [dgb, dif_pos ⟨h2, h⟩]
theorem dgb_ne (b n : Nat) (g : Bool) : dgb b g n ≠ [] := by
  rw [dgb]
  split <;> simp
theorem dgb_len (b : Nat) (g : Bool) (hb : 2 ≤ b) (k : Nat) : ∀ n : Nat, 1 ≤ k → n < b ^ k → (dgb b g n).length ≤ k := by
  induction k with
  | zero => intro n h; omega
  | succ k ih =>
    intro n _ h
    by_cases h1 : n < b
    · rw [dgb_small g h1]; simp
    · rw [dgb_big g hb (by omega), List.length_append]
      have hk0 : 1 ≤ k := by
        rcases Nat.eq_zero_or_pos k with e | e
        · subst e
          rw [Nat.zero_add, Nat.pow_one] at h
          omega
        · exact e
      have := ih (n / b) hk0 (by
        rw [Nat.pow_succ] at h
        exact Nat.div_lt_of_lt_mul (by rw [Nat.mul_comm]; exact h))
      simp only [List.length_singleton]
      omega
theorem dgb_len64 (b : Nat) (g : Bool) (hb : 2 ≤ b) (n : Nat) (h : n < 18446744073709551616) : (dgb b g n).length ≤ 64 := by
  refine dgb_len b g hb 64 n (by decide) (Nat.lt_of_lt_of_le h ?_)
  have h1 : (18446744073709551616 : Nat) = 2 ^ 64 := by decide
  rw [h1]
  exact Nat.pow_le_pow_left hb 64
theorem dgb_pos (b n : Nat) (g : Bool) : 1 ≤ (dgb b g n).length := List.length_pos_iff.2 (dgb_ne b n g)

/-- A precision, or a width; -1: none. -/
def limI (n : Int) : Int := max (-1) (min n 1000)
/-- Noughts ahead, until there are so many. -/
def zerosTo (k : Int) (d : List UInt8) : List UInt8 := List.replicate (k - d.length).toNat 48 ++ d
theorem zerosTo_len (k : Int) (d : List UInt8) : (zerosTo k d).length = max d.length k.toNat := by
  unfold zerosTo
  rw [List.length_append, List.length_replicate]
  omega
theorem zerosTo_step {k : Int} {d : List UInt8} (h : (d.length : Int) < k) : zerosTo k d = zerosTo k (48 :: d) := by
  unfold zerosTo
  rw [List.length_cons]
  have e : (k - d.length).toNat = (k - ((d.length + 1 : Nat) : Int)).toNat + 1 := by omega
  rw [e, List.replicate_succ', List.append_assoc]
  rfl
theorem zerosTo_done {k : Int} {d : List UInt8} (h : ¬ (d.length : Int) < k) : zerosTo k d = d := by
  unfold zerosTo
  rw [show (k - d.length).toNat = 0 by omega]
  rfl
def signL (neg pl sp : Bool) : List UInt8 := if neg then [45] else if pl then [43] else if sp then [32] else []
theorem signL_len (neg pl sp : Bool) : (signL neg pl sp).length ≤ 1 := by
  unfold signL
  cases neg <;> cases pl <;> cases sp <;> decide
/-- A mark of one nought is left out ahead of a nought. -/
def markL (m d : List UInt8) : List UInt8 := if m = [48] ∧ d.head? = some 48 then [] else m
/-- A number to a base: sign, mark, digits. -/
def bodyL (neg : Bool) (n b : Nat) (g : Bool) (mark : List UInt8) (pl mi sp ze : Bool) (wid prec : Int) : List UInt8 :=
  if n = 0 ∧ limI prec = 0 then []
  else
    let d := zerosTo (limI prec) (dgb b g n)
    let s := signL neg pl sp
    let m := markL mark d
    if ze = true ∧ mi = false ∧ limI prec < 0 then s ++ m ++ zerosTo (limI wid - s.length - m.length) d else s ++ m ++ d
/-- A number by its code point's number. -/
def uniL (bits : Nat) (sh : Bool) (prec : Int) : List UInt8 :=
  [85, 43] ++ zerosTo (max 4 (limI prec)) (dgb 16 true bits) ++ (if sh = true ∧ bits ≤ 1114111 ∧ plainB (bits : Int) = true then [32, 39] ++ Utf.encL (bits : Int) ++ [39] else [])
/-- The code point that a number is. -/
def pointI (bits : Nat) : Int := if 1114111 < bits then 65533 else bits
/-- A verb's base, its mark, whether the mark is there without Sharp, whether the letters are great. -/
def baseOf (verb : Int) : Option (Nat × List UInt8 × Bool × Bool) :=
  if verb = 100 ∨ verb = 118 then some (10, [], false, false)
  else if verb = 98 then some (2, [48, 98], false, false)
  else if verb = 111 then some (8, [48], false, false)
  else if verb = 79 then some (8, [48, 111], true, false)
  else if verb = 120 then some (16, [48, 120], false, false)
  else if verb = 88 then some (16, [48, 88], false, true)
  else none

/-- A digit's number; 99: it is none. -/
def digV (a : UInt8) : Nat := if 48 ≤ a.toNat ∧ a.toNat ≤ 57 then a.toNat - 48 else if 97 ≤ a.toNat ∧ a.toNat ≤ 102 then a.toNat - 87 else if 65 ≤ a.toNat ∧ a.toNat ≤ 70 then a.toNat - 55 else 99
theorem digV_hexd (g : Bool) (d : Nat) (h : d < 16) : digV (hexd g d) = d := by
  unfold digV
  rw [hexd_toNat g d h]
  by_cases h10 : d < 10
  · rw [if_pos h10, if_pos (by omega)]; omega
  · rw [if_neg h10]
    cases g
    · rw [if_neg Bool.false_ne_true, if_neg (by omega), if_pos (by omega)]; omega
    · rw [if_pos rfl, if_neg (by omega), if_neg (by omega), if_pos (by omega)]; omega
/-- The number that digits say. -/
def valB (b acc : Nat) (l : List UInt8) : Nat := l.foldl (fun n a => n * b + digV a) acc
theorem valB_dgb (b : Nat) (g : Bool) (h2 : 2 ≤ b) (h16 : b ≤ 16) (n : Nat) : valB b 0 (dgb b g n) = n := by
  induction n using Nat.strongRecOn with
  | _ n ih =>
    by_cases h : n < b
    · rw [dgb_small g h]
      show 0 * b + digV (hexd g n) = n
      rw [digV_hexd g n (by omega)]; omega
    · rw [dgb_big g h2 (by omega)]
      unfold valB
      rw [List.foldl_append]
      have e := ih (n / b) (Nat.div_lt_self (by omega) (by omega))
      unfold valB at e
      rw [e]
      have hm : n % b < b := Nat.mod_lt _ (by omega)
      show n / b * b + digV (hexd g (n % b)) = n
      rw [digV_hexd g _ (by omega), Nat.mul_comm]
      exact Nat.div_add_mod n b
theorem digs_dgb (b : Nat) (g : Bool) (h2 : 2 ≤ b) (h16 : b ≤ 16) (n : Nat) : ∀ x ∈ dgb b g n, digV x < b := by
  induction n using Nat.strongRecOn with
  | _ n ih =>
    by_cases h : n < b
    · rw [dgb_small g h]
      intro x hx
      rw [List.mem_singleton] at hx
      rw [hx, digV_hexd g n (by omega)]; exact h
    · rw [dgb_big g h2 (by omega)]
      intro x hx
      have hm : n % b < b := Nat.mod_lt _ (by omega)
      rcases List.mem_append.1 hx with hx | hx
      · exact ih (n / b) (Nat.div_lt_self (by omega) (by omega)) x hx
      · rw [List.mem_singleton] at hx
        rw [hx, digV_hexd g _ (by omega)]; exact hm
theorem valB_le (b : Nat) (hb : 1 ≤ b) : ∀ (l : List UInt8) (acc : Nat), acc ≤ valB b acc l
  | [], acc => Nat.le_refl _
  | a :: l, acc => by
    have := valB_le b hb l (acc * b + digV a)
    show acc ≤ valB b (acc * b + digV a) l
    have h1 : acc * 1 ≤ acc * b := Nat.mul_le_mul_left acc hb
    omega
theorem valB_take (b : Nat) (hb : 1 ≤ b) (l : List UInt8) (k : Nat) : valB b 0 (l.take k) ≤ valB b 0 l := by
  conv => rhs; rw [← List.take_append_drop k l]
  unfold valB
  rw [List.foldl_append]
  exact valB_le b hb _ _
theorem valB_succ (b : Nat) (l : List UInt8) (k : Nat) (h : k < l.length) : valB b 0 (l.take (k + 1)) = valB b 0 (l.take k) * b + digV (l[k]) := by
  unfold valB
  rw [List.take_add_one, List.getElem?_eq_getElem h, List.foldl_append]
  rfl
theorem count_all_ascii : ∀ l : List UInt8, (∀ a ∈ l, a.toNat < 128) → Utf.count l = l.length
  | [], _ => Utf.count_nil
  | a :: t, h => by
    rw [Utf.count_ascii (h a List.mem_cons_self), count_all_ascii t (fun b hb => h b (List.mem_cons_of_mem _ hb)), List.length_cons]
    omega
theorem hexd_ascii (g : Bool) (d : Nat) (h : d < 16) : (hexd g d).toNat < 128 := by
  rw [hexd_toNat g d h]
  split
  · omega
  · split <;> omega
theorem dgb_ascii (b : Nat) (g : Bool) (h2 : 2 ≤ b) (h16 : b ≤ 16) (n : Nat) : ∀ x ∈ dgb b g n, x.toNat < 128 := by
  induction n using Nat.strongRecOn with
  | _ n ih =>
    by_cases h : n < b
    · rw [dgb_small g h]
      intro x hx
      rw [List.mem_singleton] at hx
      rw [hx]; exact hexd_ascii g n (by omega)
    · rw [dgb_big g h2 (by omega)]
      intro x hx
      have hm : n % b < b := Nat.mod_lt _ (by omega)
      rcases List.mem_append.1 hx with hx | hx
      · exact ih (n / b) (Nat.div_lt_self (by omega) (by omega)) x hx
      · rw [List.mem_singleton] at hx
        rw [hx]; exact hexd_ascii g _ (by omega)
end Go.Proofs.YtaniahkagmjkoaaDoor.IP
