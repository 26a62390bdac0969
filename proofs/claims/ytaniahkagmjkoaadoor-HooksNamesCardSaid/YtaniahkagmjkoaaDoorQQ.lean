/-
  PLAIN LEAN: a text in quotes, and bytes in hexadecimal digits (layer 2).
-/
import Derived.Test.YtaniahkagmjkoaaDoorIP
namespace Go.Proofs.YtaniahkagmjkoaaDoor.IP

/-- One rune of a text in quotes; a byte that is no rune's: its number. -/
def stepQ (ascii : Bool) (l : List UInt8) : List UInt8 := if Utf.Broken l then 92 :: 120 :: hexW (l.headD 0).toNat 2 else inL ((Utf.decL l).1 : Int) 34 ascii
/-- A text's runes in quotes, without the quotes. -/
def runsQ (ascii : Bool) (l : List UInt8) : List UInt8 := if _h : l = [] then [] else stepQ ascii l ++ runsQ ascii (l.drop (Utf.decL l).2)
termination_by l.length
decreasing_by
  have h1 := Utf.dec_width l
  have h2 := List.length_pos_iff.2 _h
  rw [List.length_drop]
  omega
theorem runsQ_nil (ascii : Bool) : runsQ ascii [] = [] := by rw [runsQ, dif_pos rfl]
theorem runsQ_cons (ascii : Bool) (l : List UInt8) (h : l ≠ []) : runsQ ascii l = stepQ ascii l ++ runsQ ascii (l.drop (Utf.decL l).2) := by rw [runsQ, dif_neg h]
def quoteL (ascii : Bool) (l : List UInt8) : List UInt8 := 34 :: (runsQ ascii l ++ [34])
theorem stepQ_len (ascii : Bool) (l : List UInt8) : 1 ≤ (stepQ ascii l).length ∧ (stepQ ascii l).length ≤ 10 := by
  unfold stepQ
  split
  · simp [hexW_len]
  · exact inL_len _ _ _
theorem runsQ_len (ascii : Bool) : ∀ (n : Nat) (l : List UInt8), l.length ≤ n → (runsQ ascii l).length ≤ 10 * l.length := by
  intro n
  induction n with
  | zero =>
    intro l h
    rw [List.eq_nil_of_length_eq_zero (Nat.le_zero.1 h), runsQ_nil]
    exact Nat.zero_le _
  | succ n ih =>
    intro l h
    by_cases hl : l = []
    · rw [hl, runsQ_nil]; exact Nat.zero_le _
    · have h1 := Utf.dec_width l
      have h2 := List.length_pos_iff.2 hl
      have h3 := ih (l.drop (Utf.decL l).2) (by rw [List.length_drop]; omega)
      have h4 := (stepQ_len ascii l).2
      rw [runsQ_cons _ _ hl, List.length_append]
      rw [List.length_drop] at h3
      omega
theorem quoteL_len (ascii : Bool) (l : List UInt8) : (quoteL ascii l).length ≤ 10 * l.length + 2 := by
  have := runsQ_len ascii l.length l (Nat.le_refl _)
  unfold quoteL
  simp only [List.length_cons, List.length_append, List.length_nil]
  omega
/-- A loop's way over a text: what is written so far, and the rest. -/
theorem runsQ_step (ascii : Bool) (l t : List UInt8) (k : Nat) (h : l.drop k ≠ []) (ht : t ++ runsQ ascii (l.drop k) = runsQ ascii l) :
    t ++ stepQ ascii (l.drop k) ++ runsQ ascii (l.drop (k + (Utf.decL (l.drop k)).2)) = runsQ ascii l := by
  rw [← ht, runsQ_cons ascii (l.drop k) h, List.append_assoc, List.drop_drop]
/-- Two hexadecimal digits of a byte. -/
def twoH (g : Bool) (a : UInt8) : List UInt8 := [hexd g (a.toNat / 16), hexd g (a.toNat % 16)]
/-- Bytes in hexadecimal digits behind the first: a blank and the mark between. -/
def hexT (g space : Bool) (mark : List UInt8) : List UInt8 → List UInt8
  | [] => []
  | a :: t => (if space then 32 :: mark else []) ++ twoH g a ++ hexT g space mark t
def hexL (g space : Bool) (mark : List UInt8) : List UInt8 → List UInt8
  | [] => []
  | a :: t => mark ++ twoH g a ++ hexT g space mark t
theorem hexT_app (g space : Bool) (mark a b : List UInt8) : hexT g space mark (a ++ b) = hexT g space mark a ++ hexT g space mark b := by
  induction a with
  | nil => rfl
  | cons x a ih => rw [List.cons_append, hexT, hexT, ih]; simp only [List.append_assoc]
theorem hexL_snoc (g space : Bool) (mark l : List UInt8) (x : UInt8) (h : l ≠ []) : hexL g space mark (l ++ [x]) = hexL g space mark l ++ ((if space then 32 :: mark else []) ++ twoH g x) := by
  cases l with
  | nil => exact absurd rfl h
  | cons a t => rw [List.cons_append, hexL, hexL, hexT_app]; simp [hexT, List.append_assoc]
theorem hexL_one (g space : Bool) (mark : List UInt8) (x : UInt8) : hexL g space mark [x] = mark ++ twoH g x := by simp [hexL, hexT]
theorem hexL_len (g space : Bool) (mark : List UInt8) (hm : mark.length ≤ 2) : ∀ l : List UInt8, (hexL g space mark l).length ≤ 5 * l.length := by
  have key : ∀ l : List UInt8, (hexT g space mark l).length ≤ 5 * l.length := by
    intro l
    induction l with
    | nil => simp [hexT]
    | cons x l ih =>
      rw [hexT]
      simp only [List.length_append, List.length_cons, twoH, List.length_nil]
      split
      · simp only [List.length_cons]; omega
      · simp only [List.length_nil]; omega
  intro l
  cases l with
  | nil => simp [hexL]
  | cons x l =>
    have := key l
    rw [hexL]
    simp only [List.length_append, List.length_cons, twoH, List.length_nil]
    omega
end Go.Proofs.YtaniahkagmjkoaaDoor.IP
