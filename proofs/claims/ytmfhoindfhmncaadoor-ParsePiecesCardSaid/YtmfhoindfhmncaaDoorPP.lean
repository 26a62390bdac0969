/-
  PLAIN LEAN: what a format is cut into: pieces, by lists of bytes. No Go and no memory.
-/
import Derived.Test.YtmfhoindfhmncaaDoorUtf
namespace Go.Proofs.YtmfhoindfhmncaaDoor.PP

structure Ix where
  k : Int
  n : Int
structure Nm where
  k : Int
  n : Int
  a : Ix
structure Fl where
  pl : Bool
  mi : Bool
  sh : Bool
  sp : Bool
  ze : Bool
structure Pc where
  k : Int
  text : List UInt8
  f : Fl
  wid : Int
  prec : Int
  verb : Int
  w : Nm
  p : Nm
  a : Ix

def isD (a : UInt8) : Bool := decide (48 ≤ a.toNat) && decide (a.toNat ≤ 57)
def dg (l : List UInt8) : List UInt8 := l.takeWhile isD
def rs (l : List UInt8) : List UInt8 := l.dropWhile isD
theorem dg_rs (l : List UInt8) : dg l ++ rs l = l := List.takeWhile_append_dropWhile
theorem rs_drop (l : List UInt8) : rs l = l.drop (dg l).length := by
  have h := dg_rs l
  conv => rhs; rw [← h]
  rw [show (dg (dg l ++ rs l)).length = (dg l).length by rw [h], List.drop_left]

/-- The number of digits; -1: above a limit. -/
def valL (limit : Int) : Int → List UInt8 → Int
  | n, [] => n
  | n, a :: t => if limit < 10 * n + ((a.toNat : Int) - 48) then -1 else valL limit (10 * n + ((a.toNat : Int) - 48)) t

/-- The byte that comes next; 0: none. -/
def pk : List UInt8 → Int
  | [] => 0
  | a :: _ => a.toNat

def flOn (f : Fl) (a : UInt8) : Option Fl :=
  if a.toNat = 43 then some { f with pl := true } else if a.toNat = 45 then some { f with mi := true } else if a.toNat = 35 then some { f with sh := true }
  else if a.toNat = 32 then some { f with sp := true } else if a.toNat = 48 then some { f with ze := true } else none
def flL : Fl → List UInt8 → Fl × List UInt8
  | f, [] => (f, [])
  | f, a :: t => match flOn f a with
    | some g => flL g t
    | none => (f, a :: t)

def ixL (l : List UInt8) : Ix × List UInt8 :=
  match l with
  | [] => (⟨0, 0⟩, [])
  | a :: t =>
    if a.toNat = 91 then
      if dg t = [] then (⟨2, 0⟩, t)
      else match rs t with
        | [] => (⟨2, 0⟩, t)
        | b :: r => if b.toNat = 93 then (if 0 < valL 999999999 0 (dg t) ∧ (dg t).length ≤ 9 then (⟨1, valL 999999999 0 (dg t)⟩, r) else (⟨2, 0⟩, r)) else (⟨2, 0⟩, t)
    else (⟨0, 0⟩, a :: t)

def spoil (x : Ix) : Ix := if x.k = 0 then x else ⟨2, 0⟩
def andI (x y : Ix) : Ix := if y.k = 0 then x else if x.k = 0 then y else ⟨2, 0⟩

def nmL (x : Ix) (always : Bool) (l : List UInt8) : Nm × Ix × List UInt8 :=
  if pk l = 42 then (⟨2, 0, x⟩, ⟨0, 0⟩, l.drop 1)
  else if (49 ≤ pk l ∧ pk l ≤ 57) ∨ (always = true ∧ pk l = 48) then (⟨1, valL 1000 0 (dg l), ⟨0, 0⟩⟩, spoil x, rs l)
  else if always then (⟨1, 0, ⟨0, 0⟩⟩, x, l)
  else (⟨0, 0, ⟨0, 0⟩⟩, x, l)

/-- Behind the point, if one stands there: the precision, what becomes of the verb's index, what is left. -/
def prL (a : Ix) (l : List UInt8) : Nm × Ix × List UInt8 :=
  if pk l = 46 then
    let i := ixL (l.drop 1)
    let n := nmL i.1 true i.2
    (n.1, andI (spoil a) n.2.1, n.2.2)
  else (⟨0, 0, ⟨0, 0⟩⟩, a, l)

/-- A directive behind its %: the piece, and what is left. -/
def dirL (l : List UInt8) : Pc × List UInt8 :=
  let f := flL ⟨false, false, false, false, false⟩ l
  let i := ixL f.2
  let w := nmL i.1 false i.2
  let p := prL w.2.1 w.2.2
  let j := ixL p.2.2
  let a := andI p.2.1 j.1
  if j.2 = [] then (⟨2, 37 :: l, f.1, -1, -1, 0, w.1, p.1, a⟩, [])
  else (⟨1, 37 :: l.take (l.length - (j.2.drop (Utf.decL j.2).2).length), f.1, -1, -1, (Utf.decL j.2).1, w.1, p.1, a⟩, j.2.drop (Utf.decL j.2).2)

theorem flL_len : ∀ (l : List UInt8) (f : Fl), (flL f l).2.length ≤ l.length
  | [], f => by simp [flL]
  | a :: t, f => by
    unfold flL
    split
    · rename_i g _
      have := flL_len t g
      simp only [List.length_cons]; omega
    · exact Nat.le_refl _
theorem rs_len (l : List UInt8) : (rs l).length ≤ l.length := by rw [rs_drop, List.length_drop]; omega
theorem ixL_len (l : List UInt8) : (ixL l).2.length ≤ l.length := by
  unfold ixL
  split
  · exact Nat.le_refl _
  · rename_i a t
    split
    · split
      · simp
      · split
        · simp
        · rename_i b r hr
          have := rs_len t
          rw [hr] at this
          simp only [List.length_cons] at *
          split
          · split <;> simp only [] <;> omega
          · simp only []; omega
    · exact Nat.le_refl _
theorem nmL_len (x : Ix) (al : Bool) (l : List UInt8) : (nmL x al l).2.2.length ≤ l.length := by
  unfold nmL
  split
  · simp
  · split
    · exact rs_len l
    · split <;> exact Nat.le_refl _
theorem prL_len (a : Ix) (l : List UInt8) : (prL a l).2.2.length ≤ l.length := by
  unfold prL
  split
  · have h1 := ixL_len (l.drop 1)
    have h2 := nmL_len (ixL (l.drop 1)).1 true (ixL (l.drop 1)).2
    simp only [List.length_drop] at *
    omega
  · exact Nat.le_refl _
theorem dirL_len (l : List UInt8) : (dirL l).2.length ≤ l.length := by
  unfold dirL
  simp only []
  have h1 := flL_len l ⟨false, false, false, false, false⟩
  have h2 := ixL_len (flL ⟨false, false, false, false, false⟩ l).2
  have h3 := nmL_len (ixL (flL ⟨false, false, false, false, false⟩ l).2).1 false (ixL (flL ⟨false, false, false, false, false⟩ l).2).2
  generalize nmL (ixL (flL ⟨false, false, false, false, false⟩ l).2).1 false (ixL (flL ⟨false, false, false, false, false⟩ l).2).2 = w at *
  have h4 := prL_len w.2.1 w.2.2
  generalize prL w.2.1 w.2.2 = p at *
  have h5 := ixL_len p.2.2
  split
  · simp
  · simp only [List.length_drop]
    omega

/-- A literal. -/
def litP (t : List UInt8) : Pc := ⟨0, t, ⟨false, false, false, false, false⟩, 0, 0, 0, ⟨0, 0, ⟨0, 0⟩⟩, ⟨0, 0, ⟨0, 0⟩⟩, ⟨0, 0⟩⟩
def notPct (a : UInt8) : Bool := !decide (a.toNat = 37)

/-- The pieces of a format. -/
def parseL (l : List UInt8) : List Pc :=
  match l with
  | [] => []
  | a :: t => if a.toNat = 37 then (dirL t).1 :: parseL (dirL t).2 else litP ((a :: t).takeWhile notPct) :: parseL (t.dropWhile notPct)
termination_by l.length
decreasing_by
  · have := dirL_len t
    simp only [List.length_cons]; omega
  · have : (t.dropWhile notPct).length ≤ t.length := (List.dropWhile_suffix notPct).length_le
    simp only [List.length_cons]; omega

theorem parseL_nil : parseL [] = [] := by rw [parseL]
theorem parseL_pct {a : UInt8} {t : List UInt8} (h : a.toNat = 37) : parseL (a :: t) = (dirL t).1 :: parseL (dirL t).2 := by rw [parseL, if_pos h]
theorem parseL_lit {a : UInt8} {t : List UInt8} (h : ¬ a.toNat = 37) : parseL (a :: t) = litP ((a :: t).takeWhile notPct) :: parseL ((a :: t).dropWhile notPct) := by
  rw [parseL, if_neg h, List.dropWhile_cons, if_pos (by simp [notPct, h])]
end Go.Proofs.YtmfhoindfhmncaaDoor.PP
