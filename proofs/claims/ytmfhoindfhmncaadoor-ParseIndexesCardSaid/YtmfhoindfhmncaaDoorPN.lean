/-
  PLAIN LEAN: digits of a number; a directive of flags, a width and a precision; a directive of indices and stars.
-/
import Derived.Test.YtmfhoindfhmncaaDoorPV
namespace Go.Proofs.YtmfhoindfhmncaaDoor.PP

/-- A number's digits to the base ten. -/
def dgs (n : Nat) : List UInt8 := if n < 10 then [UInt8.ofNat (48 + n)] else dgs (n / 10) ++ [UInt8.ofNat (48 + n % 10)]
theorem dgs_small {n : Nat} (h : n < 10) : dgs n = [UInt8.ofNat (48 + n)] := by rw [dgs, if_pos h]
theorem dgs_big {n : Nat} (h : ¬ n < 10) : dgs n = dgs (n / 10) ++ [UInt8.ofNat (48 + n % 10)] := by rw [dgs, if_neg h]
theorem dgs_ne (n : Nat) : dgs n ≠ [] := by
  by_cases h : n < 10
  · rw [dgs_small h]; exact List.cons_ne_nil _ _
  · rw [dgs_big h]; simp
theorem d_toNat {k : Nat} (h : k < 10) : (UInt8.ofNat (48 + k)).toNat = 48 + k := Utf.toNat_ofNat (by omega)
theorem dgs_isD (n : Nat) : ∀ a ∈ dgs n, isD a = true := by
  induction n using Nat.strongRecOn with
  | _ n ih =>
    have key : ∀ k, k < 10 → isD (UInt8.ofNat (48 + k)) = true := fun k hk => by
      unfold isD
      rw [d_toNat hk]
      simp
      omega
    by_cases h : n < 10
    · rw [dgs_small h]
      intro a ha
      rw [List.mem_singleton] at ha
      rw [ha]; exact key n h
    · rw [dgs_big h]
      intro a ha
      rcases List.mem_append.1 ha with ha | ha
      · exact ih (n / 10) (by omega) a ha
      · rw [List.mem_singleton] at ha
        rw [ha]; exact key _ (by omega)
theorem dgs_head (n : Nat) (h0 : 1 ≤ n) : ∃ a t, dgs n = a :: t ∧ 49 ≤ a.toNat ∧ a.toNat ≤ 57 := by
  induction n using Nat.strongRecOn with
  | _ n ih =>
    by_cases h : n < 10
    · exact ⟨_, [], dgs_small h, by rw [d_toNat h]; omega, by rw [d_toNat h]; omega⟩
    · obtain ⟨a, t, h1, h2, h3⟩ := ih (n / 10) (by omega) (by omega)
      exact ⟨a, t ++ [UInt8.ofNat (48 + n % 10)], by rw [dgs_big h, h1]; rfl, h2, h3⟩
theorem dgs_len (n : Nat) (k : Nat) (hk : 1 ≤ k) (h : n < 10 ^ k) : (dgs n).length ≤ k := by
  induction k generalizing n with
  | zero => omega
  | succ k ih =>
    by_cases h1 : n < 10
    · rw [dgs_small h1]; simp
    · rw [dgs_big h1, List.length_append]
      have hk0 : 1 ≤ k := by
        rcases Nat.eq_zero_or_pos k with e | e
        · subst e; omega
        · exact e
      have := ih (n / 10) hk0 (by
        rw [Nat.pow_succ] at h
        omega)
      simp only [List.length_singleton]
      omega
/-- The number that digits say. -/
def v10 (acc : Int) (l : List UInt8) : Int := l.foldl (fun x a => 10 * x + ((a.toNat : Int) - 48)) acc
theorem v10_le (l : List UInt8) : ∀ acc : Int, (∀ a ∈ l, isD a = true) → 0 ≤ acc → acc ≤ v10 acc l := by
  induction l with
  | nil => intro acc _ _; exact Int.le_refl _
  | cons a t ih =>
    intro acc h h0
    have ha := h a List.mem_cons_self
    simp only [isD, Bool.and_eq_true, decide_eq_true_eq] at ha
    have := ih (10 * acc + ((a.toNat : Int) - 48)) (fun b hb => h b (List.mem_cons_of_mem _ hb)) (by omega)
    show acc ≤ v10 (10 * acc + ((a.toNat : Int) - 48)) t
    omega
theorem valL_v10 (lim : Int) (l : List UInt8) : ∀ acc : Int, (∀ a ∈ l, isD a = true) → 0 ≤ acc → acc ≤ lim → valL lim acc l = if v10 acc l ≤ lim then v10 acc l else -1 := by
  induction l with
  | nil =>
    intro acc _ _ h
    show acc = if acc ≤ lim then acc else -1
    rw [if_pos h]
  | cons a t ih =>
    intro acc h h0 h1
    have ha := h a List.mem_cons_self
    simp only [isD, Bool.and_eq_true, decide_eq_true_eq] at ha
    have ht : ∀ b ∈ t, isD b = true := fun b hb => h b (List.mem_cons_of_mem _ hb)
    show (if lim < 10 * acc + ((a.toNat : Int) - 48) then -1 else valL lim (10 * acc + ((a.toNat : Int) - 48)) t) = if v10 (10 * acc + ((a.toNat : Int) - 48)) t ≤ lim then v10 (10 * acc + ((a.toNat : Int) - 48)) t else -1
    have hm := v10_le t (10 * acc + ((a.toNat : Int) - 48)) ht (by omega)
    by_cases e : lim < 10 * acc + ((a.toNat : Int) - 48)
    · rw [if_pos e, if_neg (by omega)]
    · rw [if_neg e, ih _ ht (by omega) (by omega)]
theorem v10_dgs (n : Nat) : v10 0 (dgs n) = n := by
  induction n using Nat.strongRecOn with
  | _ n ih =>
    by_cases h : n < 10
    · rw [dgs_small h]
      show 10 * 0 + (((UInt8.ofNat (48 + n)).toNat : Int) - 48) = n
      rw [d_toNat h]; omega
    · rw [dgs_big h]
      unfold v10
      rw [List.foldl_append]
      have e := ih (n / 10) (by omega)
      unfold v10 at e
      rw [e]
      show 10 * ((n / 10 : Nat) : Int) + (((UInt8.ofNat (48 + n % 10)).toNat : Int) - 48) = n
      rw [d_toNat (by omega)]; omega
/-- The value of a number's digits. -/
theorem valL_dgs (lim : Nat) (n : Nat) : valL lim 0 (dgs n) = if n ≤ lim then (n : Int) else -1 := by
  rw [valL_v10 lim (dgs n) 0 (dgs_isD n) (by omega) (by omega), v10_dgs]
  by_cases h : n ≤ lim
  · rw [if_pos h, if_pos (by omega)]
  · rw [if_neg h, if_neg (by omega)]

theorem dg_app {l : List UInt8} {a : UInt8} {t : List UInt8} (hl : ∀ b ∈ l, isD b = true) (ha : ¬ (48 ≤ a.toNat ∧ a.toNat ≤ 57)) : dg (l ++ a :: t) = l ∧ rs (l ++ a :: t) = a :: t := by
  unfold dg rs
  induction l with
  | nil => exact dg_stop ha
  | cons b r ih =>
    have hb := hl b List.mem_cons_self
    have := ih (fun c hc => hl c (List.mem_cons_of_mem _ hc))
    rw [List.cons_append, List.takeWhile_cons, List.dropWhile_cons, if_pos hb, if_pos hb, this.1, this.2]
    exact ⟨rfl, rfl⟩
/-- A good index. -/
theorem ixL_good (n : Nat) (t : List UInt8) (h1 : 1 ≤ n) (h2 : n ≤ 999999999) : ixL (91 :: (dgs n ++ 93 :: t)) = (⟨1, n⟩, t) := by
  have hd := dg_app (t := t) (dgs_isD n) (show ¬ (48 ≤ (93 : UInt8).toNat ∧ (93 : UInt8).toNat ≤ 57) by decide)
  have hv : valL 999999999 0 (dgs n) = n := by
    have := valL_dgs 999999999 n
    rw [if_pos h2] at this
    exact this
  have hl := dgs_len n 9 (by omega) (by omega)
  unfold ixL
  simp only [hd.1, hd.2, hv]
  rw [if_pos (by decide), if_neg (dgs_ne n), if_pos (by decide), if_pos (by omega)]
/-- Digits ahead of something else, as a width. -/
theorem nmL_given (n : Nat) (a : UInt8) (t : List UInt8) (x : Ix) (h1 : 1 ≤ n) (ha : ¬ (48 ≤ a.toNat ∧ a.toNat ≤ 57)) (al : Bool) : nmL x al (dgs n ++ a :: t) = (⟨1, if n ≤ 1000 then (n : Int) else -1, ⟨0, 0⟩⟩, spoil x, a :: t) := by
  obtain ⟨b, r, e, h3, h4⟩ := dgs_head n h1
  have hd := dg_app (t := t) (dgs_isD n) ha
  have hv := valL_dgs 1000 n
  have hp : pk (dgs n ++ a :: t) = (b.toNat : Int) := by rw [e]; rfl
  unfold nmL
  rw [hp, hd.1, hd.2, if_neg (by omega), if_pos (by omega)]
  exact congrArg (fun z => ((⟨1, z, ⟨0, 0⟩⟩ : Nm), spoil x, a :: t)) hv
theorem nmL_given0 (n : Nat) (a : UInt8) (t : List UInt8) (x : Ix) (ha : ¬ (48 ≤ a.toNat ∧ a.toNat ≤ 57)) : nmL x true (dgs n ++ a :: t) = (⟨1, if n ≤ 1000 then (n : Int) else -1, ⟨0, 0⟩⟩, spoil x, a :: t) := by
  rcases Nat.eq_zero_or_pos n with e | e
  · subst e
    have hd := dg_app (l := dgs 0) (t := t) (dgs_isD 0) ha
    have hp : pk (dgs 0 ++ a :: t) = 48 := by rw [dgs_small (by decide)]; rfl
    unfold nmL
    rw [hp, hd.1, hd.2, if_neg (by decide), if_pos (by decide)]
    exact congrArg (fun z => ((⟨1, z, ⟨0, 0⟩⟩ : Nm), spoil x, a :: t)) (valL_dgs 1000 0)
  · exact nmL_given n a t x e ha true
theorem nmL_star (x : Ix) (al : Bool) (t : List UInt8) : nmL x al (42 :: t) = (⟨2, 0, x⟩, ⟨0, 0⟩, t) := by
  unfold nmL
  rw [pk_cons, if_pos (by decide)]
  rfl
theorem prL_point (x : Ix) (t : List UInt8) : prL x (46 :: t) = ((nmL (ixL t).1 true (ixL t).2).1, andI (spoil x) (nmL (ixL t).1 true (ixL t).2).2.1, (nmL (ixL t).1 true (ixL t).2).2.2) := by
  unfold prL
  rw [pk_cons, if_pos (by decide)]
  rfl
/-- A directive that goes to an ASCII verb at the very end. -/
theorem dirL_ascii {l : List UInt8} {f : Fl} {l1 l2 l3 l4 : List UInt8} {i1 a1 a2 j : Ix} {w p : Nm} {a : UInt8} (hf : flL ⟨false, false, false, false, false⟩ l = (f, l1)) (hi : ixL l1 = (i1, l2)) (hw : nmL i1 false l2 = (w, a1, l3)) (hp : prL a1 l3 = (p, a2, l4)) (hj : ixL l4 = (j, [a])) (ha : a.toNat < 128) :
    dirL l = (⟨1, 37 :: l, f, -1, -1, a.toNat, w, p, andI a2 j⟩, []) := by
  have hd := Utf.dec_ascii (t := []) ha
  unfold dirL
  simp only [hf, hi, hw, hp, hj, if_neg (List.cons_ne_nil a []), hd, List.drop_succ_cons, List.drop_nil, List.length_nil, Nat.sub_zero, List.take_length]
theorem parse_one {l : List UInt8} {p : Pc} (h : dirL l = (p, [])) : parseL (37 :: l) = [p] := by
  rw [parseL_pct (by decide), h, parseL_nil]

/-- Is a byte a flag? -/
def isF (a : UInt8) : Bool := decide (a.toNat = 43 ∨ a.toNat = 45 ∨ a.toNat = 35 ∨ a.toNat = 32 ∨ a.toNat = 48)
def setF (f : Fl) (a : UInt8) : Fl := (flOn f a).getD f
theorem flOn_some {f : Fl} {a : UInt8} (h : isF a = true) : flOn f a = some (setF f a) := by
  unfold isF at h
  have h := of_decide_eq_true h
  unfold setF flOn
  rcases h with h | h | h | h | h <;> simp [h]
theorem flOn_none {f : Fl} {a : UInt8} (h : isF a = false) : flOn f a = none := by
  unfold isF at h
  have h := of_decide_eq_false h
  unfold flOn
  rw [if_neg (by omega), if_neg (by omega), if_neg (by omega), if_neg (by omega), if_neg (by omega)]
theorem flL_app (a : UInt8) (t : List UInt8) (ha : isF a = false) : ∀ (l : List UInt8) (f : Fl), (∀ b ∈ l, isF b = true) → flL f (l ++ a :: t) = (l.foldl setF f, a :: t)
  | [], f, _ => flL_stop (flOn_none ha)
  | b :: r, f, h => by
    rw [List.cons_append, flL, flOn_some (h b List.mem_cons_self)]
    exact flL_app a t ha r (setF f b) (fun c hc => h c (List.mem_cons_of_mem _ hc))
/-- The flags' bytes. -/
def chF : List UInt8 := [43, 45, 35, 32, 48]
def onF (f : Fl) (k : Nat) : Bool := [f.pl, f.mi, f.sh, f.sp, f.ze].getD k false
/-- The flags that are on, as a text, of the first k. -/
def flT (f : Fl) (back : Bool) : Nat → List UInt8
  | 0 => []
  | k + 1 => if onF f k then (if back then [chF.getD k 0, chF.getD k 0] ++ flT f back k else flT f back k ++ [chF.getD k 0]) else flT f back k
theorem flT_isF (f : Fl) (back : Bool) : ∀ k : Nat, k ≤ 5 → ∀ b ∈ flT f back k, isF b = true
  | 0, _, b, hb => by cases hb
  | k + 1, hk, b, hb => by
    have ih := flT_isF f back k (by omega)
    have hc : isF (chF.getD k 0) = true := by
      rcases (show k = 0 ∨ k = 1 ∨ k = 2 ∨ k = 3 ∨ k = 4 by omega) with rfl | rfl | rfl | rfl | rfl <;> rfl
    unfold flT at hb
    split at hb
    · split at hb
      · rcases List.mem_append.1 hb with h | h
        · simp only [List.mem_cons, List.not_mem_nil, or_false, or_self] at h
          rw [h]; exact hc
        · exact ih b h
      · rcases List.mem_append.1 hb with h | h
        · exact ih b h
        · rw [List.mem_singleton] at h
          rw [h]; exact hc
    · exact ih b hb
theorem flT_len (f : Fl) (back : Bool) : ∀ k : Nat, (flT f back k).length ≤ 2 * k
  | 0 => Nat.le_refl _
  | k + 1 => by
    have ih := flT_len f back k
    unfold flT
    split
    · split <;> simp <;> omega
    · omega
theorem flT_fold (f : Fl) (back : Bool) : (flT f back 5).foldl setF ⟨false, false, false, false, false⟩ = f := by
  obtain ⟨p, m, s, b, z⟩ := f
  cases back <;> cases p <;> cases m <;> cases s <;> cases b <;> cases z <;> rfl
theorem head_app (n : Nat) (t : List UInt8) : ∃ a r, dgs n ++ t = a :: r ∧ 48 ≤ a.toNat ∧ a.toNat ≤ 57 := by
  rcases Nat.eq_zero_or_pos n with e | e
  · subst e
    exact ⟨48, t, by rw [dgs_small (by decide)]; rfl, by decide, by decide⟩
  · obtain ⟨a, r, h, h1, h2⟩ := dgs_head n e
    exact ⟨a, r ++ t, by rw [h]; rfl, by omega, h2⟩
theorem ixL_digit (n : Nat) (t : List UInt8) : ixL (dgs n ++ t) = (⟨0, 0⟩, dgs n ++ t) := by
  obtain ⟨a, r, h, h1, h2⟩ := head_app n t
  rw [h]
  exact ixL_stop (by omega)
theorem flags_pieces (f : Fl) (back : Bool) (W P : Nat) (hW : 1 ≤ W) :
    parseL (37 :: (flT f back 5 ++ (dgs W ++ 46 :: (dgs P ++ [120])))) = [⟨1, 37 :: (flT f back 5 ++ (dgs W ++ 46 :: (dgs P ++ [120]))), f, -1, -1, 120, ⟨1, if W ≤ 1000 then (W : Int) else -1, ⟨0, 0⟩⟩, ⟨1, if P ≤ 1000 then (P : Int) else -1, ⟨0, 0⟩⟩, ⟨0, 0⟩⟩] := by
  obtain ⟨a, r, h, h1, h2⟩ := dgs_head W hW
  have hf : flL ⟨false, false, false, false, false⟩ (flT f back 5 ++ (dgs W ++ 46 :: (dgs P ++ [120]))) = (f, dgs W ++ 46 :: (dgs P ++ [120])) := by
    rw [h, List.cons_append]
    rw [flL_app a _ (by unfold isF; simp; omega) _ _ (flT_isF f back 5 (Nat.le_refl _)), flT_fold]
  refine parse_one ?_
  rw [dirL_ascii hf (ixL_digit W _) (nmL_given W 46 _ _ hW (by decide) false) (prL_point _ _) (by rw [ixL_digit P, nmL_given0 P 120 [] _ (by decide)]; exact ixL_stop (by decide)) (by decide), ixL_digit P, nmL_given0 P 120 [] _ (by decide)]
  rfl

abbrev f0 : Fl := ⟨false, false, false, false, false⟩
theorem flL_no {a : UInt8} {t : List UInt8} (h : isF a = false) : flL f0 (a :: t) = (f0, a :: t) := flL_stop (flOn_none h)
theorem ix1_pieces (i j k : Nat) (i1 : 1 ≤ i) (i2 : i ≤ 999999999) (j1 : 1 ≤ j) (j2 : j ≤ 999999999) (k1 : 1 ≤ k) (k2 : k ≤ 999999999) (l : List UInt8)
    (hl : l = 91 :: (dgs i ++ 93 :: 42 :: 46 :: 91 :: (dgs j ++ 93 :: 42 :: 91 :: (dgs k ++ [93, 100])))) :
    parseL (37 :: l) = [⟨1, 37 :: l, f0, -1, -1, 100, ⟨2, 0, ⟨1, i⟩⟩, ⟨2, 0, ⟨1, j⟩⟩, ⟨1, k⟩⟩] := by
  refine parse_one ?_
  rw [dirL_ascii (l := l) (a := 100) (by rw [hl]; exact flL_no (by decide)) (ixL_good i _ i1 i2) (nmL_star _ _ _) (prL_point _ _) (by rw [ixL_good j _ j1 j2, nmL_star]; exact ixL_good k _ k1 k2) (by decide), ixL_good j _ j1 j2, nmL_star]
  rfl
theorem ix2_pieces (i : Nat) (i1 : 1 ≤ i) (i2 : i ≤ 999999999) (l : List UInt8) (hl : l = 91 :: (dgs i ++ [93, 53, 100])) :
    parseL (37 :: l) = [⟨1, 37 :: l, f0, -1, -1, 100, ⟨1, 5, ⟨0, 0⟩⟩, ⟨0, 0, ⟨0, 0⟩⟩, ⟨2, 0⟩⟩] := by
  refine parse_one ?_
  have h5 := nmL_given 5 100 [] ⟨1, i⟩ (by decide) (by decide) false
  rw [dgs_small (by decide)] at h5
  rw [dirL_ascii (l := l) (a := 100) (by rw [hl]; exact flL_no (by decide)) (ixL_good i _ i1 i2) h5 (prL_stop (by decide) _) (ixL_stop (by decide)) (by decide)]
  rfl
theorem ix3_pieces (i : Nat) (i1 : 1 ≤ i) (i2 : i ≤ 999999999) (l : List UInt8) (hl : l = 91 :: (dgs i ++ [93, 46, 51, 100])) :
    parseL (37 :: l) = [⟨1, 37 :: l, f0, -1, -1, 100, ⟨0, 0, ⟨0, 0⟩⟩, ⟨1, 3, ⟨0, 0⟩⟩, ⟨2, 0⟩⟩] := by
  refine parse_one ?_
  have h3 := nmL_given 3 100 [] ⟨0, 0⟩ (by decide) (by decide) true
  rw [dgs_small (by decide)] at h3
  have h4 : ixL [51, 100] = (⟨0, 0⟩, [51, 100]) := ixL_stop (by decide)
  have hn : nmL ⟨1, (i : Int)⟩ false [46, 51, 100] = (⟨0, 0, ⟨0, 0⟩⟩, ⟨1, i⟩, [46, 51, 100]) := rfl
  rw [dirL_ascii (l := l) (a := 100) (by rw [hl]; exact flL_no (by decide)) (ixL_good i _ i1 i2) hn (prL_point _ _) (by rw [h4]; dsimp only; rw [show ([51, 100] : List UInt8) = [UInt8.ofNat (48 + 3)] ++ [100] from rfl, h3]; exact ixL_stop (by decide)) (by decide), h4]
  dsimp only
  rw [show ([51, 100] : List UInt8) = [UInt8.ofNat (48 + 3)] ++ [100] from rfl, h3]
  rfl
theorem ix4_pieces (i : Nat) (i1 : 1 ≤ i) (i2 : i ≤ 999999999) (l : List UInt8) (hl : l = 46 :: 91 :: (dgs i ++ [93, 51, 100])) :
    parseL (37 :: l) = [⟨1, 37 :: l, f0, -1, -1, 100, ⟨0, 0, ⟨0, 0⟩⟩, ⟨1, 3, ⟨0, 0⟩⟩, ⟨2, 0⟩⟩] := by
  refine parse_one ?_
  have h3 := nmL_given 3 100 [] ⟨1, i⟩ (by decide) (by decide) true
  rw [dgs_small (by decide)] at h3
  have hn : nmL ⟨0, 0⟩ false (46 :: 91 :: (dgs i ++ [93, 51, 100])) = (⟨0, 0, ⟨0, 0⟩⟩, ⟨0, 0⟩, 46 :: 91 :: (dgs i ++ [93, 51, 100])) := rfl
  rw [dirL_ascii (l := l) (a := 100) (by rw [hl]; exact flL_no (by decide)) (ixL_stop (by decide)) hn (prL_point _ _) (by rw [ixL_good i _ i1 i2]; dsimp only; rw [show ([51, 100] : List UInt8) = [UInt8.ofNat (48 + 3)] ++ [100] from rfl, h3]; exact ixL_stop (by decide)) (by decide), ixL_good i _ i1 i2]
  dsimp only
  rw [show ([51, 100] : List UInt8) = [UInt8.ofNat (48 + 3)] ++ [100] from rfl, h3]
  rfl
theorem ix5_pieces (i j : Nat) (i1 : 1 ≤ i) (i2 : i ≤ 999999999) (j1 : 1 ≤ j) (j2 : j ≤ 999999999) (l : List UInt8) (hl : l = 91 :: (dgs i ++ 93 :: 91 :: (dgs j ++ [93, 100]))) :
    parseL (37 :: l) = [⟨1, 37 :: l, f0, -1, -1, 100, ⟨0, 0, ⟨0, 0⟩⟩, ⟨0, 0, ⟨0, 0⟩⟩, ⟨2, 0⟩⟩] := by
  refine parse_one ?_
  have hn : nmL ⟨1, (i : Int)⟩ false (91 :: (dgs j ++ [93, 100])) = (⟨0, 0, ⟨0, 0⟩⟩, ⟨1, i⟩, 91 :: (dgs j ++ [93, 100])) := rfl
  rw [dirL_ascii (l := l) (a := 100) (by rw [hl]; exact flL_no (by decide)) (ixL_good i _ i1 i2) hn (prL_stop (by decide) _) (ixL_good j _ j1 j2) (by decide)]
  rfl
theorem ix6_pieces : parseL [37, 91, 48, 93, 100] = [⟨1, [37, 91, 48, 93, 100], f0, -1, -1, 100, ⟨0, 0, ⟨0, 0⟩⟩, ⟨0, 0, ⟨0, 0⟩⟩, ⟨2, 0⟩⟩] := parse_one rfl
theorem ix7_pieces (k : Nat) (k1 : 1 ≤ k) (k2 : k ≤ 999999999) (l : List UInt8) (hl : l = 42 :: 46 :: 91 :: (dgs k ++ [93, 42, 100])) :
    parseL (37 :: l) = [⟨1, 37 :: l, f0, -1, -1, 100, ⟨2, 0, ⟨0, 0⟩⟩, ⟨2, 0, ⟨1, k⟩⟩, ⟨0, 0⟩⟩] := by
  refine parse_one ?_
  rw [dirL_ascii (l := l) (a := 100) (by rw [hl]; exact flL_no (by decide)) (ixL_stop (by decide)) (nmL_star _ _ _) (prL_point _ _) (by rw [ixL_good k _ k1 k2, nmL_star]; exact ixL_stop (by decide)) (by decide), ixL_good k _ k1 k2, nmL_star]
  rfl
end Go.Proofs.YtmfhoindfhmncaaDoor.PP
