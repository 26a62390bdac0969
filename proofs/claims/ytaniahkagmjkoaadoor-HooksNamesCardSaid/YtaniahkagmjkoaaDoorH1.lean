/-
  Walks of layer 11: rows of methods as they lie; is there such a method?
-/
import Derived.Test.YtaniahkagmjkoaaDoorQTx
import Derived.Test.YtaniahkagmjkoaaDoorD2
import Derived.Test.YtaniahkagmjkoaaDoorHD
import Derived.Deep.MidRow
import Derived.Deep.DeepCutAuto
import Derived.Deep.CutBlock
namespace Go.Proofs.YtaniahkagmjkoaaDoor
open Go.RowKit Go.Proofs

/-- A slice as it is handed. -/
structure Sl where
  a : Option Addr
  n : Nat
  cap : Nat
abbrev slV (s : Sl) : Value := .slice s.a s.n s.cap
/-- A descriptor's cells. -/
structure De where
  k : Int
  ty : ByteArray
  b : Int
  im : Int
  t : ByteArray
  nm : Sl
  pa : Sl
  hk : Int
abbrev deV (d : De) : Array Value := #[.int .i64 d.k, .string d.ty, .int .u64 d.b, .int .u64 d.im, .string d.t, slV d.nm, slV d.pa, .int .i64 d.hk]
/-- A scripted method's cells. -/
structure Ac where
  k : Int
  t : ByteArray
  f : ByteArray
  ar : Sl
  p : De
abbrev acV (a : Ac) : Array Value := #[.int .i64 a.k, .string a.t, .string a.f, slV a.ar, .int .i64 a.p.k, .string a.p.ty, .int .u64 a.p.b, .int .u64 a.p.im, .string a.p.t, slV a.p.nm, slV a.p.pa, .int .i64 a.p.hk]
/-- A row's cells. -/
structure Hk where
  fo : Ac
  sy : Ac
  er : Ac
  st : Ac
def hkV (h : Hk) : Array Value := ((acV h.fo).toList ++ ((acV h.sy).toList ++ ((acV h.er).toList ++ (acV h.st).toList))).toArray
theorem acV_one (a : Ac) : (acV a).all (·.oneCell') = true := by simp [acV, Value.oneCell']
theorem deV_one (d : De) : (deV d).all (·.oneCell') = true := by simp [deV, Value.oneCell']
theorem hkV_one (h : Hk) : (hkV h).all (·.oneCell') = true := by
  unfold hkV
  simp [acV, Value.oneCell']
theorem hkV_size (h : Hk) : (hkV h).size = 48 := rfl
/-- The methods of a row by their numbers. -/
def hkAt (h : Hk) (i : Nat) : Ac := if i = 0 then h.fo else if i = 1 then h.sy else if i = 2 then h.er else h.st
theorem hk_mid (h : Hk) (i : Nat) (hi : i < 4) (j : Nat) (v : Value) (hv : (acV (hkAt h i))[j]? = some v) : (hkV h)[12 * i + j]? = some v := by
  have hj : j < 12 := by
    rcases Nat.lt_or_ge j 12 with q | q
    · exact q
    · rw [Array.getElem?_eq_none (by exact q)] at hv; cases hv
  rw [← hv]
  match i, hi with
  | 0, _ => match j, hj with
    | 0, _ | 1, _ | 2, _ | 3, _ | 4, _ | 5, _ | 6, _ | 7, _ | 8, _ | 9, _ | 10, _ | 11, _ => rfl
  | 1, _ => match j, hj with
    | 0, _ | 1, _ | 2, _ | 3, _ | 4, _ | 5, _ | 6, _ | 7, _ | 8, _ | 9, _ | 10, _ | 11, _ => rfl
  | 2, _ => match j, hj with
    | 0, _ | 1, _ | 2, _ | 3, _ | 4, _ | 5, _ | 6, _ | 7, _ | 8, _ | 9, _ | 10, _ | 11, _ => rfl
  | 3, _ => match j, hj with
    | 0, _ | 1, _ | 2, _ | 3, _ | 4, _ | 5, _ | 6, _ | 7, _ | 8, _ | 9, _ | 10, _ | 11, _ => rfl
theorem act_size : (Tryd.prog.info? 28).map (·.size) = some 12 := by kernel_rfl
theorem hook_size : (Tryd.prog.info? 30).map (·.size) = some 48 := by kernel_rfl
theorem desc_size : (Tryd.prog.info? 26).map (·.size) = some 8 := by kernel_rfl

/-- There is such a method. -/
def thereB (k : Int) : Bool := decide (1 ≤ k ∧ k ≤ 3)
set_option maxRecDepth 100000 in
set_option maxHeartbeats 1000000 in
theorem there_any (a : Ac) (w : World) : Calls Tryd.prog 12 #[.agg (acV a)] w fun e w' => e = .returned (.bool (thereB a.k)) ∧ Below w.heap.size w w' := by
  have hc : (w.alloc (.cells (acV a) 28)).cell? ⟨w.heap.size, 0, none⟩ = some (.int .i64 a.k) := (Blk.new w (acV a) 28).cell 0
  obtain ⟨k, hk⟩ : ∃ k, a.k = k := ⟨_, rfl⟩
  obtain ⟨cs, hcs⟩ : ∃ cs, acV a = cs := ⟨_, rfl⟩
  rw [hcs, hk] at hc
  rw [hcs, hk]
  clear hcs hk
  by_cases h1 : 1 ≤ k
  · by_cases h3 : k ≤ 3
    · have e : thereB k = true := decide_eq_true ⟨h1, h3⟩
      rw [e]
      clear e
      go_enter Tryd.func12, Tryd.ntmps12
      go_wp2_with fail
      go_ret
      exact ⟨rfl, (Below.refl _ _).alloc (Nat.le_refl _) _⟩
    · have e : thereB k = false := decide_eq_false (by omega)
      rw [e]
      clear e
      have h3' : decide (k ≤ 3) = false := decide_eq_false h3
      go_enter Tryd.func12, Tryd.ntmps12
      go_wp2_with fail
      go_ret
      exact ⟨rfl, (Below.refl _ _).alloc (Nat.le_refl _) _⟩
  · have e : thereB k = false := decide_eq_false (by omega)
    rw [e]
    clear e
    have h1' : decide (1 ≤ k) = false := decide_eq_false h1
    go_enter Tryd.func12, Tryd.ntmps12
    go_wp2_with fail
    go_ret
    exact ⟨rfl, (Below.refl _ _).alloc (Nat.le_refl _) _⟩
set_option maxRecDepth 100000 in
set_option maxHeartbeats 1000000 in
theorem rthere_any (a : Ac) (w : World) : Calls Tryd.prog 13 #[.agg (acV a)] w fun e w' => e = .returned (.bool (thereB a.k)) ∧ Below w.heap.size w w' := by
  have hc : (w.alloc (.cells (acV a) 28)).cell? ⟨w.heap.size, 0, none⟩ = some (.int .i64 a.k) := (Blk.new w (acV a) 28).cell 0
  obtain ⟨k, hk⟩ : ∃ k, a.k = k := ⟨_, rfl⟩
  obtain ⟨cs, hcs⟩ : ∃ cs, acV a = cs := ⟨_, rfl⟩
  rw [hcs, hk] at hc
  rw [hcs, hk]
  clear hcs hk
  by_cases h1 : k = 1
  · subst h1
    rw [show thereB 1 = true from rfl]
    go_enter Tryd.func13, Tryd.ntmps13
    go_wp2_with fail
    go_ret
    exact ⟨rfl, (Below.refl _ _).alloc (Nat.le_refl _) _⟩
  · have g1 : (k == 1) = false := by simpa using h1
    by_cases h2 : k = 2
    · subst h2
      rw [show thereB 2 = true from rfl]
      go_enter Tryd.func13, Tryd.ntmps13
      go_wp2_with fail
      go_ret
      exact ⟨rfl, (Below.refl _ _).alloc (Nat.le_refl _) _⟩
    · have g2 : (k == 2) = false := by simpa using h2
      by_cases h3 : k = 3
      · subst h3
        rw [show thereB 3 = true from rfl]
        go_enter Tryd.func13, Tryd.ntmps13
        go_wp2_with fail
        go_ret
        exact ⟨rfl, (Below.refl _ _).alloc (Nat.le_refl _) _⟩
      · have g3 : (k == 3) = false := by simpa using h3
        have e : thereB k = false := decide_eq_false (by omega)
        rw [e]
        clear e h1 h2 h3
        go_enter Tryd.func13, Tryd.ntmps13
        go_wp2_with fail
        go_ret
        exact ⟨rfl, (Below.refl _ _).alloc (Nat.le_refl _) _⟩

/-- One of the verbs that ask Error and String. -/
def namedB (v : Int) : Bool := decide (v = 118 ∨ v = 115 ∨ v = 120 ∨ v = 88 ∨ v = 113)
set_option maxHeartbeats 1000000 in
theorem rnamed_any (v : Int) (w : World) : Calls Tryd.prog 27 #[.int .i32 v] w fun e w' => e = .returned (.bool (namedB v)) ∧ w = w' := by
  by_cases h1 : v = 118
  · subst h1
    rw [show namedB 118 = true from rfl]
    go_enter Tryd.func27, Tryd.ntmps27
    go_wp2_with fail
    go_ret
    exact ⟨rfl, rfl⟩
  have g1 : (v == 118) = false := by simpa using h1
  by_cases h2 : v = 115
  · subst h2
    rw [show namedB 115 = true from rfl]
    go_enter Tryd.func27, Tryd.ntmps27
    go_wp2_with fail
    go_ret
    exact ⟨rfl, rfl⟩
  have g2 : (v == 115) = false := by simpa using h2
  by_cases h3 : v = 120
  · subst h3
    rw [show namedB 120 = true from rfl]
    go_enter Tryd.func27, Tryd.ntmps27
    go_wp2_with fail
    go_ret
    exact ⟨rfl, rfl⟩
  have g3 : (v == 120) = false := by simpa using h3
  by_cases h4 : v = 88
  · subst h4
    rw [show namedB 88 = true from rfl]
    go_enter Tryd.func27, Tryd.ntmps27
    go_wp2_with fail
    go_ret
    exact ⟨rfl, rfl⟩
  have g4 : (v == 88) = false := by simpa using h4
  by_cases h5 : v = 113
  · subst h5
    rw [show namedB 113 = true from rfl]
    go_enter Tryd.func27, Tryd.ntmps27
    go_wp2_with fail
    go_ret
    exact ⟨rfl, rfl⟩
  have g5 : (v == 113) = false := by simpa using h5
  have e : namedB v = false := decide_eq_false (by omega)
  rw [e]
  clear e h1 h2 h3 h4 h5
  go_enter Tryd.func27, Tryd.ntmps27
  go_wp2_with fail
  go_ret
  exact ⟨rfl, rfl⟩
end Go.Proofs.YtaniahkagmjkoaaDoor
