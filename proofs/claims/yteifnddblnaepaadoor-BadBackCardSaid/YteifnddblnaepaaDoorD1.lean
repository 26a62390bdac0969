/-
  Walks of layer 10: what a text begins with and what it has in it; a text of parts.
-/
import Derived.Test.YteifnddblnaepaaDoorB2
import Derived.Lib.AtoiErrMem
namespace Go.Proofs.YteifnddblnaepaaDoor
open Go.RowKit Go.Proofs

/-- The library's own variable that its search of a text asks. -/
def MX (w : World) : Prop := ∃ m, w.cell? ⟨2, 0, none⟩ = some (.int .i64 m)
theorem MX.below {w w' : World} (h : MX w) (hb : Below w.heap.size w w') : MX w' := by
  obtain ⟨m, hm⟩ := h
  exact ⟨m, (hb.cell (Lib.lt_of_cell hm)).trans hm⟩
def TM (w : World) : Prop := Tabs w ∧ MX w
theorem TM.below {w w' : World} (h : TM w) (hb : Below w.heap.size w w') : TM w' := ⟨h.1.below hb, h.2.below hb⟩

theorem beq_lit (a : ByteArray) (l : List UInt8) : (a.toList == l) = decide (a.data.toList = l) := by
  rw [Lib.toList_data]
  by_cases h : a.data.toList = l
  · rw [decide_eq_true h, h]; simp
  · rw [decide_eq_false h]; simpa using h
theorem beq_bytes (a b : ByteArray) : (a.toList == b.toList) = decide (a.data.toList = b.data.toList) := by
  rw [Lib.toList_data, Lib.toList_data]
  by_cases h : a.data.toList = b.data.toList
  · rw [decide_eq_true h, h]; simp
  · rw [decide_eq_false h]; simpa using h
theorem dbytes_ext {a b : ByteArray} (h : a.data.toList = b.data.toList) : a = b := by
  rw [← Lib.mk_data a, ← Lib.mk_data b, h]

/-- Does a text begin with another one? -/
theorem begins_any (s p : ByteArray) (w : World) :
    Calls Tryd.prog 38 #[.string s, .string p] w fun e w' => e = .returned (.bool (Lib.hasPrefix s.data.toList p.data.toList)) ∧ w = w' := by
  have hr := Lib.hasPrefix_raw s p
  obtain ⟨r, hrr⟩ : ∃ r, Lib.hasPrefix s.data.toList p.data.toList = r := ⟨_, rfl⟩
  rw [hrr] at hr ⊢
  clear hrr
  by_cases h : p.size ≤ s.size
  · rw [decide_eq_true h, Bool.true_and] at hr
    obtain ⟨x, hx⟩ : ∃ x, s.extract 0 p.size = x := ⟨_, rfl⟩
    rw [hx] at hr
    go_enter Tryd.func38, Tryd.ntmps38
    go_wp2_with fail
    go_ret
    exact ⟨rfl, rfl⟩
  · rw [decide_eq_false h, Bool.false_and] at hr
    subst hr
    go_enter Tryd.func38, Tryd.ntmps38
    go_wp2_with fail
    go_ret
    exact ⟨rfl, rfl⟩

/-- What a bare inside says. -/
def bareP (l : List UInt8) : Int :=
  if l = [78, 79, 86, 69, 82, 66] then 6 else if l = [66, 65, 68, 87, 73, 68, 84, 72] then 7 else if l = [66, 65, 68, 80, 82, 69, 67] then 8 else if l = [68, 69, 80, 84, 72] then 9
  else if Lib.hasPrefix l [69, 88, 84, 82, 65, 32] = true then 10 else 0
/-- What an inside with a verb says. -/
def verbedP (l : List UInt8) : Int :=
  if l = [77, 73, 83, 83, 73, 78, 71] then 3 else if l = [66, 65, 68, 73, 78, 68, 69, 88] then 4 else if l = [60, 110, 105, 108, 62] then 2
  else if Lib.hasPrefix l [80, 65, 78, 73, 67, 61] = true ∧ Lib.contains l [32, 109, 101, 116, 104, 111, 100, 58, 32] = true then 5 else if Lib.contains l [61] = true then 1 else 0

theorem bare_any (s : ByteArray) (w : World) : Calls Tryd.prog 35 #[.string s] w fun e w' => e = .returned (.int .i64 (bareP s.data.toList)) ∧ w = w' := by
  have e1 := beq_lit s [78, 79, 86, 69, 82, 66]
  have e2 := beq_lit s [66, 65, 68, 87, 73, 68, 84, 72]
  have e3 := beq_lit s [66, 65, 68, 80, 82, 69, 67]
  have e4 := beq_lit s [68, 69, 80, 84, 72]
  have HP := hid (Tryd.strings_HasPrefix s ⟨#[69, 88, 84, 82, 65, 32]⟩ w)
  obtain ⟨r, hr⟩ : ∃ r, bareP s.data.toList = r := ⟨_, rfl⟩
  rw [hr]
  unfold bareP at hr
  by_cases h1 : s.data.toList = [78, 79, 86, 69, 82, 66]
  · rw [if_pos h1] at hr
    subst hr
    rw [decide_eq_true h1] at e1
    clear e2 e3 e4
    go_enter Tryd.func35, Tryd.ntmps35
    go_wp2_with fail
    go_ret
    exact ⟨rfl, rfl⟩
  · rw [if_neg h1] at hr
    rw [decide_eq_false h1] at e1
    by_cases h2 : s.data.toList = [66, 65, 68, 87, 73, 68, 84, 72]
    · rw [if_pos h2] at hr
      subst hr
      rw [decide_eq_true h2] at e2
      clear e3 e4
      go_enter Tryd.func35, Tryd.ntmps35
      go_wp2_with fail
      go_ret
      exact ⟨rfl, rfl⟩
    · rw [if_neg h2] at hr
      rw [decide_eq_false h2] at e2
      by_cases h3 : s.data.toList = [66, 65, 68, 80, 82, 69, 67]
      · rw [if_pos h3] at hr
        subst hr
        rw [decide_eq_true h3] at e3
        clear e4
        go_enter Tryd.func35, Tryd.ntmps35
        go_wp2_with fail
        go_ret
        exact ⟨rfl, rfl⟩
      · rw [if_neg h3] at hr
        rw [decide_eq_false h3] at e3
        by_cases h4 : s.data.toList = [68, 69, 80, 84, 72]
        · rw [if_pos h4] at hr
          subst hr
          rw [decide_eq_true h4] at e4
          go_enter Tryd.func35, Tryd.ntmps35
          go_wp2_with fail
          go_ret
          exact ⟨rfl, rfl⟩
        · rw [if_neg h4] at hr
          rw [decide_eq_false h4] at e4
          have hp : Lib.hasPrefix s.data.toList (⟨#[69, 88, 84, 82, 65, 32]⟩ : ByteArray).data.toList = Lib.hasPrefix s.data.toList [69, 88, 84, 82, 65, 32] := rfl
          rw [hp] at HP
          obtain ⟨q, hq⟩ : ∃ q, Lib.hasPrefix s.data.toList [69, 88, 84, 82, 65, 32] = q := ⟨_, rfl⟩
          rw [hq] at HP hr
          subst hr
          cases q <;>
          · go_enter Tryd.func35, Tryd.ntmps35
            go_wp2_with fail
            refine HP.out.mono ?_
            rintro e w' ⟨rfl, hw⟩
            subst hw
            go_wp2_with fail
            go_ret
            exact ⟨rfl, rfl⟩

theorem verbed_any (s : ByteArray) (w : World) (hM : MX w) (hs : s.size ≤ 140000) : Calls Tryd.prog 37 #[.string s] w fun e w' => e = .returned (.int .i64 (verbedP s.data.toList)) ∧ w = w' := by
  have e1 := beq_lit s [77, 73, 83, 83, 73, 78, 71]
  have e2 := beq_lit s [66, 65, 68, 73, 78, 68, 69, 88]
  have e3 := beq_lit s [60, 110, 105, 108, 62]
  obtain ⟨m, hm⟩ := hM
  have HP := hid (Tryd.strings_HasPrefix s ⟨#[80, 65, 78, 73, 67, 61]⟩ w)
  have HC := hid (Tryd.strings_Contains s ⟨#[32, 109, 101, 116, 104, 111, 100, 58, 32]⟩ m w (by omega) hm)
  have HE := hid (Tryd.strings_Contains s ⟨#[61]⟩ m w (by omega) hm)
  clear hm
  obtain ⟨r, hr⟩ : ∃ r, verbedP s.data.toList = r := ⟨_, rfl⟩
  rw [hr]
  unfold verbedP at hr
  by_cases h1 : s.data.toList = [77, 73, 83, 83, 73, 78, 71]
  · rw [if_pos h1] at hr
    subst hr
    rw [decide_eq_true h1] at e1
    clear e2 e3 h1
    go_enter Tryd.func37, Tryd.ntmps37
    go_wp2_with fail
    go_ret
    exact ⟨rfl, rfl⟩
  · rw [if_neg h1] at hr
    rw [decide_eq_false h1] at e1
    by_cases h2 : s.data.toList = [66, 65, 68, 73, 78, 68, 69, 88]
    · rw [if_pos h2] at hr
      subst hr
      rw [decide_eq_true h2] at e2
      clear e3
      go_enter Tryd.func37, Tryd.ntmps37
      go_wp2_with fail
      go_ret
      exact ⟨rfl, rfl⟩
    · rw [if_neg h2] at hr
      rw [decide_eq_false h2] at e2
      by_cases h3 : s.data.toList = [60, 110, 105, 108, 62]
      · rw [if_pos h3] at hr
        subst hr
        rw [decide_eq_true h3] at e3
        go_enter Tryd.func37, Tryd.ntmps37
        go_wp2_with fail
        go_ret
        exact ⟨rfl, rfl⟩
      · rw [if_neg h3] at hr
        rw [decide_eq_false h3] at e3
        have hp : Lib.hasPrefix s.data.toList (⟨#[80, 65, 78, 73, 67, 61]⟩ : ByteArray).data.toList = Lib.hasPrefix s.data.toList [80, 65, 78, 73, 67, 61] := rfl
        have hc : Lib.contains s.data.toList (⟨#[32, 109, 101, 116, 104, 111, 100, 58, 32]⟩ : ByteArray).data.toList = Lib.contains s.data.toList [32, 109, 101, 116, 104, 111, 100, 58, 32] := rfl
        have he : Lib.contains s.data.toList (⟨#[61]⟩ : ByteArray).data.toList = Lib.contains s.data.toList [61] := rfl
        rw [hp] at HP
        rw [hc] at HC
        rw [he] at HE
        clear hp hc he
        obtain ⟨p, hp⟩ : ∃ p, Lib.hasPrefix s.data.toList [80, 65, 78, 73, 67, 61] = p := ⟨_, rfl⟩
        obtain ⟨c, hc⟩ : ∃ c, Lib.contains s.data.toList [32, 109, 101, 116, 104, 111, 100, 58, 32] = c := ⟨_, rfl⟩
        obtain ⟨q, hq⟩ : ∃ q, Lib.contains s.data.toList [61] = q := ⟨_, rfl⟩
        rw [hp] at HP hr
        rw [hc] at HC hr
        rw [hq] at HE hr
        clear hp hc hq h1 h2 h3
        cases p
        · rw [if_neg (by simp)] at hr
          cases q <;> (first | rw [if_pos rfl] at hr | rw [if_neg (by simp)] at hr) <;> subst hr <;>
          · go_enter Tryd.func37, Tryd.ntmps37
            go_wp2_with fail
            refine HP.out.mono ?_
            rintro e w' ⟨rfl, hw⟩
            subst hw
            go_wp2_with fail
            refine HE.out.mono ?_
            rintro e w' ⟨rfl, hw⟩
            subst hw
            go_wp2_with fail
            go_ret
            exact ⟨rfl, rfl⟩
        · cases c
          · rw [if_neg (by simp)] at hr
            cases q <;> (first | rw [if_pos rfl] at hr | rw [if_neg (by simp)] at hr) <;> subst hr <;>
            · go_enter Tryd.func37, Tryd.ntmps37
              go_wp2_with fail
              refine HP.out.mono ?_
              rintro e w' ⟨rfl, hw⟩
              subst hw
              go_wp2_with fail
              refine HC.out.mono ?_
              rintro e w' ⟨rfl, hw⟩
              subst hw
              go_wp2_with fail
              refine HE.out.mono ?_
              rintro e w' ⟨rfl, hw⟩
              subst hw
              go_wp2_with fail
              go_ret
              exact ⟨rfl, rfl⟩
          · rw [if_pos ⟨rfl, rfl⟩] at hr
            subst hr
            go_enter Tryd.func37, Tryd.ntmps37
            go_wp2_with fail
            refine HP.out.mono ?_
            rintro e w' ⟨rfl, hw⟩
            subst hw
            go_wp2_with fail
            refine HC.out.mono ?_
            rintro e w' ⟨rfl, hw⟩
            subst hw
            go_wp2_with fail
            go_ret
            exact ⟨rfl, rfl⟩

/-- A text of parts. -/
def insS (v J : ByteArray) : ByteArray := ((((⟨#[37, 33]⟩ : ByteArray) ++ v) ++ (⟨#[40]⟩ : ByteArray)) ++ J) ++ (⟨#[41]⟩ : ByteArray)
def joinS (xs : List ByteArray) (sep : List UInt8) : ByteArray := ⟨(Lib.join (xs.map (·.data.toList)) sep).toArray⟩

set_option maxRecDepth 100000 in
theorem inside_any (v : ByteArray) (bk o c : Nat) (xs : List ByteArray) (J : ByteArray) (w : World) (hcells : ∀ (j : Nat) x, xs[j]? = some x → w.cell? ⟨bk, o + j, none⟩ = some (.string x))
    (hbk : bk < w.heap.size) (hN : xs.length ≤ 140737488355328) (hcap : xs.length ≤ c) (hJ : joinS xs [] = J) (hv : v.size ≤ 1000000) (hJs : J.size ≤ 1000000) :
    Calls Tryd.prog 30 #[.string v, .slice (some ⟨bk, o, none⟩) xs.length c] w fun e w' => e = .returned (.string (insS v J)) ∧ Below w.heap.size w w' := by
  have hl : (Lib.join (xs.map (·.data.toList)) (⟨#[]⟩ : ByteArray).data.toList).length ≤ 140737488355328 := by
    have : J.size = (Lib.join (xs.map (·.data.toList)) []).length := by rw [← hJ, Utf.size_eq]; rfl
    show (Lib.join (xs.map (·.data.toList)) []).length ≤ _
    omega
  have HJ := hid (Tryd.strings_Join bk o c xs ⟨#[]⟩ w hcells hbk hN hcap hl)
  have e1 : (⟨(Lib.join (xs.map (·.data.toList)) (⟨#[]⟩ : ByteArray).data.toList).toArray⟩ : ByteArray) = J := hJ
  rw [e1] at HJ
  clear e1 hl hJ hcells hbk hN hcap
  obtain ⟨n, hn⟩ : ∃ n, xs.length = n := ⟨_, rfl⟩
  rw [hn] at HJ ⊢
  clear hn
  obtain ⟨R, hR⟩ : ∃ R, insS v J = R := ⟨_, rfl⟩
  rw [hR]
  go_enter Tryd.func30, Tryd.ntmps30
  go_wp2_with fail
  refine HJ.out.mono ?_
  rintro e w' ⟨rfl, hb⟩
  have HB := hid hb
  clear hb
  go_wp2_with fail
  go_ret
  exact ⟨congrArg (fun t => Ending.returned (Value.string t)) hR, HB.out⟩
end Go.Proofs.YteifnddblnaepaaDoor
