/-
  Walks of layer 10: what a text begins with and what it has in it; a text of parts.
-/
import Derived.Test.YtaniahkagmjkoaaDoorB2
import Derived.Lib.AtoiErrMem
import Derived.Lib.IndexMore
namespace Go.Proofs.YtaniahkagmjkoaaDoor
open Go.RowKit Go.Proofs

/-- The library's own variable that its search of a text asks. -/
def MX (w : World) : Prop := ∃ m, w.cell? ⟨0, 0, none⟩ = some (.int .i64 m)
theorem MX.below {w w' : World} (h : MX w) (hb : Below w.heap.size w w') : MX w' := by
  obtain ⟨m, hm⟩ := h
  exact ⟨m, (hb.cell (Lib.lt_of_cell hm)).trans hm⟩
def TM (w : World) : Prop := Tabs w ∧ MX w
theorem TM.below {w w' : World} (h : TM w) (hb : Below w.heap.size w w') : TM w' := ⟨h.1.below hb, h.2.below hb⟩

theorem beq_lit (a : ByteArray) (l : List UInt8) : (a.toList == l) = decide (a.data.toList = l) := by
  rw [Lib.toList_data]
  by_cases h : a.data.toList = l
  · rw [decide_eq_true h, h]; simp
  · rw [decide_eq_false h]; simpa using h
theorem beq_bytes (a b : ByteArray) : (a.toList == b.toList) = decide (a.data.toList = b.data.toList) := by
  rw [Lib.toList_data, Lib.toList_data]
  by_cases h : a.data.toList = b.data.toList
  · rw [decide_eq_true h, h]; simp
  · rw [decide_eq_false h]; simpa using h
theorem dbytes_ext {a b : ByteArray} (h : a.data.toList = b.data.toList) : a = b := by
  rw [← Lib.mk_data a, ← Lib.mk_data b, h]

/-- What a bare inside says. -/
def bareP (l : List UInt8) : Int :=
  if l = [78, 79, 86, 69, 82, 66] then 6 else if l = [66, 65, 68, 87, 73, 68, 84, 72] then 7 else if l = [66, 65, 68, 80, 82, 69, 67] then 8 else if l = [68, 69, 80, 84, 72] then 9
  else if Lib.hasPrefix l [69, 88, 84, 82, 65, 32] = true then 10 else 0
/-- What an inside with a verb says. -/
def verbedP (l : List UInt8) : Int :=
  if l = [77, 73, 83, 83, 73, 78, 71] then 3 else if l = [66, 65, 68, 73, 78, 68, 69, 88] then 4 else if l = [60, 110, 105, 108, 62] then 2
  else if Lib.hasPrefix l [80, 65, 78, 73, 67, 61] = true ∧ Lib.contains l [32, 109, 101, 116, 104, 111, 100, 58, 32] = true then 5 else if Lib.contains l [61] = true then 1 else 0

/-- A text of parts. -/
def insS (v J : ByteArray) : ByteArray := ((((⟨#[37, 33]⟩ : ByteArray) ++ v) ++ (⟨#[40]⟩ : ByteArray)) ++ J) ++ (⟨#[41]⟩ : ByteArray)
def joinS (xs : List ByteArray) (sep : List UInt8) : ByteArray := ⟨(Lib.join (xs.map (·.data.toList)) sep).toArray⟩

set_option maxRecDepth 100000 in
theorem inside_any (v : ByteArray) (bk o c : Nat) (xs : List ByteArray) (J : ByteArray) (w : World) (hcells : ∀ (j : Nat) x, xs[j]? = some x → w.cell? ⟨bk, o + j, none⟩ = some (.string x))
    (hbk : bk < w.heap.size) (hN : xs.length ≤ 140737488355328) (hcap : xs.length ≤ c) (hJ : joinS xs [] = J) (hv : v.size ≤ 1000000) (hJs : J.size ≤ 1000000) :
    Calls Tryd.prog 38 #[.string v, .slice (some ⟨bk, o, none⟩) xs.length c] w fun e w' => e = .returned (.string (insS v J)) ∧ Below w.heap.size w w' := by
  have hl : (Lib.join (xs.map (·.data.toList)) (⟨#[]⟩ : ByteArray).data.toList).length ≤ 140737488355328 := by
    have : J.size = (Lib.join (xs.map (·.data.toList)) []).length := by rw [← hJ, Utf.size_eq]; rfl
    show (Lib.join (xs.map (·.data.toList)) []).length ≤ _
    omega
  have HJ := hid (Tryd.strings_Join bk o c xs ⟨#[]⟩ w hcells hbk hN hcap hl)
  have e1 : (⟨(Lib.join (xs.map (·.data.toList)) (⟨#[]⟩ : ByteArray).data.toList).toArray⟩ : ByteArray) = J := hJ
  rw [e1] at HJ
  clear e1 hl hJ hcells hbk hN hcap
  obtain ⟨n, hn⟩ : ∃ n, xs.length = n := ⟨_, rfl⟩
  rw [hn] at HJ ⊢
  clear hn
  obtain ⟨R, hR⟩ : ∃ R, insS v J = R := ⟨_, rfl⟩
  rw [hR]
  go_enter Tryd.func38, Tryd.ntmps38
  go_wp2_with fail
  refine HJ.out.mono ?_
  rintro e w' ⟨rfl, hb⟩
  have HB := hid hb
  clear hb
  go_wp2_with fail
  go_ret
  exact ⟨congrArg (fun t => Ending.returned (Value.string t)) hR, HB.out⟩
end Go.Proofs.YtaniahkagmjkoaaDoor
