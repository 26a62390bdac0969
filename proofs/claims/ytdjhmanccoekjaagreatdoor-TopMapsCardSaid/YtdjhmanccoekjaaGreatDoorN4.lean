/-
  Texts of this claim, joined: D1, D2, HD, H1, H2, H3, H4, H5, H6, H7, H8, H9, HA, HB, HC.
-/
import Derived.Lib.AtoiErrMem
import Derived.Lib.IndexMore
import Derived.Deep.MidRow
import Derived.Deep.DeepCutAuto
import Derived.Deep.CutBlock
import Derived.BigQuiet
import Derived.Deep.QuietTactic
import Derived.Scope
import Derived.Great.BuildSlice
import Derived.Defers
import Derived.Recover
import Derived.FnLit
import Derived.Test.YtdjhmanccoekjaaGreatDoorN1
import Derived.Test.YtdjhmanccoekjaaGreatDoorN3

section
namespace Go.Proofs.YtdjhmanccoekjaaGreatDoor
open Go.RowKit Go.Proofs

/-- The library's own variable that its search of a text asks. -/
def MX (w : World) : Prop := ∃ m, w.cell? ⟨0, 0, none⟩ = some (.int .i64 m)
theorem MX.below {w w' : World} (h : MX w) (hb : Below w.heap.size w w') : MX w' := by
  obtain ⟨m, hm⟩ := h
  exact ⟨m, (hb.cell (Lib.lt_of_cell hm)).trans hm⟩
def TM (w : World) : Prop := Tabs w ∧ MX w
theorem TM.below {w w' : World} (h : TM w) (hb : Below w.heap.size w w') : TM w' := ⟨h.1.below hb, h.2.below hb⟩

theorem beq_lit (a : ByteArray) (l : List UInt8) : (a.toList == l) = decide (a.data.toList = l) := by
  rw [Lib.toList_data]
  by_cases h : a.data.toList = l
  · rw [decide_eq_true h, h]; simp
  · rw [decide_eq_false h]; simpa using h
theorem beq_bytes (a b : ByteArray) : (a.toList == b.toList) = decide (a.data.toList = b.data.toList) := by
  rw [Lib.toList_data, Lib.toList_data]
  by_cases h : a.data.toList = b.data.toList
  · rw [decide_eq_true h, h]; simp
  · rw [decide_eq_false h]; simpa using h
theorem dbytes_ext {a b : ByteArray} (h : a.data.toList = b.data.toList) : a = b := by
  rw [← Lib.mk_data a, ← Lib.mk_data b, h]

/-- What a bare inside says. -/
def bareP (l : List UInt8) : Int :=
  if l = [78, 79, 86, 69, 82, 66] then 6 else if l = [66, 65, 68, 87, 73, 68, 84, 72] then 7 else if l = [66, 65, 68, 80, 82, 69, 67] then 8 else if l = [68, 69, 80, 84, 72] then 9
  else if Lib.hasPrefix l [69, 88, 84, 82, 65, 32] = true then 10 else 0
/-- What an inside with a verb says. -/
def verbedP (l : List UInt8) : Int :=
  if l = [77, 73, 83, 83, 73, 78, 71] then 3 else if l = [66, 65, 68, 73, 78, 68, 69, 88] then 4 else if l = [60, 110, 105, 108, 62] then 2
  else if Lib.hasPrefix l [80, 65, 78, 73, 67, 61] = true ∧ Lib.contains l [32, 109, 101, 116, 104, 111, 100, 58, 32] = true then 5 else if Lib.contains l [61] = true then 1 else 0

/-- A text of parts. -/
def insS (v J : ByteArray) : ByteArray := ((((⟨#[37, 33]⟩ : ByteArray) ++ v) ++ (⟨#[40]⟩ : ByteArray)) ++ J) ++ (⟨#[41]⟩ : ByteArray)
def joinS (xs : List ByteArray) (sep : List UInt8) : ByteArray := ⟨(Lib.join (xs.map (·.data.toList)) sep).toArray⟩

set_option maxRecDepth 100000 in
theorem inside_any (v : ByteArray) (bk o c : Nat) (xs : List ByteArray) (J : ByteArray) (w : World) (hcells : ∀ (j : Nat) x, xs[j]? = some x → w.cell? ⟨bk, o + j, none⟩ = some (.string x))
    (hbk : bk < w.heap.size) (hN : xs.length ≤ 140737488355328) (hcap : xs.length ≤ c) (hJ : joinS xs [] = J) (hv : v.size ≤ 1000000) (hJs : J.size ≤ 1000000) :
    Calls Tryz.prog 23 #[.string v, .slice (some ⟨bk, o, none⟩) xs.length c] w fun e w' => e = .returned (.string (insS v J)) ∧ Below w.heap.size w w' := by
  have hl : (Lib.join (xs.map (·.data.toList)) (⟨#[]⟩ : ByteArray).data.toList).length ≤ 140737488355328 := by
    have : J.size = (Lib.join (xs.map (·.data.toList)) []).length := by rw [← hJ, Utf.size_eq]; rfl
    show (Lib.join (xs.map (·.data.toList)) []).length ≤ _
    omega
  have HJ := hid (Tryz.strings_Join bk o c xs ⟨#[]⟩ w hcells hbk hN hcap hl)
  have e1 : (⟨(Lib.join (xs.map (·.data.toList)) (⟨#[]⟩ : ByteArray).data.toList).toArray⟩ : ByteArray) = J := hJ
  rw [e1] at HJ
  clear e1 hl hJ hcells hbk hN hcap
  obtain ⟨n, hn⟩ : ∃ n, xs.length = n := ⟨_, rfl⟩
  rw [hn] at HJ ⊢
  clear hn
  obtain ⟨R, hR⟩ : ∃ R, insS v J = R := ⟨_, rfl⟩
  rw [hR]
  go_enter Tryz.func23, Tryz.ntmps23
  go_wp2_with fail
  refine HJ.out.mono ?_
  rintro e w' ⟨rfl, hb⟩
  have HB := hid hb
  clear hb
  go_wp2_with fail
  go_ret
  exact ⟨congrArg (fun t => Ending.returned (Value.string t)) hR, HB.out⟩
end Go.Proofs.YtdjhmanccoekjaaGreatDoor
end

section
namespace Go.Proofs.YtdjhmanccoekjaaGreatDoor
open Go.RowKit Go.Proofs

theorem row_strs (w : World) (cs : Array Value) (T : TypeId) (xs : List ByteArray) (h : cs = (xs.map Value.string).toArray) (j : Nat) (x : ByteArray) (hx : xs[j]? = some x) :
    (w.alloc (.cells cs T)).cell? ⟨w.heap.size, 0 + j, none⟩ = some (.string x) := by
  rw [(Blk.new w cs T).cell, h, Nat.zero_add]
  simp [hx]
theorem alloc_lt (w : World) (o : Obj) : w.heap.size < (w.alloc o).heap.size := by
  simp
theorem enc_size (c : Int) : (Utf8.encode c).size ≤ 4 := by
  rw [enc_mk, Utf.size_eq]
  exact (Utf.encL_pos c).2
theorem verbJ (a b : ByteArray) : joinS [a, (⟨#[61]⟩ : ByteArray), b] [] = ((a ++ (⟨#[61]⟩ : ByteArray)) ++ b) := by
  refine dbytes_ext ?_
  simp [joinS, Lib.join, List.intercalate]
set_option maxRecDepth 100000 in
theorem verb_any (c : Int) (a b : ByteArray) (w : World) (ha : a.size ≤ 10000) (hb : b.size ≤ 10000) :
    Calls Tryz.prog 17 #[.int .i32 c, .string a, .string b] w fun e w' => e = .returned (.string (insS (Utf8.encode c) ((a ++ (⟨#[61]⟩ : ByteArray)) ++ b))) ∧ Below w.heap.size w w' := by
  have RU := hid (rune_any c w)
  have hE := enc_size c
  have HJ := hid (verbJ a b)
  have HI := hid (fun (W : World) (h1 : _) (h2 : _) => inside_any (Utf8.encode c) w.heap.size 0 3 [a, (⟨#[61]⟩ : ByteArray), b] ((a ++ (⟨#[61]⟩ : ByteArray)) ++ b) W h1 h2 (by simp) (by simp) HJ.out (by omega) (by rw [ByteArray.size_append, ByteArray.size_append]; have h1 : (⟨#[61]⟩ : ByteArray).size = 1 := rfl; omega))
  obtain ⟨R, hR⟩ : ∃ R, insS (Utf8.encode c) ((a ++ (⟨#[61]⟩ : ByteArray)) ++ b) = R := ⟨_, rfl⟩
  rw [hR] at HI ⊢
  obtain ⟨E, hEE⟩ : ∃ E, Utf8.encode c = E := ⟨_, rfl⟩
  rw [hEE] at RU HI
  clear hR hE hEE HJ
  go_enter Tryz.func17, Tryz.ntmps17
  go_wp2_with fail
  refine RU.out.mono ?_
  rintro e w0 ⟨rfl, hw0⟩
  subst hw0
  go_wp2_with fail
  refine (HI.out _ (row_strs _ _ _ [a, (⟨#[61]⟩ : ByteArray), b] rfl) (alloc_lt _ _)).mono ?_
  rintro e w1 ⟨rfl, hb⟩
  have HB := hid (((Below.refl _ w).alloc (Nat.le_refl _) _).trans (hb.mono (Nat.le_of_lt (alloc_lt _ _))))
  clear hb
  go_wp2_with fail
  go_ret
  exact ⟨rfl, HB.out⟩
theorem nilJ : joinS [(⟨#[60, 110, 105, 108, 62]⟩ : ByteArray)] [] = (⟨#[60, 110, 105, 108, 62]⟩ : ByteArray) := by
  refine dbytes_ext ?_
  simp [joinS, Lib.join, List.intercalate]
set_option maxRecDepth 100000 in
theorem nil_any (c : Int) (w : World) :
    Calls Tryz.prog 16 #[.int .i32 c] w fun e w' => e = .returned (.string (insS (Utf8.encode c) (⟨#[60, 110, 105, 108, 62]⟩ : ByteArray))) ∧ Below w.heap.size w w' := by
  have RU := hid (rune_any c w)
  have hE := enc_size c
  have HJ := hid (nilJ)
  have HI := hid (fun (W : World) (h1 : _) (h2 : _) => inside_any (Utf8.encode c) w.heap.size 0 1 [(⟨#[60, 110, 105, 108, 62]⟩ : ByteArray)] (⟨#[60, 110, 105, 108, 62]⟩ : ByteArray) W h1 h2 (by simp) (by simp) HJ.out (by omega) (by decide))
  obtain ⟨R, hR⟩ : ∃ R, insS (Utf8.encode c) (⟨#[60, 110, 105, 108, 62]⟩ : ByteArray) = R := ⟨_, rfl⟩
  rw [hR] at HI ⊢
  obtain ⟨E, hEE⟩ : ∃ E, Utf8.encode c = E := ⟨_, rfl⟩
  rw [hEE] at RU HI
  clear hR hE hEE HJ
  go_enter Tryz.func16, Tryz.ntmps16
  go_wp2_with fail
  refine RU.out.mono ?_
  rintro e w0 ⟨rfl, hw0⟩
  subst hw0
  go_wp2_with fail
  refine (HI.out _ (row_strs _ _ _ [(⟨#[60, 110, 105, 108, 62]⟩ : ByteArray)] rfl) (alloc_lt _ _)).mono ?_
  rintro e w1 ⟨rfl, hb⟩
  have HB := hid (((Below.refl _ w).alloc (Nat.le_refl _) _).trans (hb.mono (Nat.le_of_lt (alloc_lt _ _))))
  clear hb
  go_wp2_with fail
  go_ret
  exact ⟨rfl, HB.out⟩
theorem missingJ : joinS [(⟨#[77, 73, 83, 83, 73, 78, 71]⟩ : ByteArray)] [] = (⟨#[77, 73, 83, 83, 73, 78, 71]⟩ : ByteArray) := by
  refine dbytes_ext ?_
  simp [joinS, Lib.join, List.intercalate]
set_option maxRecDepth 100000 in
theorem missing_any (c : Int) (w : World) :
    Calls Tryz.prog 73 #[.int .i32 c] w fun e w' => e = .returned (.string (insS (Utf8.encode c) (⟨#[77, 73, 83, 83, 73, 78, 71]⟩ : ByteArray))) ∧ Below w.heap.size w w' := by
  have RU := hid (rune_any c w)
  have hE := enc_size c
  have HJ := hid (missingJ)
  have HI := hid (fun (W : World) (h1 : _) (h2 : _) => inside_any (Utf8.encode c) w.heap.size 0 1 [(⟨#[77, 73, 83, 83, 73, 78, 71]⟩ : ByteArray)] (⟨#[77, 73, 83, 83, 73, 78, 71]⟩ : ByteArray) W h1 h2 (by simp) (by simp) HJ.out (by omega) (by decide))
  obtain ⟨R, hR⟩ : ∃ R, insS (Utf8.encode c) (⟨#[77, 73, 83, 83, 73, 78, 71]⟩ : ByteArray) = R := ⟨_, rfl⟩
  rw [hR] at HI ⊢
  obtain ⟨E, hEE⟩ : ∃ E, Utf8.encode c = E := ⟨_, rfl⟩
  rw [hEE] at RU HI
  clear hR hE hEE HJ
  go_enter Tryz.func73, Tryz.ntmps73
  go_wp2_with fail
  refine RU.out.mono ?_
  rintro e w0 ⟨rfl, hw0⟩
  subst hw0
  go_wp2_with fail
  refine (HI.out _ (row_strs _ _ _ [(⟨#[77, 73, 83, 83, 73, 78, 71]⟩ : ByteArray)] rfl) (alloc_lt _ _)).mono ?_
  rintro e w1 ⟨rfl, hb⟩
  have HB := hid (((Below.refl _ w).alloc (Nat.le_refl _) _).trans (hb.mono (Nat.le_of_lt (alloc_lt _ _))))
  clear hb
  go_wp2_with fail
  go_ret
  exact ⟨rfl, HB.out⟩
theorem indexJ : joinS [(⟨#[66, 65, 68, 73, 78, 68, 69, 88]⟩ : ByteArray)] [] = (⟨#[66, 65, 68, 73, 78, 68, 69, 88]⟩ : ByteArray) := by
  refine dbytes_ext ?_
  simp [joinS, Lib.join, List.intercalate]
set_option maxRecDepth 100000 in
theorem index_any (c : Int) (w : World) :
    Calls Tryz.prog 75 #[.int .i32 c] w fun e w' => e = .returned (.string (insS (Utf8.encode c) (⟨#[66, 65, 68, 73, 78, 68, 69, 88]⟩ : ByteArray))) ∧ Below w.heap.size w w' := by
  have RU := hid (rune_any c w)
  have hE := enc_size c
  have HJ := hid (indexJ)
  have HI := hid (fun (W : World) (h1 : _) (h2 : _) => inside_any (Utf8.encode c) w.heap.size 0 1 [(⟨#[66, 65, 68, 73, 78, 68, 69, 88]⟩ : ByteArray)] (⟨#[66, 65, 68, 73, 78, 68, 69, 88]⟩ : ByteArray) W h1 h2 (by simp) (by simp) HJ.out (by omega) (by decide))
  obtain ⟨R, hR⟩ : ∃ R, insS (Utf8.encode c) (⟨#[66, 65, 68, 73, 78, 68, 69, 88]⟩ : ByteArray) = R := ⟨_, rfl⟩
  rw [hR] at HI ⊢
  obtain ⟨E, hEE⟩ : ∃ E, Utf8.encode c = E := ⟨_, rfl⟩
  rw [hEE] at RU HI
  clear hR hE hEE HJ
  go_enter Tryz.func75, Tryz.ntmps75
  go_wp2_with fail
  refine RU.out.mono ?_
  rintro e w0 ⟨rfl, hw0⟩
  subst hw0
  go_wp2_with fail
  refine (HI.out _ (row_strs _ _ _ [(⟨#[66, 65, 68, 73, 78, 68, 69, 88]⟩ : ByteArray)] rfl) (alloc_lt _ _)).mono ?_
  rintro e w1 ⟨rfl, hb⟩
  have HB := hid (((Below.refl _ w).alloc (Nat.le_refl _) _).trans (hb.mono (Nat.le_of_lt (alloc_lt _ _))))
  clear hb
  go_wp2_with fail
  go_ret
  exact ⟨rfl, HB.out⟩
theorem panicJ (a b : ByteArray) : joinS [(⟨#[80, 65, 78, 73, 67, 61]⟩ : ByteArray), a, (⟨#[32, 109, 101, 116, 104, 111, 100, 58, 32]⟩ : ByteArray), b] [] = ((((⟨#[80, 65, 78, 73, 67, 61]⟩ : ByteArray) ++ a) ++ (⟨#[32, 109, 101, 116, 104, 111, 100, 58, 32]⟩ : ByteArray)) ++ b) := by
  refine dbytes_ext ?_
  simp [joinS, Lib.join, List.intercalate]
set_option maxRecDepth 100000 in
theorem panic_any (c : Int) (a b : ByteArray) (w : World) (ha : a.size ≤ 10000) (hb : b.size ≤ 10000) :
    Calls Tryz.prog 155 #[.int .i32 c, .string a, .string b] w fun e w' => e = .returned (.string (insS (Utf8.encode c) ((((⟨#[80, 65, 78, 73, 67, 61]⟩ : ByteArray) ++ a) ++ (⟨#[32, 109, 101, 116, 104, 111, 100, 58, 32]⟩ : ByteArray)) ++ b))) ∧ Below w.heap.size w w' := by
  have RU := hid (rune_any c w)
  have hE := enc_size c
  have HJ := hid (panicJ a b)
  have HI := hid (fun (W : World) (h1 : _) (h2 : _) => inside_any (Utf8.encode c) w.heap.size 0 4 [(⟨#[80, 65, 78, 73, 67, 61]⟩ : ByteArray), a, (⟨#[32, 109, 101, 116, 104, 111, 100, 58, 32]⟩ : ByteArray), b] ((((⟨#[80, 65, 78, 73, 67, 61]⟩ : ByteArray) ++ a) ++ (⟨#[32, 109, 101, 116, 104, 111, 100, 58, 32]⟩ : ByteArray)) ++ b) W h1 h2 (by simp) (by simp) HJ.out (by omega) (by rw [ByteArray.size_append, ByteArray.size_append, ByteArray.size_append]; have h0 : (⟨#[80, 65, 78, 73, 67, 61]⟩ : ByteArray).size = 6 := rfl; have h2 : (⟨#[32, 109, 101, 116, 104, 111, 100, 58, 32]⟩ : ByteArray).size = 9 := rfl; omega))
  obtain ⟨R, hR⟩ : ∃ R, insS (Utf8.encode c) ((((⟨#[80, 65, 78, 73, 67, 61]⟩ : ByteArray) ++ a) ++ (⟨#[32, 109, 101, 116, 104, 111, 100, 58, 32]⟩ : ByteArray)) ++ b) = R := ⟨_, rfl⟩
  rw [hR] at HI ⊢
  obtain ⟨E, hEE⟩ : ∃ E, Utf8.encode c = E := ⟨_, rfl⟩
  rw [hEE] at RU HI
  clear hR hE hEE HJ
  go_enter Tryz.func155, Tryz.ntmps155
  go_wp2_with fail
  refine RU.out.mono ?_
  rintro e w0 ⟨rfl, hw0⟩
  subst hw0
  go_wp2_with fail
  refine (HI.out _ (row_strs _ _ _ [(⟨#[80, 65, 78, 73, 67, 61]⟩ : ByteArray), a, (⟨#[32, 109, 101, 116, 104, 111, 100, 58, 32]⟩ : ByteArray), b] rfl) (alloc_lt _ _)).mono ?_
  rintro e w1 ⟨rfl, hb⟩
  have HB := hid (((Below.refl _ w).alloc (Nat.le_refl _) _).trans (hb.mono (Nat.le_of_lt (alloc_lt _ _))))
  clear hb
  go_wp2_with fail
  go_ret
  exact ⟨rfl, HB.out⟩
theorem verbR (r a b : ByteArray) : (((((((⟨#[37, 33]⟩ : ByteArray) ++ r) ++ (⟨#[40]⟩ : ByteArray)) ++ a) ++ (⟨#[61]⟩ : ByteArray)) ++ b) ++ (⟨#[41]⟩ : ByteArray)) = insS r ((a ++ (⟨#[61]⟩ : ByteArray)) ++ b) := by
  refine dbytes_ext ?_
  simp [insS]
theorem nilR (r : ByteArray) : (((⟨#[37, 33]⟩ : ByteArray) ++ r) ++ (⟨#[40, 60, 110, 105, 108, 62, 41]⟩ : ByteArray)) = insS r (⟨#[60, 110, 105, 108, 62]⟩ : ByteArray) := by
  refine dbytes_ext ?_
  simp [insS]
theorem missingR (r : ByteArray) : (((⟨#[37, 33]⟩ : ByteArray) ++ r) ++ (⟨#[40, 77, 73, 83, 83, 73, 78, 71, 41]⟩ : ByteArray)) = insS r (⟨#[77, 73, 83, 83, 73, 78, 71]⟩ : ByteArray) := by
  refine dbytes_ext ?_
  simp [insS]
theorem indexR (r : ByteArray) : (((⟨#[37, 33]⟩ : ByteArray) ++ r) ++ (⟨#[40, 66, 65, 68, 73, 78, 68, 69, 88, 41]⟩ : ByteArray)) = insS r (⟨#[66, 65, 68, 73, 78, 68, 69, 88]⟩ : ByteArray) := by
  refine dbytes_ext ?_
  simp [insS]
theorem panicR (r a b : ByteArray) : (((((((⟨#[37, 33]⟩ : ByteArray) ++ r) ++ (⟨#[40, 80, 65, 78, 73, 67, 61]⟩ : ByteArray)) ++ a) ++ (⟨#[32, 109, 101, 116, 104, 111, 100, 58, 32]⟩ : ByteArray)) ++ b) ++ (⟨#[41]⟩ : ByteArray)) = insS r ((((⟨#[80, 65, 78, 73, 67, 61]⟩ : ByteArray) ++ a) ++ (⟨#[32, 109, 101, 116, 104, 111, 100, 58, 32]⟩ : ByteArray)) ++ b) := by
  refine dbytes_ext ?_
  simp [insS]
theorem openJ : joinS [(⟨#[78, 79, 86, 69, 82, 66]⟩ : ByteArray)] [] = (⟨#[78, 79, 86, 69, 82, 66]⟩ : ByteArray) := by
  refine dbytes_ext ?_
  simp [joinS, Lib.join, List.intercalate]
set_option maxRecDepth 100000 in
theorem open_any (w : World) : Calls Tryz.prog 69 #[] w fun e w' => e = .returned (.string (insS ⟨#[]⟩ (⟨#[78, 79, 86, 69, 82, 66]⟩ : ByteArray))) ∧ Below w.heap.size w w' := by
  have HI := hid (fun (W : World) (h1 : _) (h2 : _) => inside_any ⟨#[]⟩ w.heap.size 0 1 [(⟨#[78, 79, 86, 69, 82, 66]⟩ : ByteArray)] (⟨#[78, 79, 86, 69, 82, 66]⟩ : ByteArray) W h1 h2 (by simp) (by simp) openJ (by decide) (by decide))
  obtain ⟨R, hR⟩ : ∃ R, insS ⟨#[]⟩ (⟨#[78, 79, 86, 69, 82, 66]⟩ : ByteArray) = R := ⟨_, rfl⟩
  rw [hR] at HI ⊢
  clear hR
  go_enter Tryz.func69, Tryz.ntmps69
  go_wp2_with fail
  refine (HI.out _ (row_strs _ _ _ [(⟨#[78, 79, 86, 69, 82, 66]⟩ : ByteArray)] rfl) (alloc_lt _ _)).mono ?_
  rintro e w1 ⟨rfl, hb⟩
  have HB := hid (((Below.refl _ w).alloc (Nat.le_refl _) _).trans (hb.mono (Nat.le_of_lt (alloc_lt _ _))))
  clear hb
  go_wp2_with fail
  go_ret
  exact ⟨rfl, HB.out⟩
theorem widthJ : joinS [(⟨#[66, 65, 68, 87, 73, 68, 84, 72]⟩ : ByteArray)] [] = (⟨#[66, 65, 68, 87, 73, 68, 84, 72]⟩ : ByteArray) := by
  refine dbytes_ext ?_
  simp [joinS, Lib.join, List.intercalate]
theorem precJ : joinS [(⟨#[66, 65, 68, 80, 82, 69, 67]⟩ : ByteArray)] [] = (⟨#[66, 65, 68, 80, 82, 69, 67]⟩ : ByteArray) := by
  refine dbytes_ext ?_
  simp [joinS, Lib.join, List.intercalate]
set_option maxRecDepth 100000 in
theorem prec_any (w : World) : Calls Tryz.prog 72 #[] w fun e w' => e = .returned (.string (insS ⟨#[]⟩ (⟨#[66, 65, 68, 80, 82, 69, 67]⟩ : ByteArray))) ∧ Below w.heap.size w w' := by
  have HI := hid (fun (W : World) (h1 : _) (h2 : _) => inside_any ⟨#[]⟩ w.heap.size 0 1 [(⟨#[66, 65, 68, 80, 82, 69, 67]⟩ : ByteArray)] (⟨#[66, 65, 68, 80, 82, 69, 67]⟩ : ByteArray) W h1 h2 (by simp) (by simp) precJ (by decide) (by decide))
  obtain ⟨R, hR⟩ : ∃ R, insS ⟨#[]⟩ (⟨#[66, 65, 68, 80, 82, 69, 67]⟩ : ByteArray) = R := ⟨_, rfl⟩
  rw [hR] at HI ⊢
  clear hR
  go_enter Tryz.func72, Tryz.ntmps72
  go_wp2_with fail
  refine (HI.out _ (row_strs _ _ _ [(⟨#[66, 65, 68, 80, 82, 69, 67]⟩ : ByteArray)] rfl) (alloc_lt _ _)).mono ?_
  rintro e w1 ⟨rfl, hb⟩
  have HB := hid (((Below.refl _ w).alloc (Nat.le_refl _) _).trans (hb.mono (Nat.le_of_lt (alloc_lt _ _))))
  clear hb
  go_wp2_with fail
  go_ret
  exact ⟨rfl, HB.out⟩
theorem depthJ : joinS [(⟨#[68, 69, 80, 84, 72]⟩ : ByteArray)] [] = (⟨#[68, 69, 80, 84, 72]⟩ : ByteArray) := by
  refine dbytes_ext ?_
  simp [joinS, Lib.join, List.intercalate]
set_option maxRecDepth 100000 in
theorem depth_any (w : World) : Calls Tryz.prog 156 #[] w fun e w' => e = .returned (.string (insS ⟨#[]⟩ (⟨#[68, 69, 80, 84, 72]⟩ : ByteArray))) ∧ Below w.heap.size w w' := by
  have HI := hid (fun (W : World) (h1 : _) (h2 : _) => inside_any ⟨#[]⟩ w.heap.size 0 1 [(⟨#[68, 69, 80, 84, 72]⟩ : ByteArray)] (⟨#[68, 69, 80, 84, 72]⟩ : ByteArray) W h1 h2 (by simp) (by simp) depthJ (by decide) (by decide))
  obtain ⟨R, hR⟩ : ∃ R, insS ⟨#[]⟩ (⟨#[68, 69, 80, 84, 72]⟩ : ByteArray) = R := ⟨_, rfl⟩
  rw [hR] at HI ⊢
  clear hR
  go_enter Tryz.func156, Tryz.ntmps156
  go_wp2_with fail
  refine (HI.out _ (row_strs _ _ _ [(⟨#[68, 69, 80, 84, 72]⟩ : ByteArray)] rfl) (alloc_lt _ _)).mono ?_
  rintro e w1 ⟨rfl, hb⟩
  have HB := hid (((Below.refl _ w).alloc (Nat.le_refl _) _).trans (hb.mono (Nat.le_of_lt (alloc_lt _ _))))
  clear hb
  go_wp2_with fail
  go_ret
  exact ⟨rfl, HB.out⟩
end Go.Proofs.YtdjhmanccoekjaaGreatDoor
end

section
namespace Go.Proofs.YtdjhmanccoekjaaGreatDoor
open Go.RowKit Go.Proofs
attribute [local go_sem] conv1

/-- A digit on. -/
theorem dig_step (b : Nat) (h2 : 2 ≤ b) (x : Int) (hx : 0 ≤ x) (t R : List UInt8) (h : IP.dgb b false x.toNat ++ t = R) :
    (x < b → IP.hexd false (x % b).toNat :: t = R) ∧ (¬ x < b → IP.dgb b false (x / b).toNat ++ IP.hexd false (x % b).toNat :: t = R) := by
  have hxt : (x % b).toNat = x.toNat % b := by
    obtain ⟨a, ha⟩ := Int.eq_ofNat_of_zero_le hx
    rw [ha, ← Int.natCast_emod, Int.toNat_natCast, Int.toNat_natCast]
  have hxq : (x / b).toNat = x.toNat / b := by
    obtain ⟨a, ha⟩ := Int.eq_ofNat_of_zero_le hx
    rw [ha, ← Int.natCast_ediv, Int.toNat_natCast, Int.toNat_natCast]
  refine ⟨fun hl => ?_, fun hl => ?_⟩
  · rw [hxt, ← h, IP.dgb_small (n := x.toNat) false (by omega), Nat.mod_eq_of_lt (by omega)]
    rfl
  · rw [hxt, hxq, ← h, IP.dgb_big (n := x.toNat) false h2 (by omega), List.append_assoc]
    rfl
end Go.Proofs.YtdjhmanccoekjaaGreatDoor
end

section
namespace Go.Proofs.YtdjhmanccoekjaaGreatDoor
open Go.RowKit Go.Proofs

/-- A slice as it is handed. -/
structure Sl where
  a : Option Addr
  n : Nat
  cap : Nat
abbrev slV (s : Sl) : Value := .slice s.a s.n s.cap
/-- A descriptor's cells. -/
structure De where
  k : Int
  ty : ByteArray
  b : Int
  im : Int
  t : ByteArray
  nm : Sl
  pa : Sl
  hk : Int
abbrev deV (d : De) : Array Value := #[.int .i64 d.k, .string d.ty, .int .u64 d.b, .int .u64 d.im, .string d.t, slV d.nm, slV d.pa, .int .i64 d.hk]
/-- A scripted method's cells. -/
structure Ac where
  k : Int
  t : ByteArray
  f : ByteArray
  ar : Sl
  p : De
abbrev acV (a : Ac) : Array Value := #[.int .i64 a.k, .string a.t, .string a.f, slV a.ar, .int .i64 a.p.k, .string a.p.ty, .int .u64 a.p.b, .int .u64 a.p.im, .string a.p.t, slV a.p.nm, slV a.p.pa, .int .i64 a.p.hk]
/-- A row's cells. -/
structure Hk where
  fo : Ac
  sy : Ac
  er : Ac
  st : Ac
def hkV (h : Hk) : Array Value := ((acV h.fo).toList ++ ((acV h.sy).toList ++ ((acV h.er).toList ++ (acV h.st).toList))).toArray
theorem acV_one (a : Ac) : (acV a).all (·.oneCell') = true := by simp [acV, Value.oneCell']
theorem deV_one (d : De) : (deV d).all (·.oneCell') = true := by simp [deV, Value.oneCell']
theorem hkV_one (h : Hk) : (hkV h).all (·.oneCell') = true := by
  unfold hkV
  simp [acV, Value.oneCell']
theorem hkV_size (h : Hk) : (hkV h).size = 48 := rfl
/-- The methods of a row by their numbers. -/
def hkAt (h : Hk) (i : Nat) : Ac := if i = 0 then h.fo else if i = 1 then h.sy else if i = 2 then h.er else h.st
theorem hk_mid (h : Hk) (i : Nat) (hi : i < 4) (j : Nat) (v : Value) (hv : (acV (hkAt h i))[j]? = some v) : (hkV h)[12 * i + j]? = some v := by
  have hj : j < 12 := by
    rcases Nat.lt_or_ge j 12 with q | q
    · exact q
    · rw [Array.getElem?_eq_none (by exact q)] at hv; cases hv
  rw [← hv]
  match i, hi with
  | 0, _ => match j, hj with
    | 0, _ | 1, _ | 2, _ | 3, _ | 4, _ | 5, _ | 6, _ | 7, _ | 8, _ | 9, _ | 10, _ | 11, _ => rfl
  | 1, _ => match j, hj with
    | 0, _ | 1, _ | 2, _ | 3, _ | 4, _ | 5, _ | 6, _ | 7, _ | 8, _ | 9, _ | 10, _ | 11, _ => rfl
  | 2, _ => match j, hj with
    | 0, _ | 1, _ | 2, _ | 3, _ | 4, _ | 5, _ | 6, _ | 7, _ | 8, _ | 9, _ | 10, _ | 11, _ => rfl
  | 3, _ => match j, hj with
    | 0, _ | 1, _ | 2, _ | 3, _ | 4, _ | 5, _ | 6, _ | 7, _ | 8, _ | 9, _ | 10, _ | 11, _ => rfl
theorem act_size : (Tryz.prog.info? 31).map (·.size) = some 12 := by kernel_rfl
theorem hook_size : (Tryz.prog.info? 34).map (·.size) = some 48 := by kernel_rfl
theorem desc_size : (Tryz.prog.info? 29).map (·.size) = some 8 := by kernel_rfl

/-- There is such a method. -/
def thereB (k : Int) : Bool := decide (1 ≤ k ∧ k ≤ 3)
set_option maxRecDepth 100000 in
set_option maxHeartbeats 1000000 in
theorem there_any (a : Ac) (w : World) : Calls Tryz.prog 151 #[.agg (acV a)] w fun e w' => e = .returned (.bool (thereB a.k)) ∧ Below w.heap.size w w' := by
  have hc : (w.alloc (.cells (acV a) 31)).cell? ⟨w.heap.size, 0, none⟩ = some (.int .i64 a.k) := (Blk.new w (acV a) 31).cell 0
  obtain ⟨k, hk⟩ : ∃ k, a.k = k := ⟨_, rfl⟩
  obtain ⟨cs, hcs⟩ : ∃ cs, acV a = cs := ⟨_, rfl⟩
  rw [hcs, hk] at hc
  rw [hcs, hk]
  clear hcs hk
  by_cases h1 : 1 ≤ k
  · by_cases h3 : k ≤ 3
    · have e : thereB k = true := decide_eq_true ⟨h1, h3⟩
      rw [e]
      clear e
      go_enter Tryz.func151, Tryz.ntmps151
      go_wp2_with fail
      go_ret
      exact ⟨rfl, (Below.refl _ _).alloc (Nat.le_refl _) _⟩
    · have e : thereB k = false := decide_eq_false (by omega)
      rw [e]
      clear e
      have h3' : decide (k ≤ 3) = false := decide_eq_false h3
      go_enter Tryz.func151, Tryz.ntmps151
      go_wp2_with fail
      go_ret
      exact ⟨rfl, (Below.refl _ _).alloc (Nat.le_refl _) _⟩
  · have e : thereB k = false := decide_eq_false (by omega)
    rw [e]
    clear e
    have h1' : decide (1 ≤ k) = false := decide_eq_false h1
    go_enter Tryz.func151, Tryz.ntmps151
    go_wp2_with fail
    go_ret
    exact ⟨rfl, (Below.refl _ _).alloc (Nat.le_refl _) _⟩
/-- One of the verbs that ask Error and String. -/
def namedB (v : Int) : Bool := decide (v = 118 ∨ v = 115 ∨ v = 120 ∨ v = 88 ∨ v = 113)
end Go.Proofs.YtdjhmanccoekjaaGreatDoor
end

section
namespace Go.Proofs.YtdjhmanccoekjaaGreatDoor
open Go.RowKit Go.Proofs

def VQ : ByteArray := ⟨#[118, 115, 120, 88, 113]⟩
theorem ib_none : ∀ (l : List UInt8) (x : UInt8), (∀ y ∈ l, y ≠ x) → Lib.indexByte l x = -1
  | [], _, _ => rfl
  | a :: l, x, h => by
    have h1 : (a == x) = false := by simpa using h a List.mem_cons_self
    have h2 := ib_none l x (fun y hy => h y (List.mem_cons_of_mem _ hy))
    unfold Lib.indexByte
    rw [if_neg (by simp [h1]), h2]
    rfl
theorem low_all : ∀ y ∈ VQ.data.toList, y.toNat < 128 := by decide
theorem ib_high (t : ByteArray) (x : UInt8) (ht : ∀ y ∈ t.data.toList, y.toNat < 128) (hx : 128 ≤ x.toNat) : Lib.indexByte t.data.toList x = -1 :=
  ib_none _ _ fun y hy e => by have := ht y hy; rw [e] at this; omega
theorem ib_low : ∀ v : Fin 128, decide (0 ≤ Lib.indexByte VQ.data.toList (v.val.toUInt8)) = namedB v.val := by decide
/-- The last byte of what a rune is written as. -/
theorem enc_last (v : Int) (h0 : 128 ≤ v) (hv : Utf8.valid v = true) : ∃ l : Nat, (l = 1 ∨ l = 2 ∨ l = 3) ∧ (Utf8.encode v).size = l + 1 ∧ 128 ≤ bt (Utf8.encode v) l ∧ bt (Utf8.encode v) l < 256 := by
  have hb : ∀ n : Nat, n < 64 → ((UInt8.ofNat (128 + n)).toNat : Int) = 128 + n := by
    intro n hn
    have : (UInt8.ofNat (128 + n)).toNat = 128 + n := by
      show (128 + n) % 256 = _
      omega
    rw [this]; omega
  unfold Utf8.encode
  rw [if_pos hv]
  simp only []
  by_cases h1 : v.toNat < 128
  · omega
  rw [if_neg h1]
  by_cases h2 : v.toNat < 2048
  · rw [if_pos h2]
    refine ⟨1, Or.inl rfl, rfl, ?_, ?_⟩
    · show (128 : Int) ≤ ((UInt8.ofNat (128 + v.toNat % 64)).toNat : Int)
      rw [hb _ (Nat.mod_lt _ (by decide))]; omega
    · show ((UInt8.ofNat (128 + v.toNat % 64)).toNat : Int) < 256
      rw [hb _ (Nat.mod_lt _ (by decide))]; omega
  rw [if_neg h2]
  by_cases h3 : v.toNat < 65536
  · rw [if_pos h3]
    refine ⟨2, Or.inr (Or.inl rfl), rfl, ?_, ?_⟩
    · show (128 : Int) ≤ ((UInt8.ofNat (128 + v.toNat % 64)).toNat : Int)
      rw [hb _ (Nat.mod_lt _ (by decide))]; omega
    · show ((UInt8.ofNat (128 + v.toNat % 64)).toNat : Int) < 256
      rw [hb _ (Nat.mod_lt _ (by decide))]; omega
  rw [if_neg h3]
  refine ⟨3, Or.inr (Or.inr rfl), rfl, ?_, ?_⟩
  · show (128 : Int) ≤ ((UInt8.ofNat (128 + v.toNat % 64)).toNat : Int)
    rw [hb _ (Nat.mod_lt _ (by decide))]; omega
  · show ((UInt8.ofNat (128 + v.toNat % 64)).toNat : Int) < 256
    rw [hb _ (Nat.mod_lt _ (by decide))]; omega

theorem byte_high (x : Int) (h0 : 128 ≤ x) (h1 : x < 256) : 128 ≤ (x.toNat.toUInt8).toNat := by
  show 128 ≤ x.toNat % 256
  omega
set_option maxRecDepth 100000 in
set_option maxHeartbeats 1000000 in
/-- A rune that is none. -/
theorem index_bad (v : Int) (w : World) (h : ¬ (0 ≤ v ∧ v < 128)) (h2 : ¬ v = 65533) (hv : Lib.validRune v = false) : Calls Tryz.prog 175 #[.string VQ, .int .i32 v] w fun e w' => e = .returned (.int .i64 (-1)) ∧ Below w.heap.size w w' := by
  have VR := hid (fun W => Tryz.utf8_ValidRune v W)
  rw [hv] at VR
  have g2 : (v == 65533) = false := by simpa using h2
  clear h2 hv
  by_cases h0 : 0 ≤ v
  · have g1 : decide (v < 128) = false := decide_eq_false (by omega)
    clear h
    go_enter Tryz.func175, Tryz.ntmps175
    go_wp2_with fail
    refine (VR.out _).mono ?_
    rintro e w1 ⟨rfl, rfl⟩
    go_wp2_with fail
    go_ret
    exact ⟨rfl, Below.refl _ _⟩
  · have g1 : decide (0 ≤ v) = false := decide_eq_false h0
    clear h
    go_enter Tryz.func175, Tryz.ntmps175
    go_wp2_with fail
    refine (VR.out _).mono ?_
    rintro e w1 ⟨rfl, rfl⟩
    go_wp2_with fail
    go_ret
    exact ⟨rfl, Below.refl _ _⟩
set_option maxRecDepth 100000 in
set_option maxHeartbeats 1000000 in
/-- The rune that stands for broken ones. -/
theorem index_err (w : World) : Calls Tryz.prog 175 #[.string VQ, .int .i32 65533] w fun e w' => e = .returned (.int .i64 (-1)) ∧ Below w.heap.size w w' := by
  go_enter Tryz.func175, Tryz.ntmps175
  go_wp2_with fail
  go_loopw [4] (fun v wr => ∃ pos : Nat, v = .int .i64 0 ∧ pos ≤ 5 ∧ wr = w.iter VQ pos) (fun _ wr => 5 - wr.iterPos w.heap.size)
  case atStart => exact ⟨0, rfl, by decide, rfl⟩
  case round =>
    obtain ⟨pos, rfl, hpos, rfl⟩ := hrel
    by_cases hp : pos < 5
    · have hp2 : pos < VQ.size := hp
      have hd : (Utf8.decode VQ pos).2 = 1 ∧ (Utf8.decode VQ pos).1 < 128 := by
        have : ∀ p : Fin 5, (Utf8.decode VQ p.val).2 = 1 ∧ (Utf8.decode VQ p.val).1 < 128 := by decide
        exact this ⟨pos, hp⟩
      have hnx : ∀ ty, (Instr.next (.pointer (some ⟨w.heap.size, 0, none⟩)) true ty).run Tryz.prog (w.iter VQ pos) = _ := fun ty => run_next_any w VQ pos ty hp2
      rw [hd.1] at hnx
      have hc : (((Utf8.decode VQ pos).1 : Int) == 65533) = false := by rw [beq_eq_false_iff_ne]; have := hd.2; omega
      clear hd
      go_wp2_with fail
      go_roundw
      case rel => exact ⟨pos + 1, rfl, by omega, rfl⟩
      case measure => simp; omega
    · have hp2 : ¬ pos < VQ.size := hp
      have hnx : ∀ ty, (Instr.next (.pointer (some ⟨w.heap.size, 0, none⟩)) true ty).run Tryz.prog (w.iter VQ pos) = _ := fun ty => run_next_end w VQ pos ty hp2
      go_wp2_with fail
      go_ret
      exact ⟨rfl, (Below.refl _ _).alloc (Nat.le_refl _) _⟩
set_option maxRecDepth 100000 in
set_option maxHeartbeats 1000000 in
/-- Any other. -/
theorem index_high (v : Int) (w : World) (h : 128 ≤ v) (h2 : ¬ v = 65533) (hv : Lib.validRune v = true) : Calls Tryz.prog 175 #[.string VQ, .int .i32 v] w fun e w' => e = .returned (.int .i64 (-1)) ∧ Below w.heap.size w w' := by
  have VR := hid (fun W => Tryz.utf8_ValidRune v W)
  rw [hv] at VR
  have g2 : (v == 65533) = false := by simpa using h2
  have hvu : Utf8.valid v = true := by
    have hv := of_decide_eq_true hv
    unfold Utf8.valid
    simp only [Bool.or_eq_true, Bool.and_eq_true, decide_eq_true_eq]
    omega
  obtain ⟨l, hl, hz, hlo, hhi⟩ := enc_last v h hvu
  obtain ⟨E, hE⟩ : ∃ E, Utf8.encode v = E := ⟨_, rfl⟩
  rw [hE] at hz hlo hhi
  have g1 : decide (v < 128) = false := decide_eq_false (by omega)
  have h0 : 0 ≤ v := by omega
  have HE := hid hE
  have hlt : l < E.size := by omega
  have E0 := bt_at E l hlt
  obtain ⟨x, hx⟩ : ∃ x, bt E l = x := ⟨_, rfl⟩
  rw [hx] at E0 hlo hhi
  clear h2 hv hvu hE h hx
  have HZ := hid hz
  clear hz
  have hlo0 : 0 ≤ x := by omega
  rcases hl with rfl | rfl | rfl
  · have hz := HZ.out
    obtain ⟨T, hT⟩ : ∃ T, VQ.extract 2 5 = T := ⟨_, rfl⟩
    have IB := hid (fun W => Tryz.strings_IndexByte T x W)
    have hib : Lib.indexByte T.data.toList x.toNat.toUInt8 = -1 := ib_high T _ (by rw [← hT]; exact fun y hy => low_all y (by rw [Lib.extract_data] at hy; exact List.mem_of_mem_drop (List.mem_of_mem_take hy))) (byte_high x hlo hhi)
    rw [hib] at IB
    have W1 : IntKind.i64.wrap 2 = 2 := rfl
    have V0 : ((VQ[1]'(by decide)).toNat : Int) = 115 := rfl
    have V1 : 1 < VQ.size := by decide
    have V2 : 2 ≤ VQ.size := by decide
    have VZ : VQ.size = 5 := rfl
    have V3 : ((115 : Int) != x) = true := by rw [bne_iff_ne]; omega
    have VE := hid VZ
    go_enter Tryz.func175, Tryz.ntmps175
    go_wp2_with fail
    refine (VR.out _).mono ?_
    rintro e w1 ⟨rfl, rfl⟩
    go_wp2_with fail
    go_step3
    have hE := HE.out
    go_wp2_with fail
    clear hE
    refine wp_loop_rounds 1 ?_
    rw [rounds_succ]
    go_wp2_with fail
    go_step3
    go_wp2_with fail
    go_quiet (fail)
    generalize hw2 : World.drewN w1 _ = w2
    have HB2 := hid (show Below w1.heap.size w1 w2 from hw2 ▸ below_drewN (Below.refl _ _) _)
    clear hw2
    go_wp2_with fail
    go_quiet ((go_at_call 67; exact Calls.quiet_of_same (IB.out _)))
    go_wp2_with fail

    rw [Exit.noGoto_ret]
    go_wp2_with fail
    try rw [Exit.noGoto_ret]
    go_wp2_with fail
    go_ret
    exact ⟨rfl, below_drewN HB2.out _⟩
  · have hz := HZ.out
    obtain ⟨T, hT⟩ : ∃ T, VQ.extract 3 5 = T := ⟨_, rfl⟩
    have IB := hid (fun W => Tryz.strings_IndexByte T x W)
    have hib : Lib.indexByte T.data.toList x.toNat.toUInt8 = -1 := ib_high T _ (by rw [← hT]; exact fun y hy => low_all y (by rw [Lib.extract_data] at hy; exact List.mem_of_mem_drop (List.mem_of_mem_take hy))) (byte_high x hlo hhi)
    rw [hib] at IB
    have W1 : IntKind.i64.wrap 3 = 3 := rfl
    have V0 : ((VQ[2]'(by decide)).toNat : Int) = 120 := rfl
    have V1 : 2 < VQ.size := by decide
    have V2 : 3 ≤ VQ.size := by decide
    have VZ : VQ.size = 5 := rfl
    have V3 : ((120 : Int) != x) = true := by rw [bne_iff_ne]; omega
    have VE := hid VZ
    go_enter Tryz.func175, Tryz.ntmps175
    go_wp2_with fail
    refine (VR.out _).mono ?_
    rintro e w1 ⟨rfl, rfl⟩
    go_wp2_with fail
    go_step3
    have hE := HE.out
    go_wp2_with fail
    clear hE
    refine wp_loop_rounds 1 ?_
    rw [rounds_succ]
    go_wp2_with fail
    go_step3
    go_wp2_with fail
    go_quiet (fail)
    generalize hw2 : World.drewN w1 _ = w2
    have HB2 := hid (show Below w1.heap.size w1 w2 from hw2 ▸ below_drewN (Below.refl _ _) _)
    clear hw2
    go_wp2_with fail
    go_quiet ((go_at_call 67; exact Calls.quiet_of_same (IB.out _)))
    go_wp2_with fail
    rw [Exit.noGoto_ret]
    go_wp2_with fail
    try rw [Exit.noGoto_ret]
    go_wp2_with fail
    go_ret
    exact ⟨rfl, below_drewN HB2.out _⟩
  · have hz := HZ.out
    obtain ⟨T, hT⟩ : ∃ T, VQ.extract 4 5 = T := ⟨_, rfl⟩
    have IB := hid (fun W => Tryz.strings_IndexByte T x W)
    have hib : Lib.indexByte T.data.toList x.toNat.toUInt8 = -1 := ib_high T _ (by rw [← hT]; exact fun y hy => low_all y (by rw [Lib.extract_data] at hy; exact List.mem_of_mem_drop (List.mem_of_mem_take hy))) (byte_high x hlo hhi)
    rw [hib] at IB
    have W1 : IntKind.i64.wrap 4 = 4 := rfl
    have V0 : ((VQ[3]'(by decide)).toNat : Int) = 88 := rfl
    have V1 : 3 < VQ.size := by decide
    have V2 : 4 ≤ VQ.size := by decide
    have VZ : VQ.size = 5 := rfl
    have V3 : ((88 : Int) != x) = true := by rw [bne_iff_ne]; omega
    have VE := hid VZ
    go_enter Tryz.func175, Tryz.ntmps175
    go_wp2_with fail
    refine (VR.out _).mono ?_
    rintro e w1 ⟨rfl, rfl⟩
    go_wp2_with fail
    go_step3
    have hE := HE.out
    go_wp2_with fail
    clear hE
    refine wp_loop_rounds 1 ?_
    rw [rounds_succ]
    go_wp2_with fail
    go_step3
    go_wp2_with fail
    go_quiet (fail)
    generalize hw2 : World.drewN w1 _ = w2
    have HB2 := hid (show Below w1.heap.size w1 w2 from hw2 ▸ below_drewN (Below.refl _ _) _)
    clear hw2
    go_wp2_with fail
    go_quiet ((go_at_call 67; exact Calls.quiet_of_same (IB.out _)))
    go_wp2_with fail
    rw [Exit.noGoto_ret]
    go_wp2_with fail
    try rw [Exit.noGoto_ret]
    go_wp2_with fail
    go_ret
    exact ⟨rfl, below_drewN HB2.out _⟩
set_option maxHeartbeats 1000000 in
/-- Is a rune one of those five? -/
theorem contains_any (v : Int) (w : World) : Calls Tryz.prog 152 #[.string VQ, .int .i32 v] w fun e w' => e = .returned (.bool (namedB v)) ∧ Below w.heap.size w w' := by
  by_cases h : 0 ≤ v ∧ v < 128
  · obtain ⟨n, rfl⟩ := Int.eq_ofNat_of_zero_le h.1
    have hl := ib_low ⟨n, by omega⟩
    refine (Tryz.strings_ContainsRune_ascii VQ n w h.1 h.2).mono ?_
    rintro e w' ⟨rfl, rfl⟩
    refine ⟨?_, Below.refl _ _⟩
    rw [← hl]
    rfl
  · have e : namedB v = false := decide_eq_false (by omega)
    rw [e]
    have IR : Hid (∀ W : World, Calls Tryz.prog 175 #[.string VQ, .int .i32 v] W fun e w' => e = .returned (.int .i64 (-1)) ∧ Below W.heap.size W w') := by
      intro W
      by_cases h2 : v = 65533
      · subst h2; exact index_err W
      · cases hv : Lib.validRune v
        · exact index_bad v W h h2 hv
        · have := of_decide_eq_true hv
          exact index_high v W (by omega) h2 hv
    clear e h
    go_enter Tryz.func152, Tryz.ntmps152
    go_wp2_with fail
    refine (IR.out _).mono ?_
    rintro e w1 ⟨rfl, hb⟩
    have HB := hid hb
    clear hb
    go_wp2_with fail
    go_ret
    exact ⟨rfl, HB.out⟩
end Go.Proofs.YtdjhmanccoekjaaGreatDoor
end

section
namespace Go.Proofs.YtdjhmanccoekjaaGreatDoor
open Go.RowKit Go.Proofs

/-- Which method is asked of a row: its number, 0: none. -/
def whichN (h : Hk) (v : Int) (sh : Bool) : Int :=
  if thereB (hkAt h 0).k = true then 1 else if v = 118 ∧ sh = true then (if thereB (hkAt h 1).k = true then 2 else 0)
  else if namedB v = true then (if thereB (hkAt h 2).k = true then 3 else if thereB (hkAt h 3).k = true then 4 else 0) else 0
theorem hk_cells {W : World} {B : Nat} {h : Hk} (hb : Blk W B (hkV h) 34) (i : Nat) (hi : i < 4) : W.rangeAt B (12 * i) (acV (hkAt h i)).toList := fun j v hv => by
  rw [hb.cell]
  exact hk_mid h i hi j v (by simpa using hv)
theorem wpList_wantLoad {ops : Array Oper} {rest : List Oper} {o : Oper} {a : Act} {w : World} {Q : Exit → Act → World → Prop} (hw : Region.wanted o (yielded ops a.tmps) = true) (ty : TypeId) (x : Operand) (ho : o.op = .load ty x)
    (b k : Nat) (hx : a.eval x = .pointer (some ⟨b, k, none⟩)) (cs : Array Value) (d : TypeDesc) (hc : w.rangeAt b k cs.toList)
    (hu : Tryz.prog.underlying ty = some d) (hd : d.isRow = true) (hi : (Tryz.prog.info? ty).map (·.size) = some cs.size) (h : wpList Tryz.prog ops Q rest (a.put o.dst (.agg cs)) w) : wpList Tryz.prog ops Q (o :: rest) a w :=
  wpList_step fun K hK => by
    rw [if_pos hw]
    refine wp_load_mid ty x ho b k hx cs.toList d hc hu hd (by simpa using hi) ?_
    exact hK _ _ h
theorem hk_calm {W W' : World} {B : Nat} {h : Hk} {T : TypeId} (hb : Blk W B (hkV h) T) (hw : Below W.heap.size W W') : Blk W' B (hkV h) T := hb.below hw hb.lt

set_option maxRecDepth 100000 in
set_option maxHeartbeats 2000000 in
theorem which_any (h : Hk) (v : Int) (sh : Bool) (w : World) : Calls Tryz.prog 115 #[.agg (hkV h), .int .i32 v, .bool sh] w fun e w' => e = .returned (.int .i64 (whichN h v sh)) ∧ Below w.heap.size w w' := by
  have TH0 := hid (fun W => there_any (hkAt h 0) W)
  have TH1 := hid (fun W => there_any (hkAt h 1) W)
  have TH2 := hid (fun W => there_any (hkAt h 2) W)
  have TH3 := hid (fun W => there_any (hkAt h 3) W)
  obtain ⟨R, hR⟩ : ∃ R, whichN h v sh = R := ⟨_, rfl⟩
  rw [hR]
  unfold whichN at hR
  obtain ⟨b0, hb0⟩ : ∃ b, thereB (hkAt h 0).k = b := ⟨_, rfl⟩
  obtain ⟨b1, hb1⟩ : ∃ b, thereB (hkAt h 1).k = b := ⟨_, rfl⟩
  obtain ⟨b2, hb2⟩ : ∃ b, thereB (hkAt h 2).k = b := ⟨_, rfl⟩
  obtain ⟨b3, hb3⟩ : ∃ b, thereB (hkAt h 3).k = b := ⟨_, rfl⟩
  rw [hb0] at TH0 hR
  rw [hb1] at TH1 hR
  rw [hb2] at TH2 hR
  rw [hb3] at TH3 hR
  obtain ⟨nb, hnb⟩ : ∃ b, namedB v = b := ⟨_, rfl⟩
  rw [hnb] at hR
  have HB := hid (Blk.new w (hkV h) 34)
  have BL := hid ((Below.refl w.heap.size w).alloc (Nat.le_refl _) (.cells (hkV h) 34))
  obtain ⟨B, hB⟩ : ∃ B, w.heap.size = B := ⟨_, rfl⟩
  obtain ⟨W0, hW0⟩ : ∃ W0, w.alloc (.cells (hkV h) 34) = W0 := ⟨_, rfl⟩
  rw [hW0] at HB BL
  rw [hB] at HB BL ⊢
  have HBB := hid hB
  clear hb0 hb1 hb2 hb3
  have CO := hid (fun W => contains_any v W)
  rw [hnb] at CO
  clear hnb
  go_enter Tryz.func115, Tryz.ntmps115
  go_upto_region 1 with fail
  clear hB hW0
  refine wp_region_list ?_
  refine wpList_plain rfl fun K hK => ?_
  have HK := hid hK
  clear hK
  go_wp2_with fail
  refine HK.out _ _ ?_
  clear HK
  refine wpList_load_mid rfl 31 (.tmp 8) rfl B 0 rfl (acV (hkAt h 0)).toList _ (hk_cells HB.out 0 (by decide)) Tryz.underlying31 rfl act_size ?_
  refine wpList_plain rfl fun K hK => ?_
  have HK := hid hK
  clear hK
  go_wp2_with fail
  refine (TH0.out _).mono ?_
  rintro e W1 ⟨rfl, hb⟩
  have HB := hid (hk_calm HB.out hb)
  have BL := hid (BL.out.trans (hb.mono (by have := BL.out.size; have := HBB.out; omega)))
  clear hb
  refine HK.out _ _ ?_
  clear HK
  refine wpList_plain rfl fun K hK => ?_
  have HK := hid hK
  clear hK
  go_wp2_with fail
  refine HK.out _ _ ?_
  clear HK
  refine wpList_nil ?_
  cases b0
  · by_cases h1 : v = 118 ∧ sh = true
    · obtain ⟨rfl, rfl⟩ := h1
      rw [if_neg (by decide), if_pos ⟨rfl, rfl⟩] at hR
      go_upto_region 4 with fail
      refine wp_region_list ?_
      refine wpList_plain rfl fun K hK => ?_
      have HK := hid hK
      clear hK
      go_wp2_with fail
      refine HK.out _ _ ?_
      clear HK
      refine wpList_load_mid rfl 31 (.tmp 17) rfl B 12 rfl (acV (hkAt h 1)).toList _ (hk_cells HB.out 1 (by decide)) Tryz.underlying31 rfl act_size ?_
      refine wpList_plain rfl fun K hK => ?_
      have HK := hid hK
      clear hK
      go_wp2_with fail
      refine (TH1.out _).mono ?_
      rintro e W2 ⟨rfl, hb⟩
      have HB := hid (hk_calm HB.out hb)
      have BL := hid (BL.out.trans (hb.mono (by have := BL.out.size; have := HBB.out; omega)))
      clear hb
      refine HK.out _ _ ?_
      clear HK
      refine wpList_nil ?_
      cases b1
      · obtain rfl : (0 : Int) = R := hR
        go_wp2_with fail
        go_ret
        exact ⟨rfl, BL.out⟩
      · obtain rfl : (2 : Int) = R := hR
        go_wp2_with fail
        go_ret
        exact ⟨rfl, BL.out⟩
    · rw [if_neg (by decide), if_neg h1] at hR
      by_cases h2 : v = 118
      · subst h2
        obtain rfl : sh = false := by cases sh <;> simp_all
        clear h1
        go_wp2_with fail
        refine (CO.out _).mono ?_
        rintro e W2 ⟨rfl, hb⟩
        have HB := hid (hk_calm HB.out hb)
        have BL := hid (BL.out.trans (hb.mono (by have := BL.out.size; have := HBB.out; omega)))
        clear hb
        cases nb
        · obtain rfl : (0 : Int) = R := hR
          go_wp2_with fail
          go_ret
          exact ⟨rfl, BL.out⟩
        · rw [if_pos rfl] at hR
          go_upto_region 7 with fail
          refine wp_region_list ?_
          refine wpList_plain rfl fun K hK => ?_
          have HK := hid hK
          clear hK
          go_wp2_with fail
          refine HK.out _ _ ?_
          clear HK
          refine wpList_load_mid rfl 31 (.tmp 23) rfl B 24 rfl (acV (hkAt h 2)).toList _ (hk_cells HB.out 2 (by decide)) Tryz.underlying31 rfl act_size ?_
          refine wpList_plain rfl fun K hK => ?_
          have HK := hid hK
          clear hK
          go_wp2_with fail
          refine (TH2.out _).mono ?_
          rintro e W3 ⟨rfl, hb⟩
          have HB := hid (hk_calm HB.out hb)
          have BL := hid (BL.out.trans (hb.mono (by have := BL.out.size; have := HBB.out; omega)))
          clear hb
          refine HK.out _ _ ?_
          clear HK
          refine wpList_nil ?_
          cases b2
          · rw [if_neg (by decide)] at hR
            go_upto_region 9 with fail
            refine wp_region_list ?_
            refine wpList_plain rfl fun K hK => ?_
            have HK := hid hK
            clear hK
            go_wp2_with fail
            refine HK.out _ _ ?_
            clear HK
            refine wpList_load_mid rfl 31 (.tmp 26) rfl B 36 rfl (acV (hkAt h 3)).toList _ (hk_cells HB.out 3 (by decide)) Tryz.underlying31 rfl act_size ?_
            refine wpList_plain rfl fun K hK => ?_
            have HK := hid hK
            clear hK
            go_wp2_with fail
            refine (TH3.out _).mono ?_
            rintro e W4 ⟨rfl, hb⟩
            have HB := hid (hk_calm HB.out hb)
            have BL := hid (BL.out.trans (hb.mono (by have := BL.out.size; have := HBB.out; omega)))
            clear hb
            refine HK.out _ _ ?_
            clear HK
            refine wpList_nil ?_
            cases b3
            · obtain rfl : (0 : Int) = R := hR
              go_wp2_with fail
              go_ret
              exact ⟨rfl, BL.out⟩
            · obtain rfl : (4 : Int) = R := hR
              go_wp2_with fail
              go_ret
              exact ⟨rfl, BL.out⟩
          · obtain rfl : (3 : Int) = R := hR
            go_wp2_with fail
            go_ret
            exact ⟨rfl, BL.out⟩
      · have hv : (v == 118) = false := by simpa using h2
        clear h1 h2
        go_wp2_with fail
        refine (CO.out _).mono ?_
        rintro e W2 ⟨rfl, hb⟩
        have HB := hid (hk_calm HB.out hb)
        have BL := hid (BL.out.trans (hb.mono (by have := BL.out.size; have := HBB.out; omega)))
        clear hb
        cases nb
        · obtain rfl : (0 : Int) = R := hR
          go_wp2_with fail
          go_ret
          exact ⟨rfl, BL.out⟩
        · rw [if_pos rfl] at hR
          go_upto_region 7 with fail
          refine wp_region_list ?_
          refine wpList_plain rfl fun K hK => ?_
          have HK := hid hK
          clear hK
          go_wp2_with fail
          refine HK.out _ _ ?_
          clear HK
          refine wpList_load_mid rfl 31 (.tmp 23) rfl B 24 rfl (acV (hkAt h 2)).toList _ (hk_cells HB.out 2 (by decide)) Tryz.underlying31 rfl act_size ?_
          refine wpList_plain rfl fun K hK => ?_
          have HK := hid hK
          clear hK
          go_wp2_with fail
          refine (TH2.out _).mono ?_
          rintro e W3 ⟨rfl, hb⟩
          have HB := hid (hk_calm HB.out hb)
          have BL := hid (BL.out.trans (hb.mono (by have := BL.out.size; have := HBB.out; omega)))
          clear hb
          refine HK.out _ _ ?_
          clear HK
          refine wpList_nil ?_
          cases b2
          · rw [if_neg (by decide)] at hR
            go_upto_region 9 with fail
            refine wp_region_list ?_
            refine wpList_plain rfl fun K hK => ?_
            have HK := hid hK
            clear hK
            go_wp2_with fail
            refine HK.out _ _ ?_
            clear HK
            refine wpList_load_mid rfl 31 (.tmp 26) rfl B 36 rfl (acV (hkAt h 3)).toList _ (hk_cells HB.out 3 (by decide)) Tryz.underlying31 rfl act_size ?_
            refine wpList_plain rfl fun K hK => ?_
            have HK := hid hK
            clear hK
            go_wp2_with fail
            refine (TH3.out _).mono ?_
            rintro e W4 ⟨rfl, hb⟩
            have HB := hid (hk_calm HB.out hb)
            have BL := hid (BL.out.trans (hb.mono (by have := BL.out.size; have := HBB.out; omega)))
            clear hb
            refine HK.out _ _ ?_
            clear HK
            refine wpList_nil ?_
            cases b3
            · obtain rfl : (0 : Int) = R := hR
              go_wp2_with fail
              go_ret
              exact ⟨rfl, BL.out⟩
            · obtain rfl : (4 : Int) = R := hR
              go_wp2_with fail
              go_ret
              exact ⟨rfl, BL.out⟩
          · obtain rfl : (3 : Int) = R := hR
            go_wp2_with fail
            go_ret
            exact ⟨rfl, BL.out⟩
  · obtain rfl : (1 : Int) = R := by rw [← hR]; rfl
    go_wp2_with fail
    go_ret
    exact ⟨rfl, BL.out⟩
end Go.Proofs.YtdjhmanccoekjaaGreatDoor
end

section
namespace Go.Proofs.YtdjhmanccoekjaaGreatDoor
open Go.RowKit Go.Proofs

/-- All blocks that were there but R are as they were. -/
structure Only (R : Nat) (w w' : World) : Prop where
  os : w'.os = w.os
  tape : w'.tape = w.tape
  output : w'.output = w.output
  size : w.heap.size ≤ w'.heap.size
  block : ∀ k, k < w.heap.size → k ≠ R → w'.heap[k]? = w.heap[k]?
theorem Only.refl (R : Nat) (w : World) : Only R w w := ⟨rfl, rfl, rfl, Nat.le_refl _, fun _ _ _ => rfl⟩
theorem Only.trans {R : Nat} {a c d : World} (h : Only R a c) (k : Only R c d) : Only R a d :=
  ⟨k.os.trans h.os, k.tape.trans h.tape, k.output.trans h.output, Nat.le_trans h.size k.size, fun i hi hb => (k.block i (Nat.lt_of_lt_of_le hi h.size) hb).trans (h.block i hi hb)⟩
theorem Only.below {R : Nat} {a c : World} (h : Only R a c) {B : Nat} (h1 : B ≤ a.heap.size) (h2 : B ≤ R) : Below B a c :=
  ⟨h.os, h.tape, h.output, h.size, fun k hk => h.block k (by omega) (by omega)⟩
theorem Only.of_below {R : Nat} {a c : World} (h : Below a.heap.size a c) : Only R a c := ⟨h.os, h.tape, h.output, h.size, fun k hk _ => h.block k hk⟩
theorem Only.drew {R : Nat} {a c : World} (h : Only R a c) : Only R a c.drew := ⟨h.os, h.tape, h.output, h.size, h.block⟩
theorem Only.drewN {R : Nat} {a c : World} (h : Only R a c) (n : Nat) : Only R a (c.drewN n) := ⟨h.os, h.tape, h.output, h.size, h.block⟩
theorem Only.set_ {R : Nat} {a c : World} (h : Only R a c) (i : Nat) (u : Value) : Only R a (c.setCell ⟨R, i, none⟩ u) :=
  ⟨h.os, h.tape, h.output, by simpa [World.setCell] using h.size, fun k hk hb => (Below.heap_setCell c _ u k hb).trans (h.block k hk hb)⟩
theorem Only.alloc {R : Nat} {a c : World} (h : Only R a c) (o : Obj) : Only R a (c.alloc o) :=
  ⟨h.os, h.tape, h.output, by have := h.size; simp; omega, fun k hk hb => (Below.heap_alloc c o k (Nat.lt_of_lt_of_le hk h.size)).trans (h.block k hk hb)⟩

def methodS (n : Int) : ByteArray := if n = 1 then ⟨#[70, 111, 114, 109, 97, 116]⟩ else if n = 2 then ⟨#[71, 111, 83, 116, 114, 105, 110, 103]⟩ else if n = 3 then ⟨#[69, 114, 114, 111, 114]⟩ else if n = 4 then ⟨#[83, 116, 114, 105, 110, 103]⟩ else ⟨#[]⟩
set_option maxHeartbeats 1000000 in
theorem method_any (n : Int) (w : World) : Calls Tryz.prog 117 #[.int .i64 n] w fun e w' => e = .returned (.string (methodS n)) ∧ w = w' := by
  by_cases h1 : n = 1
  · subst h1
    rw [show methodS 1 = ⟨#[70, 111, 114, 109, 97, 116]⟩ from rfl]
    go_enter Tryz.func117, Tryz.ntmps117
    go_wp2_with fail
    go_ret
    exact ⟨rfl, rfl⟩
  by_cases h2 : n = 2
  · subst h2
    rw [show methodS 2 = ⟨#[71, 111, 83, 116, 114, 105, 110, 103]⟩ from rfl]
    go_enter Tryz.func117, Tryz.ntmps117
    go_wp2_with fail
    go_ret
    exact ⟨rfl, rfl⟩
  by_cases h3 : n = 3
  · subst h3
    rw [show methodS 3 = ⟨#[69, 114, 114, 111, 114]⟩ from rfl]
    go_enter Tryz.func117, Tryz.ntmps117
    go_wp2_with fail
    go_ret
    exact ⟨rfl, rfl⟩
  by_cases h4 : n = 4
  · subst h4
    rw [show methodS 4 = ⟨#[83, 116, 114, 105, 110, 103]⟩ from rfl]
    go_enter Tryz.func117, Tryz.ntmps117
    go_wp2_with fail
    go_ret
    exact ⟨rfl, rfl⟩
  have e : methodS n = ⟨#[]⟩ := by unfold methodS; rw [if_neg h1, if_neg h2, if_neg h3, if_neg h4]
  have g1 : (n == 1) = false := by simpa using h1
  have g2 : (n == 2) = false := by simpa using h2
  have g3 : (n == 3) = false := by simpa using h3
  have g4 : (n == 4) = false := by simpa using h4
  rw [e]
  clear e h1 h2 h3 h4
  go_enter Tryz.func117, Tryz.ntmps117
  go_wp2_with fail
  go_ret
  exact ⟨rfl, rfl⟩
/-- A kind as it is written. -/
def kindS (k : Int) : ByteArray := ⟨(IP.dgb 10 false (k % 4294967296).toNat).toArray⟩
/-- What show answers. -/
def showS (d : De) : ByteArray := (((⟨#[123]⟩ : ByteArray) ++ kindS d.k) ++ d.t) ++ ⟨#[125]⟩
end Go.Proofs.YtdjhmanccoekjaaGreatDoor
end

section
namespace Go.Proofs.YtdjhmanccoekjaaGreatDoor
open Go.RowKit Go.Proofs

theorem Blk.setRow {W : World} {g : Nat} {cs : Array Value} {t : TypeId} (h : Blk W g cs t) (vs : Array Value) : Blk (W.setRow g vs) g vs t := by
  unfold Blk at h ⊢
  simp [World.setRow, Array.getElem?_modify, h]
theorem setRow_far {g k : Nat} (hk : k ≠ g) (W : World) (vs : Array Value) : (W.setRow g vs).heap[k]? = W.heap[k]? := by
  simp [World.setRow, Array.getElem?_modify, Ne.symm hk]
theorem setRow_size (g : Nat) (W : World) (vs : Array Value) : (W.setRow g vs).heap.size = W.heap.size := by simp [World.setRow]
theorem below_setRow {B : Nat} {a c : World} (h : Below B a c) (g : Nat) (hg : B ≤ g) (vs : Array Value) : Below B a (c.setRow g vs) :=
  ⟨h.os, h.tape, h.output, by rw [setRow_size]; exact h.size, fun k hk => (setRow_far (by omega) c vs).trans (h.block k hk)⟩

theorem cell_same {w w' : World} {g : Nat} (h : w'.heap[g]? = w.heap[g]?) (j : Nat) : w'.cell? ⟨g, j, none⟩ = w.cell? ⟨g, j, none⟩ := by simp only [World.cell?, h]
/-- A list of descriptors, as it is handed. -/
def ArgsAt (W : World) (sl : Sl) (ds : List De) : Prop := sl.n = ds.length ∧ (ds ≠ [] → ∃ g o, sl.a = some ⟨g, o, none⟩ ∧ g < W.heap.size ∧
  ∀ (k : Nat) d, ds[k]? = some d → ∀ (j : Nat) v, (deV d)[j]? = some v → W.cell? ⟨g, o + k * 8 + j, none⟩ = some v)
theorem ArgsAt.below {W W' : World} {sl : Sl} {ds : List De} (h : ArgsAt W sl ds) (hb : Below W.heap.size W W') : ArgsAt W' sl ds :=
  ⟨h.1, fun hn => by
    obtain ⟨g, o, h1, h2, h3⟩ := h.2 hn
    exact ⟨g, o, h1, Nat.lt_of_lt_of_le h2 hb.size, fun k d hd j v hv => (hb.cell (p := ⟨g, o + k * 8 + j, none⟩) h2).trans (h3 k d hd j v hv)⟩⟩
/-- What print answers, as bytes. -/
def printL (f : ByteArray) (ds : List De) : List UInt8 := 60 :: (f.data.toList ++ ds.flatMap fun d => 44 :: (kindS d.k).data.toList)
def printS (f : ByteArray) (ds : List De) : ByteArray := ⟨(printL f ds ++ [62]).toArray⟩
theorem kindS_size (k : Int) : (kindS k).size ≤ 10 := by
  unfold kindS
  have := IP.dgb_len 10 false (by decide) 10 (k % 4294967296).toNat (by decide) (by omega)
  rw [Utf.size_eq]
  simpa using this
theorem printL_size (f : ByteArray) (ds : List De) : (printL f ds).length ≤ 1 + f.size + 11 * ds.length := by
  unfold printL
  rw [List.length_cons, List.length_append, ← Utf.size_eq]
  have : (ds.flatMap fun d => 44 :: (kindS d.k).data.toList).length ≤ 11 * ds.length := by
    induction ds with
    | nil => simp
    | cons d r ih =>
      rw [List.flatMap_cons, List.length_append, List.length_cons, List.length_cons]
      have := kindS_size d.k
      rw [Utf.size_eq] at this
      omega
  omega
theorem printL_take (f : ByteArray) {ds : List De} {k : Nat} {d : De} (h : ds[k]? = some d) : printL f (ds.take (k + 1)) = printL f (ds.take k) ++ 44 :: (kindS d.k).data.toList := by
  unfold printL
  rw [List.take_add_one, h, List.flatMap_append]
  simp
abbrev de0 : Array Value := #[.int .i64 0, .string ⟨#[]⟩, .int .u64 0, .int .u64 0, .string ⟨#[]⟩, .slice none 0 0, .slice none 0 0, .int .i64 0]
end Go.Proofs.YtdjhmanccoekjaaGreatDoor
end

section
namespace Go.Proofs.YtdjhmanccoekjaaGreatDoor
open Go.RowKit Go.Proofs

theorem meth_size : (Tryz.prog.info? 240).map (·.size) = some 13 := by kernel_rfl

end Go.Proofs.YtdjhmanccoekjaaGreatDoor
end

section
namespace Go.Proofs.YtdjhmanccoekjaaGreatDoor
open Go.RowKit Go.Proofs

set_option maxHeartbeats 1000000 in
theorem catch_idle (q : Addr) (w : World) :
    CallsD Tryz.prog 176 #[.pointer (some q)] .returning w fun e u' w' => e = .returned (.tuple #[]) ∧ u' = .returning ∧ w' = w := by
  refine callsD_of_wpS Tryz.func176 rfl fun c₀ cs hu => ?_
  apply wpS_seq
  apply wpS_region
  simp [wpOpsS, go_sem, recoverD, hu, Tryz.ntmps176, Exit.thenS]
  refine wpS_of_wp ?_
  go_wp2_with fail
  cases c₀
  simp_all [bodyPostS, results, Tryz.results176]
set_option maxRecDepth 100000 in
set_option maxHeartbeats 1000000 in
theorem catch_thrown (Y : Nat) (d : De) (w : World) (x : Value) (hY : Blk w Y #[x] 241) :
    CallsD Tryz.prog 176 #[.pointer (some ⟨Y, 0, none⟩)] (.panicking [{ v := .iface 245 (.agg (deV d)), recovered := false }]) w fun e u' w' =>
      e = .returned (.tuple #[]) ∧ u' = .panicking [{ v := .iface 245 (.agg (deV d)), recovered := true }] ∧ w' = (w.alloc (.cells (deV d) 245)).setCell ⟨Y, 0, none⟩ (.pointer (some ⟨w.heap.size, 0, none⟩)) := by
  obtain ⟨cv, hcv⟩ : ∃ cv, deV d = cv := ⟨_, rfl⟩
  rw [hcv]
  obtain ⟨V, hV⟩ : ∃ V, Value.iface 245 (.agg cv) = V := ⟨_, rfl⟩
  rw [hV]
  have HV := hid hV
  have hc : ∀ cs : Array Value, (w.alloc (.cells cs 245)).cell? ⟨Y, 0, none⟩ = some x := fun cs => (hY.alloc _).cell 0
  have hz : ∀ cs : Array Value, (w.alloc (.cells cs 245)).frozen? ⟨Y, 0, none⟩ = false := fun cs => (hY.alloc _).frozen 0
  have HC := hid (And.intro hc (And.intro hz hcv))
  clear hV hc hz hcv hY
  refine callsD_of_wpS Tryz.func176 rfl fun c₀ cs hu => ?_
  apply wpS_seq
  apply wpS_region
  simp [wpOpsS, go_sem, recoverD, hu, Tryz.ntmps176, Exit.thenS]
  refine wpS_of_wp ?_
  have hV := HV.out
  subst hV
  have hne : ∀ w : World, (binOp BinOp.eql 20 (.iface 245 (.agg cv)) .nilIface).run Tryz.prog w = .ok (.bool false) w := fun _ => by kernel_rfl
  have hta : ∀ w : World, (Instr.typeAssert (.iface 245 (.agg cv)) 20 245 true).run Tryz.prog w = .ok (.tuple #[.agg cv, .bool true]) w := fun _ => by kernel_rfl
  have hc := HC.out.1
  have hz := HC.out.2.1
  have hcv := HC.out.2.2
  subst hcv
  go_wp2_with fail
  cases c₀
  simp_all [bodyPostS, results, Tryz.results176]
end Go.Proofs.YtdjhmanccoekjaaGreatDoor
end

section
namespace Go.Proofs.YtdjhmanccoekjaaGreatDoor
open Go.RowKit Go.Proofs

theorem Only.far_new {R : Nat} {a c : World} (h : Only R a c) {p : Addr} (hp : a.heap.size ≤ p.block) (u : Value) : Only R a (c.setCell p u) :=
  ⟨h.os, h.tape, h.output, by simpa [World.setCell] using h.size, fun k hk hb => (Below.heap_setCell c _ u k (by omega)).trans (h.block k hk hb)⟩
end Go.Proofs.YtdjhmanccoekjaaGreatDoor
end

section
namespace Go.Proofs.YtdjhmanccoekjaaGreatDoor
open Go.RowKit Go.Proofs

abbrev mt0 : Array Value := #[.int .i64 0, .string ⟨#[]⟩, .string ⟨#[]⟩, .slice none 0 0, .int .i64 0, .string ⟨#[]⟩, .int .u64 0, .int .u64 0, .string ⟨#[]⟩, .slice none 0 0, .slice none 0 0, .int .i64 0, .nilFunc]
/-- What is said of a method that threw. -/
def panicS (v : Int) (name val : ByteArray) : ByteArray := insS (Utf8.encode v) ((((⟨#[80, 65, 78, 73, 67, 61]⟩ : ByteArray) ++ name) ++ (⟨#[32, 109, 101, 116, 104, 111, 100, 58, 32]⟩ : ByteArray)) ++ val)
theorem showS_size (d : De) : (showS d).size ≤ d.t.size + 12 := by
  have h := kindS_size d.k
  unfold showS
  rw [ByteArray.size_append, ByteArray.size_append, ByteArray.size_append]
  have h1 : (⟨#[123]⟩ : ByteArray).size = 1 := rfl
  have h2 : (⟨#[125]⟩ : ByteArray).size = 1 := rfl
  omega
end Go.Proofs.YtdjhmanccoekjaaGreatDoor
end

section
namespace Go.Proofs.YtdjhmanccoekjaaGreatDoor
open Go.RowKit Go.Proofs

abbrev ac0 : Array Value := #[.int .i64 0, .string ⟨#[]⟩, .string ⟨#[]⟩, .slice none 0 0, .int .i64 0, .string ⟨#[]⟩, .int .u64 0, .int .u64 0, .string ⟨#[]⟩, .slice none 0 0, .slice none 0 0, .int .i64 0]
/-- A row's methods behind none. -/
def arr5 (h : Hk) : Array Value := (ac0.toList ++ ((acV (hkAt h 0)).toList ++ ((acV (hkAt h 1)).toList ++ ((acV (hkAt h 2)).toList ++ (acV (hkAt h 3)).toList)))).toArray
theorem arr5_1 (h : Hk) (w : World) : (Instr.index 207 (.agg (arr5 h)) (.int .i64 1)).run Tryz.prog w = .ok (.agg (acV (hkAt h 0))) w := by kernel_rfl
theorem arr5_4 (h : Hk) (w : World) : (Instr.index 207 (.agg (arr5 h)) (.int .i64 4)).run Tryz.prog w = .ok (.agg (acV (hkAt h 3))) w := by kernel_rfl
theorem hspec_size : (Tryz.prog.info? 94).map (·.size) = some 8 := by kernel_rfl
theorem below_drew {B : Nat} {a c : World} (h : Below B a c) : Below B a c.drew := ⟨h.os, h.tape, h.output, h.size, h.block⟩
end Go.Proofs.YtdjhmanccoekjaaGreatDoor
end

section
namespace Go.Proofs.YtdjhmanccoekjaaGreatDoor
open Go.RowKit Go.Proofs

abbrev sl0 : Sl := ⟨none, 0, 0⟩
abbrev deZ : De := ⟨0, ⟨#[]⟩, 0, 0, ⟨#[]⟩, sl0, sl0, 0⟩
abbrev acZ : Ac := ⟨0, ⟨#[]⟩, ⟨#[]⟩, sl0, deZ⟩
abbrev acHi : Ac := ⟨1, ⟨#[104, 105]⟩, ⟨#[]⟩, sl0, deZ⟩
abbrev acBoo : Ac := ⟨2, ⟨#[]⟩, ⟨#[]⟩, sl0, ⟨0, ⟨#[]⟩, 0, 0, ⟨#[98, 111, 111]⟩, sl0, sl0, 0⟩⟩
abbrev hkHi : Hk := ⟨acZ, acZ, acZ, acHi⟩
abbrev hkBoo : Hk := ⟨acZ, acZ, acZ, acBoo⟩
theorem which_hi : whichN hkHi 113 false = 4 := by decide
theorem which_boo : whichN hkBoo 115 false = 4 := by decide
theorem kind_0 : kindS 0 = ⟨#[48]⟩ := by
  unfold kindS
  rw [show ((0 : Int) % 4294967296).toNat = 0 from rfl, IP.dgb_small false (by decide)]
  rfl
theorem show_boo : showS acBoo.p = ⟨#[123, 48, 98, 111, 111, 125]⟩ := by
  unfold showS
  rw [kind_0]
  rfl
theorem panic_boo : panicS 115 (methodS 4) (showS acBoo.p) = ⟨#[37, 33, 115, 40, 80, 65, 78, 73, 67, 61, 83, 116, 114, 105, 110, 103, 32, 109, 101, 116, 104, 111, 100, 58, 32, 123, 48, 98, 111, 111, 125, 41]⟩ := by
  rw [show_boo]
  rfl
theorem quote_hi : IP.quoteL false [104, 105] = [34, 104, 105, 34] := by
  unfold IP.quoteL
  rw [IP.runsQ_cons _ _ (by simp), show List.drop (Utf.decL [104, 105]).2 ([104, 105] : List UInt8) = [105] from rfl, IP.runsQ_cons _ _ (by simp), show List.drop (Utf.decL [105]).2 ([105] : List UInt8) = [] from rfl, IP.runsQ_nil]
  rw [show IP.stepQ false [104, 105] = [104] by decide, show IP.stepQ false [105] = [105] by decide]
  rfl
theorem text_hi : textS false false false false false (-1) (-1) 113 ⟨#[104, 105]⟩ = some ⟨#[34, 104, 105, 34]⟩ := by
  unfold textS
  rw [if_neg (by decide), if_neg (by decide), if_pos rfl, if_neg (by simp)]
  rw [show cutS ⟨#[104, 105]⟩ (-1) = ⟨#[104, 105]⟩ from rfl]
  rw [show (⟨#[104, 105]⟩ : ByteArray).data.toList = [104, 105] from rfl, quote_hi]
  unfold padS
  rw [if_pos]
  show max (0 : Int) (min (-1) 1000) - _ ≤ 0
  have : (0 : Int) ≤ (Utf.count (⟨[34, 104, 105, 34].toArray⟩ : ByteArray).data.toList : Int) := Int.natCast_nonneg _
  omega
end Go.Proofs.YtdjhmanccoekjaaGreatDoor
end

section
namespace Go.Proofs.YtdjhmanccoekjaaGreatDoor
open Go.RowKit Go.Proofs

abbrev hk0 : Array Value := #[.int .i64 0, .string ⟨#[]⟩, .string ⟨#[]⟩, .slice none 0 0, .int .i64 0, .string ⟨#[]⟩, .int .u64 0, .int .u64 0, .string ⟨#[]⟩, .slice none 0 0, .slice none 0 0, .int .i64 0, .int .i64 0, .string ⟨#[]⟩, .string ⟨#[]⟩, .slice none 0 0, .int .i64 0, .string ⟨#[]⟩, .int .u64 0, .int .u64 0, .string ⟨#[]⟩, .slice none 0 0, .slice none 0 0, .int .i64 0, .int .i64 0, .string ⟨#[]⟩, .string ⟨#[]⟩, .slice none 0 0, .int .i64 0, .string ⟨#[]⟩, .int .u64 0, .int .u64 0, .string ⟨#[]⟩, .slice none 0 0, .slice none 0 0, .int .i64 0, .int .i64 0, .string ⟨#[]⟩, .string ⟨#[]⟩, .slice none 0 0, .int .i64 0, .string ⟨#[]⟩, .int .u64 0, .int .u64 0, .string ⟨#[]⟩, .slice none 0 0, .slice none 0 0, .int .i64 0]
end Go.Proofs.YtdjhmanccoekjaaGreatDoor
end
