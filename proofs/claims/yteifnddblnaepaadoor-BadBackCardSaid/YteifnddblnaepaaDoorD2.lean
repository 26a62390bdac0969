/-
  Walks of layer 10: the texts that have a verb, and those that are always the same; the document's.
-/
import Derived.Test.YteifnddblnaepaaDoorD1
import Derived.Test.YteifnddblnaepaaDoorBlk
namespace Go.Proofs.YteifnddblnaepaaDoor
open Go.RowKit Go.Proofs

theorem row_strs (w : World) (cs : Array Value) (T : TypeId) (xs : List ByteArray) (h : cs = (xs.map Value.string).toArray) (j : Nat) (x : ByteArray) (hx : xs[j]? = some x) :
    (w.alloc (.cells cs T)).cell? ⟨w.heap.size, 0 + j, none⟩ = some (.string x) := by
  rw [(Blk.new w cs T).cell, h, Nat.zero_add]
  simp [hx]
theorem alloc_lt (w : World) (o : Obj) : w.heap.size < (w.alloc o).heap.size := by
  simp
theorem enc_size (c : Int) : (Utf8.encode c).size ≤ 4 := by
  rw [enc_mk, Utf.size_eq]
  exact (Utf.encL_pos c).2
theorem verbJ (a b : ByteArray) : joinS [a, (⟨#[61]⟩ : ByteArray), b] [] = ((a ++ (⟨#[61]⟩ : ByteArray)) ++ b) := by
  refine dbytes_ext ?_
  simp [joinS, Lib.join, List.intercalate]
set_option maxRecDepth 100000 in
theorem verb_any (c : Int) (a b : ByteArray) (w : World) (ha : a.size ≤ 10000) (hb : b.size ≤ 10000) :
    Calls Tryd.prog 16 #[.int .i32 c, .string a, .string b] w fun e w' => e = .returned (.string (insS (Utf8.encode c) ((a ++ (⟨#[61]⟩ : ByteArray)) ++ b))) ∧ Below w.heap.size w w' := by
  have RU := hid (rune_any c w)
  have hE := enc_size c
  have HJ := hid (verbJ a b)
  have HI := hid (fun (W : World) (h1 : _) (h2 : _) => inside_any (Utf8.encode c) w.heap.size 0 3 [a, (⟨#[61]⟩ : ByteArray), b] ((a ++ (⟨#[61]⟩ : ByteArray)) ++ b) W h1 h2 (by simp) (by simp) HJ.out (by omega) (by rw [ByteArray.size_append, ByteArray.size_append]; have h1 : (⟨#[61]⟩ : ByteArray).size = 1 := rfl; omega))
  obtain ⟨R, hR⟩ : ∃ R, insS (Utf8.encode c) ((a ++ (⟨#[61]⟩ : ByteArray)) ++ b) = R := ⟨_, rfl⟩
  rw [hR] at HI ⊢
  obtain ⟨E, hEE⟩ : ∃ E, Utf8.encode c = E := ⟨_, rfl⟩
  rw [hEE] at RU HI
  clear hR hE hEE HJ
  go_enter Tryd.func16, Tryd.ntmps16
  go_wp2_with fail
  refine RU.out.mono ?_
  rintro e w0 ⟨rfl, hw0⟩
  subst hw0
  go_wp2_with fail
  refine (HI.out _ (row_strs _ _ _ [a, (⟨#[61]⟩ : ByteArray), b] rfl) (alloc_lt _ _)).mono ?_
  rintro e w1 ⟨rfl, hb⟩
  have HB := hid (((Below.refl _ w).alloc (Nat.le_refl _) _).trans (hb.mono (Nat.le_of_lt (alloc_lt _ _))))
  clear hb
  go_wp2_with fail
  go_ret
  exact ⟨rfl, HB.out⟩
theorem nilJ : joinS [(⟨#[60, 110, 105, 108, 62]⟩ : ByteArray)] [] = (⟨#[60, 110, 105, 108, 62]⟩ : ByteArray) := by
  refine dbytes_ext ?_
  simp [joinS, Lib.join, List.intercalate]
set_option maxRecDepth 100000 in
theorem nil_any (c : Int) (w : World) :
    Calls Tryd.prog 22 #[.int .i32 c] w fun e w' => e = .returned (.string (insS (Utf8.encode c) (⟨#[60, 110, 105, 108, 62]⟩ : ByteArray))) ∧ Below w.heap.size w w' := by
  have RU := hid (rune_any c w)
  have hE := enc_size c
  have HJ := hid (nilJ)
  have HI := hid (fun (W : World) (h1 : _) (h2 : _) => inside_any (Utf8.encode c) w.heap.size 0 1 [(⟨#[60, 110, 105, 108, 62]⟩ : ByteArray)] (⟨#[60, 110, 105, 108, 62]⟩ : ByteArray) W h1 h2 (by simp) (by simp) HJ.out (by omega) (by decide))
  obtain ⟨R, hR⟩ : ∃ R, insS (Utf8.encode c) (⟨#[60, 110, 105, 108, 62]⟩ : ByteArray) = R := ⟨_, rfl⟩
  rw [hR] at HI ⊢
  obtain ⟨E, hEE⟩ : ∃ E, Utf8.encode c = E := ⟨_, rfl⟩
  rw [hEE] at RU HI
  clear hR hE hEE HJ
  go_enter Tryd.func22, Tryd.ntmps22
  go_wp2_with fail
  refine RU.out.mono ?_
  rintro e w0 ⟨rfl, hw0⟩
  subst hw0
  go_wp2_with fail
  refine (HI.out _ (row_strs _ _ _ [(⟨#[60, 110, 105, 108, 62]⟩ : ByteArray)] rfl) (alloc_lt _ _)).mono ?_
  rintro e w1 ⟨rfl, hb⟩
  have HB := hid (((Below.refl _ w).alloc (Nat.le_refl _) _).trans (hb.mono (Nat.le_of_lt (alloc_lt _ _))))
  clear hb
  go_wp2_with fail
  go_ret
  exact ⟨rfl, HB.out⟩
theorem missingJ : joinS [(⟨#[77, 73, 83, 83, 73, 78, 71]⟩ : ByteArray)] [] = (⟨#[77, 73, 83, 83, 73, 78, 71]⟩ : ByteArray) := by
  refine dbytes_ext ?_
  simp [joinS, Lib.join, List.intercalate]
set_option maxRecDepth 100000 in
theorem missing_any (c : Int) (w : World) :
    Calls Tryd.prog 24 #[.int .i32 c] w fun e w' => e = .returned (.string (insS (Utf8.encode c) (⟨#[77, 73, 83, 83, 73, 78, 71]⟩ : ByteArray))) ∧ Below w.heap.size w w' := by
  have RU := hid (rune_any c w)
  have hE := enc_size c
  have HJ := hid (missingJ)
  have HI := hid (fun (W : World) (h1 : _) (h2 : _) => inside_any (Utf8.encode c) w.heap.size 0 1 [(⟨#[77, 73, 83, 83, 73, 78, 71]⟩ : ByteArray)] (⟨#[77, 73, 83, 83, 73, 78, 71]⟩ : ByteArray) W h1 h2 (by simp) (by simp) HJ.out (by omega) (by decide))
  obtain ⟨R, hR⟩ : ∃ R, insS (Utf8.encode c) (⟨#[77, 73, 83, 83, 73, 78, 71]⟩ : ByteArray) = R := ⟨_, rfl⟩
  rw [hR] at HI ⊢
  obtain ⟨E, hEE⟩ : ∃ E, Utf8.encode c = E := ⟨_, rfl⟩
  rw [hEE] at RU HI
  clear hR hE hEE HJ
  go_enter Tryd.func24, Tryd.ntmps24
  go_wp2_with fail
  refine RU.out.mono ?_
  rintro e w0 ⟨rfl, hw0⟩
  subst hw0
  go_wp2_with fail
  refine (HI.out _ (row_strs _ _ _ [(⟨#[77, 73, 83, 83, 73, 78, 71]⟩ : ByteArray)] rfl) (alloc_lt _ _)).mono ?_
  rintro e w1 ⟨rfl, hb⟩
  have HB := hid (((Below.refl _ w).alloc (Nat.le_refl _) _).trans (hb.mono (Nat.le_of_lt (alloc_lt _ _))))
  clear hb
  go_wp2_with fail
  go_ret
  exact ⟨rfl, HB.out⟩
theorem indexJ : joinS [(⟨#[66, 65, 68, 73, 78, 68, 69, 88]⟩ : ByteArray)] [] = (⟨#[66, 65, 68, 73, 78, 68, 69, 88]⟩ : ByteArray) := by
  refine dbytes_ext ?_
  simp [joinS, Lib.join, List.intercalate]
set_option maxRecDepth 100000 in
theorem index_any (c : Int) (w : World) :
    Calls Tryd.prog 26 #[.int .i32 c] w fun e w' => e = .returned (.string (insS (Utf8.encode c) (⟨#[66, 65, 68, 73, 78, 68, 69, 88]⟩ : ByteArray))) ∧ Below w.heap.size w w' := by
  have RU := hid (rune_any c w)
  have hE := enc_size c
  have HJ := hid (indexJ)
  have HI := hid (fun (W : World) (h1 : _) (h2 : _) => inside_any (Utf8.encode c) w.heap.size 0 1 [(⟨#[66, 65, 68, 73, 78, 68, 69, 88]⟩ : ByteArray)] (⟨#[66, 65, 68, 73, 78, 68, 69, 88]⟩ : ByteArray) W h1 h2 (by simp) (by simp) HJ.out (by omega) (by decide))
  obtain ⟨R, hR⟩ : ∃ R, insS (Utf8.encode c) (⟨#[66, 65, 68, 73, 78, 68, 69, 88]⟩ : ByteArray) = R := ⟨_, rfl⟩
  rw [hR] at HI ⊢
  obtain ⟨E, hEE⟩ : ∃ E, Utf8.encode c = E := ⟨_, rfl⟩
  rw [hEE] at RU HI
  clear hR hE hEE HJ
  go_enter Tryd.func26, Tryd.ntmps26
  go_wp2_with fail
  refine RU.out.mono ?_
  rintro e w0 ⟨rfl, hw0⟩
  subst hw0
  go_wp2_with fail
  refine (HI.out _ (row_strs _ _ _ [(⟨#[66, 65, 68, 73, 78, 68, 69, 88]⟩ : ByteArray)] rfl) (alloc_lt _ _)).mono ?_
  rintro e w1 ⟨rfl, hb⟩
  have HB := hid (((Below.refl _ w).alloc (Nat.le_refl _) _).trans (hb.mono (Nat.le_of_lt (alloc_lt _ _))))
  clear hb
  go_wp2_with fail
  go_ret
  exact ⟨rfl, HB.out⟩
theorem panicJ (a b : ByteArray) : joinS [(⟨#[80, 65, 78, 73, 67, 61]⟩ : ByteArray), a, (⟨#[32, 109, 101, 116, 104, 111, 100, 58, 32]⟩ : ByteArray), b] [] = ((((⟨#[80, 65, 78, 73, 67, 61]⟩ : ByteArray) ++ a) ++ (⟨#[32, 109, 101, 116, 104, 111, 100, 58, 32]⟩ : ByteArray)) ++ b) := by
  refine dbytes_ext ?_
  simp [joinS, Lib.join, List.intercalate]
set_option maxRecDepth 100000 in
theorem panic_any (c : Int) (a b : ByteArray) (w : World) (ha : a.size ≤ 10000) (hb : b.size ≤ 10000) :
    Calls Tryd.prog 28 #[.int .i32 c, .string a, .string b] w fun e w' => e = .returned (.string (insS (Utf8.encode c) ((((⟨#[80, 65, 78, 73, 67, 61]⟩ : ByteArray) ++ a) ++ (⟨#[32, 109, 101, 116, 104, 111, 100, 58, 32]⟩ : ByteArray)) ++ b))) ∧ Below w.heap.size w w' := by
  have RU := hid (rune_any c w)
  have hE := enc_size c
  have HJ := hid (panicJ a b)
  have HI := hid (fun (W : World) (h1 : _) (h2 : _) => inside_any (Utf8.encode c) w.heap.size 0 4 [(⟨#[80, 65, 78, 73, 67, 61]⟩ : ByteArray), a, (⟨#[32, 109, 101, 116, 104, 111, 100, 58, 32]⟩ : ByteArray), b] ((((⟨#[80, 65, 78, 73, 67, 61]⟩ : ByteArray) ++ a) ++ (⟨#[32, 109, 101, 116, 104, 111, 100, 58, 32]⟩ : ByteArray)) ++ b) W h1 h2 (by simp) (by simp) HJ.out (by omega) (by rw [ByteArray.size_append, ByteArray.size_append, ByteArray.size_append]; have h0 : (⟨#[80, 65, 78, 73, 67, 61]⟩ : ByteArray).size = 6 := rfl; have h2 : (⟨#[32, 109, 101, 116, 104, 111, 100, 58, 32]⟩ : ByteArray).size = 9 := rfl; omega))
  obtain ⟨R, hR⟩ : ∃ R, insS (Utf8.encode c) ((((⟨#[80, 65, 78, 73, 67, 61]⟩ : ByteArray) ++ a) ++ (⟨#[32, 109, 101, 116, 104, 111, 100, 58, 32]⟩ : ByteArray)) ++ b) = R := ⟨_, rfl⟩
  rw [hR] at HI ⊢
  obtain ⟨E, hEE⟩ : ∃ E, Utf8.encode c = E := ⟨_, rfl⟩
  rw [hEE] at RU HI
  clear hR hE hEE HJ
  go_enter Tryd.func28, Tryd.ntmps28
  go_wp2_with fail
  refine RU.out.mono ?_
  rintro e w0 ⟨rfl, hw0⟩
  subst hw0
  go_wp2_with fail
  refine (HI.out _ (row_strs _ _ _ [(⟨#[80, 65, 78, 73, 67, 61]⟩ : ByteArray), a, (⟨#[32, 109, 101, 116, 104, 111, 100, 58, 32]⟩ : ByteArray), b] rfl) (alloc_lt _ _)).mono ?_
  rintro e w1 ⟨rfl, hb⟩
  have HB := hid (((Below.refl _ w).alloc (Nat.le_refl _) _).trans (hb.mono (Nat.le_of_lt (alloc_lt _ _))))
  clear hb
  go_wp2_with fail
  go_ret
  exact ⟨rfl, HB.out⟩
theorem verbR (r a b : ByteArray) : (((((((⟨#[37, 33]⟩ : ByteArray) ++ r) ++ (⟨#[40]⟩ : ByteArray)) ++ a) ++ (⟨#[61]⟩ : ByteArray)) ++ b) ++ (⟨#[41]⟩ : ByteArray)) = insS r ((a ++ (⟨#[61]⟩ : ByteArray)) ++ b) := by
  refine dbytes_ext ?_
  simp [insS]
set_option maxRecDepth 100000 in
theorem refverb_any (c : Int) (h0 : -2147483648 ≤ c) (h1 : c ≤ 2147483647) (a b : ByteArray) (w : World) (ha : a.size ≤ 10000) (hb : b.size ≤ 10000) :
    Calls Tryd.prog 21 #[.int .i32 c, .string a, .string b] w fun e w' => e = .returned (.string (insS (Utf8.encode c) ((a ++ (⟨#[61]⟩ : ByteArray)) ++ b))) ∧ Below w.heap.size w w' := by
  have RU := hid (refrune_any c h0 h1 w)
  have hE := enc_size c
  rw [← verbR]
  obtain ⟨E, hEE⟩ : ∃ E, Utf8.encode c = E := ⟨_, rfl⟩
  rw [hEE] at RU hE ⊢
  clear hEE
  go_enter Tryd.func21, Tryd.ntmps21
  go_wp2_with fail
  refine RU.out.mono ?_
  rintro e w1 ⟨rfl, hb1⟩
  have HB := hid hb1
  clear hb1
  go_wp2_with fail
  go_ret
  exact ⟨rfl, HB.out⟩
theorem nilR (r : ByteArray) : (((⟨#[37, 33]⟩ : ByteArray) ++ r) ++ (⟨#[40, 60, 110, 105, 108, 62, 41]⟩ : ByteArray)) = insS r (⟨#[60, 110, 105, 108, 62]⟩ : ByteArray) := by
  refine dbytes_ext ?_
  simp [insS]
set_option maxRecDepth 100000 in
theorem refnil_any (c : Int) (h0 : -2147483648 ≤ c) (h1 : c ≤ 2147483647) (w : World) :
    Calls Tryd.prog 23 #[.int .i32 c] w fun e w' => e = .returned (.string (insS (Utf8.encode c) (⟨#[60, 110, 105, 108, 62]⟩ : ByteArray))) ∧ Below w.heap.size w w' := by
  have RU := hid (refrune_any c h0 h1 w)
  have hE := enc_size c
  rw [← nilR]
  obtain ⟨E, hEE⟩ : ∃ E, Utf8.encode c = E := ⟨_, rfl⟩
  rw [hEE] at RU hE ⊢
  clear hEE
  go_enter Tryd.func23, Tryd.ntmps23
  go_wp2_with fail
  refine RU.out.mono ?_
  rintro e w1 ⟨rfl, hb1⟩
  have HB := hid hb1
  clear hb1
  go_wp2_with fail
  go_ret
  exact ⟨rfl, HB.out⟩
theorem missingR (r : ByteArray) : (((⟨#[37, 33]⟩ : ByteArray) ++ r) ++ (⟨#[40, 77, 73, 83, 83, 73, 78, 71, 41]⟩ : ByteArray)) = insS r (⟨#[77, 73, 83, 83, 73, 78, 71]⟩ : ByteArray) := by
  refine dbytes_ext ?_
  simp [insS]
set_option maxRecDepth 100000 in
theorem refmissing_any (c : Int) (h0 : -2147483648 ≤ c) (h1 : c ≤ 2147483647) (w : World) :
    Calls Tryd.prog 25 #[.int .i32 c] w fun e w' => e = .returned (.string (insS (Utf8.encode c) (⟨#[77, 73, 83, 83, 73, 78, 71]⟩ : ByteArray))) ∧ Below w.heap.size w w' := by
  have RU := hid (refrune_any c h0 h1 w)
  have hE := enc_size c
  rw [← missingR]
  obtain ⟨E, hEE⟩ : ∃ E, Utf8.encode c = E := ⟨_, rfl⟩
  rw [hEE] at RU hE ⊢
  clear hEE
  go_enter Tryd.func25, Tryd.ntmps25
  go_wp2_with fail
  refine RU.out.mono ?_
  rintro e w1 ⟨rfl, hb1⟩
  have HB := hid hb1
  clear hb1
  go_wp2_with fail
  go_ret
  exact ⟨rfl, HB.out⟩
theorem indexR (r : ByteArray) : (((⟨#[37, 33]⟩ : ByteArray) ++ r) ++ (⟨#[40, 66, 65, 68, 73, 78, 68, 69, 88, 41]⟩ : ByteArray)) = insS r (⟨#[66, 65, 68, 73, 78, 68, 69, 88]⟩ : ByteArray) := by
  refine dbytes_ext ?_
  simp [insS]
set_option maxRecDepth 100000 in
theorem refindex_any (c : Int) (h0 : -2147483648 ≤ c) (h1 : c ≤ 2147483647) (w : World) :
    Calls Tryd.prog 27 #[.int .i32 c] w fun e w' => e = .returned (.string (insS (Utf8.encode c) (⟨#[66, 65, 68, 73, 78, 68, 69, 88]⟩ : ByteArray))) ∧ Below w.heap.size w w' := by
  have RU := hid (refrune_any c h0 h1 w)
  have hE := enc_size c
  rw [← indexR]
  obtain ⟨E, hEE⟩ : ∃ E, Utf8.encode c = E := ⟨_, rfl⟩
  rw [hEE] at RU hE ⊢
  clear hEE
  go_enter Tryd.func27, Tryd.ntmps27
  go_wp2_with fail
  refine RU.out.mono ?_
  rintro e w1 ⟨rfl, hb1⟩
  have HB := hid hb1
  clear hb1
  go_wp2_with fail
  go_ret
  exact ⟨rfl, HB.out⟩
theorem panicR (r a b : ByteArray) : (((((((⟨#[37, 33]⟩ : ByteArray) ++ r) ++ (⟨#[40, 80, 65, 78, 73, 67, 61]⟩ : ByteArray)) ++ a) ++ (⟨#[32, 109, 101, 116, 104, 111, 100, 58, 32]⟩ : ByteArray)) ++ b) ++ (⟨#[41]⟩ : ByteArray)) = insS r ((((⟨#[80, 65, 78, 73, 67, 61]⟩ : ByteArray) ++ a) ++ (⟨#[32, 109, 101, 116, 104, 111, 100, 58, 32]⟩ : ByteArray)) ++ b) := by
  refine dbytes_ext ?_
  simp [insS]
set_option maxRecDepth 100000 in
theorem refpanic_any (c : Int) (h0 : -2147483648 ≤ c) (h1 : c ≤ 2147483647) (a b : ByteArray) (w : World) (ha : a.size ≤ 10000) (hb : b.size ≤ 10000) :
    Calls Tryd.prog 29 #[.int .i32 c, .string a, .string b] w fun e w' => e = .returned (.string (insS (Utf8.encode c) ((((⟨#[80, 65, 78, 73, 67, 61]⟩ : ByteArray) ++ a) ++ (⟨#[32, 109, 101, 116, 104, 111, 100, 58, 32]⟩ : ByteArray)) ++ b))) ∧ Below w.heap.size w w' := by
  have RU := hid (refrune_any c h0 h1 w)
  have hE := enc_size c
  rw [← panicR]
  obtain ⟨E, hEE⟩ : ∃ E, Utf8.encode c = E := ⟨_, rfl⟩
  rw [hEE] at RU hE ⊢
  clear hEE
  go_enter Tryd.func29, Tryd.ntmps29
  go_wp2_with fail
  refine RU.out.mono ?_
  rintro e w1 ⟨rfl, hb1⟩
  have HB := hid hb1
  clear hb1
  go_wp2_with fail
  go_ret
  exact ⟨rfl, HB.out⟩
theorem openJ : joinS [(⟨#[78, 79, 86, 69, 82, 66]⟩ : ByteArray)] [] = (⟨#[78, 79, 86, 69, 82, 66]⟩ : ByteArray) := by
  refine dbytes_ext ?_
  simp [joinS, Lib.join, List.intercalate]
set_option maxRecDepth 100000 in
theorem open_any (w : World) : Calls Tryd.prog 17 #[] w fun e w' => e = .returned (.string (insS ⟨#[]⟩ (⟨#[78, 79, 86, 69, 82, 66]⟩ : ByteArray))) ∧ Below w.heap.size w w' := by
  have HI := hid (fun (W : World) (h1 : _) (h2 : _) => inside_any ⟨#[]⟩ w.heap.size 0 1 [(⟨#[78, 79, 86, 69, 82, 66]⟩ : ByteArray)] (⟨#[78, 79, 86, 69, 82, 66]⟩ : ByteArray) W h1 h2 (by simp) (by simp) openJ (by decide) (by decide))
  obtain ⟨R, hR⟩ : ∃ R, insS ⟨#[]⟩ (⟨#[78, 79, 86, 69, 82, 66]⟩ : ByteArray) = R := ⟨_, rfl⟩
  rw [hR] at HI ⊢
  clear hR
  go_enter Tryd.func17, Tryd.ntmps17
  go_wp2_with fail
  refine (HI.out _ (row_strs _ _ _ [(⟨#[78, 79, 86, 69, 82, 66]⟩ : ByteArray)] rfl) (alloc_lt _ _)).mono ?_
  rintro e w1 ⟨rfl, hb⟩
  have HB := hid (((Below.refl _ w).alloc (Nat.le_refl _) _).trans (hb.mono (Nat.le_of_lt (alloc_lt _ _))))
  clear hb
  go_wp2_with fail
  go_ret
  exact ⟨rfl, HB.out⟩
theorem widthJ : joinS [(⟨#[66, 65, 68, 87, 73, 68, 84, 72]⟩ : ByteArray)] [] = (⟨#[66, 65, 68, 87, 73, 68, 84, 72]⟩ : ByteArray) := by
  refine dbytes_ext ?_
  simp [joinS, Lib.join, List.intercalate]
set_option maxRecDepth 100000 in
theorem width_any (w : World) : Calls Tryd.prog 18 #[] w fun e w' => e = .returned (.string (insS ⟨#[]⟩ (⟨#[66, 65, 68, 87, 73, 68, 84, 72]⟩ : ByteArray))) ∧ Below w.heap.size w w' := by
  have HI := hid (fun (W : World) (h1 : _) (h2 : _) => inside_any ⟨#[]⟩ w.heap.size 0 1 [(⟨#[66, 65, 68, 87, 73, 68, 84, 72]⟩ : ByteArray)] (⟨#[66, 65, 68, 87, 73, 68, 84, 72]⟩ : ByteArray) W h1 h2 (by simp) (by simp) widthJ (by decide) (by decide))
  obtain ⟨R, hR⟩ : ∃ R, insS ⟨#[]⟩ (⟨#[66, 65, 68, 87, 73, 68, 84, 72]⟩ : ByteArray) = R := ⟨_, rfl⟩
  rw [hR] at HI ⊢
  clear hR
  go_enter Tryd.func18, Tryd.ntmps18
  go_wp2_with fail
  refine (HI.out _ (row_strs _ _ _ [(⟨#[66, 65, 68, 87, 73, 68, 84, 72]⟩ : ByteArray)] rfl) (alloc_lt _ _)).mono ?_
  rintro e w1 ⟨rfl, hb⟩
  have HB := hid (((Below.refl _ w).alloc (Nat.le_refl _) _).trans (hb.mono (Nat.le_of_lt (alloc_lt _ _))))
  clear hb
  go_wp2_with fail
  go_ret
  exact ⟨rfl, HB.out⟩
theorem precJ : joinS [(⟨#[66, 65, 68, 80, 82, 69, 67]⟩ : ByteArray)] [] = (⟨#[66, 65, 68, 80, 82, 69, 67]⟩ : ByteArray) := by
  refine dbytes_ext ?_
  simp [joinS, Lib.join, List.intercalate]
set_option maxRecDepth 100000 in
theorem prec_any (w : World) : Calls Tryd.prog 19 #[] w fun e w' => e = .returned (.string (insS ⟨#[]⟩ (⟨#[66, 65, 68, 80, 82, 69, 67]⟩ : ByteArray))) ∧ Below w.heap.size w w' := by
  have HI := hid (fun (W : World) (h1 : _) (h2 : _) => inside_any ⟨#[]⟩ w.heap.size 0 1 [(⟨#[66, 65, 68, 80, 82, 69, 67]⟩ : ByteArray)] (⟨#[66, 65, 68, 80, 82, 69, 67]⟩ : ByteArray) W h1 h2 (by simp) (by simp) precJ (by decide) (by decide))
  obtain ⟨R, hR⟩ : ∃ R, insS ⟨#[]⟩ (⟨#[66, 65, 68, 80, 82, 69, 67]⟩ : ByteArray) = R := ⟨_, rfl⟩
  rw [hR] at HI ⊢
  clear hR
  go_enter Tryd.func19, Tryd.ntmps19
  go_wp2_with fail
  refine (HI.out _ (row_strs _ _ _ [(⟨#[66, 65, 68, 80, 82, 69, 67]⟩ : ByteArray)] rfl) (alloc_lt _ _)).mono ?_
  rintro e w1 ⟨rfl, hb⟩
  have HB := hid (((Below.refl _ w).alloc (Nat.le_refl _) _).trans (hb.mono (Nat.le_of_lt (alloc_lt _ _))))
  clear hb
  go_wp2_with fail
  go_ret
  exact ⟨rfl, HB.out⟩
theorem depthJ : joinS [(⟨#[68, 69, 80, 84, 72]⟩ : ByteArray)] [] = (⟨#[68, 69, 80, 84, 72]⟩ : ByteArray) := by
  refine dbytes_ext ?_
  simp [joinS, Lib.join, List.intercalate]
set_option maxRecDepth 100000 in
theorem depth_any (w : World) : Calls Tryd.prog 20 #[] w fun e w' => e = .returned (.string (insS ⟨#[]⟩ (⟨#[68, 69, 80, 84, 72]⟩ : ByteArray))) ∧ Below w.heap.size w w' := by
  have HI := hid (fun (W : World) (h1 : _) (h2 : _) => inside_any ⟨#[]⟩ w.heap.size 0 1 [(⟨#[68, 69, 80, 84, 72]⟩ : ByteArray)] (⟨#[68, 69, 80, 84, 72]⟩ : ByteArray) W h1 h2 (by simp) (by simp) depthJ (by decide) (by decide))
  obtain ⟨R, hR⟩ : ∃ R, insS ⟨#[]⟩ (⟨#[68, 69, 80, 84, 72]⟩ : ByteArray) = R := ⟨_, rfl⟩
  rw [hR] at HI ⊢
  clear hR
  go_enter Tryd.func20, Tryd.ntmps20
  go_wp2_with fail
  refine (HI.out _ (row_strs _ _ _ [(⟨#[68, 69, 80, 84, 72]⟩ : ByteArray)] rfl) (alloc_lt _ _)).mono ?_
  rintro e w1 ⟨rfl, hb⟩
  have HB := hid (((Below.refl _ w).alloc (Nat.le_refl _) _).trans (hb.mono (Nat.le_of_lt (alloc_lt _ _))))
  clear hb
  go_wp2_with fail
  go_ret
  exact ⟨rfl, HB.out⟩
end Go.Proofs.YteifnddblnaepaaDoor
