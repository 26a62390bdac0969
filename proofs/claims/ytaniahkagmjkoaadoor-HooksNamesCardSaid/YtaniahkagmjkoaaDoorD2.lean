/-
  Walks of layer 10: the texts that have a verb, and those that are always the same; the document's.
-/
import Derived.Test.YtaniahkagmjkoaaDoorD1
import Derived.Test.YtaniahkagmjkoaaDoorBlk
namespace Go.Proofs.YtaniahkagmjkoaaDoor
open Go.RowKit Go.Proofs

theorem row_strs (w : World) (cs : Array Value) (T : TypeId) (xs : List ByteArray) (h : cs = (xs.map Value.string).toArray) (j : Nat) (x : ByteArray) (hx : xs[j]? = some x) :
    (w.alloc (.cells cs T)).cell? ⟨w.heap.size, 0 + j, none⟩ = some (.string x) := by
  rw [(Blk.new w cs T).cell, h, Nat.zero_add]
  simp [hx]
theorem alloc_lt (w : World) (o : Obj) : w.heap.size < (w.alloc o).heap.size := by
  simp
theorem enc_size (c : Int) : (Utf8.encode c).size ≤ 4 := by
  rw [enc_mk, Utf.size_eq]
  exact (Utf.encL_pos c).2
theorem verbJ (a b : ByteArray) : joinS [a, (⟨#[61]⟩ : ByteArray), b] [] = ((a ++ (⟨#[61]⟩ : ByteArray)) ++ b) := by
  refine dbytes_ext ?_
  simp [joinS, Lib.join, List.intercalate]
theorem nilJ : joinS [(⟨#[60, 110, 105, 108, 62]⟩ : ByteArray)] [] = (⟨#[60, 110, 105, 108, 62]⟩ : ByteArray) := by
  refine dbytes_ext ?_
  simp [joinS, Lib.join, List.intercalate]
theorem missingJ : joinS [(⟨#[77, 73, 83, 83, 73, 78, 71]⟩ : ByteArray)] [] = (⟨#[77, 73, 83, 83, 73, 78, 71]⟩ : ByteArray) := by
  refine dbytes_ext ?_
  simp [joinS, Lib.join, List.intercalate]
theorem indexJ : joinS [(⟨#[66, 65, 68, 73, 78, 68, 69, 88]⟩ : ByteArray)] [] = (⟨#[66, 65, 68, 73, 78, 68, 69, 88]⟩ : ByteArray) := by
  refine dbytes_ext ?_
  simp [joinS, Lib.join, List.intercalate]
theorem panicJ (a b : ByteArray) : joinS [(⟨#[80, 65, 78, 73, 67, 61]⟩ : ByteArray), a, (⟨#[32, 109, 101, 116, 104, 111, 100, 58, 32]⟩ : ByteArray), b] [] = ((((⟨#[80, 65, 78, 73, 67, 61]⟩ : ByteArray) ++ a) ++ (⟨#[32, 109, 101, 116, 104, 111, 100, 58, 32]⟩ : ByteArray)) ++ b) := by
  refine dbytes_ext ?_
  simp [joinS, Lib.join, List.intercalate]
set_option maxRecDepth 100000 in
theorem panic_any (c : Int) (a b : ByteArray) (w : World) (ha : a.size ≤ 10000) (hb : b.size ≤ 10000) :
    Calls Tryd.prog 31 #[.int .i32 c, .string a, .string b] w fun e w' => e = .returned (.string (insS (Utf8.encode c) ((((⟨#[80, 65, 78, 73, 67, 61]⟩ : ByteArray) ++ a) ++ (⟨#[32, 109, 101, 116, 104, 111, 100, 58, 32]⟩ : ByteArray)) ++ b))) ∧ Below w.heap.size w w' := by
  have RU := hid (rune_any c w)
  have hE := enc_size c
  have HJ := hid (panicJ a b)
  have HI := hid (fun (W : World) (h1 : _) (h2 : _) => inside_any (Utf8.encode c) w.heap.size 0 4 [(⟨#[80, 65, 78, 73, 67, 61]⟩ : ByteArray), a, (⟨#[32, 109, 101, 116, 104, 111, 100, 58, 32]⟩ : ByteArray), b] ((((⟨#[80, 65, 78, 73, 67, 61]⟩ : ByteArray) ++ a) ++ (⟨#[32, 109, 101, 116, 104, 111, 100, 58, 32]⟩ : ByteArray)) ++ b) W h1 h2 (by simp) (by simp) HJ.out (by omega) (by rw [ByteArray.size_append, ByteArray.size_append, ByteArray.size_append]; have h0 : (⟨#[80, 65, 78, 73, 67, 61]⟩ : ByteArray).size = 6 := rfl; have h2 : (⟨#[32, 109, 101, 116, 104, 111, 100, 58, 32]⟩ : ByteArray).size = 9 := rfl; omega))
  obtain ⟨R, hR⟩ : ∃ R, insS (Utf8.encode c) ((((⟨#[80, 65, 78, 73, 67, 61]⟩ : ByteArray) ++ a) ++ (⟨#[32, 109, 101, 116, 104, 111, 100, 58, 32]⟩ : ByteArray)) ++ b) = R := ⟨_, rfl⟩
  rw [hR] at HI ⊢
  obtain ⟨E, hEE⟩ : ∃ E, Utf8.encode c = E := ⟨_, rfl⟩
  rw [hEE] at RU HI
  clear hR hE hEE HJ
  go_enter Tryd.func31, Tryd.ntmps31
  go_wp2_with fail
  refine RU.out.mono ?_
  rintro e w0 ⟨rfl, hw0⟩
  subst hw0
  go_wp2_with fail
  refine (HI.out _ (row_strs _ _ _ [(⟨#[80, 65, 78, 73, 67, 61]⟩ : ByteArray), a, (⟨#[32, 109, 101, 116, 104, 111, 100, 58, 32]⟩ : ByteArray), b] rfl) (alloc_lt _ _)).mono ?_
  rintro e w1 ⟨rfl, hb⟩
  have HB := hid (((Below.refl _ w).alloc (Nat.le_refl _) _).trans (hb.mono (Nat.le_of_lt (alloc_lt _ _))))
  clear hb
  go_wp2_with fail
  go_ret
  exact ⟨rfl, HB.out⟩
theorem verbR (r a b : ByteArray) : (((((((⟨#[37, 33]⟩ : ByteArray) ++ r) ++ (⟨#[40]⟩ : ByteArray)) ++ a) ++ (⟨#[61]⟩ : ByteArray)) ++ b) ++ (⟨#[41]⟩ : ByteArray)) = insS r ((a ++ (⟨#[61]⟩ : ByteArray)) ++ b) := by
  refine dbytes_ext ?_
  simp [insS]
theorem nilR (r : ByteArray) : (((⟨#[37, 33]⟩ : ByteArray) ++ r) ++ (⟨#[40, 60, 110, 105, 108, 62, 41]⟩ : ByteArray)) = insS r (⟨#[60, 110, 105, 108, 62]⟩ : ByteArray) := by
  refine dbytes_ext ?_
  simp [insS]
theorem missingR (r : ByteArray) : (((⟨#[37, 33]⟩ : ByteArray) ++ r) ++ (⟨#[40, 77, 73, 83, 83, 73, 78, 71, 41]⟩ : ByteArray)) = insS r (⟨#[77, 73, 83, 83, 73, 78, 71]⟩ : ByteArray) := by
  refine dbytes_ext ?_
  simp [insS]
theorem indexR (r : ByteArray) : (((⟨#[37, 33]⟩ : ByteArray) ++ r) ++ (⟨#[40, 66, 65, 68, 73, 78, 68, 69, 88, 41]⟩ : ByteArray)) = insS r (⟨#[66, 65, 68, 73, 78, 68, 69, 88]⟩ : ByteArray) := by
  refine dbytes_ext ?_
  simp [insS]
theorem panicR (r a b : ByteArray) : (((((((⟨#[37, 33]⟩ : ByteArray) ++ r) ++ (⟨#[40, 80, 65, 78, 73, 67, 61]⟩ : ByteArray)) ++ a) ++ (⟨#[32, 109, 101, 116, 104, 111, 100, 58, 32]⟩ : ByteArray)) ++ b) ++ (⟨#[41]⟩ : ByteArray)) = insS r ((((⟨#[80, 65, 78, 73, 67, 61]⟩ : ByteArray) ++ a) ++ (⟨#[32, 109, 101, 116, 104, 111, 100, 58, 32]⟩ : ByteArray)) ++ b) := by
  refine dbytes_ext ?_
  simp [insS]
set_option maxRecDepth 100000 in
theorem refpanic_any (c : Int) (h0 : -2147483648 ≤ c) (h1 : c ≤ 2147483647) (a b : ByteArray) (w : World) (ha : a.size ≤ 10000) (hb : b.size ≤ 10000) :
    Calls Tryd.prog 33 #[.int .i32 c, .string a, .string b] w fun e w' => e = .returned (.string (insS (Utf8.encode c) ((((⟨#[80, 65, 78, 73, 67, 61]⟩ : ByteArray) ++ a) ++ (⟨#[32, 109, 101, 116, 104, 111, 100, 58, 32]⟩ : ByteArray)) ++ b))) ∧ Below w.heap.size w w' := by
  have RU := hid (refrune_any c h0 h1 w)
  have hE := enc_size c
  rw [← panicR]
  obtain ⟨E, hEE⟩ : ∃ E, Utf8.encode c = E := ⟨_, rfl⟩
  rw [hEE] at RU hE ⊢
  clear hEE
  go_enter Tryd.func33, Tryd.ntmps33
  go_wp2_with fail
  refine RU.out.mono ?_
  rintro e w1 ⟨rfl, hb1⟩
  have HB := hid hb1
  clear hb1
  go_wp2_with fail
  go_ret
  exact ⟨rfl, HB.out⟩
theorem openJ : joinS [(⟨#[78, 79, 86, 69, 82, 66]⟩ : ByteArray)] [] = (⟨#[78, 79, 86, 69, 82, 66]⟩ : ByteArray) := by
  refine dbytes_ext ?_
  simp [joinS, Lib.join, List.intercalate]
theorem widthJ : joinS [(⟨#[66, 65, 68, 87, 73, 68, 84, 72]⟩ : ByteArray)] [] = (⟨#[66, 65, 68, 87, 73, 68, 84, 72]⟩ : ByteArray) := by
  refine dbytes_ext ?_
  simp [joinS, Lib.join, List.intercalate]
theorem precJ : joinS [(⟨#[66, 65, 68, 80, 82, 69, 67]⟩ : ByteArray)] [] = (⟨#[66, 65, 68, 80, 82, 69, 67]⟩ : ByteArray) := by
  refine dbytes_ext ?_
  simp [joinS, Lib.join, List.intercalate]
theorem depthJ : joinS [(⟨#[68, 69, 80, 84, 72]⟩ : ByteArray)] [] = (⟨#[68, 69, 80, 84, 72]⟩ : ByteArray) := by
  refine dbytes_ext ?_
  simp [joinS, Lib.join, List.intercalate]
end Go.Proofs.YtaniahkagmjkoaaDoor
