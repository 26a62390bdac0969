/-
  Walks of layer 1: the contracts of single functions.
-/
import Derived.Test.YtaniahkagmjkoaaDoorProg
import Derived.Test.YtaniahkagmjkoaaDoorUtf
import Derived.WalkKit
import Derived.WalkLawsBesides
import Derived.WalkSpells
import Derived.Laws.BytesArg
import Derived.Laws.IdiomStrings
import Derived.Outline
import Derived.Test.YtaniahkagmjkoaaDoorShelf
namespace Go.Proofs.YtaniahkagmjkoaaDoor
open Go.RowKit Go.Proofs

theorem hid {p : Prop} (h : p) : Hid p := h
theorem ret_bool {a b : Bool} (h : a = b) : Ending.returned (.bool a) = .returned (.bool b) := by rw [h]
theorem ret_str {a b : ByteArray} (h : a = b) : Ending.returned (.string a) = .returned (.string b) := by rw [h]

theorem conv1 (w : World) (a : Int) : (convert 90 9 (.slice (some ⟨w.heap.size, 0, none⟩) 1 1)).run Tryd.prog (w.alloc (.cells #[.int .u8 a] 5)) = .ok (.string (strOfNums [a])) (w.alloc (.cells #[.int .u8 a] 5)) :=
  run_convert_bytes_arg _ 90 5 Tryd.underlying90 Tryd.underlying5 _ 0 1 1 [a] rfl (fun i hi => by
    match i, hi with
    | 0, _ => rw [World.cell?_alloc_mark]; rfl) 9 Tryd.underlying9
theorem conv2 (w : World) (a b : Int) : (convert 90 9 (.slice (some ⟨w.heap.size, 0, none⟩) 2 2)).run Tryd.prog (w.alloc (.cells #[.int .u8 a, .int .u8 b] 5)) = .ok (.string (strOfNums [a, b])) (w.alloc (.cells #[.int .u8 a, .int .u8 b] 5)) :=
  run_convert_bytes_arg _ 90 5 Tryd.underlying90 Tryd.underlying5 _ 0 2 2 [a, b] rfl (fun i hi => by
    match i, hi with
    | 0, _ => rw [World.cell?_alloc_mark]; rfl
    | 1, _ => rw [World.cell?_alloc_mark]; rfl) 9 Tryd.underlying9
theorem conv3 (w : World) (a b c : Int) : (convert 90 9 (.slice (some ⟨w.heap.size, 0, none⟩) 3 3)).run Tryd.prog (w.alloc (.cells #[.int .u8 a, .int .u8 b, .int .u8 c] 5)) = .ok (.string (strOfNums [a, b, c])) (w.alloc (.cells #[.int .u8 a, .int .u8 b, .int .u8 c] 5)) :=
  run_convert_bytes_arg _ 90 5 Tryd.underlying90 Tryd.underlying5 _ 0 3 3 [a, b, c] rfl (fun i hi => by
    match i, hi with
    | 0, _ => rw [World.cell?_alloc_mark]; rfl
    | 1, _ => rw [World.cell?_alloc_mark]; rfl
    | 2, _ => rw [World.cell?_alloc_mark]; rfl) 9 Tryd.underlying9
theorem conv4 (w : World) (a b c d : Int) : (convert 90 9 (.slice (some ⟨w.heap.size, 0, none⟩) 4 4)).run Tryd.prog (w.alloc (.cells #[.int .u8 a, .int .u8 b, .int .u8 c, .int .u8 d] 5)) = .ok (.string (strOfNums [a, b, c, d])) (w.alloc (.cells #[.int .u8 a, .int .u8 b, .int .u8 c, .int .u8 d] 5)) :=
  run_convert_bytes_arg _ 90 5 Tryd.underlying90 Tryd.underlying5 _ 0 4 4 [a, b, c, d] rfl (fun i hi => by
    match i, hi with
    | 0, _ => rw [World.cell?_alloc_mark]; rfl
    | 1, _ => rw [World.cell?_alloc_mark]; rfl
    | 2, _ => rw [World.cell?_alloc_mark]; rfl
    | 3, _ => rw [World.cell?_alloc_mark]; rfl) 9 Tryd.underlying9
attribute [local go_sem] conv1 conv2 conv3 conv4

theorem point_any (c : Int) (w : World) : Calls Tryd.prog 52 #[.int .i32 c] w fun e w' => e = .returned (.bool (Utf8.valid c)) ∧ w = w' := by
  go_enter Tryd.func52, Tryd.ntmps52
  go_wp2
  all_goals (go_ret; refine ⟨ret_bool ?_, rfl⟩; rw [Bool.eq_iff_iff, Utf.valid_iff]; simp; omega)
theorem point_is (c : Int) (b : Bool) (h : Hid (Utf8.valid c = b)) (w : World) : Calls Tryd.prog 52 #[.int .i32 c] w fun e w' => e = .returned (.bool b) ∧ w = w' := by
  have := point_any c w
  rw [h.out] at this
  exact this
theorem rune_any (c : Int) (w : World) : Calls Tryd.prog 39 #[.int .i32 c] w fun e w' => e = .returned (.string (Utf8.encode c)) ∧ w = w' := by
  go_enter Tryd.func39, Tryd.ntmps39
  go_wp2
  go_ret
  exact ⟨rfl, rfl⟩

theorem enc_mk (c : Int) : Utf8.encode c = ⟨(Utf.encL c).toArray⟩ := by
  unfold Utf.encL
  cases Utf8.encode c
  simp
theorem enc_bad {c : Int} (h : Utf8.valid c = false) : Utf8.encode c = strOfNums [239, 191, 189] := by
  have e : Utf.cp c = 65533 := by unfold Utf.cp; rw [h]; rfl
  rw [enc_mk, Utf.encL_eq, e]
  decide
theorem enc_one {c : Int} (h0 : 0 ≤ c) (h : c < 128) : Utf8.encode c = strOfNums [c] := by
  obtain ⟨n, rfl⟩ := Int.eq_ofNat_of_zero_le (show 0 ≤ c by omega)
  rw [enc_mk, Utf.encL_one (by omega)]
  unfold strOfNums
  simp only [List.map_cons, List.map_nil]
  rw [show ((n : Int)).toNat = n from by omega]
theorem enc_two {c : Int} (h0 : 128 ≤ c) (h : c < 2048) : Utf8.encode c = strOfNums [192 + c / 64, 128 + c % 64] := by
  obtain ⟨n, rfl⟩ := Int.eq_ofNat_of_zero_le (show 0 ≤ c by omega)
  rw [enc_mk, Utf.encL_two (by omega) (by omega)]
  unfold strOfNums
  simp only [List.map_cons, List.map_nil]
  rw [show (192 + (n : Int) / 64).toNat = 192 + n / 64 from by omega, show (128 + (n : Int) % 64).toNat = 128 + n % 64 from by omega]
theorem enc_three {c : Int} (hv : Utf8.valid c = true) (h0 : 2048 ≤ c) (h : c < 65536) : Utf8.encode c = strOfNums [224 + c / 4096, 128 + c / 64 % 64, 128 + c % 64] := by
  obtain ⟨n, rfl⟩ := Int.eq_ofNat_of_zero_le (show 0 ≤ c by omega)
  rw [enc_mk, Utf.encL_three hv (by omega) (by omega)]
  unfold strOfNums
  simp only [List.map_cons, List.map_nil]
  rw [show (224 + (n : Int) / 4096).toNat = 224 + n / 4096 from by omega, show (128 + (n : Int) / 64 % 64).toNat = 128 + n / 64 % 64 from by omega, show (128 + (n : Int) % 64).toNat = 128 + n % 64 from by omega]
theorem enc_four {c : Int} (hv : Utf8.valid c = true) (h0 : 65536 ≤ c) : Utf8.encode c = strOfNums [240 + c / 262144, 128 + c / 4096 % 64, 128 + c / 64 % 64, 128 + c % 64] := by
  obtain ⟨n, rfl⟩ := Int.eq_ofNat_of_zero_le (show 0 ≤ c by omega)
  rw [enc_mk, Utf.encL_four hv (by omega)]
  unfold strOfNums
  simp only [List.map_cons, List.map_nil]
  rw [show (240 + (n : Int) / 262144).toNat = 240 + n / 262144 from by omega, show (128 + (n : Int) / 4096 % 64).toNat = 128 + n / 4096 % 64 from by omega, show (128 + (n : Int) / 64 % 64).toNat = 128 + n / 64 % 64 from by omega, show (128 + (n : Int) % 64).toNat = 128 + n % 64 from by omega]

set_option maxRecDepth 100000 in
theorem refrune_any (c : Int) (h0 : -2147483648 ≤ c) (h1 : c ≤ 2147483647) (w : World) : Calls Tryd.prog 41 #[.int .i32 c] w fun e w' => e = .returned (.string (Utf8.encode c)) ∧ Below w.heap.size w w' := by
  cases hv : Utf8.valid c
  · have HV := hid hv
    clear hv
    go_enter Tryd.func41, Tryd.ntmps41
    go_wp2_with (go_at_call 52; refine (point_is _ _ HV _).mono ?_; rintro e w' ⟨rfl, rfl⟩)
    go_ret
    exact ⟨ret_str (enc_bad HV.out).symm, (Below.refl _ _).alloc (Nat.le_refl _) _⟩
  · have hr := (Utf.valid_iff c).1 hv
    have hr1 : 0 ≤ c := by omega
    have hr2 : c ≤ 1114111 := by omega
    clear hr h0 h1
    have HV := hid hv
    clear hv
    rcases (show c < 128 ∨ (128 ≤ c ∧ c < 2048) ∨ (2048 ≤ c ∧ c < 65536) ∨ 65536 ≤ c by omega) with a | ⟨a, b⟩ | ⟨a, b⟩ | a
    all_goals
      go_enter Tryd.func41, Tryd.ntmps41
      go_wp2_with (go_at_call 52; refine (point_is _ _ HV _).mono ?_; rintro e w' ⟨rfl, rfl⟩)
      go_ret
    · exact ⟨ret_str (enc_one hr1 a).symm, (Below.refl _ _).alloc (Nat.le_refl _) _⟩
    · exact ⟨ret_str (enc_two a b).symm, (Below.refl _ _).alloc (Nat.le_refl _) _⟩
    · exact ⟨ret_str (enc_three HV.out a b).symm, (Below.refl _ _).alloc (Nat.le_refl _) _⟩
    · exact ⟨ret_str (enc_four HV.out a).symm, (Below.refl _ _).alloc (Nat.le_refl _) _⟩

/-- The two tables of the decoder, as they are laid. -/
def Tabs (w : World) : Prop := Lib.Utf8Tabs 1 2 w
theorem Tabs.below {w w' : World} (h : Tabs w) (hb : Below w.heap.size w w') : Tabs w' := Utf8Tabs_below h hb
/-- What Decode tells: nothing of an empty text. -/
def dec0 (l : List UInt8) : Nat × Nat := if l = [] then (0, 0) else Utf.decL l
theorem dec0_ne {l : List UInt8} (h : l ≠ []) : dec0 l = Utf.decL l := by unfold dec0; rw [if_neg h]

theorem isEmpty_iff (s : ByteArray) : s.toList.isEmpty = decide (s.data.toList = []) := by
  rw [Lib.toList_data]
  cases s.data.toList <;> simp

end Go.Proofs.YtaniahkagmjkoaaDoor
