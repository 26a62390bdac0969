/-
  Walks of layer 1: the law's own examples.
-/
import Derived.Test.YtohlodhkmkhhbaaDoorB6
namespace Go.Proofs.YtohlodhkmkhhbaaDoor
open Go.RowKit Go.Proofs

theorem dec_ff : dec0 [255] = (65533, 1) := by decide
theorem enc_e9 : Utf8.encode 233 = ⟨#[195, 169]⟩ := by decide
theorem count_two : Utf.count [195, 169, 230, 151, 165] = 2 := by
  rw [Utf.count_step (by decide), show (Utf.decL [195, 169, 230, 151, 165]).2 = 2 from by decide]
  show 1 + Utf.count [230, 151, 165] = 2
  rw [Utf.count_step (by decide), show (Utf.decL [230, 151, 165]).2 = 3 from by decide]
  show 1 + (1 + Utf.count []) = 2
  rw [Utf.count_nil]
theorem count_one : Utf.count [195, 169] = 1 := by
  rw [Utf.count_step (by decide), show (Utf.decL [195, 169]).2 = 2 from by decide]
  show 1 + Utf.count [] = 1
  rw [Utf.count_nil]
theorem pad_three : padS ⟨#[195, 169]⟩ false true 3 = ⟨#[48, 48, 195, 169]⟩ := by
  unfold padS
  rw [show (⟨#[195, 169]⟩ : ByteArray).data.toList = [195, 169] from rfl, count_one]
  decide

theorem lives_decode (w : World) (hT : Tabs w) : Calls Tryd.prog 16 #[.string ⟨#[255]⟩] w fun e w' => e = .returned (.tuple #[.int .i32 65533, .int .i64 1]) ∧ Below w.heap.size w w' := by
  have := decode_any ⟨#[255]⟩ w hT
  rw [show (⟨#[255]⟩ : ByteArray).data.toList = [255] from rfl, dec_ff] at this
  exact this
theorem lives_rune (w : World) : Calls Tryd.prog 13 #[.int .i32 233] w fun e w' => e = .returned (.string ⟨#[195, 169]⟩) ∧ w = w' := by
  have := rune_any 233 w
  rw [enc_e9] at this
  exact this
theorem lives_count (w : World) : Calls Tryd.prog 22 #[.string ⟨#[195, 169, 230, 151, 165]⟩] w fun e w' => e = .returned (.int .i64 2) ∧ Below w.heap.size w w' := by
  have := count_any ⟨#[195, 169, 230, 151, 165]⟩ w (by decide)
  rw [show (⟨#[195, 169, 230, 151, 165]⟩ : ByteArray).data.toList = [195, 169, 230, 151, 165] from rfl, count_two] at this
  exact this
theorem lives_pad (w : World) : Calls Tryd.prog 20 #[.string ⟨#[195, 169]⟩, .agg #[.bool false, .bool false, .bool false, .bool false, .bool true, .int .i64 3, .int .i64 0, .int .i32 0]] w fun e w' => e = .returned (.string ⟨#[48, 48, 195, 169]⟩) ∧ Below w.heap.size w w' := by
  have := pad_any ⟨#[195, 169]⟩ false false false false true 3 0 0 w (by decide) (by omega) (by omega)
  rw [pad_three] at this
  exact this

set_option maxRecDepth 100000 in
theorem lives_any (w : World) (hT : Tabs w) : Calls Tryd.prog 15 #[] w fun e w' => e = .returned (.bool true) ∧ Below w.heap.size w w' := by
  have HT := hid hT
  clear hT
  go_enter Tryd.func15, Tryd.ntmps15
  go_wp2_with fail
  refine (lives_decode _ HT.out).mono ?_
  rintro e w1 ⟨rfl, hb1⟩
  go_wp2_with fail
  refine (lives_rune _).mono ?_
  rintro e w2 ⟨rfl, rfl⟩
  go_wp2_with fail
  refine (lives_count _).mono ?_
  rintro e w2 ⟨rfl, hb2⟩
  go_wp2_with fail
  refine (lives_pad _).mono ?_
  rintro e w3 ⟨rfl, hb3⟩
  have hb := (hb1.trans (hb2.mono hb1.size)).trans (hb3.mono (Nat.le_trans hb1.size hb2.size))
  clear hb1 hb2 hb3
  go_wp2_with fail
  go_ret
  exact ⟨rfl, hb⟩
end Go.Proofs.YtohlodhkmkhhbaaDoor
