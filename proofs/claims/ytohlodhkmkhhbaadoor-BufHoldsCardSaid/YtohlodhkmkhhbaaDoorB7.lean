/-
  Walks of layer 1: the law's own examples.
-/
import Derived.Test.YtohlodhkmkhhbaaDoorB6
namespace Go.Proofs.YtohlodhkmkhhbaaDoor
open Go.RowKit Go.Proofs

/-- The box of a spec, kept. -/
theorem box8_new {w w1 : World} (pl mi sh sp ze : Bool) (wid prec verb : Int) {B : Nat} (hb : Below B (w.alloc (.cells #[.bool pl, .bool mi, .bool sh, .bool sp, .bool ze, .int .i64 wid, .int .i64 prec, .int .i32 verb] 33)).drew w1) (hB : w.heap.size < B) : w1.cell? ⟨w.heap.size, 0, none⟩ = some (.bool pl) ∧ w1.cell? ⟨w.heap.size, 1, none⟩ = some (.bool mi) ∧ w1.cell? ⟨w.heap.size, 2, none⟩ = some (.bool sh) ∧ w1.cell? ⟨w.heap.size, 3, none⟩ = some (.bool sp) ∧ w1.cell? ⟨w.heap.size, 4, none⟩ = some (.bool ze) ∧ w1.cell? ⟨w.heap.size, 5, none⟩ = some (.int .i64 wid) ∧ w1.cell? ⟨w.heap.size, 6, none⟩ = some (.int .i64 prec) ∧ w1.cell? ⟨w.heap.size, 7, none⟩ = some (.int .i32 verb) :=
  ⟨box_cell_drew hb hB 0 rfl, box_cell_drew hb hB 1 rfl, box_cell_drew hb hB 2 rfl, box_cell_drew hb hB 3 rfl, box_cell_drew hb hB 4 rfl, box_cell_drew hb hB 5 rfl, box_cell_drew hb hB 6 rfl, box_cell_drew hb hB 7 rfl⟩
theorem box8_plain {w w1 : World} (pl mi sh sp ze : Bool) (wid prec verb : Int) {B : Nat} (hb : Below B (w.alloc (.cells #[.bool pl, .bool mi, .bool sh, .bool sp, .bool ze, .int .i64 wid, .int .i64 prec, .int .i32 verb] 33)) w1) (hB : w.heap.size < B) : w1.cell? ⟨w.heap.size, 0, none⟩ = some (.bool pl) ∧ w1.cell? ⟨w.heap.size, 1, none⟩ = some (.bool mi) ∧ w1.cell? ⟨w.heap.size, 2, none⟩ = some (.bool sh) ∧ w1.cell? ⟨w.heap.size, 3, none⟩ = some (.bool sp) ∧ w1.cell? ⟨w.heap.size, 4, none⟩ = some (.bool ze) ∧ w1.cell? ⟨w.heap.size, 5, none⟩ = some (.int .i64 wid) ∧ w1.cell? ⟨w.heap.size, 6, none⟩ = some (.int .i64 prec) ∧ w1.cell? ⟨w.heap.size, 7, none⟩ = some (.int .i32 verb) :=
  ⟨box_cell hb hB 0 rfl, box_cell hb hB 1 rfl, box_cell hb hB 2 rfl, box_cell hb hB 3 rfl, box_cell hb hB 4 rfl, box_cell hb hB 5 rfl, box_cell hb hB 6 rfl, box_cell hb hB 7 rfl⟩
theorem box8_below {w1 w2 : World} (pl mi sh sp ze : Bool) (wid prec verb : Int) {B b : Nat} (h : w1.cell? ⟨b, 0, none⟩ = some (.bool pl) ∧ w1.cell? ⟨b, 1, none⟩ = some (.bool mi) ∧ w1.cell? ⟨b, 2, none⟩ = some (.bool sh) ∧ w1.cell? ⟨b, 3, none⟩ = some (.bool sp) ∧ w1.cell? ⟨b, 4, none⟩ = some (.bool ze) ∧ w1.cell? ⟨b, 5, none⟩ = some (.int .i64 wid) ∧ w1.cell? ⟨b, 6, none⟩ = some (.int .i64 prec) ∧ w1.cell? ⟨b, 7, none⟩ = some (.int .i32 verb)) (hb : Below B w1 w2) (hB : b < B) : w2.cell? ⟨b, 0, none⟩ = some (.bool pl) ∧ w2.cell? ⟨b, 1, none⟩ = some (.bool mi) ∧ w2.cell? ⟨b, 2, none⟩ = some (.bool sh) ∧ w2.cell? ⟨b, 3, none⟩ = some (.bool sp) ∧ w2.cell? ⟨b, 4, none⟩ = some (.bool ze) ∧ w2.cell? ⟨b, 5, none⟩ = some (.int .i64 wid) ∧ w2.cell? ⟨b, 6, none⟩ = some (.int .i64 prec) ∧ w2.cell? ⟨b, 7, none⟩ = some (.int .i32 verb) := by
  have e : ∀ j, w2.cell? ⟨b, j, none⟩ = w1.cell? ⟨b, j, none⟩ := fun j => hb.cell (p := ⟨b, j, none⟩) hB
  rw [e, e, e, e, e, e, e, e]
  exact h
theorem below_box {w w1 : World} {o : Obj} {B : Nat} (hb : Below B (w.alloc o).drew w1) (hB : w.heap.size < B) : Below w.heap.size w w1 :=
  (((Below.refl w.heap.size w).alloc (Nat.le_refl _) _).drew).trans (hb.mono (by omega))
theorem box_size {w w1 : World} {o : Obj} {B : Nat} (hb : Below B (w.alloc o).drew w1) : w.heap.size + 1 ≤ w1.heap.size := by
  have := hb.size
  have e : (w.alloc o).drew.heap.size = w.heap.size + 1 := by simp
  omega

theorem dec_ff : dec0 [255] = (65533, 1) := by decide
theorem enc_e9 : Utf8.encode 233 = ⟨#[195, 169]⟩ := by decide
theorem count_two : Utf.count [195, 169, 230, 151, 165] = 2 := by
  rw [Utf.count_step (by decide), show (Utf.decL [195, 169, 230, 151, 165]).2 = 2 from by decide]
  show 1 + Utf.count [230, 151, 165] = 2
  rw [Utf.count_step (by decide), show (Utf.decL [230, 151, 165]).2 = 3 from by decide]
  show 1 + (1 + Utf.count []) = 2
  rw [Utf.count_nil]
theorem count_one : Utf.count [195, 169] = 1 := by
  rw [Utf.count_step (by decide), show (Utf.decL [195, 169]).2 = 2 from by decide]
  show 1 + Utf.count [] = 1
  rw [Utf.count_nil]
theorem pad_three : padS ⟨#[195, 169]⟩ false true 3 = ⟨#[48, 48, 195, 169]⟩ := by
  unfold padS
  rw [show (⟨#[195, 169]⟩ : ByteArray).data.toList = [195, 169] from rfl, count_one]
  decide

theorem lives_decode (w : World) (hT : Tabs w) : Calls Tryd.prog 16 #[.string ⟨#[255]⟩] w fun e w' => e = .returned (.tuple #[.int .i32 65533, .int .i64 1]) ∧ Below w.heap.size w w' := by
  have := decode_any ⟨#[255]⟩ w hT
  rw [show (⟨#[255]⟩ : ByteArray).data.toList = [255] from rfl, dec_ff] at this
  exact this
theorem lives_rune (w : World) : Calls Tryd.prog 13 #[.int .i32 233] w fun e w' => e = .returned (.string ⟨#[195, 169]⟩) ∧ w = w' := by
  have := rune_any 233 w
  rw [enc_e9] at this
  exact this
theorem lives_count (w : World) : Calls Tryd.prog 22 #[.string ⟨#[195, 169, 230, 151, 165]⟩] w fun e w' => e = .returned (.int .i64 2) ∧ Below w.heap.size w w' := by
  have := count_any ⟨#[195, 169, 230, 151, 165]⟩ w (by decide)
  rw [show (⟨#[195, 169, 230, 151, 165]⟩ : ByteArray).data.toList = [195, 169, 230, 151, 165] from rfl, count_two] at this
  exact this
theorem lives_pad (w : World) : Calls Tryd.prog 20 #[.string ⟨#[195, 169]⟩, .agg #[.bool false, .bool false, .bool false, .bool false, .bool true, .int .i64 3, .int .i64 0, .int .i32 0]] w fun e w' => e = .returned (.string ⟨#[48, 48, 195, 169]⟩) ∧ Below w.heap.size w w' := by
  have := pad_any ⟨#[195, 169]⟩ false false false false true 3 0 0 w (by decide) (by omega) (by omega)
  rw [pad_three] at this
  exact this

set_option maxRecDepth 100000 in
theorem lives_any (w : World) (hT : Tabs w) : Calls Tryd.prog 15 #[] w fun e w' => e = .returned (.bool true) ∧ Below w.heap.size w w' := by
  have HT := hid hT
  clear hT
  go_enter Tryd.func15, Tryd.ntmps15
  go_wp2_with fail
  refine (lives_decode _ HT.out).mono ?_
  rintro e w1 ⟨rfl, hb1⟩
  go_wp2_with fail
  refine (lives_rune _).mono ?_
  rintro e w2 ⟨rfl, rfl⟩
  go_wp2_with fail
  refine (lives_count _).mono ?_
  rintro e w2 ⟨rfl, hb2⟩
  go_wp2_with fail
  refine (lives_pad _).mono ?_
  rintro e w3 ⟨rfl, hb3⟩
  have hb := (hb1.trans (hb2.mono hb1.size)).trans (hb3.mono (Nat.le_trans hb1.size hb2.size))
  clear hb1 hb2 hb3
  go_wp2_with fail
  go_ret
  exact ⟨rfl, hb⟩
end Go.Proofs.YtohlodhkmkhhbaaDoor
