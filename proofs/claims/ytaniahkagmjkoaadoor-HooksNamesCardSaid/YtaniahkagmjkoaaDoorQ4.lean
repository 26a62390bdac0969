/-
  Walks of layer 3: a code point in quotes.
-/
import Derived.Test.YtaniahkagmjkoaaDoorQ3
namespace Go.Proofs.YtaniahkagmjkoaaDoor
open Go.RowKit Go.Proofs

/-- A row of bytes that the call owns, read as a text. -/
theorem conv_own {w : World} {B n : Nat} {v : Value} {l : List UInt8} (h : w.ownsRow B 5 1 v n (bc l)) : (convert 90 9 v).run Tryd.prog w = .ok (.string ⟨l.toArray⟩) w := by
  have hl : (bc l).length = n * 1 := h.1
  rw [bc_length, Nat.mul_one] at hl
  have hs : ∀ xs : List Int, xs = l.map (fun b => (b.toNat : Int)) → strOfNums xs = ⟨l.toArray⟩ := by
    intro xs hx
    refine bytes_ext ?_
    rw [strOfNums_data, hx, List.map_map]
    show List.map _ l = l
    conv => rhs; rw [← List.map_id l]
    refine List.map_congr_left fun b _ => ?_
    show UInt8.ofNat ((b.toNat : Int)).toNat = b
    rw [Int.toNat_natCast]
    exact UInt8.ofNat_toNat
  rcases h.2 with ⟨h1, h2⟩ | ⟨g, cap, cur, h1, h2, h3, h4, h5, h6, h7⟩
  · have : l = [] := List.eq_nil_of_length_eq_zero (by omega)
    subst this
    rw [h1]
    exact run_convert_bytes_nil w 90 5 Tryd.underlying90 Tryd.underlying5 0 0 9 Tryd.underlying9
  · rw [h1, ← hs _ rfl]
    refine run_convert_bytes_arg w 90 5 Tryd.underlying90 Tryd.underlying5 g 0 n cap (l.map (fun b => (b.toNat : Int))) (by rw [List.length_map, hl]) (fun i hi => ?_) 9 Tryd.underlying9
    rw [Nat.zero_add, cell_of_row w g i cur 5 (0, 0) h3, ← Array.getElem?_toList]
    have e : (cur.toList.take (n * 1))[i]? = (bc l)[i]? := by rw [h7]
    rw [List.getElem?_take, if_pos (by omega)] at e
    rw [e]
    unfold bc
    rw [List.getElem?_map, List.getElem?_eq_getElem (by omega), List.getD_eq_getElem?_getD, List.getElem?_map, List.getElem?_eq_getElem (by omega)]
    rfl
theorem own_one (w : World) (x : UInt8) : (w.alloc (.cells #[.int .u8 x.toNat] 5)).ownsRow w.heap.size 5 1 (.slice (some ⟨w.heap.size, 0, none⟩) 1 1) 1 (bc [x]) :=
  ⟨rfl, Or.inr ⟨w.heap.size, 1, _, rfl, Nat.le_refl _, heap_alloc_new w _, Nat.le_refl _, by unfold maxLen; omega, rfl, rfl⟩⟩

theorem validRune_eq (r : Int) : Lib.validRune r = Utf8.valid r := by
  rw [Bool.eq_iff_iff, Utf.valid_iff]
  unfold Lib.validRune
  simp
  omega
end Go.Proofs.YtaniahkagmjkoaaDoor
