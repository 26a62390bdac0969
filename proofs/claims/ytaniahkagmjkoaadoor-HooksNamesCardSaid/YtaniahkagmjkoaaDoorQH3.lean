/-
  Walks of layer 2: the document's bytes in hexadecimal digits.
-/
import Derived.Test.YtaniahkagmjkoaaDoorQH2
import Derived.Test.YtaniahkagmjkoaaDoorQ5
namespace Go.Proofs.YtaniahkagmjkoaaDoor
open Go.RowKit Go.Proofs

theorem digit_u8 (_x : Int) (g : Bool) (d : Nat) (q : Int) (hq : q = (d : Int)) (h : d < 16) (w : World) : Calls Tryd.prog 40 #[.int .i64 q, .bool g] w fun e w' => e = .returned (.string ⟨#[IP.hexd g d]⟩) ∧ w = w' := by
  subst hq
  have := refdigit_any (d : Int) g w (by omega) (by omega)
  rw [Int.toNat_natCast] at this
  exact this
/-- The document's round: what is written so far. -/
structure RhI (w : World) (g sp : Bool) (M S : ByteArray) (F : Array Value) (wr : World) (o : ByteArray) (i : Nat) : Prop where
  txt : o.data.toList = IP.hexL g sp M.data.toList (S.data.toList.take i)
  blk : Blk wr w.heap.size F 48
  below : Below w.heap.size w wr
theorem RhI.len {w wr : World} {g sp : Bool} {M S o : ByteArray} {F : Array Value} {i : Nat} (h : RhI w g sp M S F wr o i) (hM : M.size ≤ 2) : o.size ≤ 5 * S.size := by
  have h1 := IP.hexL_len g sp M.data.toList (by rw [← Utf.size_eq]; exact hM) (S.data.toList.take i)
  have h2 : (S.data.toList.take i).length ≤ S.size := by rw [List.length_take, ← Utf.size_eq]; omega
  rw [Utf.size_eq, h.txt]
  omega
theorem RhI.step {w wr W : World} {g sp : Bool} {M S o : ByteArray} {F : Array Value} {i : Nat} (h : RhI w g sp M S F wr o i) (hi : i < S.size) (p : ByteArray)
    (hP : (if sp = true ∧ 0 < i then [32] else []) ++ (if sp = true ∨ i = 0 then M.data.toList else []) ++ IP.twoH g (S.data.toList[i]?.getD 0) = p.data.toList) (o' : ByteArray) (ho : o'.data.toList = o.data.toList ++ p.data.toList)
    (hW : W.heap = wr.heap) (hb : Below w.heap.size w W) : RhI w g sp M S F W o' (i + 1) := by
  refine ⟨?_, ?_, hb⟩
  · rw [hexL_take _ _ _ _ _ hi, hP, ho, h.txt]
  · have := h.blk
    unfold Blk at this ⊢
    rw [hW]
    exact this

end Go.Proofs.YtaniahkagmjkoaaDoor
