/-
  The library's utf8.ValidString at this dump: its closure's numbers named by hand.
-/
import Derived.Shelf.Unicode.ValidAny
import Derived.Test.YtaniahkagmjkoaaDoorB1
import Derived.Test.YtaniahkagmjkoaaDoorQR
namespace Go.Proofs
open Go.Shelf Go.RowKit
def Tryd.lays196_ren : Go.Shelf.Ren := ⟨fun | 196 => 58 | 259 => 67 | n => n, fun | 0 => 0 | 3 => 3 | 4 => 4 | 5 => 5 | 9 => 9 | 12 => 12 | 46 => 87 | 53 => 23 | 119 => 108 | 138 => 110 | 139 => 111 | n => n, fun | 3 => 1 | 4 => 2 | n => n⟩
theorem Tryd.lays196 : Go.Proofs.Lays.n196 Tryd.prog Tryd.lays196_ren := {
  mixed := by kernel_rfl
  f196 := Tryd.func58.trans (congrArg some (by kernel_rfl))
  f259 := Tryd.func67.trans (congrArg some (by kernel_rfl))
  t0 := Tryd.underlying0
  a0 := Tryd.isAgg0
  z0 := Tryd.sizeOf0
  v0 := Tryd.zeroValue0
  t3 := Tryd.underlying3
  a3 := Tryd.isAgg3
  z3 := Tryd.sizeOf3
  v3 := Tryd.zeroValue3
  t4 := Tryd.underlying4
  a4 := Tryd.isAgg4
  z4 := Tryd.sizeOf4
  v4 := Tryd.zeroValue4
  t5 := Tryd.underlying5
  a5 := Tryd.isAgg5
  z5 := Tryd.sizeOf5
  v5 := Tryd.zeroValue5
  t9 := Tryd.underlying9
  a9 := Tryd.isAgg9
  z9 := Tryd.sizeOf9
  v9 := Tryd.zeroValue9
  t12 := Tryd.underlying12
  a12 := Tryd.isAgg12
  z12 := Tryd.sizeOf12
  v12 := Tryd.zeroValue12
  t46 := Tryd.underlying87
  a46 := Tryd.isAgg87
  z46 := Tryd.sizeOf87
  v46 := Tryd.zeroValue87
  t53 := Tryd.underlying23
  a53 := Tryd.isAgg23
  z53 := Tryd.sizeOf23
  v53 := Tryd.zeroValue23
  t119 := Tryd.underlying108
  a119 := Tryd.isAgg108
  z119 := Tryd.sizeOf108
  t138 := Tryd.underlying110
  a138 := Tryd.isAgg110
  z138 := Tryd.sizeOf110
  v138 := Tryd.zeroValue110
  t139 := Tryd.underlying111
  a139 := Tryd.isAgg111
  z139 := Tryd.sizeOf111
  v139 := Tryd.zeroValue111
  g3 := by kernel_rfl
  g4 := by kernel_rfl }
namespace YtaniahkagmjkoaaDoor
theorem validD_eq : ∀ (n : Nat) (l : List UInt8), l.length ≤ n → Lib.validD l = IP.validB l
  | 0, l, h => by
    rw [List.eq_nil_of_length_eq_zero (Nat.le_zero.1 h), Lib.validD_nil, IP.validB_nil]
  | n + 1, l, h => by
    by_cases hl : l = []
    · rw [hl, Lib.validD_nil, IP.validB_nil]
    · have h1 := Utf.dec_width l
      have h2 := List.length_pos_iff.2 hl
      have e : Lib.decodeL l = Utf.decL l := by
        unfold Lib.decodeL
        rw [Utf.decode_eq]
        simp
      have ih := validD_eq n (l.drop (Utf.decL l).2) (by rw [List.length_drop]; omega)
      rw [Lib.validD_step l hl, e, IP.validB_cons hl, ih]
      by_cases hb : Utf.Broken l
      · rw [if_pos hb]
        have hb : Utf.decL l = (65533, 1) := hb
        rw [if_pos (by rw [hb]; exact ⟨rfl, rfl⟩)]
      · rw [if_neg hb]
        rw [if_neg]
        intro hc
        exact hb (Prod.ext hc.1 hc.2)
theorem valid_any (s : ByteArray) (w : World) (hs : s.size ≤ 9223372036854775807) (hT : Tabs w) : Calls Tryd.prog 58 #[.string s] w fun e w' => e = .returned (.bool (IP.validB s.data.toList)) ∧ Below w.heap.size w w' := by
  rw [← validD_eq _ _ (Nat.le_refl _)]
  exact Any.utf8_ValidString Tryd.lays196 s w hs hT
end YtaniahkagmjkoaaDoor
end Go.Proofs
