/-
  Walks of layer 9: the text of pieces.
-/
import Derived.Test.YtmfhoindfhmncaaDoorPE
import Derived.Test.YtmfhoindfhmncaaDoorSh2
import Derived.Test.YtmfhoindfhmncaaDoorBw
import Derived.Deep.CutBlock
namespace Go.Proofs.YtmfhoindfhmncaaDoor
open Go.RowKit Go.Proofs

/-- Pieces as they lie in a block. -/
def PcsAt (w : World) (g : Nat) (L : List PP.Pc) : Prop := ∀ (k : Nat) p, L[k]? = some p → ∀ (j : Nat) v, (pcV p (txt p.text))[j]? = some v → w.cell? ⟨g, k * 20 + j, none⟩ = some v
theorem cellsL_get : ∀ (L : List PP.Pc) (k : Nat) p, L[k]? = some p → ∀ (j : Nat) v, (pcV p (txt p.text))[j]? = some v → (cellsL L)[k * 20 + j]? = some v
  | [], k, p, h, _, _, _ => by simp at h
  | q :: L, 0, p, h, j, v, hv => by
    simp only [List.getElem?_cons_zero, Option.some.injEq] at h
    subst h
    unfold cellsL
    have hj : j < (pcV q (txt q.text)).size := by
      rcases Nat.lt_or_ge j (pcV q (txt q.text)).size with h | h
      · exact h
      · rw [Array.getElem?_eq_none h] at hv; cases hv
    rw [Nat.zero_mul, Nat.zero_add, List.getElem?_append_left (by simpa using hj), ← hv]
    simp
  | q :: L, k + 1, p, h, j, v, hv => by
    rw [List.getElem?_cons_succ] at h
    have := cellsL_get L k p h j v hv
    unfold cellsL
    rw [List.getElem?_append_right (by simp; omega), ← this]
    congr 1
    simp
    omega
theorem pcsAt_own {w : World} {g : Nat} {L : List PP.Pc} (h : ∀ (j : Nat) u, (cellsL L)[j]? = some u → w.cell? ⟨g, j, none⟩ = some u) : PcsAt w g L := fun k p hp j v hv => h _ _ (cellsL_get L k p hp j v hv)
theorem PcsAt.below {w W : World} {g : Nat} {L : List PP.Pc} (h : PcsAt w g L) (hg : g < w.heap.size) (hb : Below w.heap.size w W) : PcsAt W g L := fun k p hp j v hv => (hb.cell (p := ⟨g, k * 20 + j, none⟩) hg).trans (h k p hp j v hv)
def textsL (L : List PP.Pc) : List UInt8 := L.flatMap (·.text)
theorem textsL_take {L : List PP.Pc} {k : Nat} {p : PP.Pc} (h : L[k]? = some p) : textsL (L.take (k + 1)) = textsL (L.take k) ++ p.text := by
  have hk : k < L.length := by
    rcases Nat.lt_or_ge k L.length with q | q
    · exact q
    · rw [List.getElem?_eq_none q] at h; cases h
  rw [List.getElem?_eq_getElem hk, Option.some.injEq] at h
  unfold textsL
  rw [List.take_add_one, List.getElem?_eq_getElem hk, h, List.flatMap_append]
  simp
theorem textsL_le {L : List PP.Pc} {k : Nat} : (textsL (L.take k)).length ≤ (textsL L).length := by
  conv => rhs; rw [← List.take_append_drop k L]
  unfold textsL
  rw [List.flatMap_append, List.length_append]
  omega

set_option maxRecDepth 100000 in
set_option maxHeartbeats 4000000 in
theorem text_any (L : List PP.Pc) (g c : Nat) (w : World) (hP : PcsAt w g L) (hg : g < w.heap.size) (hL : L.length ≤ 100000) (hlen : (textsL L).length ≤ 100000) :
    Calls Tryd.prog 17 #[.slice (some ⟨g, 0, none⟩) L.length c] w fun e w' => e = .returned (.string (txt (textsL L))) ∧ Below w.heap.size w w' := by
  obtain ⟨N, hN⟩ : ∃ N, L.length = N := ⟨_, rfl⟩
  obtain ⟨B, hB⟩ : ∃ B, w.heap.size = B := ⟨_, rfl⟩
  rw [hN] at hL ⊢
  rw [hB] at hg
  have HH := hid (And.intro hN (And.intro hB (And.intro hP hlen)))
  have KS := hid (show ∀ W : World, Below B w W → B ≤ W.heap.size from fun W h => by have := h.size; rw [HH.out.2.1] at this; exact this)
  have F0 : Lib.IsBuilderF 60 5 B B [] (w.alloc (.cells #[.pointer none, .slice none 0 0] 60)) := by
    rw [← hB]
    exact Lib.IsBuilderF.of (Lib.fresh_isBuilder _ _ w)
  have B0 : Below B w (w.alloc (.cells #[.pointer none, .slice none 0 0] 60)) := by
    rw [← hB]
    exact (Below.refl _ _).alloc (Nat.le_refl _) _
  rw [hB]
  have HS := hid (And.intro F0 B0)
  clear hN hB hP hlen F0 B0
  go_enter Tryd.func17, Tryd.ntmps17
  go_wp2_with fail
  obtain ⟨W0, hW0⟩ : ∃ W0, w.alloc (.cells #[.pointer none, .slice none 0 0] 60) = W0 := ⟨_, rfl⟩
  rw [hW0] at HS ⊢
  rw [HH.out.2.1]
  clear hW0
  go_loopw [5, 8] (fun _ kv wr => ∃ k : Nat, kv = .int .i64 k ∧ k ≤ N ∧ Hid (Lib.IsBuilderF 60 5 B B (Lib.byteCells (textsL (L.take k))) wr ∧ Below B w wr)) (fun _ kv _ => N - (intOf kv).toNat)
  case atStart => exact ⟨0, rfl, Nat.zero_le _, HS.out⟩
  case round =>
    obtain ⟨k, rfl, hk, hrel⟩ := hrel
    by_cases hkN : k < N
    · obtain ⟨p, hp⟩ : ∃ p, L[k]? = some p := ⟨_, List.getElem?_eq_getElem (by rw [HH.out.1]; exact hkN)⟩
      obtain ⟨X, hX⟩ : ∃ X, txt p.text = X := ⟨_, rfl⟩
      have HPk := hid (fun j v hv => (hrel.out.2.cell (p := ⟨g, k * 20 + j, none⟩) hg).trans (HH.out.2.2.1 k p hp j v hv))
      rw [hX] at HPk
      have HX := hid (And.intro hp hX)
      clear hp hX
      go_upto_region 4 with fail
      refine wp_region_list ?_
      refine wpList_plain rfl fun K hK => ?_
      have HK := hid hK
      clear hK
      go_wp2_with fail
      refine HK.out _ _ ?_
      clear HK
      refine wpList_load_mid rfl 40 (.tmp 10) rfl g (k * 20) rfl (pcV p X).toList _ (fun j v hv => HPk.out j v (by simpa using hv)) Tryd.underlying40 rfl piece_size ?_
      refine wpList_plain rfl fun K hK => ?_
      have HK := hid hK
      clear hK
      go_wp2_with fail
      refine HK.out _ _ ?_
      clear HK
      have hG := Blk.new wr pc0 40
      refine wpList_store_rowTo rfl 40 _ _ rfl rfl wr.heap.size (pcV p X) rfl rfl 40 pc0 hG piece_size rfl (pcV_one _ _) ?_
      have hG2 := hG.setRow (pcV p X)
      have b3 : Below wr.heap.size wr ((wr.alloc (.cells pc0 40)).setRow wr.heap.size (pcV p X)) := below_setRow ((Below.refl _ _).alloc (Nat.le_refl _) _) wr.heap.size (Nat.le_refl _) (pcV p X)
      obtain ⟨W2, hW2⟩ : ∃ W2, (wr.alloc (.cells pc0 40)).setRow wr.heap.size (pcV p X) = W2 := ⟨_, rfl⟩
      rw [hW2] at hG2 b3 ⊢
      obtain ⟨G, hGG⟩ : ∃ G, wr.heap.size = G := ⟨_, rfl⟩
      rw [hGG] at hG2 ⊢
      have c1 : W2.cell? ⟨G, 1, none⟩ = some (.string X) := hG2.cell 1
      have IB := hid (builder_below hrel.out.1 b3)
      have BB := hid (hrel.out.2.trans (b3.mono (KS.out _ hrel.out.2)))
      have hXl : X.data.toList = p.text := by rw [← HX.out.2]
      have hle := textsL_le (L := L) (k := k + 1)
      rw [textsL_take HX.out.1, List.length_append] at hle
      have hlen : (Lib.byteCells (textsL (L.take k))).length + X.size ≤ 140737488355328 := by
        have h1 := HH.out.2.2.2
        rw [Lib.byteCells_length, Utf.size_eq, hXl]; omega
      have WS := hid (Tryd.Builder_WriteString_f B B _ X W2 IB.out hlen (KS.out _ BB.out))
      have HXL := hid hXl
      clear hG hG2 hW2 hGG b3 IB hlen hle hXl
      refine wpList_nil ?_
      go_wp2_with fail
      refine WS.out.mono ?_
      rintro e W3 ⟨rfl, q1, q2⟩
      have R1 : Hid (Lib.IsBuilderF 60 5 B B (Lib.byteCells (textsL (L.take (k + 1)))) W3 ∧ Below B w W3) := by
        refine ⟨Or.inr ?_, BB.out.trans q2⟩
        rw [textsL_take HX.out.1, Lib.byteCells_append, ← HXL.out]
        exact q1
      clear q1 q2 WS
      go_wp2_with fail
      go_roundw
      case rel => exact ⟨k + 1, by go_num, hkN, R1.out⟩
      case measure => simp [intOf]; omega
    · have hkN' : k = N := by omega
      subst hkN'
      have BS := hid (Tryd.Builder_String_any_f B B _ wr hrel.out.1 (KS.out _ hrel.out.2))
      go_wp2_with fail
      refine BS.out.mono ?_
      rintro e W3 ⟨rfl, q1, q2⟩
      have BB := hid (hrel.out.2.trans q2)
      clear q1 q2 BS
      go_wp2_with fail
      go_ret
      exact ⟨ret_str (by rw [List.take_of_length_le (by rw [HH.out.1]; exact Nat.le_refl _)]), BB.out⟩

set_option maxRecDepth 100000 in
theorem text_none (A : Option Addr) (c : Nat) (w : World) : Calls Tryd.prog 17 #[.slice A 0 c] w fun e w' => e = .returned (.string (txt [])) ∧ Below w.heap.size w w' := by
  have F0 : Lib.IsBuilderF 60 5 w.heap.size w.heap.size (Lib.byteCells []) (w.alloc (.cells #[.pointer none, .slice none 0 0] 60)) := Lib.IsBuilderF.of (Lib.fresh_isBuilder _ _ w)
  have B0 : Below w.heap.size w (w.alloc (.cells #[.pointer none, .slice none 0 0] 60)) := (Below.refl _ _).alloc (Nat.le_refl _) _
  have BS := hid (Tryd.Builder_String_any_f w.heap.size w.heap.size [] _ F0 B0.size)
  have HB := hid B0
  clear F0 B0
  go_enter Tryd.func17, Tryd.ntmps17
  go_wp2_with fail
  refine wp_loop_rounds 1 ?_
  rw [rounds_succ]
  go_wp2_with fail
  refine BS.out.mono ?_
  rintro e W3 ⟨rfl, q1, q2⟩
  have BB := hid (HB.out.trans q2)
  clear q1 q2 BS
  go_wp2_with fail
  go_ret
  exact ⟨rfl, BB.out⟩
end Go.Proofs.YtmfhoindfhmncaaDoor
