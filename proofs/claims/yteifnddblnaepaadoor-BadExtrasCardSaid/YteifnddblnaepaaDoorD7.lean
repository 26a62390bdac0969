/-
  Walks of layer 10: at most 40 texts of a list that is anywhere in the memory.
-/
import Derived.Test.YteifnddblnaepaaDoorD6
namespace Go.Proofs.YteifnddblnaepaaDoor
open Go.RowKit Go.Proofs

/-- A list of texts, as a slice of the memory, from any place on. -/
def SLo (w : World) (v : Value) (xs : List ByteArray) : Prop :=
  ∃ p c, v = .slice p xs.length c ∧ (∀ (j : Nat) (x : ByteArray), xs[j]? = some x → ∃ g off, p = some ⟨g, off, none⟩ ∧ g < w.heap.size ∧ w.cell? ⟨g, off + j, none⟩ = some (.string x))
theorem SLo.below {w w' : World} {v : Value} {xs : List ByteArray} (h : SLo w v xs) (hb : Below w.heap.size w w') : SLo w' v xs := by
  obtain ⟨p, c, h1, h3⟩ := h
  refine ⟨p, c, h1, fun j x hx => ?_⟩
  obtain ⟨g, off, e1, e2, e3⟩ := h3 j x hx
  exact ⟨g, off, e1, Nat.lt_of_lt_of_le e2 hb.size, (hb.cell (p := ⟨g, off + j, none⟩) e2).trans e3⟩
set_option maxRecDepth 100000 in
set_option maxHeartbeats 1000000 in
theorem fewO_any (xs : List ByteArray) (v : Value) (w : World) (hv : SLo w v xs) (hl : xs.length ≤ 9223372036854775807) :
    Calls Tryd.prog 10 #[v] w fun e w' => ∃ v', e = .returned v' ∧ SL w' v' (fewL xs) ∧ Below w.heap.size w w' := by
  obtain ⟨p, c, rfl, hcell⟩ := hv
  have HC := hid hcell
  obtain ⟨n, hn⟩ : ∃ n, xs.length = n := ⟨_, rfl⟩
  rw [hn] at hl ⊢
  have HN := hid hn
  have LC := hid (fun s W => lcut_any s W)
  have H0 := hid (show FwI w xs w (.slice none 0 0) 0 from ⟨World.ownsRow_nil _ _ _ _, Below.refl _ _⟩)
  clear hcell hn
  go_enter Tryd.func10, Tryd.ntmps10
  go_wp2_with fail
  go_loopw [3, 4] (fun ov iv wr => ∃ i : Nat, iv = .int .i64 i ∧ i ≤ n ∧ i ≤ 40 ∧ Hid (FwI w xs wr ov i)) (fun _ iv _ => 40 - (intOf iv).toNat)
  case atStart => exact ⟨0, rfl, Nat.zero_le _, by decide, H0.out⟩
  case round =>
    obtain ⟨i, rfl, hi, hi4, hI⟩ := hrel
    by_cases hlt : i < n
    · by_cases h4 : i < 40
      · obtain ⟨x, hx⟩ : ∃ x, xs[i]? = some x := ⟨_, List.getElem?_eq_getElem (by rw [HN.out]; exact hlt)⟩
        obtain ⟨g, off, rfl, hg, hcc⟩ := HC.out i x hx
        have hcr := (hI.out.below.cell (p := ⟨g, off + i, none⟩) hg).trans hcc
        have HX := hid hx
        clear hx hcc
        go_upto_region 5 with fail
        refine wp_region_list ?_
        iterate 6
          refine wpList_plain rfl fun K hK => ?_
          have HK := hid hK
          clear hK
          go_wp2_with ((refine (LC.out _ _).mono ?_); rintro e w' ⟨rfl, rfl⟩)
          refine HK.out _ _ ?_
          clear HK
        refine wpList_puts rfl rfl (.tmp 20) (.tmp 15) 21 rfl rfl rfl _ rfl w.heap.size _ _ _ _ rfl rfl rfl hI.out.own hI.out.below.size (by omega) ?_
        intro v1 w1 ho1 hb1
        have N := hid (hI.out.step HX.out ho1 hb1)
        clear ho1 hb1 hcr
        go_wp2_with fail
        go_roundw
        case rel => exact ⟨i + 1, by go_num, by omega, by omega, N.out⟩
        case measure => simp [intOf]; omega
      · have hi40 : i = 40 := by omega
        have hr : (xs.take i).map (fun x => x.extract 0 1000) = fewL xs := by rw [hi40]; rfl
        have own := hI.out.own
        rw [hr] at own
        have R := hid (own_SL own)
        clear own hr
        go_wp2_with fail
        go_ret
        exact ⟨_, rfl, R.out, hI.out.below⟩
    · have hr : (xs.take i).map (fun x => x.extract 0 1000) = fewL xs := by
        unfold fewL
        rw [List.take_of_length_le (by rw [HN.out]; omega), List.take_of_length_le (by rw [HN.out]; omega)]
      have own := hI.out.own
      rw [hr] at own
      have R := hid (own_SL own)
      clear own hr
      go_wp2_with fail
      go_ret
      exact ⟨_, rfl, R.out, hI.out.below⟩
end Go.Proofs.YteifnddblnaepaaDoor
