/-
  Walks of layer 3: a code point in quotes.
-/
import Derived.Test.YtfbekjgbijlcaaaDoorQ3
namespace Go.Proofs.YtfbekjgbijlcaaaDoor
open Go.RowKit Go.Proofs

/-- A row of bytes that the call owns, read as a text. -/
theorem conv_own {w : World} {B n : Nat} {v : Value} {l : List UInt8} (h : w.ownsRow B 5 1 v n (bc l)) : (convert 44 9 v).run Tryd.prog w = .ok (.string ⟨l.toArray⟩) w := by
  have hl : (bc l).length = n * 1 := h.1
  rw [bc_length, Nat.mul_one] at hl
  have hs : ∀ xs : List Int, xs = l.map (fun b => (b.toNat : Int)) → strOfNums xs = ⟨l.toArray⟩ := by
    intro xs hx
    refine bytes_ext ?_
    rw [strOfNums_data, hx, List.map_map]
    show List.map _ l = l
    conv => rhs; rw [← List.map_id l]
    refine List.map_congr_left fun b _ => ?_
    show UInt8.ofNat ((b.toNat : Int)).toNat = b
    rw [Int.toNat_natCast]
    exact UInt8.ofNat_toNat
  rcases h.2 with ⟨h1, h2⟩ | ⟨g, cap, cur, h1, h2, h3, h4, h5, h6, h7⟩
  · have : l = [] := List.eq_nil_of_length_eq_zero (by omega)
    subst this
    rw [h1]
    exact run_convert_bytes_nil w 44 5 Tryd.underlying44 Tryd.underlying5 0 0 9 Tryd.underlying9
  · rw [h1, ← hs _ rfl]
    refine run_convert_bytes_arg w 44 5 Tryd.underlying44 Tryd.underlying5 g 0 n cap (l.map (fun b => (b.toNat : Int))) (by rw [List.length_map, hl]) (fun i hi => ?_) 9 Tryd.underlying9
    rw [Nat.zero_add, cell_of_row w g i cur 5 (0, 0) h3, ← Array.getElem?_toList]
    have e : (cur.toList.take (n * 1))[i]? = (bc l)[i]? := by rw [h7]
    rw [List.getElem?_take, if_pos (by omega)] at e
    rw [e]
    unfold bc
    rw [List.getElem?_map, List.getElem?_eq_getElem (by omega), List.getD_eq_getElem?_getD, List.getElem?_map, List.getElem?_eq_getElem (by omega)]
    rfl
theorem own_one (w : World) (x : UInt8) : (w.alloc (.cells #[.int .u8 x.toNat] 5)).ownsRow w.heap.size 5 1 (.slice (some ⟨w.heap.size, 0, none⟩) 1 1) 1 (bc [x]) :=
  ⟨rfl, Or.inr ⟨w.heap.size, 1, _, rfl, Nat.le_refl _, heap_alloc_new w _, Nat.le_refl _, by unfold maxLen; omega, rfl, rfl⟩⟩

theorem validRune_eq (r : Int) : Lib.validRune r = Utf8.valid r := by
  rw [Bool.eq_iff_iff, Utf.valid_iff]
  unfold Lib.validRune
  simp
  omega
set_option maxRecDepth 100000 in
set_option maxHeartbeats 1000000 in
theorem char_any (c : Int) (ascii : Bool) (w : World) (hc0 : -2147483648 ≤ c) (hc1 : c ≤ 2147483647) :
    Calls Tryd.prog 22 #[.int .i32 c, .bool ascii] w fun e w' => e = .returned (.string ⟨(IP.charL c ascii).toArray⟩) ∧ Below w.heap.size w w' := by
  obtain ⟨cp, hcp⟩ : ∃ cp : Int, (Utf.cp c : Int) = cp := ⟨_, rfl⟩
  have hb := Utf.cp_bound c
  have hcp0 : 0 ≤ cp ∧ cp ≤ 1114111 := by omega
  obtain ⟨hcp0, hcp1⟩ := hcp0
  have VR := hid (fun W => Tryd.utf8_ValidRune c W)
  rw [validRune_eq] at VR
  have hch : IP.charL c ascii = 39 :: (IP.inL cp 39 ascii ++ [39]) := by unfold IP.charL; rw [hcp]
  rw [hch]
  have hlen := IP.inL_len cp 39 ascii
  obtain ⟨L, hL⟩ : ∃ L, IP.inL cp 39 ascii = L := ⟨_, rfl⟩
  rw [hL] at hlen ⊢
  have O1 := own_one w 39
  have PT := hid (put_any w.heap.size _ 1 _ cp 39 ascii _ O1 (by simp) (by decide) hcp0 hcp1 (by decide) (by decide))
  rw [hL] at PT
  have hfin : cp = if Utf8.valid c then c else 65533 := by
    cases hv : Utf8.valid c
    · rw [← hcp]; unfold Utf.cp; rw [hv]; rfl
    · rw [← hcp, Utf.cp_of_valid hv]; rfl
  clear hch hL O1 hb hcp
  cases hv : Utf8.valid c
  all_goals
    rw [hv] at hfin VR
    simp only [if_true, Bool.false_eq_true, if_false] at hfin
    subst hfin
    clear hv
    go_enter Tryd.func22, Tryd.ntmps22
    go_wp2_with fail
    refine (VR.out _).mono ?_
    rintro e w' ⟨rfl, rfl⟩
    go_upto_region 3 with fail
    refine wp_region_list ?_
    refine wpList_plain rfl fun K hK => ?_
    have HK := hid hK
    clear hK
    go_wp2_with fail
    refine HK.out _ _ ?_
    clear HK
    refine wpList_plain rfl fun K hK => ?_
    have HK := hid hK
    clear hK
    go_wp2_with fail
    refine HK.out _ _ ?_
    clear HK
    refine wpList_plain rfl fun K hK => ?_
    have HK := hid hK
    clear hK
    go_wp2_with fail
    refine HK.out _ _ ?_
    clear HK
    refine wpList_plain rfl fun K hK => ?_
    have HK := hid hK
    clear hK
    go_wp2_with fail
    refine PT.out.mono ?_
    rintro e w1 ⟨v1, rfl, ho1, hb1⟩
    refine HK.out _ _ ?_
    clear HK
    have B1 := hid (((Below.refl w'.heap.size w').alloc (Nat.le_refl _) _).trans hb1.below)
    refine wpList_bytes rfl rfl 1 _ (.tmp 11) 12 rfl rfl rfl [39] rfl (by decide) (by decide) (by kernel_rfl) w'.heap.size v1 _ _ _ rfl rfl rfl ho1 B1.out.size (by omega) ?_
    intro v2 w2 ho2 hb2
    have cv := conv_own (l := 39 :: (L ++ [39])) (by
      have e : bc (39 :: (L ++ [39])) = bc [39] ++ bc L ++ bc [39] := by simp [bc]
      rw [e]; exact ho2)
    have B2 := hid (B1.out.trans hb2.below)
    clear ho1 hb1 ho2 hb2
    go_wp2_with fail
    go_ret
    exact ⟨rfl, B2.out⟩
end Go.Proofs.YtfbekjgbijlcaaaDoor
