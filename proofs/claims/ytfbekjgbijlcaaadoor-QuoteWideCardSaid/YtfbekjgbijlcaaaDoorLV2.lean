/-
  Walks of layer 2: the document's examples; what the laws cut.
-/
import Derived.Test.YtfbekjgbijlcaaaDoorQTx
import Derived.Test.YtfbekjgbijlcaaaDoorQV
namespace Go.Proofs.YtfbekjgbijlcaaaDoor
open Go.RowKit Go.Proofs

theorem pad_off (t : ByteArray) (mi ze : Bool) : padS t mi ze (-1) = t := by
  unfold padS
  rw [if_pos (by omega)]
theorem quote_e9 : IP.quoteL true [195, 169] = [34, 92, 117, 48, 48, 101, 57, 34] := by
  unfold IP.quoteL
  rw [IP.runsQ_cons _ _ (by decide), show IP.stepQ true [195, 169] = [92, 117, 48, 48, 101, 57] by decide, show List.drop (Utf.decL [195, 169]).2 ([195, 169] : List UInt8) = [] by decide, IP.runsQ_nil]
  rfl
theorem quote_ff : IP.quoteL false [255] = [34, 92, 120, 102, 102, 34] := by
  unfold IP.quoteL
  rw [IP.runsQ_cons _ _ (by decide), show IP.stepQ false [255] = [92, 120, 102, 102] by decide, show List.drop (Utf.decL [255]).2 ([255] : List UInt8) = [] by decide, IP.runsQ_nil]
  rfl
theorem quote_a (b : Bool) : IP.quoteL b [97] = [34, 97, 34] := by
  unfold IP.quoteL
  rw [IP.runsQ_cons _ _ (by decide), show IP.stepQ b [97] = [97] by cases b <;> decide, show List.drop (Utf.decL [97]).2 ([97] : List UInt8) = [] by decide, IP.runsQ_nil]
  rfl
theorem unq_x61 : IP.unqP c4 [34, 92, 120, 54, 49, 34] = none := by
  rw [IP.unq_eq c4 c4_small]
  unfold IP.unqR
  rw [if_neg (by decide), show IP.readN IP.oneR (IP.midL [34, 92, 120, 54, 49, 34]).length (IP.midL [34, 92, 120, 54, 49, 34]) = some [97] by decide, Option.bind_some, if_neg]
  unfold IP.isQ
  rw [quote_a, quote_a]
  decide
theorem hex_ab : IP.hexS true true (-1) 120 [97, 98] = [48, 120, 54, 49, 32, 48, 120, 54, 50] := by decide
theorem text_e9 : textS true false false false false (-1) (-1) 113 ⟨#[195, 169]⟩ = some ⟨#[34, 92, 117, 48, 48, 101, 57, 34]⟩ := by
  unfold textS
  rw [if_neg (by decide), if_neg (by decide), if_pos rfl, pad_off]
  congr 1
  show (⟨(IP.quoteL true [195, 169]).toArray⟩ : ByteArray) = _
  rw [quote_e9]

set_option maxRecDepth 100000 in
set_option maxHeartbeats 2000000 in
theorem lives_any (w : World) (hT : Tabs w) : Calls Tryd.prog 14 #[] w fun e w' => e = .returned (.bool true) ∧ Below w.heap.size w w' := by
  have TX := hid (text_any ⟨#[195, 169]⟩ true false false false false (-1) (-1) 113 w hT (by decide) (by decide) (by decide) (by decide) (by decide))
  rw [text_e9] at TX
  have UQ := hid (fun W hT => unquote_any ⟨#[34, 92, 120, 54, 49, 34]⟩ W hT (by decide))
  have e1 : IP.unqP c4 (⟨#[34, 92, 120, 54, 49, 34]⟩ : ByteArray).data.toList = none := unq_x61
  rw [e1] at UQ
  have QU := hid (fun W hT => quote_any ⟨#[255]⟩ false W hT (by decide))
  have e2 : IP.quoteL false (⟨#[255]⟩ : ByteArray).data.toList = [34, 92, 120, 102, 102, 34] := quote_ff
  rw [e2] at QU
  have HX := hid (fun W => hex_any ⟨#[97, 98]⟩ false false true true false (-1) (-1) 120 W (by decide) (by decide) (by decide))
  have e3 : IP.hexS true true (-1) 120 (⟨#[97, 98]⟩ : ByteArray).data.toList = [48, 120, 54, 49, 32, 48, 120, 54, 50] := hex_ab
  rw [e3, pad_off] at HX
  simp only [tupB, uqT] at TX UQ
  have HT := hid hT
  clear e1 e2 e3 hT
  go_enter Tryd.func14, Tryd.ntmps14
  go_wp2_with fail
  refine TX.out.mono ?_
  rintro e w1 ⟨rfl, b1⟩
  have B1 := hid b1
  clear b1
  go_wp2_with fail
  refine (UQ.out _ (HT.out.below B1.out)).mono ?_
  rintro e w2 ⟨rfl, b2⟩
  have B2 := hid (B1.out.trans (b2.mono B1.out.size))
  clear b2
  go_wp2_with fail
  refine (QU.out _ (HT.out.below B2.out)).mono ?_
  rintro e w3 ⟨rfl, b3⟩
  have B3 := hid (B2.out.trans (b3.mono B2.out.size))
  clear b3
  go_wp2_with fail
  refine (HX.out _).mono ?_
  rintro e w4 ⟨rfl, b4⟩
  have B4 := hid (B3.out.trans (b4.mono B3.out.size))
  clear b4
  go_wp2_with fail
  go_ret
  exact ⟨rfl, B4.out⟩
/-- The law's cut: at most 1000 bytes. -/
theorem lcut_any (s : ByteArray) (w : World) (hs : s.size ≤ 140737488355328) : Calls Tryd.prog 11 #[.string s] w fun e w' => e = .returned (.string (s.extract 0 1000)) ∧ w = w' := by
  by_cases h : 1000 < s.size
  · obtain ⟨d, hd⟩ : ∃ d, s.extract 0 1000 = d := ⟨_, rfl⟩
    rw [hd]
    go_enter Tryd.func11, Tryd.ntmps11
    go_wp2_with fail
    go_ret
    exact ⟨rfl, rfl⟩
  · have hd : s.extract 0 1000 = s := bytes_ext (by rw [Lib.extract_data, List.drop_zero, List.take_of_length_le (by rw [← Utf.size_eq]; omega)])
    rw [hd]
    go_enter Tryd.func11, Tryd.ntmps11
    go_wp2_with fail
    go_ret
    exact ⟨rfl, rfl⟩
theorem lcut_size (s : ByteArray) : (s.extract 0 1000).size ≤ 1000 := by rw [ByteArray.size_extract]; omega
end Go.Proofs.YtfbekjgbijlcaaaDoor
