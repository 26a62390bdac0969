/-
  The law ParseLits, walked.
-/
import Derived.Test.YtmfhoindfhmncaaDoorPD
import Derived.Test.YtmfhoindfhmncaaDoorPE
import Derived.Deep.CutBlock
namespace Go.Proofs.YtmfhoindfhmncaaDoor
open Go.RowKit Go.Proofs

theorem parseL_lits (l : List UInt8) (h : ∀ a ∈ l, PP.notPct a = true) (hne : l ≠ []) : PP.parseL l = [PP.litP l] := by
  cases l with
  | nil => exact absurd rfl hne
  | cons a r =>
    have ha : ¬ a.toNat = 37 := by
      have := h a List.mem_cons_self
      simpa [PP.notPct] using this
    have h1 : ∀ l : List UInt8, (∀ a ∈ l, PP.notPct a = true) → l.takeWhile PP.notPct = l ∧ l.dropWhile PP.notPct = [] := by
      intro l
      induction l with
      | nil => intro _; exact ⟨rfl, rfl⟩
      | cons b t ih =>
        intro h
        have hb := h b List.mem_cons_self
        have := ih (fun a ha => h a (List.mem_cons_of_mem _ ha))
        rw [List.takeWhile_cons, List.dropWhile_cons, if_pos hb, if_pos hb, this.1, this.2]
        exact ⟨rfl, rfl⟩
    rw [PP.parseL_lit ha, (h1 _ h).1, (h1 _ h).2, PP.parseL_nil]
theorem filter_step {l : List UInt8} {k : Nat} (h : k < l.length) : (l.take (k + 1)).filter PP.notPct = (l.take k).filter PP.notPct ++ (if ((l[k]?.getD 0).toNat : Int) = 37 then [] else [l[k]?.getD 0]) := by
  rw [List.take_add_one, List.filter_append, List.getElem?_eq_getElem h]
  simp only [Option.toList_some, Option.getD_some]
  by_cases e : l[k].toNat = 37
  · rw [if_pos (by omega)]
    simp [PP.notPct, e]
  · rw [if_neg (by omega)]
    simp [PP.notPct, e]

set_option maxRecDepth 100000 in
set_option maxHeartbeats 4000000 in
theorem parseLits_law (s : ByteArray) (w : World) (hT : Tabs w) (hs : s.size ≤ 140737488355328) :
    Calls Tryd.prog 4 #[.string s] w fun e w' => e = .returned (.bool true) ∧ Below w.heap.size w w' := by
  have CU := hid (cut_any s w hs)
  obtain ⟨c, hc⟩ : ∃ c, s.extract 0 2000 = c := ⟨_, rfl⟩
  have hcs : c.size ≤ 2000 := by rw [← hc, ByteArray.size_extract]; omega
  rw [hc] at CU
  clear hc
  go_enter Tryd.func4, Tryd.ntmps4
  go_wp2_with fail
  refine CU.out.mono ?_
  rintro e w' ⟨rfl, rfl⟩
  go_wp2_with fail
  go_loopw [3, 4] (fun tv kv wr => ∃ (t : ByteArray) (k : Nat), tv = .string t ∧ kv = .int .i64 k ∧ k ≤ c.size ∧ t.size ≤ k ∧ wr = w' ∧ Hid (t.data.toList = (c.data.toList.take k).filter PP.notPct)) (fun _ kv _ => c.size - (match kv with | .int _ k => k.toNat | _ => 0))
  case atStart => exact ⟨⟨#[]⟩, 0, rfl, rfl, Nat.zero_le _, Nat.le_refl _, rfl, rfl⟩
  case round =>
    obtain ⟨t, k, rfl, rfl, hk, htk, rfl, ht⟩ := hrel
    by_cases hp : k < c.size
    · have E0 := bt_at c k hp
      have hst := filter_step (l := c.data.toList) (k := k) (by rw [← Utf.size_eq]; exact hp)
      change _ = _ ++ (if bt c k = 37 then [] else _) at hst
      obtain ⟨b, hb⟩ : ∃ b, bt c k = b := ⟨_, rfl⟩
      obtain ⟨d, hd⟩ : ∃ d, c.extract k (k + 1) = d := ⟨_, rfl⟩
      have hdl : Hid (d.data.toList = [c.data.toList[k]?.getD 0]) := by
        rw [← hd, Lib.extract_data]
        have : k < c.data.toList.length := by rw [← Utf.size_eq]; exact hp
        unfold Hid
        rw [List.drop_eq_getElem_cons this, List.getElem?_eq_getElem this, show k + 1 - k = 1 by omega]
        rfl
      have hds : d.size = 1 := by rw [size_list hdl.out]; rfl
      have hsum : t.size + d.size ≤ 3000 := by omega
      rw [hb] at E0 hst
      have HST := hid hst
      clear hst hb
      by_cases h37 : b = 37
      · go_wp2_with fail
        go_roundw
        case rel => exact ⟨t, k + 1, rfl, by go_num, hp, by omega, by first | trivial | rfl, by unfold Hid; rw [HST.out, if_pos h37, List.append_nil]; exact ht.out⟩
        case measure => go_num
      · go_wp2_with fail
        go_roundw
        case rel => exact ⟨t ++ d, k + 1, rfl, by go_num, hp, by rw [ByteArray.size_append]; omega, by first | trivial | rfl, by unfold Hid; rw [HST.out, if_neg h37, ByteArray.data_append, Array.toList_append, ht.out, hdl.out]⟩
        case measure => go_num
    · have hkc : k = c.size := by omega
      have hno : ∀ a ∈ t.data.toList, PP.notPct a = true := by
        rw [ht.out]
        intro a ha
        exact (List.mem_filter.mp ha).2
      have HNO := hid hno
      clear hno
      have hts : t.size ≤ 2000 := by omega
      have PA := hid (fun W hT => parse_any t W (by omega) hT)
      clear ht
      by_cases he : 0 < t.size
      · have hie := isE_pos he
        have hne : t.data.toList ≠ [] := by
          intro e
          rw [Utf.size_eq, e] at he
          exact absurd he (Nat.lt_irrefl 0)
        have PA := hid (PA.out wr hT)
        rw [parseL_lits _ HNO.out hne, cellsL_one] at PA
        have HTX : Hid (txt t.data.toList = t) := txt_eq rfl
        have LV := hid (fun W hT => lives_any W hT)
        go_wp2_with fail
        refine PA.out.mono ?_
        rintro e W1 ⟨v1, rfl, o1, b1⟩
        obtain ⟨g1, c1, rfl, q1, q2, q3, q4, q5⟩ := own_open o1 (by simp)
        have htx : txt (PP.litP t.data.toList).text = t := txt_eq rfl
        rw [htx] at q5
        have Q5 := hid q5
        have BB := hid b1
        have HT1 := hid (hT.below b1)
        clear q5 o1 b1
        go_upto_region 11 with fail
        refine wp_region_list ?_
        refine wpList_plain rfl fun K hK => ?_
        have HK := hid hK
        clear hK
        go_wp2_with fail
        refine HK.out _ _ ?_
        clear HK
        refine wpList_plain rfl fun K hK => ?_
        have HK := hid hK
        clear hK
        go_wp2_with fail
        refine HK.out _ _ ?_
        clear HK
        refine wpList_plain rfl fun K hK => ?_
        have HK := hid hK
        clear hK
        go_wp2_with fail
        refine HK.out _ _ ?_
        clear HK
        refine wpList_plain rfl fun K hK => ?_
        have HK := hid hK
        clear hK
        go_wp2_with fail
        refine HK.out _ _ ?_
        clear HK
        refine wpList_step fun K hK => ?_
        rw [if_pos (by rfl)]
        have HK := hid hK
        clear hK
        go_wp2_with fail
        refine HK.out _ _ ?_
        clear HK
        refine wpList_step fun K hK => ?_
        rw [if_pos (by rfl)]
        have HK := hid hK
        clear hK
        go_wp2_with fail
        refine HK.out _ _ ?_
        clear HK
        refine wpList_wantLoad (by rfl) 40 (.tmp 40) rfl g1 0 rfl (pcV (PP.litP []) t) _ (fun j v hv => by rw [Nat.zero_add]; exact Q5.out j v hv) Tryd.underlying40 rfl piece_size ?_
        refine wpList_step fun K hK => ?_
        rw [if_pos (by rfl)]
        have HK := hid hK
        clear hK
        go_wp2_with fail
        refine HK.out _ _ ?_
        clear HK
        refine wpList_wantBuild (by rfl) 40 _ rfl (pcV (PP.litP []) t) (by kernel_rfl) ?_
        refine wpList_wantEql (by rfl) (.tmp 41) (.tmp 43) 40 rfl (PP.litP []) t rfl rfl ?_
        go_wp2_with fail
        refine (LV.out _ HT1.out).mono ?_
        rintro e W3 ⟨rfl, b3⟩
        go_wp2_with fail
        go_ret
        exact ⟨rfl, BB.out.trans (b3.mono BB.out.size)⟩
      · have hie := isE_zero he
        have h0 : t.data.toList = [] := List.eq_nil_of_length_eq_zero (by rw [← Utf.size_eq]; omega)
        have PA := hid (PA.out wr hT)
        rw [h0, PP.parseL_nil] at PA
        have LV := hid (fun W hT => lives_any W hT)
        clear h0
        go_wp2_with fail
        refine PA.out.mono ?_
        rintro e W1 ⟨v1, rfl, o1, b1⟩
        have hv : ∃ A cap, v1 = .slice A 0 cap := by
          rcases o1.2 with h | ⟨g, cap, cur, h1, _⟩
          · exact ⟨none, 0, h.1⟩
          · exact ⟨_, cap, h1⟩
        obtain ⟨A, cap, rfl⟩ := hv
        have BB := hid b1
        have HT1 := hid (hT.below b1)
        clear o1 b1
        go_wp2_with fail
        refine (LV.out _ HT1.out).mono ?_
        rintro e W3 ⟨rfl, b3⟩
        go_wp2_with fail
        go_ret
        exact ⟨rfl, BB.out.trans (b3.mono BB.out.size)⟩
end Go.Proofs.YtmfhoindfhmncaaDoor
