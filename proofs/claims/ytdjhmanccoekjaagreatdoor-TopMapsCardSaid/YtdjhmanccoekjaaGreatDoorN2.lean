/-
  Texts of this claim, joined: Q3, Q4, QQ, QR.
-/
import Derived.Lib.RuneBytes
import Derived.Test.YtdjhmanccoekjaaGreatDoorN1

section
namespace Go.Proofs.YtdjhmanccoekjaaGreatDoor
open Go.RowKit Go.Proofs

theorem bc_nums (L : List Int) (h : ∀ x ∈ L, 0 ≤ x ∧ x < 256) : bc (strOfNums L).data.toList = L.map fun x => Value.int .u8 x := by
  rw [strOfNums_data]
  unfold bc
  rw [List.map_map]
  refine List.map_congr_left fun x hx => ?_
  have := h x hx
  show Value.int .u8 ((UInt8.ofNat x.toNat).toNat : Int) = _
  rw [Utf.toNat_ofNat (by omega)]
  congr 1
  omega
theorem runeCells_bc (c : Int) : Lib.runeCells c = bc (Utf.encL c) := by
  have key : (Utf8.encode c) = strOfNums (Lib.encodeRuneZ c) := by
    cases hv : Utf8.valid c
    · have h : ¬ ((0 ≤ c ∧ c < 55296) ∨ (57344 ≤ c ∧ c ≤ 1114111)) := by
        intro h
        rw [(Utf.valid_iff c).2 h] at hv
        cases hv
      rw [Lib.encodeRuneZ_bad (by omega)]
      exact enc_bad hv
    · have hr := (Utf.valid_iff c).1 hv
      rcases (show c < 128 ∨ (128 ≤ c ∧ c < 2048) ∨ (2048 ≤ c ∧ c < 65536) ∨ 65536 ≤ c by omega) with a | ⟨a, b⟩ | ⟨a, b⟩ | a
      · rw [Lib.encodeRuneZ_one (by omega) (by omega)]; exact enc_one (by omega) a
      · rw [Lib.encodeRuneZ_two a (by omega)]; exact enc_two a b
      · rw [Lib.encodeRuneZ_three (by omega)]; exact enc_three hv a b
      · rw [Lib.encodeRuneZ_four a (by omega)]; exact enc_four hv a
  unfold Utf.encL
  rw [key, bc_nums _ (Lib.encodeRuneZ_byte c)]
  rfl
theorem append_rune (B : Nat) (v : Value) (n : Nat) (xs : List Value) (c : Int) (w : World) (hown : w.ownsRow B 5 1 v n xs) (hB : B ≤ w.heap.size) (hn : n ≤ 100000) (hc0 : 0 ≤ c) (hc1 : c ≤ 2147483647) :
    Calls Tryz.prog 164 #[v, .int .i32 c] w fun e w' => ∃ v', e = .returned v' ∧ w'.ownsRow B 5 1 v' (n + (Utf.encL c).length) (xs ++ bc (Utf.encL c)) ∧ KB B w w' := by
  refine (Tryz.utf8_AppendRune_plain B v n xs c (by omega) hc1 w hown (by omega) hB).mono ?_
  rintro e w' ⟨v', rfl, ho, o, hg⟩
  rw [runeCells_bc, bc_length] at ho
  exact ⟨v', rfl, ho, own_grown hown ((Below.refl B w).alloc hB o) (by simp; omega) hg, ((Lib.OthersKept.refl _ none w).alloc o).grown hg (own_cells (hown.alloc o))⟩

set_option maxRecDepth 100000 in
set_option maxHeartbeats 1000000 in
theorem put_any (B : Nat) (v : Value) (n : Nat) (xs : List Value) (c q : Int) (ascii : Bool) (w : World) (hown : w.ownsRow B 5 1 v n xs) (hB : B ≤ w.heap.size) (hn : n ≤ 40000) (hc0 : 0 ≤ c) (hc1 : c ≤ 1114111) (hq0 : 0 ≤ q) (hq1 : q ≤ 127) :
    Calls Tryz.prog 138 #[v, .int .i32 c, .int .i32 q, .bool ascii] w fun e w' => ∃ v', e = .returned v' ∧ w'.ownsRow B 5 1 v' (n + (IP.inL c q ascii).length) (xs ++ bc (IP.inL c q ascii)) ∧ KB B w w' := by
  have HO := hid hown
  clear hown
  by_cases h1 : c = q ∨ c = 92
  · have hi : IP.inL c q ascii = [92, UInt8.ofNat c.toNat] := by unfold IP.inL; rw [if_pos h1]
    have hcb : c ≤ 127 := by omega
    have hcu : ((UInt8.ofNat c.toNat).toNat : Int) = c := by rw [Utf.toNat_ofNat (by omega)]; omega
    rw [hi]
    obtain ⟨y, hy⟩ : ∃ y, UInt8.ofNat c.toNat = y := ⟨_, rfl⟩
    rw [hy] at hcu ⊢
    have HY := hid hcu
    clear hi hy hcu
    have hdec : (c = q) ∨ (¬ c = q ∧ c = 92) := by omega
    clear h1
    rcases hdec with rfl | ⟨hd, rfl⟩
    all_goals
    go_enter Tryz.func138, Tryz.ntmps138
    go_upto_region 2 with fail
    refine wp_region_list ?_
    refine wpList_plain rfl fun K hK => ?_
    have HK := hid hK
    clear hK
    go_wp2_with fail
    refine HK.out _ _ ?_
    clear HK
    refine wpList_plain rfl fun K hK => ?_
    have HK := hid hK
    clear hK
    go_wp2_with fail
    refine HK.out _ _ ?_
    clear HK
    refine wpList_plain rfl fun K hK => ?_
    have HK := hid hK
    clear hK
    go_wp2_with fail
    refine HK.out _ _ ?_
    clear HK
    refine wpList_bytes rfl rfl 2 _ (.tmp 17) 20 rfl rfl rfl [92, y] rfl (by decide) (by decide) (by rw [show bc [92, y] = [.int .u8 92, .int .u8 _] by simp only [bc, List.map_cons, List.map_nil, HY.out]; rfl]; kernel_rfl) B v n xs _ rfl rfl rfl HO.out hB (by omega) ?_
    intro v1 w1 ho1 hb1
    have R := hid (And.intro ho1 hb1)
    clear ho1 hb1
    go_wp2_with fail
    go_ret
    exact ⟨_, rfl, R.out⟩
  · have h1a : ¬ c = q := fun h => h1 (Or.inl h)
    have h1b : ¬ c = 92 := fun h => h1 (Or.inr h)
    have h1c : (c == q) = false := beq_eq_false_iff_ne.2 h1a
    have h1d : (c == 92) = false := beq_eq_false_iff_ne.2 h1b
    by_cases h2 : 7 ≤ c ∧ c ≤ 13
    · have hi : IP.inL c q ascii = [92, IP.letter (c - 7).toNat] := by unfold IP.inL; rw [if_neg h1, if_pos h2]
      rw [hi]
      clear hi h1
      rcases (show c = 7 ∨ c = 8 ∨ c = 9 ∨ c = 10 ∨ c = 11 ∨ c = 12 ∨ c = 13 by omega) with rfl | rfl | rfl | rfl | rfl | rfl | rfl
      · clear h2
        go_enter Tryz.func138, Tryz.ntmps138
        go_upto_region 4 with fail
        refine wp_region_list ?_
        refine wpList_plain rfl fun K hK => ?_
        have HK := hid hK
        clear hK
        go_wp2_with fail
        refine HK.out _ _ ?_
        clear HK
        refine wpList_plain rfl fun K hK => ?_
        have HK := hid hK
        clear hK
        go_wp2_with fail
        refine HK.out _ _ ?_
        clear HK
        refine wpList_plain rfl fun K hK => ?_
        have HK := hid hK
        clear hK
        go_wp2_with fail
        refine HK.out _ _ ?_
        clear HK
        refine wpList_plain rfl fun K hK => ?_
        have HK := hid hK
        clear hK
        go_wp2_with fail
        refine HK.out _ _ ?_
        clear HK
        refine wpList_bytes rfl rfl 2 _ (.tmp 29) 33 rfl rfl rfl [92, 97] rfl (by decide) (by decide) (by kernel_rfl) B v n xs _ rfl rfl rfl HO.out hB (by omega) ?_
        intro v1 w1 ho1 hb1
        have R := hid (And.intro ho1 hb1)
        clear ho1 hb1
        go_wp2_with fail
        go_ret
        exact ⟨_, rfl, R.out⟩
      · clear h2
        go_enter Tryz.func138, Tryz.ntmps138
        go_upto_region 4 with fail
        refine wp_region_list ?_
        refine wpList_plain rfl fun K hK => ?_
        have HK := hid hK
        clear hK
        go_wp2_with fail
        refine HK.out _ _ ?_
        clear HK
        refine wpList_plain rfl fun K hK => ?_
        have HK := hid hK
        clear hK
        go_wp2_with fail
        refine HK.out _ _ ?_
        clear HK
        refine wpList_plain rfl fun K hK => ?_
        have HK := hid hK
        clear hK
        go_wp2_with fail
        refine HK.out _ _ ?_
        clear HK
        refine wpList_plain rfl fun K hK => ?_
        have HK := hid hK
        clear hK
        go_wp2_with fail
        refine HK.out _ _ ?_
        clear HK
        refine wpList_bytes rfl rfl 2 _ (.tmp 29) 33 rfl rfl rfl [92, 98] rfl (by decide) (by decide) (by kernel_rfl) B v n xs _ rfl rfl rfl HO.out hB (by omega) ?_
        intro v1 w1 ho1 hb1
        have R := hid (And.intro ho1 hb1)
        clear ho1 hb1
        go_wp2_with fail
        go_ret
        exact ⟨_, rfl, R.out⟩
      · clear h2
        go_enter Tryz.func138, Tryz.ntmps138
        go_upto_region 4 with fail
        refine wp_region_list ?_
        refine wpList_plain rfl fun K hK => ?_
        have HK := hid hK
        clear hK
        go_wp2_with fail
        refine HK.out _ _ ?_
        clear HK
        refine wpList_plain rfl fun K hK => ?_
        have HK := hid hK
        clear hK
        go_wp2_with fail
        refine HK.out _ _ ?_
        clear HK
        refine wpList_plain rfl fun K hK => ?_
        have HK := hid hK
        clear hK
        go_wp2_with fail
        refine HK.out _ _ ?_
        clear HK
        refine wpList_plain rfl fun K hK => ?_
        have HK := hid hK
        clear hK
        go_wp2_with fail
        refine HK.out _ _ ?_
        clear HK
        refine wpList_bytes rfl rfl 2 _ (.tmp 29) 33 rfl rfl rfl [92, 116] rfl (by decide) (by decide) (by kernel_rfl) B v n xs _ rfl rfl rfl HO.out hB (by omega) ?_
        intro v1 w1 ho1 hb1
        have R := hid (And.intro ho1 hb1)
        clear ho1 hb1
        go_wp2_with fail
        go_ret
        exact ⟨_, rfl, R.out⟩
      · clear h2
        go_enter Tryz.func138, Tryz.ntmps138
        go_upto_region 4 with fail
        refine wp_region_list ?_
        refine wpList_plain rfl fun K hK => ?_
        have HK := hid hK
        clear hK
        go_wp2_with fail
        refine HK.out _ _ ?_
        clear HK
        refine wpList_plain rfl fun K hK => ?_
        have HK := hid hK
        clear hK
        go_wp2_with fail
        refine HK.out _ _ ?_
        clear HK
        refine wpList_plain rfl fun K hK => ?_
        have HK := hid hK
        clear hK
        go_wp2_with fail
        refine HK.out _ _ ?_
        clear HK
        refine wpList_plain rfl fun K hK => ?_
        have HK := hid hK
        clear hK
        go_wp2_with fail
        refine HK.out _ _ ?_
        clear HK
        refine wpList_bytes rfl rfl 2 _ (.tmp 29) 33 rfl rfl rfl [92, 110] rfl (by decide) (by decide) (by kernel_rfl) B v n xs _ rfl rfl rfl HO.out hB (by omega) ?_
        intro v1 w1 ho1 hb1
        have R := hid (And.intro ho1 hb1)
        clear ho1 hb1
        go_wp2_with fail
        go_ret
        exact ⟨_, rfl, R.out⟩
      · clear h2
        go_enter Tryz.func138, Tryz.ntmps138
        go_upto_region 4 with fail
        refine wp_region_list ?_
        refine wpList_plain rfl fun K hK => ?_
        have HK := hid hK
        clear hK
        go_wp2_with fail
        refine HK.out _ _ ?_
        clear HK
        refine wpList_plain rfl fun K hK => ?_
        have HK := hid hK
        clear hK
        go_wp2_with fail
        refine HK.out _ _ ?_
        clear HK
        refine wpList_plain rfl fun K hK => ?_
        have HK := hid hK
        clear hK
        go_wp2_with fail
        refine HK.out _ _ ?_
        clear HK
        refine wpList_plain rfl fun K hK => ?_
        have HK := hid hK
        clear hK
        go_wp2_with fail
        refine HK.out _ _ ?_
        clear HK
        refine wpList_bytes rfl rfl 2 _ (.tmp 29) 33 rfl rfl rfl [92, 118] rfl (by decide) (by decide) (by kernel_rfl) B v n xs _ rfl rfl rfl HO.out hB (by omega) ?_
        intro v1 w1 ho1 hb1
        have R := hid (And.intro ho1 hb1)
        clear ho1 hb1
        go_wp2_with fail
        go_ret
        exact ⟨_, rfl, R.out⟩
      · clear h2
        go_enter Tryz.func138, Tryz.ntmps138
        go_upto_region 4 with fail
        refine wp_region_list ?_
        refine wpList_plain rfl fun K hK => ?_
        have HK := hid hK
        clear hK
        go_wp2_with fail
        refine HK.out _ _ ?_
        clear HK
        refine wpList_plain rfl fun K hK => ?_
        have HK := hid hK
        clear hK
        go_wp2_with fail
        refine HK.out _ _ ?_
        clear HK
        refine wpList_plain rfl fun K hK => ?_
        have HK := hid hK
        clear hK
        go_wp2_with fail
        refine HK.out _ _ ?_
        clear HK
        refine wpList_plain rfl fun K hK => ?_
        have HK := hid hK
        clear hK
        go_wp2_with fail
        refine HK.out _ _ ?_
        clear HK
        refine wpList_bytes rfl rfl 2 _ (.tmp 29) 33 rfl rfl rfl [92, 102] rfl (by decide) (by decide) (by kernel_rfl) B v n xs _ rfl rfl rfl HO.out hB (by omega) ?_
        intro v1 w1 ho1 hb1
        have R := hid (And.intro ho1 hb1)
        clear ho1 hb1
        go_wp2_with fail
        go_ret
        exact ⟨_, rfl, R.out⟩
      · clear h2
        go_enter Tryz.func138, Tryz.ntmps138
        go_upto_region 4 with fail
        refine wp_region_list ?_
        refine wpList_plain rfl fun K hK => ?_
        have HK := hid hK
        clear hK
        go_wp2_with fail
        refine HK.out _ _ ?_
        clear HK
        refine wpList_plain rfl fun K hK => ?_
        have HK := hid hK
        clear hK
        go_wp2_with fail
        refine HK.out _ _ ?_
        clear HK
        refine wpList_plain rfl fun K hK => ?_
        have HK := hid hK
        clear hK
        go_wp2_with fail
        refine HK.out _ _ ?_
        clear HK
        refine wpList_plain rfl fun K hK => ?_
        have HK := hid hK
        clear hK
        go_wp2_with fail
        refine HK.out _ _ ?_
        clear HK
        refine wpList_bytes rfl rfl 2 _ (.tmp 29) 33 rfl rfl rfl [92, 114] rfl (by decide) (by decide) (by kernel_rfl) B v n xs _ rfl rfl rfl HO.out hB (by omega) ?_
        intro v1 w1 ho1 hb1
        have R := hid (And.intro ho1 hb1)
        clear ho1 hb1
        go_wp2_with fail
        go_ret
        exact ⟨_, rfl, R.out⟩
    · by_cases h3 : (32 ≤ c ∧ c ≤ 126) ∨ (ascii = false ∧ IP.plainB c = true)
      · have hi : IP.inL c q ascii = Utf.encL c := by unfold IP.inL; rw [if_neg h1, if_neg h2, if_pos h3]
        rw [hi]
        have AR := hid (append_rune B v n xs c w HO.out hB (by omega) hc0 (by omega))
        have PL := hid (fun W => qplain_any c W)
        clear hi h1
        by_cases h4 : 32 ≤ c ∧ c ≤ 126
        · obtain ⟨h5, h6⟩ := h4
          clear h3 h2
          go_enter Tryz.func138, Tryz.ntmps138
          go_wp2_with fail
          refine AR.out.mono ?_
          rintro e w' ⟨v', rfl, h⟩
          have R := hid h
          clear h
          go_wp2_with fail
          go_ret
          exact ⟨_, rfl, R.out⟩
        · obtain ⟨ha, hp⟩ : ascii = false ∧ IP.plainB c = true := by
            rcases h3 with h | h
            · exact absurd h h4
            · exact h
          subst ha
          rw [hp] at PL
          clear h3 hp
          rcases (show c < 7 ∨ (13 < c ∧ c < 32) ∨ 126 < c by omega) with h5 | ⟨h5, h6⟩ | h5
          all_goals
            clear h2 h4
            go_enter Tryz.func138, Tryz.ntmps138
            go_wp2_with fail
            refine (PL.out _).mono ?_
            rintro e w' ⟨rfl, rfl⟩
            go_wp2_with fail
            refine AR.out.mono ?_
            rintro e w' ⟨v', rfl, h⟩
            have R := hid h
            clear h
            go_wp2_with fail
            go_ret
            exact ⟨_, rfl, R.out⟩
      · have h32 : ¬ (32 ≤ c ∧ c ≤ 126) := fun h => h3 (Or.inl h)
        have PL := hid (fun W => qplain_any c W)
        have hpa : ascii = true ∨ (ascii = false ∧ IP.plainB c = false) := by
          cases ascii
          · refine Or.inr ⟨rfl, ?_⟩
            cases hb : IP.plainB c
            · rfl
            · exact absurd (Or.inr ⟨rfl, hb⟩) h3
          · exact Or.inl rfl
        have e128 : c < 128 → IP.inL c q ascii = 92 :: UInt8.ofNat (120 : Int).toNat :: IP.hexW c.toNat 2 := fun h => by
          unfold IP.inL; rw [if_neg h1, if_neg h2, if_neg h3, if_pos h]; rfl
        have e65 : ¬ c < 128 → c ≤ 65535 → IP.inL c q ascii = 92 :: UInt8.ofNat (117 : Int).toNat :: IP.hexW c.toNat 4 := fun h h' => by
          unfold IP.inL; rw [if_neg h1, if_neg h2, if_neg h3, if_neg h, if_pos h']; rfl
        have e99 : ¬ c < 128 → ¬ c ≤ 65535 → IP.inL c q ascii = 92 :: UInt8.ofNat (85 : Int).toNat :: IP.hexW c.toNat 8 := fun h h' => by
          unfold IP.inL; rw [if_neg h1, if_neg h2, if_neg h3, if_neg h, if_neg h']; rfl
        clear h3 h1
        rcases (show (c < 7 ∧ c < 128) ∨ (13 < c ∧ c < 32 ∧ c < 128) ∨ (126 < c ∧ c < 128) ∨ (¬ c < 128 ∧ c ≤ 65535) ∨ (¬ c < 128 ∧ ¬ c ≤ 65535) by omega) with ⟨h5, h6⟩ | ⟨h5, h5', h6⟩ | ⟨h5, h6⟩ | ⟨h5, h6⟩ | ⟨h5, h6⟩
        all_goals
          have ES := hid (fun sg N (h0 : (0 : Int) ≤ sg) (h1 : sg ≤ 255) (h2 : N ≤ 8) => escape_any B v n xs sg c N w HO.out hB (by omega) h0 h1 hc0 (by omega) h2)
          first
            | have eq := hid (e128 h6)
            | have eq := hid (e65 h5 h6)
            | have eq := hid (e99 h5 h6)
          clear e128 e65 e99 h2 h32
          rcases hpa with ha | ⟨ha, hp⟩
          · subst ha
            go_enter Tryz.func138, Tryz.ntmps138
            go_wp2_with fail
            refine (ES.out _ _ (by decide) (by decide) (by decide)).mono ?_
            rintro e w' ⟨v', rfl, h⟩
            rw [← eq.out] at h
            have R := hid h
            clear h
            go_wp2_with fail
            go_ret
            exact ⟨_, rfl, R.out⟩
          · subst ha
            rw [hp] at PL
            clear hp
            go_enter Tryz.func138, Tryz.ntmps138
            go_wp2_with fail
            refine (PL.out _).mono ?_
            rintro e w' ⟨rfl, rfl⟩
            go_wp2_with fail
            refine (ES.out _ _ (by decide) (by decide) (by decide)).mono ?_
            rintro e w' ⟨v', rfl, h⟩
            rw [← eq.out] at h
            have R := hid h
            clear h
            go_wp2_with fail
            go_ret
            exact ⟨_, rfl, R.out⟩
end Go.Proofs.YtdjhmanccoekjaaGreatDoor
end

section
namespace Go.Proofs.YtdjhmanccoekjaaGreatDoor
open Go.RowKit Go.Proofs

/-- A row of bytes that the call owns, read as a text. -/
theorem conv_own {w : World} {B n : Nat} {v : Value} {l : List UInt8} (h : w.ownsRow B 5 1 v n (bc l)) : (convert 50 9 v).run Tryz.prog w = .ok (.string ⟨l.toArray⟩) w := by
  have hl : (bc l).length = n * 1 := h.1
  rw [bc_length, Nat.mul_one] at hl
  have hs : ∀ xs : List Int, xs = l.map (fun b => (b.toNat : Int)) → strOfNums xs = ⟨l.toArray⟩ := by
    intro xs hx
    refine bytes_ext ?_
    rw [strOfNums_data, hx, List.map_map]
    show List.map _ l = l
    conv => rhs; rw [← List.map_id l]
    refine List.map_congr_left fun b _ => ?_
    show UInt8.ofNat ((b.toNat : Int)).toNat = b
    rw [Int.toNat_natCast]
    exact UInt8.ofNat_toNat
  rcases h.2 with ⟨h1, h2⟩ | ⟨g, cap, cur, h1, h2, h3, h4, h5, h6, h7⟩
  · have : l = [] := List.eq_nil_of_length_eq_zero (by omega)
    subst this
    rw [h1]
    exact run_convert_bytes_nil w 50 5 Tryz.underlying50 Tryz.underlying5 0 0 9 Tryz.underlying9
  · rw [h1, ← hs _ rfl]
    refine run_convert_bytes_arg w 50 5 Tryz.underlying50 Tryz.underlying5 g 0 n cap (l.map (fun b => (b.toNat : Int))) (by rw [List.length_map, hl]) (fun i hi => ?_) 9 Tryz.underlying9
    rw [Nat.zero_add, cell_of_row w g i cur 5 (0, 0) h3, ← Array.getElem?_toList]
    have e : (cur.toList.take (n * 1))[i]? = (bc l)[i]? := by rw [h7]
    rw [List.getElem?_take, if_pos (by omega)] at e
    rw [e]
    unfold bc
    rw [List.getElem?_map, List.getElem?_eq_getElem (by omega), List.getD_eq_getElem?_getD, List.getElem?_map, List.getElem?_eq_getElem (by omega)]
    rfl
theorem own_one (w : World) (x : UInt8) : (w.alloc (.cells #[.int .u8 x.toNat] 5)).ownsRow w.heap.size 5 1 (.slice (some ⟨w.heap.size, 0, none⟩) 1 1) 1 (bc [x]) :=
  ⟨rfl, Or.inr ⟨w.heap.size, 1, _, rfl, Nat.le_refl _, heap_alloc_new w _, Nat.le_refl _, by unfold maxLen; omega, rfl, rfl⟩⟩

theorem validRune_eq (r : Int) : Lib.validRune r = Utf8.valid r := by
  rw [Bool.eq_iff_iff, Utf.valid_iff]
  unfold Lib.validRune
  simp
  omega
set_option maxRecDepth 100000 in
set_option maxHeartbeats 1000000 in
theorem char_any (c : Int) (ascii : Bool) (w : World) (hc0 : -2147483648 ≤ c) (hc1 : c ≤ 2147483647) :
    Calls Tryz.prog 189 #[.int .i32 c, .bool ascii] w fun e w' => e = .returned (.string ⟨(IP.charL c ascii).toArray⟩) ∧ Below w.heap.size w w' := by
  obtain ⟨cp, hcp⟩ : ∃ cp : Int, (Utf.cp c : Int) = cp := ⟨_, rfl⟩
  have hb := Utf.cp_bound c
  have hcp0 : 0 ≤ cp ∧ cp ≤ 1114111 := by omega
  obtain ⟨hcp0, hcp1⟩ := hcp0
  have VR := hid (fun W => Tryz.utf8_ValidRune c W)
  rw [validRune_eq] at VR
  have hch : IP.charL c ascii = 39 :: (IP.inL cp 39 ascii ++ [39]) := by unfold IP.charL; rw [hcp]
  rw [hch]
  have hlen := IP.inL_len cp 39 ascii
  obtain ⟨L, hL⟩ : ∃ L, IP.inL cp 39 ascii = L := ⟨_, rfl⟩
  rw [hL] at hlen ⊢
  have O1 := own_one w 39
  have PT := hid (put_any w.heap.size _ 1 _ cp 39 ascii _ O1 (by simp) (by decide) hcp0 hcp1 (by decide) (by decide))
  rw [hL] at PT
  have hfin : cp = if Utf8.valid c then c else 65533 := by
    cases hv : Utf8.valid c
    · rw [← hcp]; unfold Utf.cp; rw [hv]; rfl
    · rw [← hcp, Utf.cp_of_valid hv]; rfl
  clear hch hL O1 hb hcp
  cases hv : Utf8.valid c
  all_goals
    rw [hv] at hfin VR
    simp only [if_true, Bool.false_eq_true, if_false] at hfin
    subst hfin
    clear hv
    go_enter Tryz.func189, Tryz.ntmps189
    go_wp2_with fail
    refine (VR.out _).mono ?_
    rintro e w' ⟨rfl, rfl⟩
    go_upto_region 3 with fail
    refine wp_region_list ?_
    refine wpList_plain rfl fun K hK => ?_
    have HK := hid hK
    clear hK
    go_wp2_with fail
    refine HK.out _ _ ?_
    clear HK
    refine wpList_plain rfl fun K hK => ?_
    have HK := hid hK
    clear hK
    go_wp2_with fail
    refine HK.out _ _ ?_
    clear HK
    refine wpList_plain rfl fun K hK => ?_
    have HK := hid hK
    clear hK
    go_wp2_with fail
    refine HK.out _ _ ?_
    clear HK
    refine wpList_plain rfl fun K hK => ?_
    have HK := hid hK
    clear hK
    go_wp2_with fail
    refine PT.out.mono ?_
    rintro e w1 ⟨v1, rfl, ho1, hb1⟩
    refine HK.out _ _ ?_
    clear HK
    have B1 := hid (((Below.refl w'.heap.size w').alloc (Nat.le_refl _) _).trans hb1.below)
    refine wpList_bytes rfl rfl 1 _ (.tmp 11) 12 rfl rfl rfl [39] rfl (by decide) (by decide) (by kernel_rfl) w'.heap.size v1 _ _ _ rfl rfl rfl ho1 B1.out.size (by omega) ?_
    intro v2 w2 ho2 hb2
    have cv := conv_own (l := 39 :: (L ++ [39])) (by
      have e : bc (39 :: (L ++ [39])) = bc [39] ++ bc L ++ bc [39] := by simp [bc]
      rw [e]; exact ho2)
    have B2 := hid (B1.out.trans hb2.below)
    clear ho1 hb1 ho2 hb2
    go_wp2_with fail
    go_ret
    exact ⟨rfl, B2.out⟩
end Go.Proofs.YtdjhmanccoekjaaGreatDoor
end

section
namespace Go.Proofs.YtdjhmanccoekjaaGreatDoor.IP

/-- One rune of a text in quotes; a byte that is no rune's: its number. -/
def stepQ (ascii : Bool) (l : List UInt8) : List UInt8 := if Utf.Broken l then 92 :: 120 :: hexW (l.headD 0).toNat 2 else inL ((Utf.decL l).1 : Int) 34 ascii
/-- A text's runes in quotes, without the quotes. -/
def runsQ (ascii : Bool) (l : List UInt8) : List UInt8 := if _h : l = [] then [] else stepQ ascii l ++ runsQ ascii (l.drop (Utf.decL l).2)
termination_by l.length
decreasing_by
  have h1 := Utf.dec_width l
  have h2 := List.length_pos_iff.2 _h
  rw [List.length_drop]
  omega
theorem runsQ_nil (ascii : Bool) : runsQ ascii [] = [] := by rw [runsQ, dif_pos rfl]
theorem runsQ_cons (ascii : Bool) (l : List UInt8) (h : l ≠ []) : runsQ ascii l = stepQ ascii l ++ runsQ ascii (l.drop (Utf.decL l).2) := by rw [runsQ, dif_neg h]
def quoteL (ascii : Bool) (l : List UInt8) : List UInt8 := 34 :: (runsQ ascii l ++ [34])
theorem stepQ_len (ascii : Bool) (l : List UInt8) : 1 ≤ (stepQ ascii l).length ∧ (stepQ ascii l).length ≤ 10 := by
  unfold stepQ
  split
  · simp [hexW_len]
  · exact inL_len _ _ _
theorem runsQ_len (ascii : Bool) : ∀ (n : Nat) (l : List UInt8), l.length ≤ n → (runsQ ascii l).length ≤ 10 * l.length := by
  intro n
  induction n with
  | zero =>
    intro l h
    rw [List.eq_nil_of_length_eq_zero (Nat.le_zero.1 h), runsQ_nil]
    exact Nat.zero_le _
  | succ n ih =>
    intro l h
    by_cases hl : l = []
    · rw [hl, runsQ_nil]; exact Nat.zero_le _
    · have h1 := Utf.dec_width l
      have h2 := List.length_pos_iff.2 hl
      have h3 := ih (l.drop (Utf.decL l).2) (by rw [List.length_drop]; omega)
      have h4 := (stepQ_len ascii l).2
      rw [runsQ_cons _ _ hl, List.length_append]
      rw [List.length_drop] at h3
      omega
theorem quoteL_len (ascii : Bool) (l : List UInt8) : (quoteL ascii l).length ≤ 10 * l.length + 2 := by
  have := runsQ_len ascii l.length l (Nat.le_refl _)
  unfold quoteL
  simp only [List.length_cons, List.length_append, List.length_nil]
  omega
/-- A loop's way over a text: what is written so far, and the rest. -/
theorem runsQ_step (ascii : Bool) (l t : List UInt8) (k : Nat) (h : l.drop k ≠ []) (ht : t ++ runsQ ascii (l.drop k) = runsQ ascii l) :
    t ++ stepQ ascii (l.drop k) ++ runsQ ascii (l.drop (k + (Utf.decL (l.drop k)).2)) = runsQ ascii l := by
  rw [← ht, runsQ_cons ascii (l.drop k) h, List.append_assoc, List.drop_drop]
/-- Two hexadecimal digits of a byte. -/
def twoH (g : Bool) (a : UInt8) : List UInt8 := [hexd g (a.toNat / 16), hexd g (a.toNat % 16)]
/-- Bytes in hexadecimal digits behind the first: a blank and the mark between. -/
def hexT (g space : Bool) (mark : List UInt8) : List UInt8 → List UInt8
  | [] => []
  | a :: t => (if space then 32 :: mark else []) ++ twoH g a ++ hexT g space mark t
def hexL (g space : Bool) (mark : List UInt8) : List UInt8 → List UInt8
  | [] => []
  | a :: t => mark ++ twoH g a ++ hexT g space mark t
theorem hexT_app (g space : Bool) (mark a b : List UInt8) : hexT g space mark (a ++ b) = hexT g space mark a ++ hexT g space mark b := by
  induction a with
  | nil => rfl
  | cons x a ih => rw [List.cons_append, hexT, hexT, ih]; simp only [List.append_assoc]
theorem hexL_snoc (g space : Bool) (mark l : List UInt8) (x : UInt8) (h : l ≠ []) : hexL g space mark (l ++ [x]) = hexL g space mark l ++ ((if space then 32 :: mark else []) ++ twoH g x) := by
  cases l with
  | nil => exact absurd rfl h
  | cons a t => rw [List.cons_append, hexL, hexL, hexT_app]; simp [hexT, List.append_assoc]
theorem hexL_one (g space : Bool) (mark : List UInt8) (x : UInt8) : hexL g space mark [x] = mark ++ twoH g x := by simp [hexL, hexT]
theorem hexL_len (g space : Bool) (mark : List UInt8) (hm : mark.length ≤ 2) : ∀ l : List UInt8, (hexL g space mark l).length ≤ 5 * l.length := by
  have key : ∀ l : List UInt8, (hexT g space mark l).length ≤ 5 * l.length := by
    intro l
    induction l with
    | nil => simp [hexT]
    | cons x l ih =>
      rw [hexT]
      simp only [List.length_append, List.length_cons, twoH, List.length_nil]
      split
      · simp only [List.length_cons]; omega
      · simp only [List.length_nil]; omega
  intro l
  cases l with
  | nil => simp [hexL]
  | cons x l =>
    have := key l
    rw [hexL]
    simp only [List.length_append, List.length_cons, twoH, List.length_nil]
    omega
end Go.Proofs.YtdjhmanccoekjaaGreatDoor.IP
end

section
namespace Go.Proofs.YtdjhmanccoekjaaGreatDoor.IP

/-- A small hexadecimal digit's number; -1: it is none. -/
def hv (a : UInt8) : Int := if 48 ≤ a.toNat ∧ a.toNat ≤ 57 then (a.toNat : Int) - 48 else if 97 ≤ a.toNat ∧ a.toNat ≤ 102 then (a.toNat : Int) - 87 else -1
theorem hv_hexd (d : Nat) (h : d < 16) : hv (hexd false d) = d := by
  unfold hv
  rw [hexd_toNat false d h]
  by_cases h10 : d < 10
  · rw [if_pos h10, if_pos (by omega)]; omega
  · rw [if_neg h10, if_neg Bool.false_ne_true, if_neg (by omega), if_pos (by omega)]; omega
theorem hv_bound (a : UInt8) : -1 ≤ hv a ∧ hv a < 16 := by
  unfold hv
  split
  · omega
  · split <;> omega
/-- The document's number of digits; -1: they are none. -/
def valR : Int → List UInt8 → Int
  | v, [] => v
  | v, a :: t => if hv a < 0 ∨ 1114111 < v then -1 else valR (16 * v + hv a) t
theorem valR_snoc (a : UInt8) : ∀ (l : List UInt8) (v w : Int), valR v l = w → 0 ≤ w → valR v (l ++ [a]) = if hv a < 0 ∨ 1114111 < w then -1 else 16 * w + hv a
  | [], v, w, h, _ => by
    subst h
    rfl
  | x :: l, v, w, h, h0 => by
    rw [valR] at h
    rw [List.cons_append, valR]
    split at h
    · omega
    · rename_i hc
      rw [if_neg hc]
      exact valR_snoc a l _ w h h0
theorem valR_hexW : ∀ (w n : Nat), n < 16 ^ w → n ≤ 1114111 → valR 0 (hexW n w) = n
  | 0, n, h, _ => by
    rw [Nat.pow_zero] at h
    have : n = 0 := by omega
    subst this
    rfl
  | w + 1, n, h, h1 => by
    rw [Nat.pow_succ] at h
    have e := valR_hexW w (n / 16) (Nat.div_lt_of_lt_mul (by rw [Nat.mul_comm]; exact h)) (by omega)
    have hd : n % 16 < 16 := Nat.mod_lt _ (by decide)
    rw [hexW, valR_snoc _ _ 0 _ e (by omega), hv_hexd _ hd, if_neg (by omega)]
    omega
/-- The place among the letters of the escapes; -1: it is none. -/
def ltrI (b : UInt8) : Int := if b.toNat = 97 then 0 else if b.toNat = 98 then 1 else if b.toNat = 116 then 2 else if b.toNat = 110 then 3 else if b.toNat = 118 then 4 else if b.toNat = 102 then 5 else if b.toNat = 114 then 6 else -1
theorem ltrI_bound (b : UInt8) : -1 ≤ ltrI b ∧ ltrI b ≤ 6 := by
  unfold ltrI
  repeat (first | omega | split)
/-- How many digits stand behind a letter. -/
def escN (b : UInt8) : Nat := if b.toNat = 120 then 2 else if b.toNat = 117 then 4 else if b.toNat = 85 then 8 else 0
section
variable (f : Int → Int → Int)
/-- The program's number of digits. -/
def valP : Int → List UInt8 → Option Int
  | c, [] => some c
  | c, a :: t => if hv a < 0 then none else valP (f c (hv a)) t
theorem valP_snoc (a : UInt8) : ∀ (l : List UInt8) (v w : Int), valP f v l = some w → valP f v (l ++ [a]) = if hv a < 0 then none else some (f w (hv a))
  | [], v, w, h => by
    cases h
    rfl
  | x :: l, v, w, h => by
    rw [valP] at h
    rw [List.cons_append, valP]
    split at h
    · cases h
    · rename_i hc
      rw [if_neg hc]
      exact valP_snoc a l _ w h
theorem valP_hexW (hf : ∀ c d : Int, 0 ≤ c → c < 134217728 → 0 ≤ d → d < 16 → f c d = 16 * c + d) : ∀ (w n : Nat), n < 16 ^ w → n ≤ 1114111 → valP f 0 (hexW n w) = some (n : Int)
  | 0, n, h, _ => by
    rw [Nat.pow_zero] at h
    have : n = 0 := by omega
    subst this
    rfl
  | w + 1, n, h, h1 => by
    rw [Nat.pow_succ] at h
    have e := valP_hexW hf w (n / 16) (Nat.div_lt_of_lt_mul (by rw [Nat.mul_comm]; exact h)) (by omega)
    have hd : n % 16 < 16 := Nat.mod_lt _ (by decide)
    rw [hexW, valP_snoc f _ _ 0 _ e, hv_hexd _ hd, if_neg (by omega), hf _ _ (by omega) (by omega) (by omega) (by omega)]
    congr 1
    omega
/-- What stands at the front, and how much that is: as the program reads. -/
def oneP (l : List UInt8) : Option (List UInt8 × Nat) :=
  match l with
  | [] => none
  | a :: t =>
    if a.toNat ≠ 92 then (if Utf.Broken (a :: t) ∨ (Utf.decL (a :: t)).1 = 34 then none else some ((a :: t).take (Utf.decL (a :: t)).2, (Utf.decL (a :: t)).2))
    else match t with
      | [] => none
      | b :: u =>
        if b.toNat = 34 ∨ b.toNat = 92 then some ([b], 2)
        else if 0 ≤ ltrI b then some ([UInt8.ofNat (7 + ltrI b).toNat], 2)
        else if escN b = 0 ∨ u.length < escN b then none
        else match valP f 0 (u.take (escN b)) with
          | none => none
          | some c => if escN b = 2 then some ([UInt8.ofNat c.toNat], 4) else some (Utf.encL c, 2 + escN b)
end
/-- As the document reads. -/
def oneR (l : List UInt8) : Option (List UInt8 × Nat) :=
  match l with
  | [] => none
  | a :: t =>
    if a.toNat ≠ 92 then some ([a], 1)
    else match t with
      | [] => some ([a], 1)
      | b :: u =>
        if escN b = 0 then some ([if 0 ≤ ltrI b then UInt8.ofNat (7 + ltrI b).toNat else b], 2)
        else if u.length < escN b ∨ valR 0 (u.take (escN b)) < 0 then none
        else if escN b = 2 then some ([UInt8.ofNat (valR 0 (u.take (escN b))).toNat], 4)
        else some (Utf.encL (valR 0 (u.take (escN b))), 2 + escN b)
/-- A text read piece by piece. -/
def readN (one : List UInt8 → Option (List UInt8 × Nat)) : Nat → List UInt8 → Option (List UInt8)
  | 0, l => if l = [] then some [] else none
  | k + 1, l => if l = [] then some [] else match one l with
    | none => none
    | some (t, n) => (readN one k (l.drop n)).map (t ++ ·)
theorem readN_nil (one : List UInt8 → Option (List UInt8 × Nat)) (k : Nat) : readN one k [] = some [] := by
  cases k <;> simp [readN]
theorem readN_some {one : List UInt8 → Option (List UInt8 × Nat)} {k : Nat} {l t : List UInt8} {n : Nat} (h : one l = some (t, n)) (hl : l ≠ []) : readN one (k + 1) l = (readN one k (l.drop n)).map (t ++ ·) := by
  rw [readN, if_neg hl, h]
theorem readN_none {one : List UInt8 → Option (List UInt8 × Nat)} {k : Nat} {l : List UInt8} (h : one l = none) (hl : l ≠ []) : readN one k l = none := by
  cases k
  · rw [readN, if_neg hl]
  · rw [readN, if_neg hl, h]

theorem take_app {a b : List UInt8} {n : Nat} (h : a.length = n) : (a ++ b).take n = a := by subst h; exact List.take_left
theorem drop_app {a b : List UInt8} {n : Nat} (h : a.length = n) : (a ++ b).drop n = b := by subst h; exact List.drop_left
theorem encL_small {c : Nat} (h : c < 128) : Utf.encL (c : Int) = [UInt8.ofNat c] := Utf.encL_one h
theorem encL_head (c : Nat) (hv : Utf8.valid (c : Int) = true) : ∃ a t, Utf.encL (c : Int) = a :: t ∧ (a.toNat = 92 → c = 92) ∧ (∀ b ∈ t, 128 ≤ b.toNat) := by
  have hr := (Utf.valid_iff _).1 hv
  rcases (show c < 128 ∨ (128 ≤ c ∧ c < 2048) ∨ (2048 ≤ c ∧ c < 65536) ∨ 65536 ≤ c by omega) with h | ⟨h, h'⟩ | ⟨h, h'⟩ | h
  · refine ⟨_, _, Utf.encL_one h, fun e => ?_, fun b hb => by simp at hb⟩
    rw [Utf.toNat_ofNat (by omega)] at e; exact e
  · refine ⟨_, _, Utf.encL_two h h', fun e => ?_, fun b hb => ?_⟩
    · rw [Utf.toNat_ofNat (by omega)] at e; omega
    · simp only [List.mem_cons, List.not_mem_nil, or_false] at hb
      rw [hb, Utf.toNat_ofNat (by omega)]; omega
  · refine ⟨_, _, Utf.encL_three hv h h', fun e => ?_, fun b hb => ?_⟩
    · rw [Utf.toNat_ofNat (by omega)] at e; omega
    · simp only [List.mem_cons, List.not_mem_nil, or_false] at hb
      rcases hb with hb | hb <;> rw [hb, Utf.toNat_ofNat (by omega)] <;> omega
  · refine ⟨_, _, Utf.encL_four hv h, fun e => ?_, fun b hb => ?_⟩
    · rw [Utf.toNat_ofNat (by omega)] at e; omega
    · simp only [List.mem_cons, List.not_mem_nil, or_false] at hb
      rcases hb with hb | hb | hb <;> rw [hb, Utf.toNat_ofNat (by omega)] <;> omega
/-- What one step of writing is: the bytes of a rune (or a byte that is no rune's), and what is written of them. -/
inductive Form (q : Int) (ascii : Bool) : List UInt8 → List UInt8 → Prop
  | byte (x : UInt8) : Form q ascii [x] (92 :: 120 :: hexW x.toNat 2)
  | self (c : Nat) (h : (c : Int) = q ∨ c = 92) (h1 : c < 128) : Form q ascii (Utf.encL (c : Int)) [92, UInt8.ofNat c]
  | letr (k : Nat) (h : k < 7) : Form q ascii (Utf.encL ((7 + k : Nat) : Int)) [92, letter k]
  | raw (c : Nat) (hv : Utf8.valid (c : Int) = true) (h : ¬ (c : Int) = q) (h2 : c ≠ 92) (hp : plainB (c : Int) = true) (ha : ascii = true → 32 ≤ c ∧ c ≤ 126) : Form q ascii (Utf.encL (c : Int)) (Utf.encL (c : Int))
  | four (c : Nat) (h : c ≤ 65535) : Form q ascii (Utf.encL (c : Int)) (92 :: 117 :: hexW c 4)
  | eight (c : Nat) (h : c ≤ 1114111) : Form q ascii (Utf.encL (c : Int)) (92 :: 85 :: hexW c 8)
theorem inL_form (q : Int) (ascii : Bool) (c : Nat) (hq : q < 128) (hv : Utf8.valid (c : Int) = true) : Form q ascii (Utf.encL (c : Int)) (inL (c : Int) q ascii) := by
  have hr := (Utf.valid_iff _).1 hv
  unfold inL
  split
  · rename_i h
    rw [Int.toNat_natCast]
    exact .self c (by omega) (by omega)
  · rename_i h
    split
    · rename_i h2
      have e : Form q ascii (Utf.encL ((7 + (c - 7) : Nat) : Int)) [92, letter (c - 7)] := .letr (c - 7) (by omega)
      rw [show 7 + (c - 7) = c by omega] at e
      rw [show ((c : Int) - 7).toNat = c - 7 by omega]
      exact e
    · split
      · rename_i h3
        refine .raw c hv (by omega) (by omega) ?_ ?_
        · rcases h3 with h3 | h3
          · unfold plainB
            exact decide_eq_true (by omega)
          · exact h3.2
        · intro ha
          rcases h3 with h3 | h3
          · omega
          · rw [h3.1] at ha; cases ha
      · split
        · have hc : c < 128 := by omega
          rw [Int.toNat_natCast, encL_small hc]
          have e : Form q ascii [UInt8.ofNat c] (92 :: 120 :: hexW (UInt8.ofNat c).toNat 2) := .byte _
          rw [Utf.toNat_ofNat (by omega)] at e
          exact e
        · split
          · rw [Int.toNat_natCast]; exact .four c (by omega)
          · rw [Int.toNat_natCast]; exact .eight c (by omega)
theorem stepQ_form (ascii : Bool) (l : List UInt8) (hl : l ≠ []) : Form 34 ascii (l.take (Utf.decL l).2) (stepQ ascii l) := by
  rcases Utf.enc_dec l hl with hb | ⟨hv, ht, hn, hc⟩
  · obtain ⟨x, t, rfl⟩ := List.exists_cons_of_ne_nil hl
    unfold stepQ
    rw [if_pos hb, show Utf.decL (x :: t) = (65533, 1) from hb]
    exact .byte x
  · by_cases hb : Utf.Broken l
    · obtain ⟨x, t, rfl⟩ := List.exists_cons_of_ne_nil hl
      unfold stepQ
      rw [if_pos hb, show Utf.decL (x :: t) = (65533, 1) from hb]
      exact .byte x
    · unfold stepQ
      rw [if_neg hb, ht]
      exact inL_form 34 ascii _ (by decide) hv

theorem hexW_lt : ∀ (w n : Nat), ∀ a ∈ hexW n w, (48 ≤ a.toNat ∧ a.toNat ≤ 57) ∨ (97 ≤ a.toNat ∧ a.toNat ≤ 102)
  | 0, n, a, h => by simp [hexW] at h
  | w + 1, n, a, h => by
    rw [hexW, List.mem_append] at h
    rcases h with h | h
    · exact hexW_lt w _ a h
    · rw [List.mem_singleton] at h
      have hd : n % 16 < 16 := Nat.mod_lt _ (by decide)
      rw [h, hexd_toNat false _ hd]
      split
      · omega
      · rw [if_neg Bool.false_ne_true]; omega
theorem letter_toNat (k : Nat) (h : k < 7) : ltrI (letter k) = k ∧ (letter k).toNat ≠ 34 ∧ (letter k).toNat ≠ 92 ∧ escN (letter k) = 0 := by
  rcases (show k = 0 ∨ k = 1 ∨ k = 2 ∨ k = 3 ∨ k = 4 ∨ k = 5 ∨ k = 6 by omega) with rfl | rfl | rfl | rfl | rfl | rfl | rfl <;> decide
section
variable (f : Int → Int → Int)
/-- The program reads a step back. -/
theorem oneP_step (hf : ∀ c d : Int, 0 ≤ c → c < 134217728 → 0 ≤ d → d < 16 → f c d = 16 * c + d) {ascii : Bool} {r s : List UInt8} (h : Form 34 ascii r s) (X : List UInt8) : oneP f (s ++ X) = some (r, s.length) := by
  cases h with
  | byte x =>
    have hx := UInt8.toNat_lt x
    have e := valP_hexW f hf 2 x.toNat (by omega) (by omega)
    have ht : (hexW x.toNat 2 ++ X).take 2 = hexW x.toNat 2 := take_app (hexW_len 2 _)
    have hl : (hexW x.toNat 2 ++ X).length = 2 + X.length := by rw [List.length_append, hexW_len]
    simp only [List.cons_append, oneP]
    rw [if_neg (by decide), if_neg (by decide), if_neg (by decide), show escN 120 = 2 from rfl, if_neg (by omega), ht, e]
    simp only [if_true, Int.toNat_natCast, UInt8.ofNat_toNat, List.length_cons, hexW_len]
  | self c hc h1 =>
    have hc : c = 34 ∨ c = 92 := by omega
    rcases hc with rfl | rfl
    · simp only [List.cons_append, List.nil_append, oneP]
      rw [if_neg (by decide), if_pos (by decide)]
      rfl
    · simp only [List.cons_append, List.nil_append, oneP]
      rw [if_neg (by decide), if_pos (by decide)]
      rfl
  | letr k hk =>
    obtain ⟨h1, h2, h3, h4⟩ := letter_toNat k hk
    simp only [List.cons_append, List.nil_append, oneP]
    rw [if_neg (by decide), if_neg (by omega), if_pos (by omega), h1, encL_small (by omega), show (7 + (k : Int)).toNat = 7 + k by omega]
    rfl
  | raw c hv hq h2 hp ha =>
    obtain ⟨a, t, e, ha92, _⟩ := encL_head c hv
    have hd := Utf.dec_enc (c : Int) X
    have hcp : Utf.cp (c : Int) = c := by have := Utf.cp_of_valid hv; omega
    rw [hcp] at hd
    have hnb : ¬ Utf.Broken (Utf.encL (c : Int) ++ X) := by
      intro hb
      unfold Utf.Broken at hb
      rw [hd] at hb
      obtain ⟨h1, h2⟩ := Prod.mk.inj hb
      have h3 : (Utf.encL ((65533 : Nat) : Int)).length = 3 := by decide
      rw [h1] at h2
      omega
    have key : oneP f (a :: (t ++ X)) = some (Utf.encL (c : Int), (Utf.encL (c : Int)).length) := by
      have e2 : a :: (t ++ X) = Utf.encL (c : Int) ++ X := by rw [e]; rfl
      simp only [oneP]
      rw [if_pos (by intro q; exact h2 (ha92 q)), e2, if_neg (by
        rintro (q | q)
        · exact hnb q
        · rw [hd] at q
          have : c = 34 := q
          omega), hd]
      simp only [List.take_left]
    have e3 : Utf.encL (c : Int) ++ X = a :: (t ++ X) := by rw [e]; rfl
    rw [e3]
    exact key
  | four c hc =>
    have e := valP_hexW f hf 4 c (by omega) (by omega)
    have ht : (hexW c 4 ++ X).take 4 = hexW c 4 := take_app (hexW_len 4 _)
    have hl : (hexW c 4 ++ X).length = 4 + X.length := by rw [List.length_append, hexW_len]
    simp only [List.cons_append, oneP]
    rw [if_neg (by decide), if_neg (by decide), if_neg (by decide), show escN 117 = 4 from rfl, if_neg (by omega), ht, e]
    simp only [List.length_cons, hexW_len]
    rfl
  | eight c hc =>
    have e := valP_hexW f hf 8 c (by omega) hc
    have ht : (hexW c 8 ++ X).take 8 = hexW c 8 := take_app (hexW_len 8 _)
    have hl : (hexW c 8 ++ X).length = 8 + X.length := by rw [List.length_append, hexW_len]
    simp only [List.cons_append, oneP]
    rw [if_neg (by decide), if_neg (by decide), if_neg (by decide), show escN 85 = 8 from rfl, if_neg (by omega), ht, e]
    simp only [List.length_cons, hexW_len]
    rfl
end
theorem form_pos {q : Int} {ascii : Bool} {r s : List UInt8} (h : Form q ascii r s) : 1 ≤ s.length := by
  cases h with
  | raw c hv _ _ _ _ => exact (Utf.encL_pos _).1
  | _ => simp
/-- Steps read one by one: all that was written is read. -/
theorem readP_runs (f : Int → Int → Int) (hf : ∀ c d : Int, 0 ≤ c → c < 134217728 → 0 ≤ d → d < 16 → f c d = 16 * c + d) (ascii : Bool) : ∀ (n : Nat) (l : List UInt8) (k : Nat), l.length ≤ n → (runsQ ascii l).length ≤ k → readN (oneP f) k (runsQ ascii l) = some l
  | 0, l, k, h, _ => by
    rw [List.eq_nil_of_length_eq_zero (Nat.le_zero.1 h), runsQ_nil, readN_nil]
  | n + 1, l, k, h, hk => by
    by_cases hl : l = []
    · rw [hl, runsQ_nil, readN_nil]
    · have hF := stepQ_form ascii l hl
      have h1 := Utf.dec_width l
      have h2 := List.length_pos_iff.2 hl
      have h3 := form_pos hF
      rw [runsQ_cons _ _ hl] at hk ⊢
      rw [List.length_append] at hk
      cases k with
      | zero => omega
      | succ k =>
        rw [readN_some (oneP_step f hf hF _) (by
          intro e
          have := congrArg List.length e
          rw [List.length_append, List.length_nil] at this
          omega), List.drop_left, readP_runs f hf ascii n _ k (by rw [List.length_drop]; omega) (by omega)]
        simp only [Option.map_some, List.take_append_drop]
/-- Bytes that are no sign of an escape are read as they stand. -/
theorem readR_plain : ∀ (u X : List UInt8) (k : Nat), (∀ a ∈ u, a.toNat ≠ 92) → readN oneR (u.length + k) (u ++ X) = (readN oneR k X).map (u ++ ·)
  | [], X, k, _ => by simp
  | a :: u, X, k, h => by
    have h0 := h a List.mem_cons_self
    have e : oneR (a :: (u ++ X)) = some ([a], 1) := by
      simp only [oneR]
      rw [if_pos h0]
    rw [List.cons_append, show (a :: u).length + k = (u.length + k) + 1 by simp; omega, readN_some e (by simp)]
    rw [show (a :: (u ++ X)).drop 1 = u ++ X from rfl, readR_plain u X k (fun b hb => h b (List.mem_cons_of_mem _ hb)), Option.map_map]
    rfl
theorem readR_step {ascii : Bool} {r s : List UInt8} (h : Form 34 ascii r s) (X : List UInt8) (k : Nat) (hk : s.length ≤ k) : ∃ j, X.length ≤ k - s.length → (X.length ≤ j ∧ readN oneR k (s ++ X) = (readN oneR j X).map (r ++ ·)) := by
  have esc : ∀ (b : UInt8) (u : List UInt8) (r : List UInt8) (m : Nat), oneR (92 :: b :: (u ++ X)) = some (r, m) → m = u.length + 2 → 2 + u.length ≤ k → ∃ j, X.length ≤ k - (2 + u.length) → (X.length ≤ j ∧ readN oneR k (92 :: b :: u ++ X) = (readN oneR j X).map (r ++ ·)) := by
    intro b u r m h1 h2 hk
    cases k with
    | zero => omega
    | succ k =>
      refine ⟨k, fun hX => ⟨by omega, ?_⟩⟩
      rw [List.cons_append, List.cons_append, readN_some h1 (by simp), h2]
      rw [show (92 :: b :: (u ++ X)).drop (u.length + 2) = (u ++ X).drop u.length from rfl, List.drop_left]
  cases h with
  | byte x =>
    have hx := UInt8.toNat_lt x
    have e := valR_hexW 2 x.toNat (by omega) (by omega)
    have ht : (hexW x.toNat 2 ++ X).take 2 = hexW x.toNat 2 := take_app (hexW_len 2 _)
    have hl : (hexW x.toNat 2 ++ X).length = 2 + X.length := by rw [List.length_append, hexW_len]
    have h1 : oneR (92 :: 120 :: (hexW x.toNat 2 ++ X)) = some ([x], 4) := by
      simp only [oneR]
      rw [if_neg (by decide), if_neg (by decide), show escN 120 = 2 from rfl, ht, e, if_neg (by omega), if_pos rfl, Int.toNat_natCast, UInt8.ofNat_toNat]
    have := esc 120 (hexW x.toNat 2) [x] 4 h1 (by rw [hexW_len]) (by simp only [List.length_cons, hexW_len] at hk; rw [hexW_len]; omega)
    simpa [hexW_len] using this
  | self c hc h1 =>
    have hc : c = 34 ∨ c = 92 := by omega
    rcases hc with rfl | rfl
    · have := esc 34 [] [34] 2 (by rfl) rfl (by simpa using hk)
      have e : Utf.encL ((34 : Nat) : Int) = [34] := by decide
      rw [e]
      simpa using this
    · have := esc 92 [] [92] 2 (by rfl) rfl (by simpa using hk)
      have e : Utf.encL ((92 : Nat) : Int) = [92] := by decide
      rw [e]
      simpa using this
  | letr j hj =>
    obtain ⟨h1, h2, h3, h4⟩ := letter_toNat j hj
    have e : oneR (92 :: letter j :: ([] ++ X)) = some (Utf.encL ((7 + j : Nat) : Int), 2) := by
      simp only [oneR]
      rw [if_neg (by decide), if_pos h4, if_pos (by omega), h1, encL_small (by omega), show (7 + (j : Int)).toNat = 7 + j by omega]
    have := esc (letter j) [] _ 2 e rfl (by simpa using hk)
    simpa using this
  | raw c hv hq h2 hp ha =>
    obtain ⟨a, t, e, ha92, ht⟩ := encL_head c hv
    refine ⟨k - (Utf.encL (c : Int)).length, fun hX => ⟨hX, ?_⟩⟩
    conv => lhs; rw [show k = (Utf.encL (c : Int)).length + (k - (Utf.encL (c : Int)).length) by omega]
    refine readR_plain _ X _ fun b hb => ?_
    rw [e] at hb
    rcases List.mem_cons.1 hb with rfl | hb
    · exact fun q => h2 (ha92 q)
    · have := ht b hb; omega
  | four c hc =>
    have e := valR_hexW 4 c (by omega) (by omega)
    have ht : (hexW c 4 ++ X).take 4 = hexW c 4 := take_app (hexW_len 4 _)
    have hl : (hexW c 4 ++ X).length = 4 + X.length := by rw [List.length_append, hexW_len]
    have h1 : oneR (92 :: 117 :: (hexW c 4 ++ X)) = some (Utf.encL (c : Int), 6) := by
      simp only [oneR]
      rw [if_neg (by decide), if_neg (by decide), show escN 117 = 4 from rfl, ht, e, if_neg (by omega), if_neg (by decide)]
    have := esc 117 (hexW c 4) _ 6 h1 (by rw [hexW_len]) (by simp only [List.length_cons, hexW_len] at hk; rw [hexW_len]; omega)
    simpa [hexW_len] using this
  | eight c hc =>
    have e := valR_hexW 8 c (by omega) hc
    have ht : (hexW c 8 ++ X).take 8 = hexW c 8 := take_app (hexW_len 8 _)
    have hl : (hexW c 8 ++ X).length = 8 + X.length := by rw [List.length_append, hexW_len]
    have h1 : oneR (92 :: 85 :: (hexW c 8 ++ X)) = some (Utf.encL (c : Int), 10) := by
      simp only [oneR]
      rw [if_neg (by decide), if_neg (by decide), show escN 85 = 8 from rfl, ht, e, if_neg (by omega), if_neg (by decide)]
    have := esc 85 (hexW c 8) _ 10 h1 (by rw [hexW_len]) (by simp only [List.length_cons, hexW_len] at hk; rw [hexW_len]; omega)
    simpa [hexW_len] using this
theorem readR_runs (ascii : Bool) : ∀ (n : Nat) (l : List UInt8) (k : Nat), l.length ≤ n → (runsQ ascii l).length ≤ k → readN oneR k (runsQ ascii l) = some l
  | 0, l, k, h, _ => by
    rw [List.eq_nil_of_length_eq_zero (Nat.le_zero.1 h), runsQ_nil, readN_nil]
  | n + 1, l, k, h, hk => by
    by_cases hl : l = []
    · rw [hl, runsQ_nil, readN_nil]
    · have hF := stepQ_form ascii l hl
      have h1 := Utf.dec_width l
      have h2 := List.length_pos_iff.2 hl
      rw [runsQ_cons _ _ hl] at hk ⊢
      rw [List.length_append] at hk
      obtain ⟨j, hj⟩ := readR_step hF (runsQ ascii (l.drop (Utf.decL l).2)) k (by omega)
      obtain ⟨hj1, hj2⟩ := hj (by omega)
      rw [hj2, readR_runs ascii n _ j (by rw [List.length_drop]; omega) hj1]
      simp only [Option.map_some, List.take_append_drop]

/-- What stands between the quotes. -/
def midL (s : List UInt8) : List UInt8 := (s.drop 1).take (s.length - 2)
theorem midL_quote (ascii : Bool) (l : List UInt8) : midL (quoteL ascii l) = runsQ ascii l := by
  unfold midL quoteL
  rw [List.drop_one, List.tail_cons]
  refine take_app ?_
  simp
/-- Written again, is it the text? -/
def isQ (s t : List UInt8) : Bool := decide (quoteL false t = s ∨ quoteL true t = s)
def unqR (s : List UInt8) : Option (List UInt8) :=
  if s.length < 2 then none else (readN oneR (midL s).length (midL s)).bind fun t => if isQ s t then some t else none
def unqP (f : Int → Int → Int) (s : List UInt8) : Option (List UInt8) :=
  if s.length < 2 ∨ s[0]?.getD 0 ≠ 34 ∨ s[s.length - 1]?.getD 0 ≠ 34 then none else (readN (oneP f) (midL s).length (midL s)).bind fun t => if isQ s t then some t else none
theorem isQ_form {s t : List UInt8} (h : isQ s t = true) : ∃ a, s = quoteL a t := by
  rcases of_decide_eq_true h with h | h
  · exact ⟨_, h.symm⟩
  · exact ⟨_, h.symm⟩
theorem quoteL_ends (a : Bool) (t : List UInt8) : 2 ≤ (quoteL a t).length ∧ (quoteL a t)[0]?.getD 0 = 34 ∧ (quoteL a t)[(quoteL a t).length - 1]?.getD 0 = 34 := by
  unfold quoteL
  refine ⟨by simp, rfl, ?_⟩
  have e : (34 :: (runsQ a t ++ [34]) : List UInt8) = (34 :: runsQ a t) ++ [34] := rfl
  rw [e, List.getElem?_append_right (by simp)]
  simp
theorem unqR_iff (s t : List UInt8) : unqR s = some t ↔ isQ s t = true := by
  constructor
  · intro h
    unfold unqR at h
    split at h
    · cases h
    · cases hr : readN oneR (midL s).length (midL s) with
      | none => rw [hr] at h; cases h
      | some t' =>
        rw [hr, Option.bind_some] at h
        split at h
        · cases h; assumption
        · cases h
  · intro h
    obtain ⟨a, rfl⟩ := isQ_form h
    have he := quoteL_ends a t
    unfold unqR
    rw [if_neg (by omega), midL_quote, readR_runs a t.length t _ (Nat.le_refl _) (Nat.le_refl _), Option.bind_some, if_pos h]
theorem unqP_iff (f : Int → Int → Int) (hf : ∀ c d : Int, 0 ≤ c → c < 134217728 → 0 ≤ d → d < 16 → f c d = 16 * c + d) (s t : List UInt8) : unqP f s = some t ↔ isQ s t = true := by
  constructor
  · intro h
    unfold unqP at h
    split at h
    · cases h
    · cases hr : readN (oneP f) (midL s).length (midL s) with
      | none => rw [hr] at h; cases h
      | some t' =>
        rw [hr, Option.bind_some] at h
        split at h
        · cases h; assumption
        · cases h
  · intro h
    obtain ⟨a, rfl⟩ := isQ_form h
    have he := quoteL_ends a t
    unfold unqP
    rw [if_neg (by
      rintro (q | q | q)
      · omega
      · exact q he.2.1
      · exact q he.2.2), midL_quote, readP_runs f hf a t.length t _ (Nat.le_refl _) (Nat.le_refl _), Option.bind_some, if_pos h]
/-- The program and the document read alike. -/
theorem unq_eq (f : Int → Int → Int) (hf : ∀ c d : Int, 0 ≤ c → c < 134217728 → 0 ≤ d → d < 16 → f c d = 16 * c + d) (s : List UInt8) : unqP f s = unqR s := by
  cases h : unqP f s with
  | some t => exact ((unqR_iff s t).2 ((unqP_iff f hf s t).1 h)).symm
  | none =>
    cases h2 : unqR s with
    | none => rfl
    | some t =>
      rw [(unqP_iff f hf s t).2 ((unqR_iff s t).1 h2)] at h
      cases h
/-- What is written in quotes is read back. -/
theorem unqP_quote (f : Int → Int → Int) (hf : ∀ c d : Int, 0 ≤ c → c < 134217728 → 0 ≤ d → d < 16 → f c d = 16 * c + d) (a : Bool) (t : List UInt8) : unqP f (quoteL a t) = some t := by
  refine (unqP_iff f hf _ _).2 (decide_eq_true ?_)
  cases a
  · exact Or.inl rfl
  · exact Or.inr rfl
theorem form_len {ascii : Bool} {r s : List UInt8} (h : Form 34 ascii r s) : r.length ≤ s.length := by
  cases h with
  | byte x => simp
  | self c _ h1 => rw [encL_small h1]; simp
  | letr k hk => rw [encL_small (by omega)]; simp
  | raw => exact Nat.le_refl _
  | four c _ => have := (Utf.encL_pos (c : Int)).2; simp [hexW_len]; omega
  | eight c _ => have := (Utf.encL_pos (c : Int)).2; simp [hexW_len]; omega
theorem runsQ_ge (ascii : Bool) : ∀ (n : Nat) (l : List UInt8), l.length ≤ n → l.length ≤ (runsQ ascii l).length
  | 0, l, h => by omega
  | n + 1, l, h => by
    by_cases hl : l = []
    · subst hl; exact Nat.zero_le _
    · have h1 := Utf.dec_width l
      have h2 := List.length_pos_iff.2 hl
      have h3 := form_len (stepQ_form ascii l hl)
      have h4 := runsQ_ge ascii n (l.drop (Utf.decL l).2) (by rw [List.length_drop]; omega)
      rw [runsQ_cons _ _ hl, List.length_append]
      rw [List.length_drop] at h4
      rw [List.length_take] at h3
      have := Utf.dec_le l hl
      omega
theorem quoteL_ge (a : Bool) (t : List UInt8) : t.length + 2 ≤ (quoteL a t).length := by
  have := runsQ_ge a t.length t (Nat.le_refl _)
  unfold quoteL
  simp only [List.length_cons, List.length_append, List.length_nil]
  omega
/-- With ascii, what is written are plain bytes alone. -/
theorem form_ascii {q : Int} {r s : List UInt8} (hq : 32 ≤ q ∧ q ≤ 126) (h : Form q true r s) : ∀ a ∈ s, 32 ≤ a.toNat ∧ a.toNat ≤ 126 := by
  intro a ha
  cases h with
  | byte x =>
    rcases List.mem_cons.1 ha with rfl | ha
    · decide
    rcases List.mem_cons.1 ha with rfl | ha
    · decide
    have := hexW_lt _ _ a ha
    omega
  | self c hc h1 =>
    simp only [List.mem_cons, List.not_mem_nil, or_false] at ha
    rcases ha with rfl | rfl
    · decide
    · rw [Utf.toNat_ofNat (by omega)]; omega
  | letr k hk =>
    simp only [List.mem_cons, List.not_mem_nil, or_false] at ha
    rcases ha with rfl | rfl
    · decide
    · rcases (show k = 0 ∨ k = 1 ∨ k = 2 ∨ k = 3 ∨ k = 4 ∨ k = 5 ∨ k = 6 by omega) with rfl | rfl | rfl | rfl | rfl | rfl | rfl <;> decide
  | raw c hv h1 h2 hp hc =>
    have hc := hc rfl
    rw [encL_small (by omega), List.mem_singleton] at ha
    rw [ha, Utf.toNat_ofNat (by omega)]
    exact hc
  | four c _ =>
    rcases List.mem_cons.1 ha with rfl | ha
    · decide
    rcases List.mem_cons.1 ha with rfl | ha
    · decide
    have := hexW_lt _ _ a ha
    omega
  | eight c _ =>
    rcases List.mem_cons.1 ha with rfl | ha
    · decide
    rcases List.mem_cons.1 ha with rfl | ha
    · decide
    have := hexW_lt _ _ a ha
    omega
theorem runsQ_ascii : ∀ (n : Nat) (l : List UInt8), l.length ≤ n → ∀ a ∈ runsQ true l, 32 ≤ a.toNat ∧ a.toNat ≤ 126
  | 0, l, h, a, ha => by
    rw [List.eq_nil_of_length_eq_zero (Nat.le_zero.1 h), runsQ_nil] at ha
    simp at ha
  | n + 1, l, h, a, ha => by
    by_cases hl : l = []
    · rw [hl, runsQ_nil] at ha
      simp at ha
    · have h1 := Utf.dec_width l
      have h2 := List.length_pos_iff.2 hl
      rw [runsQ_cons _ _ hl, List.mem_append] at ha
      rcases ha with ha | ha
      · exact form_ascii (by decide) (stepQ_form true l hl) a ha
      · exact runsQ_ascii n _ (by rw [List.length_drop]; omega) a ha
theorem quoteL_ascii (l : List UInt8) : ∀ a ∈ quoteL true l, 32 ≤ a.toNat ∧ a.toNat ≤ 126 := by
  intro a ha
  unfold quoteL at ha
  rcases List.mem_cons.1 ha with rfl | ha
  · decide
  rcases List.mem_append.1 ha with ha | ha
  · exact runsQ_ascii l.length l (Nat.le_refl _) a ha
  · rw [List.mem_singleton] at ha; rw [ha]; decide
theorem charL_ascii (c : Int) : ∀ a ∈ charL c true, 32 ≤ a.toNat ∧ a.toNat ≤ 126 := by
  intro a ha
  unfold charL at ha
  rcases List.mem_cons.1 ha with rfl | ha
  · decide
  rcases List.mem_append.1 ha with ha | ha
  · exact form_ascii (by decide) (inL_form 39 true _ (by decide) (Utf.cp_valid c)) a ha
  · rw [List.mem_singleton] at ha; rw [ha]; decide
/-- All runes of a text are plain. -/
inductive PlainAll : List UInt8 → Prop
  | nil : PlainAll []
  | step (l : List UInt8) (hp : plainB ((Utf.decL l).1 : Int) = true) (h : PlainAll (l.drop (Utf.decL l).2)) : PlainAll l
theorem plainAll_ascii : ∀ (u X : List UInt8), (∀ a ∈ u, 32 ≤ a.toNat ∧ a.toNat ≤ 126) → PlainAll X → PlainAll (u ++ X)
  | [], X, _, hX => hX
  | a :: u, X, h, hX => by
    have h0 := h a List.mem_cons_self
    have hd : Utf.decL (a :: (u ++ X)) = (a.toNat, 1) := Utf.dec_ascii (by omega)
    refine .step _ ?_ ?_
    · rw [List.cons_append, hd]
      unfold plainB
      exact decide_eq_true (by simp only []; omega)
    · rw [List.cons_append, hd]
      exact plainAll_ascii u X (fun b hb => h b (List.mem_cons_of_mem _ hb)) hX
theorem plainAll_form {ascii : Bool} {r s X : List UInt8} (h : Form 34 ascii r s) (hX : PlainAll X) : PlainAll (s ++ X) := by
  have key : ∀ {r s : List UInt8}, Form 34 true r s → PlainAll (s ++ X) := fun h => plainAll_ascii _ X (form_ascii (by decide) h) hX
  cases h with
  | byte x => exact key (.byte x)
  | self c hc h1 => exact key (.self c hc h1)
  | letr k hk => exact key (.letr k hk)
  | raw c hv h1 h2 hp hc =>
    have hd := Utf.dec_enc (c : Int) X
    have hcp : Utf.cp (c : Int) = c := by have := Utf.cp_of_valid hv; omega
    rw [hcp] at hd
    refine .step _ ?_ ?_
    · rw [hd]; exact hp
    · rw [hd]
      simp only [List.drop_left]
      exact hX
  | four c h => exact key (.four c h)
  | eight c h => exact key (.eight c h)
theorem runsQ_plain (ascii : Bool) (X : List UInt8) (hX : PlainAll X) : ∀ (n : Nat) (l : List UInt8), l.length ≤ n → PlainAll (runsQ ascii l ++ X)
  | 0, l, h => by
    rw [List.eq_nil_of_length_eq_zero (Nat.le_zero.1 h), runsQ_nil]
    exact hX
  | n + 1, l, h => by
    by_cases hl : l = []
    · rw [hl, runsQ_nil]; exact hX
    · have h1 := Utf.dec_width l
      have h2 := List.length_pos_iff.2 hl
      rw [runsQ_cons _ _ hl, List.append_assoc]
      exact plainAll_form (stepQ_form ascii l hl) (runsQ_plain ascii X hX n _ (by rw [List.length_drop]; omega))
theorem quoteL_plain (ascii : Bool) (l : List UInt8) : PlainAll (quoteL ascii l) := by
  unfold quoteL
  have h0 : PlainAll ([34] ++ []) := plainAll_ascii [34] [] (by decide) .nil
  exact plainAll_ascii [34] _ (by decide) (runsQ_plain ascii [34] h0 l.length l (Nat.le_refl _))

/-- May a rune stand between back quotes? -/
def rawOk (c : Int) : Bool := decide (¬ (c = 96 ∨ (c < 32 ∧ c ≠ 9) ∨ c = 127 ∨ c = 65279))
/-- No rune is broken. -/
def validB (l : List UInt8) : Bool := if _h : l = [] then true else if Utf.Broken l then false else validB (l.drop (Utf.decL l).2)
termination_by l.length
decreasing_by exact Utf.drop_short _h
/-- All runes may stand there. -/
def okB (l : List UInt8) : Bool := if _h : l = [] then true else if rawOk ((Utf.decL l).1 : Int) then okB (l.drop (Utf.decL l).2) else false
termination_by l.length
decreasing_by exact Utf.drop_short _h
/-- A text may stand between back quotes. -/
def rawB (l : List UInt8) : Bool := if _h : l = [] then true else if Utf.Broken l ∨ rawOk ((Utf.decL l).1 : Int) = false then false else rawB (l.drop (Utf.decL l).2)
termination_by l.length
decreasing_by exact Utf.drop_short _h
theorem validB_nil : validB [] = true := by rw [validB, dif_pos rfl]
theorem okB_nil : okB [] = true := by rw [okB, dif_pos rfl]
theorem rawB_nil : rawB [] = true := by rw [rawB, dif_pos rfl]
theorem validB_cons {l : List UInt8} (h : l ≠ []) : validB l = if Utf.Broken l then false else validB (l.drop (Utf.decL l).2) := by rw [validB, dif_neg h]
theorem okB_cons {l : List UInt8} (h : l ≠ []) : okB l = if rawOk ((Utf.decL l).1 : Int) then okB (l.drop (Utf.decL l).2) else false := by rw [okB, dif_neg h]
theorem rawB_cons {l : List UInt8} (h : l ≠ []) : rawB l = if Utf.Broken l ∨ rawOk ((Utf.decL l).1 : Int) = false then false else rawB (l.drop (Utf.decL l).2) := by rw [rawB, dif_neg h]
theorem rawB_and : ∀ (n : Nat) (l : List UInt8), l.length ≤ n → rawB l = (validB l && okB l)
  | 0, l, h => by
    rw [List.eq_nil_of_length_eq_zero (Nat.le_zero.1 h), rawB_nil, validB_nil, okB_nil]; rfl
  | n + 1, l, h => by
    by_cases hl : l = []
    · rw [hl, rawB_nil, validB_nil, okB_nil]; rfl
    · have h1 := Utf.dec_width l
      have h2 := List.length_pos_iff.2 hl
      have ih := rawB_and n (l.drop (Utf.decL l).2) (by rw [List.length_drop]; omega)
      rw [rawB_cons hl, validB_cons hl, okB_cons hl, ih]
      by_cases hb : Utf.Broken l
      · rw [if_pos (Or.inl hb), if_pos hb]; rfl
      · cases ho : rawOk ((Utf.decL l).1 : Int)
        · rw [if_pos (Or.inr rfl), if_neg hb, if_neg Bool.false_ne_true, Bool.and_false]
        · rw [if_neg (by rintro (q | q); exact hb q; cases q), if_neg hb, if_pos rfl]
/-- The text that is written in hexadecimal digits: so many bytes, not more. -/
def preL (prec : Int) (l : List UInt8) : List UInt8 := if 0 ≤ prec ∧ prec < l.length then l.take prec.toNat else l
theorem preL_le (prec : Int) (l : List UInt8) : (preL prec l).length ≤ l.length := by
  unfold preL
  split
  · rw [List.length_take]; omega
  · exact Nat.le_refl _
def markH (sh g : Bool) : List UInt8 := if sh then (if g then [48, 88] else [48, 120]) else []
theorem markH_len (sh g : Bool) : (markH sh g).length ≤ 2 := by cases sh <;> cases g <;> decide
def hexS (sh sp : Bool) (prec verb : Int) (l : List UInt8) : List UInt8 := hexL (decide (verb = 88)) sp (markH sh (decide (verb = 88))) (preL prec l)
theorem hexS_len (sh sp : Bool) (prec verb : Int) (l : List UInt8) : (hexS sh sp prec verb l).length ≤ 5 * l.length := by
  have h1 := hexL_len (decide (verb = 88)) sp _ (markH_len sh (decide (verb = 88))) (preL prec l)
  have h2 := preL_le prec l
  unfold hexS
  omega
end Go.Proofs.YtdjhmanccoekjaaGreatDoor.IP
end
