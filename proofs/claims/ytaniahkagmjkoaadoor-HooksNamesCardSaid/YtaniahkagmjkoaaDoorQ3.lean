/-
  Walks of layer 3: a rune in quotes.
-/
import Derived.Test.YtaniahkagmjkoaaDoorQ2
import Derived.Lib.RuneBytes
namespace Go.Proofs.YtaniahkagmjkoaaDoor
open Go.RowKit Go.Proofs

theorem bc_nums (L : List Int) (h : ∀ x ∈ L, 0 ≤ x ∧ x < 256) : bc (strOfNums L).data.toList = L.map fun x => Value.int .u8 x := by
  rw [strOfNums_data]
  unfold bc
  rw [List.map_map]
  refine List.map_congr_left fun x hx => ?_
  have := h x hx
  show Value.int .u8 ((UInt8.ofNat x.toNat).toNat : Int) = _
  rw [Utf.toNat_ofNat (by omega)]
  congr 1
  omega
theorem runeCells_bc (c : Int) : Lib.runeCells c = bc (Utf.encL c) := by
  have key : (Utf8.encode c) = strOfNums (Lib.encodeRuneZ c) := by
    cases hv : Utf8.valid c
    · have h : ¬ ((0 ≤ c ∧ c < 55296) ∨ (57344 ≤ c ∧ c ≤ 1114111)) := by
        intro h
        rw [(Utf.valid_iff c).2 h] at hv
        cases hv
      rw [Lib.encodeRuneZ_bad (by omega)]
      exact enc_bad hv
    · have hr := (Utf.valid_iff c).1 hv
      rcases (show c < 128 ∨ (128 ≤ c ∧ c < 2048) ∨ (2048 ≤ c ∧ c < 65536) ∨ 65536 ≤ c by omega) with a | ⟨a, b⟩ | ⟨a, b⟩ | a
      · rw [Lib.encodeRuneZ_one (by omega) (by omega)]; exact enc_one (by omega) a
      · rw [Lib.encodeRuneZ_two a (by omega)]; exact enc_two a b
      · rw [Lib.encodeRuneZ_three (by omega)]; exact enc_three hv a b
      · rw [Lib.encodeRuneZ_four a (by omega)]; exact enc_four hv a
  unfold Utf.encL
  rw [key, bc_nums _ (Lib.encodeRuneZ_byte c)]
  rfl
theorem append_rune (B : Nat) (v : Value) (n : Nat) (xs : List Value) (c : Int) (w : World) (hown : w.ownsRow B 5 1 v n xs) (hB : B ≤ w.heap.size) (hn : n ≤ 100000) (hc0 : 0 ≤ c) (hc1 : c ≤ 2147483647) :
    Calls Tryd.prog 66 #[v, .int .i32 c] w fun e w' => ∃ v', e = .returned v' ∧ w'.ownsRow B 5 1 v' (n + (Utf.encL c).length) (xs ++ bc (Utf.encL c)) ∧ KB B w w' := by
  refine (Tryd.utf8_AppendRune_plain B v n xs c (by omega) hc1 w hown (by omega) hB).mono ?_
  rintro e w' ⟨v', rfl, ho, o, hg⟩
  rw [runeCells_bc, bc_length] at ho
  exact ⟨v', rfl, ho, own_grown hown ((Below.refl B w).alloc hB o) (by simp; omega) hg, ((Lib.OthersKept.refl _ none w).alloc o).grown hg (own_cells (hown.alloc o))⟩

set_option maxRecDepth 100000 in
set_option maxHeartbeats 1000000 in
theorem put_any (B : Nat) (v : Value) (n : Nat) (xs : List Value) (c q : Int) (ascii : Bool) (w : World) (hown : w.ownsRow B 5 1 v n xs) (hB : B ≤ w.heap.size) (hn : n ≤ 40000) (hc0 : 0 ≤ c) (hc1 : c ≤ 1114111) (hq0 : 0 ≤ q) (hq1 : q ≤ 127) :
    Calls Tryd.prog 57 #[v, .int .i32 c, .int .i32 q, .bool ascii] w fun e w' => ∃ v', e = .returned v' ∧ w'.ownsRow B 5 1 v' (n + (IP.inL c q ascii).length) (xs ++ bc (IP.inL c q ascii)) ∧ KB B w w' := by
  have HO := hid hown
  clear hown
  by_cases h1 : c = q ∨ c = 92
  · have hi : IP.inL c q ascii = [92, UInt8.ofNat c.toNat] := by unfold IP.inL; rw [if_pos h1]
    have hcb : c ≤ 127 := by omega
    have hcu : ((UInt8.ofNat c.toNat).toNat : Int) = c := by rw [Utf.toNat_ofNat (by omega)]; omega
    rw [hi]
    obtain ⟨y, hy⟩ : ∃ y, UInt8.ofNat c.toNat = y := ⟨_, rfl⟩
    rw [hy] at hcu ⊢
    have HY := hid hcu
    clear hi hy hcu
    have hdec : (c = q) ∨ (¬ c = q ∧ c = 92) := by omega
    clear h1
    rcases hdec with rfl | ⟨hd, rfl⟩
    all_goals
    go_enter Tryd.func57, Tryd.ntmps57
    go_upto_region 2 with fail
    refine wp_region_list ?_
    refine wpList_plain rfl fun K hK => ?_
    have HK := hid hK
    clear hK
    go_wp2_with fail
    refine HK.out _ _ ?_
    clear HK
    refine wpList_plain rfl fun K hK => ?_
    have HK := hid hK
    clear hK
    go_wp2_with fail
    refine HK.out _ _ ?_
    clear HK
    refine wpList_plain rfl fun K hK => ?_
    have HK := hid hK
    clear hK
    go_wp2_with fail
    refine HK.out _ _ ?_
    clear HK
    refine wpList_bytes rfl rfl 2 _ (.tmp 17) 20 rfl rfl rfl [92, y] rfl (by decide) (by decide) (by rw [show bc [92, y] = [.int .u8 92, .int .u8 _] by simp only [bc, List.map_cons, List.map_nil, HY.out]; rfl]; kernel_rfl) B v n xs _ rfl rfl rfl HO.out hB (by omega) ?_
    intro v1 w1 ho1 hb1
    have R := hid (And.intro ho1 hb1)
    clear ho1 hb1
    go_wp2_with fail
    go_ret
    exact ⟨_, rfl, R.out⟩
  · have h1a : ¬ c = q := fun h => h1 (Or.inl h)
    have h1b : ¬ c = 92 := fun h => h1 (Or.inr h)
    have h1c : (c == q) = false := beq_eq_false_iff_ne.2 h1a
    have h1d : (c == 92) = false := beq_eq_false_iff_ne.2 h1b
    by_cases h2 : 7 ≤ c ∧ c ≤ 13
    · have hi : IP.inL c q ascii = [92, IP.letter (c - 7).toNat] := by unfold IP.inL; rw [if_neg h1, if_pos h2]
      rw [hi]
      clear hi h1
      rcases (show c = 7 ∨ c = 8 ∨ c = 9 ∨ c = 10 ∨ c = 11 ∨ c = 12 ∨ c = 13 by omega) with rfl | rfl | rfl | rfl | rfl | rfl | rfl
      · clear h2
        go_enter Tryd.func57, Tryd.ntmps57
        go_upto_region 4 with fail
        refine wp_region_list ?_
        refine wpList_plain rfl fun K hK => ?_
        have HK := hid hK
        clear hK
        go_wp2_with fail
        refine HK.out _ _ ?_
        clear HK
        refine wpList_plain rfl fun K hK => ?_
        have HK := hid hK
        clear hK
        go_wp2_with fail
        refine HK.out _ _ ?_
        clear HK
        refine wpList_plain rfl fun K hK => ?_
        have HK := hid hK
        clear hK
        go_wp2_with fail
        refine HK.out _ _ ?_
        clear HK
        refine wpList_plain rfl fun K hK => ?_
        have HK := hid hK
        clear hK
        go_wp2_with fail
        refine HK.out _ _ ?_
        clear HK
        refine wpList_bytes rfl rfl 2 _ (.tmp 29) 33 rfl rfl rfl [92, 97] rfl (by decide) (by decide) (by kernel_rfl) B v n xs _ rfl rfl rfl HO.out hB (by omega) ?_
        intro v1 w1 ho1 hb1
        have R := hid (And.intro ho1 hb1)
        clear ho1 hb1
        go_wp2_with fail
        go_ret
        exact ⟨_, rfl, R.out⟩
      · clear h2
        go_enter Tryd.func57, Tryd.ntmps57
        go_upto_region 4 with fail
        refine wp_region_list ?_
        refine wpList_plain rfl fun K hK => ?_
        have HK := hid hK
        clear hK
        go_wp2_with fail
        refine HK.out _ _ ?_
        clear HK
        refine wpList_plain rfl fun K hK => ?_
        have HK := hid hK
        clear hK
        go_wp2_with fail
        refine HK.out _ _ ?_
        clear HK
        refine wpList_plain rfl fun K hK => ?_
        have HK := hid hK
        clear hK
        go_wp2_with fail
        refine HK.out _ _ ?_
        clear HK
        refine wpList_plain rfl fun K hK => ?_
        have HK := hid hK
        clear hK
        go_wp2_with fail
        refine HK.out _ _ ?_
        clear HK
        refine wpList_bytes rfl rfl 2 _ (.tmp 29) 33 rfl rfl rfl [92, 98] rfl (by decide) (by decide) (by kernel_rfl) B v n xs _ rfl rfl rfl HO.out hB (by omega) ?_
        intro v1 w1 ho1 hb1
        have R := hid (And.intro ho1 hb1)
        clear ho1 hb1
        go_wp2_with fail
        go_ret
        exact ⟨_, rfl, R.out⟩
      · clear h2
        go_enter Tryd.func57, Tryd.ntmps57
        go_upto_region 4 with fail
        refine wp_region_list ?_
        refine wpList_plain rfl fun K hK => ?_
        have HK := hid hK
        clear hK
        go_wp2_with fail
        refine HK.out _ _ ?_
        clear HK
        refine wpList_plain rfl fun K hK => ?_
        have HK := hid hK
        clear hK
        go_wp2_with fail
        refine HK.out _ _ ?_
        clear HK
        refine wpList_plain rfl fun K hK => ?_
        have HK := hid hK
        clear hK
        go_wp2_with fail
        refine HK.out _ _ ?_
        clear HK
        refine wpList_plain rfl fun K hK => ?_
        have HK := hid hK
        clear hK
        go_wp2_with fail
        refine HK.out _ _ ?_
        clear HK
        refine wpList_bytes rfl rfl 2 _ (.tmp 29) 33 rfl rfl rfl [92, 116] rfl (by decide) (by decide) (by kernel_rfl) B v n xs _ rfl rfl rfl HO.out hB (by omega) ?_
        intro v1 w1 ho1 hb1
        have R := hid (And.intro ho1 hb1)
        clear ho1 hb1
        go_wp2_with fail
        go_ret
        exact ⟨_, rfl, R.out⟩
      · clear h2
        go_enter Tryd.func57, Tryd.ntmps57
        go_upto_region 4 with fail
        refine wp_region_list ?_
        refine wpList_plain rfl fun K hK => ?_
        have HK := hid hK
        clear hK
        go_wp2_with fail
        refine HK.out _ _ ?_
        clear HK
        refine wpList_plain rfl fun K hK => ?_
        have HK := hid hK
        clear hK
        go_wp2_with fail
        refine HK.out _ _ ?_
        clear HK
        refine wpList_plain rfl fun K hK => ?_
        have HK := hid hK
        clear hK
        go_wp2_with fail
        refine HK.out _ _ ?_
        clear HK
        refine wpList_plain rfl fun K hK => ?_
        have HK := hid hK
        clear hK
        go_wp2_with fail
        refine HK.out _ _ ?_
        clear HK
        refine wpList_bytes rfl rfl 2 _ (.tmp 29) 33 rfl rfl rfl [92, 110] rfl (by decide) (by decide) (by kernel_rfl) B v n xs _ rfl rfl rfl HO.out hB (by omega) ?_
        intro v1 w1 ho1 hb1
        have R := hid (And.intro ho1 hb1)
        clear ho1 hb1
        go_wp2_with fail
        go_ret
        exact ⟨_, rfl, R.out⟩
      · clear h2
        go_enter Tryd.func57, Tryd.ntmps57
        go_upto_region 4 with fail
        refine wp_region_list ?_
        refine wpList_plain rfl fun K hK => ?_
        have HK := hid hK
        clear hK
        go_wp2_with fail
        refine HK.out _ _ ?_
        clear HK
        refine wpList_plain rfl fun K hK => ?_
        have HK := hid hK
        clear hK
        go_wp2_with fail
        refine HK.out _ _ ?_
        clear HK
        refine wpList_plain rfl fun K hK => ?_
        have HK := hid hK
        clear hK
        go_wp2_with fail
        refine HK.out _ _ ?_
        clear HK
        refine wpList_plain rfl fun K hK => ?_
        have HK := hid hK
        clear hK
        go_wp2_with fail
        refine HK.out _ _ ?_
        clear HK
        refine wpList_bytes rfl rfl 2 _ (.tmp 29) 33 rfl rfl rfl [92, 118] rfl (by decide) (by decide) (by kernel_rfl) B v n xs _ rfl rfl rfl HO.out hB (by omega) ?_
        intro v1 w1 ho1 hb1
        have R := hid (And.intro ho1 hb1)
        clear ho1 hb1
        go_wp2_with fail
        go_ret
        exact ⟨_, rfl, R.out⟩
      · clear h2
        go_enter Tryd.func57, Tryd.ntmps57
        go_upto_region 4 with fail
        refine wp_region_list ?_
        refine wpList_plain rfl fun K hK => ?_
        have HK := hid hK
        clear hK
        go_wp2_with fail
        refine HK.out _ _ ?_
        clear HK
        refine wpList_plain rfl fun K hK => ?_
        have HK := hid hK
        clear hK
        go_wp2_with fail
        refine HK.out _ _ ?_
        clear HK
        refine wpList_plain rfl fun K hK => ?_
        have HK := hid hK
        clear hK
        go_wp2_with fail
        refine HK.out _ _ ?_
        clear HK
        refine wpList_plain rfl fun K hK => ?_
        have HK := hid hK
        clear hK
        go_wp2_with fail
        refine HK.out _ _ ?_
        clear HK
        refine wpList_bytes rfl rfl 2 _ (.tmp 29) 33 rfl rfl rfl [92, 102] rfl (by decide) (by decide) (by kernel_rfl) B v n xs _ rfl rfl rfl HO.out hB (by omega) ?_
        intro v1 w1 ho1 hb1
        have R := hid (And.intro ho1 hb1)
        clear ho1 hb1
        go_wp2_with fail
        go_ret
        exact ⟨_, rfl, R.out⟩
      · clear h2
        go_enter Tryd.func57, Tryd.ntmps57
        go_upto_region 4 with fail
        refine wp_region_list ?_
        refine wpList_plain rfl fun K hK => ?_
        have HK := hid hK
        clear hK
        go_wp2_with fail
        refine HK.out _ _ ?_
        clear HK
        refine wpList_plain rfl fun K hK => ?_
        have HK := hid hK
        clear hK
        go_wp2_with fail
        refine HK.out _ _ ?_
        clear HK
        refine wpList_plain rfl fun K hK => ?_
        have HK := hid hK
        clear hK
        go_wp2_with fail
        refine HK.out _ _ ?_
        clear HK
        refine wpList_plain rfl fun K hK => ?_
        have HK := hid hK
        clear hK
        go_wp2_with fail
        refine HK.out _ _ ?_
        clear HK
        refine wpList_bytes rfl rfl 2 _ (.tmp 29) 33 rfl rfl rfl [92, 114] rfl (by decide) (by decide) (by kernel_rfl) B v n xs _ rfl rfl rfl HO.out hB (by omega) ?_
        intro v1 w1 ho1 hb1
        have R := hid (And.intro ho1 hb1)
        clear ho1 hb1
        go_wp2_with fail
        go_ret
        exact ⟨_, rfl, R.out⟩
    · by_cases h3 : (32 ≤ c ∧ c ≤ 126) ∨ (ascii = false ∧ IP.plainB c = true)
      · have hi : IP.inL c q ascii = Utf.encL c := by unfold IP.inL; rw [if_neg h1, if_neg h2, if_pos h3]
        rw [hi]
        have AR := hid (append_rune B v n xs c w HO.out hB (by omega) hc0 (by omega))
        have PL := hid (fun W => qplain_any c W)
        clear hi h1
        by_cases h4 : 32 ≤ c ∧ c ≤ 126
        · obtain ⟨h5, h6⟩ := h4
          clear h3 h2
          go_enter Tryd.func57, Tryd.ntmps57
          go_wp2_with fail
          refine AR.out.mono ?_
          rintro e w' ⟨v', rfl, h⟩
          have R := hid h
          clear h
          go_wp2_with fail
          go_ret
          exact ⟨_, rfl, R.out⟩
        · obtain ⟨ha, hp⟩ : ascii = false ∧ IP.plainB c = true := by
            rcases h3 with h | h
            · exact absurd h h4
            · exact h
          subst ha
          rw [hp] at PL
          clear h3 hp
          rcases (show c < 7 ∨ (13 < c ∧ c < 32) ∨ 126 < c by omega) with h5 | ⟨h5, h6⟩ | h5
          all_goals
            clear h2 h4
            go_enter Tryd.func57, Tryd.ntmps57
            go_wp2_with fail
            refine (PL.out _).mono ?_
            rintro e w' ⟨rfl, rfl⟩
            go_wp2_with fail
            refine AR.out.mono ?_
            rintro e w' ⟨v', rfl, h⟩
            have R := hid h
            clear h
            go_wp2_with fail
            go_ret
            exact ⟨_, rfl, R.out⟩
      · have h32 : ¬ (32 ≤ c ∧ c ≤ 126) := fun h => h3 (Or.inl h)
        have PL := hid (fun W => qplain_any c W)
        have hpa : ascii = true ∨ (ascii = false ∧ IP.plainB c = false) := by
          cases ascii
          · refine Or.inr ⟨rfl, ?_⟩
            cases hb : IP.plainB c
            · rfl
            · exact absurd (Or.inr ⟨rfl, hb⟩) h3
          · exact Or.inl rfl
        have e128 : c < 128 → IP.inL c q ascii = 92 :: UInt8.ofNat (120 : Int).toNat :: IP.hexW c.toNat 2 := fun h => by
          unfold IP.inL; rw [if_neg h1, if_neg h2, if_neg h3, if_pos h]; rfl
        have e65 : ¬ c < 128 → c ≤ 65535 → IP.inL c q ascii = 92 :: UInt8.ofNat (117 : Int).toNat :: IP.hexW c.toNat 4 := fun h h' => by
          unfold IP.inL; rw [if_neg h1, if_neg h2, if_neg h3, if_neg h, if_pos h']; rfl
        have e99 : ¬ c < 128 → ¬ c ≤ 65535 → IP.inL c q ascii = 92 :: UInt8.ofNat (85 : Int).toNat :: IP.hexW c.toNat 8 := fun h h' => by
          unfold IP.inL; rw [if_neg h1, if_neg h2, if_neg h3, if_neg h, if_neg h']; rfl
        clear h3 h1
        rcases (show (c < 7 ∧ c < 128) ∨ (13 < c ∧ c < 32 ∧ c < 128) ∨ (126 < c ∧ c < 128) ∨ (¬ c < 128 ∧ c ≤ 65535) ∨ (¬ c < 128 ∧ ¬ c ≤ 65535) by omega) with ⟨h5, h6⟩ | ⟨h5, h5', h6⟩ | ⟨h5, h6⟩ | ⟨h5, h6⟩ | ⟨h5, h6⟩
        all_goals
          have ES := hid (fun sg N (h0 : (0 : Int) ≤ sg) (h1 : sg ≤ 255) (h2 : N ≤ 8) => escape_any B v n xs sg c N w HO.out hB (by omega) h0 h1 hc0 (by omega) h2)
          first
            | have eq := hid (e128 h6)
            | have eq := hid (e65 h5 h6)
            | have eq := hid (e99 h5 h6)
          clear e128 e65 e99 h2 h32
          rcases hpa with ha | ⟨ha, hp⟩
          · subst ha
            go_enter Tryd.func57, Tryd.ntmps57
            go_wp2_with fail
            refine (ES.out _ _ (by decide) (by decide) (by decide)).mono ?_
            rintro e w' ⟨v', rfl, h⟩
            rw [← eq.out] at h
            have R := hid h
            clear h
            go_wp2_with fail
            go_ret
            exact ⟨_, rfl, R.out⟩
          · subst ha
            rw [hp] at PL
            clear hp
            go_enter Tryd.func57, Tryd.ntmps57
            go_wp2_with fail
            refine (PL.out _).mono ?_
            rintro e w' ⟨rfl, rfl⟩
            go_wp2_with fail
            refine (ES.out _ _ (by decide) (by decide) (by decide)).mono ?_
            rintro e w' ⟨v', rfl, h⟩
            rw [← eq.out] at h
            have R := hid h
            clear h
            go_wp2_with fail
            go_ret
            exact ⟨_, rfl, R.out⟩
end Go.Proofs.YtaniahkagmjkoaaDoor
