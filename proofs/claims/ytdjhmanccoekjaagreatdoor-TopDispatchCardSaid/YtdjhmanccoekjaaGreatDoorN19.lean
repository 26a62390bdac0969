/-
  Texts of this claim, joined: LTopDispatch, Rowd.
-/
import Derived.Deep.Fields
import Derived.Lib.SmallJoins
import Derived.Test.YtdjhmanccoekjaaGreatDoorN18
import Derived.Test.YtdjhmanccoekjaaGreatDoorN1

section
namespace Go.Proofs.YtdjhmanccoekjaaGreatDoor
open Go.RowKit Go.Proofs

set_option maxRecDepth 100000 in
set_option maxHeartbeats 8000000 in
theorem topDispatch_law (f g e s : Bool) (v : Int) (w : World) (hT : Tabs w) (_hv0 : -2147483648 ≤ v) (_hv1 : v ≤ 2147483647) :
    Calls Tryz.prog 3 #[.agg #[.bool f, .bool g, .bool e, .bool s, .int .i32 v]] w fun e w' => e = .returned (.bool true) ∧ Below w.heap.size w w' := by
  have LV := hid (fun W h => lives_any W h)
  have RU := hid (fun W => rune_any v W)
  have HT := hid hT
  have AC := hid (fun on t W => act_any on t W)
  have r0 := Blk.new w #[.bool f, .bool g, .bool e, .bool s, .int .i32 v] 23
  have b0 := (Below.refl w.heap.size w).alloc (Nat.le_refl _) (.cells #[.bool f, .bool g, .bool e, .bool s, .int .i32 v] 23)
  clear hT
  go_enter Tryz.func3, Tryz.ntmps3
  go_upto_region 1 with fail
  go_quiet (fail)
  obtain ⟨W1, hW1⟩ : ∃ W1, (w.alloc (.cells #[.bool f, .bool g, .bool e, .bool s, .int .i32 v] 23)).drewN nq = W1 := ⟨_, rfl⟩
  have b1 : Below w.heap.size w W1 := by rw [← hW1]; exact below_drewN b0 _
  rw [hW1]
  have B1 := hid b1
  clear r0 b0 b1 hW1
  have LIV : ∀ W, Below w.heap.size w W → Calls Tryz.prog 7 #[] W fun e w' => e = .returned (.bool true) ∧ Below w.heap.size w w' := fun W hW =>
    (LV.out W (HT.out.below hW)).mono fun _ _ ⟨he, hb⟩ => ⟨he, hW.trans (hb.mono hW.size)⟩
  have LIV := hid LIV
  by_cases h84 : v = 84
  · subst h84
    go_wp2_with fail
    refine (LIV.out _ B1.out).mono ?_
    rintro e W2 ⟨rfl, hb⟩
    have HB := hid hb
    clear hb
    go_wp2_with fail
    go_ret
    exact ⟨rfl, HB.out⟩
  by_cases h37 : v = 37
  · subst h37
    go_wp2_with fail
    refine (LIV.out _ B1.out).mono ?_
    rintro e W2 ⟨rfl, hb⟩
    have HB := hid hb
    clear hb
    go_wp2_with fail
    go_ret
    exact ⟨rfl, HB.out⟩
  have e84 : (v == 84) = false := by simpa using h84
  have e37 : (v == 37) = false := by simpa using h37
  by_cases h65 : v < 65
  · have d65 : decide (v < 65) = true := decide_eq_true h65
    go_wp2_with fail
    refine (LIV.out _ B1.out).mono ?_
    rintro e W2 ⟨rfl, hb⟩
    have HB := hid hb
    clear hb
    go_wp2_with fail
    go_ret
    exact ⟨rfl, HB.out⟩
  have d65 : decide (v < 65) = false := decide_eq_false h65
  by_cases h122 : 122 < v
  · have d122 : decide (122 < v) = true := decide_eq_true h122
    go_wp2_with fail
    refine (LIV.out _ B1.out).mono ?_
    rintro e W2 ⟨rfl, hb⟩
    have HB := hid hb
    clear hb
    go_wp2_with fail
    go_ret
    exact ⟨rfl, HB.out⟩
  have d122 : decide (122 < v) = false := decide_eq_false h122
  by_cases h91 : v = 91
  · subst h91
    go_wp2_with fail
    refine (LIV.out _ B1.out).mono ?_
    rintro e W2 ⟨rfl, hb⟩
    have HB := hid hb
    clear hb
    go_wp2_with fail
    go_ret
    exact ⟨rfl, HB.out⟩
  have e91 : (v == 91) = false := by simpa using h91
  go_upto_region 5 with fail
  refine wp_region_list ?_
  refine wpList_plain rfl fun K hK => ?_
  have HK := hid hK
  clear hK
  go_wp2_with fail
  refine HK.out _ _ ?_
  clear HK
  refine wpList_plain rfl fun K hK => ?_
  have HK := hid hK
  clear hK
  go_wp2_with fail
  refine HK.out _ _ ?_
  clear HK
  refine wpList_plain rfl fun K hK => ?_
  have HK := hid hK
  clear hK
  go_wp2_with fail
  refine (AC.out f ⟨#[70]⟩ _).mono ?_
  rintro e W2 ⟨rfl, hb⟩
  have B2 := hid (B1.out.trans (hb.mono B1.out.size))
  clear hb
  refine HK.out _ _ ?_
  clear HK
  refine wpList_plain rfl fun K hK => ?_
  have HK := hid hK
  clear hK
  go_wp2_with fail
  refine HK.out _ _ ?_
  clear HK
  refine wpList_plain rfl fun K hK => ?_
  have HK := hid hK
  clear hK
  go_wp2_with fail
  refine HK.out _ _ ?_
  clear HK
  refine wpList_plain rfl fun K hK => ?_
  have HK := hid hK
  clear hK
  go_wp2_with fail
  refine (AC.out g ⟨#[71]⟩ _).mono ?_
  rintro e W3 ⟨rfl, hb⟩
  have B3 := hid (B2.out.trans (hb.mono B2.out.size))
  clear hb
  refine HK.out _ _ ?_
  clear HK
  refine wpList_plain rfl fun K hK => ?_
  have HK := hid hK
  clear hK
  go_wp2_with fail
  refine HK.out _ _ ?_
  clear HK
  refine wpList_plain rfl fun K hK => ?_
  have HK := hid hK
  clear hK
  go_wp2_with fail
  refine HK.out _ _ ?_
  clear HK
  refine wpList_plain rfl fun K hK => ?_
  have HK := hid hK
  clear hK
  go_wp2_with fail
  refine (AC.out e ⟨#[69]⟩ _).mono ?_
  rintro e W4 ⟨rfl, hb⟩
  have B4 := hid (B3.out.trans (hb.mono B3.out.size))
  clear hb
  refine HK.out _ _ ?_
  clear HK
  refine wpList_plain rfl fun K hK => ?_
  have HK := hid hK
  clear hK
  go_wp2_with fail
  refine HK.out _ _ ?_
  clear HK
  refine wpList_plain rfl fun K hK => ?_
  have HK := hid hK
  clear hK
  go_wp2_with fail
  refine HK.out _ _ ?_
  clear HK
  refine wpList_plain rfl fun K hK => ?_
  have HK := hid hK
  clear hK
  go_wp2_with fail
  refine (AC.out s ⟨#[83]⟩ _).mono ?_
  rintro e W5 ⟨rfl, hb⟩
  have B5 := hid (B4.out.trans (hb.mono B4.out.size))
  clear hb
  refine HK.out _ _ ?_
  clear HK
  refine wpList_buildTo rfl 34 _ rfl (some 56) rfl (hkV (rowH f g e s)) (by kernel_rfl) ?_
  have hz0 := hook_zero
  have hs0 := hook_size
  cases hie : Tryz.prog.info? 34 with
  | none => simp [hie] at hs0
  | some ie =>
  rw [hie] at hz0 hs0
  simp only [Option.bind_some, Option.map_some, Option.some.injEq] at hz0 hs0
  refine wpList_buildSlice rfl 35 34 1 #[(0, .tmp 56)] rfl (hkV (rowH f g e s)) ie (.agg hk0) Tryz.underlying35 hie hz0 (by rw [hs0]; decide) (by rw [hs0]; decide) ?_ ?_
  · rw [hs0]
    simp only [List.map_toArray, List.map_cons, List.map_nil]
    exact fill_hook (rowH f g e s)
  clear hie hz0 hs0
  refine wpList_plain rfl fun K hK => ?_
  have HK := hid hK
  clear hK
  go_wp2_with fail
  refine HK.out _ _ ?_
  clear HK
  refine wpList_nil ?_
  have t0 := Blk.new W5 (hkV (rowH f g e s)) 34
  have b6 := B5.out.alloc B5.out.size (.cells (hkV (rowH f g e s)) 34)
  obtain ⟨W6, hW6⟩ : ∃ W6, W5.alloc (.cells (hkV (rowH f g e s)) 34) = W6 := ⟨_, rfl⟩
  rw [hW6] at t0 b6 ⊢
  obtain ⟨A, hA⟩ : ∃ A, W5.heap.size = A := ⟨_, rfl⟩
  rw [hA] at t0 ⊢
  have T6 := hid t0
  have B6 := hid b6
  clear t0 b6 hW6 hA B5 B4 B3 B2 B1
  go_upto_region 7 with fail
  have d7 := Blk.new W6 (deV deB) 29
  have i7 : TdI w A W6.heap.size (rowH f g e s) (W6.alloc (.cells (deV deB) 29)) := ⟨B6.out.alloc B6.out.size _, T6.out.alloc _, d7⟩
  obtain ⟨W7, hW7⟩ : ∃ W7, W6.alloc (.cells #[.int .i64 1, .string ⟨#[]⟩, .int .u64 1, .int .u64 0, .string ⟨#[]⟩, .slice none 0 0, .slice none 0 0, .int .i64 1] 29) = W7 := ⟨_, rfl⟩
  obtain ⟨D, hD⟩ : ∃ D, W6.heap.size = D := ⟨_, rfl⟩
  rw [hD] at i7
  have i7' : TdI w A D (rowH f g e s) W7 := hW7 ▸ i7
  rw [hW7, hD]
  have I7 := hid i7'
  obtain ⟨c, hc⟩ : ∃ c : Nat, v = (c : Int) := ⟨v.toNat, by omega⟩
  subst hc
  have hc0 : 65 ≤ c := by omega
  have hc1 : c ≤ 122 := by omega
  have hc2 : c ≠ 91 := by omega
  have hc84 : (c : Int) ≠ 84 := h84
  have PR := hid (fun A sl W (hT : Tabs W) hB (hA : ArgsAt W sl [deB]) hcap => oprint_one (rowH f g e s) (one_letter f g e s c hc0 hc1 hc2) (row_shows f g e s c false hc84 (fun h => by cases h)) (rowH_bare f g e s) A sl W hT hB hA hcap)
  have PS := hid (fun A sl W (hT : Tabs W) hB (hA : ArgsAt W sl [deB]) hcap => oprint_one (rowH f g e s) (one_sharp f g e s) (row_shows f g e s 118 true (by decide) (fun _ => rfl)) (rowH_bare f g e s) A sl W hT hB hA hcap)
  have PB := hid (fun sl W (hT : Tabs W) (hA : ArgsAt W sl [deB]) hcap => oprint_nil (one_bare c hc0 hc1 hc2) (sh_nil false c hc84) sl W hT hA hcap)
  have PT := hid (fun k hk hn sl W (hT : Tabs W) (hA : ArgsAt W sl [deTx ⟨#[k]⟩]) hcap => oprint_nil (one_text c hc0 hc1 hc2 k hk hn) (sh_text c hc84 ⟨#[k]⟩ (namedT c k) (by show (1 : Nat) ≤ 2000; decide) (named_text c k hk hn).1) sl W hT hA hcap)
  have hfm := v_fmt c hc0 hc1
  obtain ⟨F, hF⟩ : ∃ F, (⟨#[37]⟩ : ByteArray) ++ Utf8.encode (c : Int) = F := ⟨_, rfl⟩
  rw [← hfm, hF] at PR PB PT
  have hz : ¬ 9223372036854775807 < 1 + (Utf8.encode (c : Int)).size := by have := enc_size (c : Int); omega
  obtain ⟨R, hR⟩ : ∃ R, rowT f g e s c false = R := ⟨_, rfl⟩
  obtain ⟨S, hS⟩ : ∃ S, rowT f g e s 118 true = S := ⟨_, rfl⟩
  obtain ⟨Q, hQ⟩ : ∃ Q, bareT c = Q := ⟨_, rfl⟩
  rw [hR] at PR
  rw [hS] at PS
  rw [hQ] at PB
  have HR := hid hR
  have HS := hid hS
  have HQ := hid hQ
  clear i7 i7' hW7 hD d7 T6 B6 hfm hR hS hQ
  go_cut [11] (fun x wn => x = .string R ∧ Hid (TdI w A D (rowH f g e s) wn))
  case first =>
    have IB := I7
    obtain ⟨WB, hWB⟩ : ∃ WB, W7 = WB := ⟨_, rfl⟩
    rw [hWB] at IB ⊢
    clear I7 hWB
    refine wp_region_held_drew (S := fun w1 => Below WB.heap.size WB w1) (by kernel_rfl) (Below.refl _ _).drew (fun h0 => ?_)
    generalize World.drew WB = W8 at h0 ⊢
    refine wpAnyH_take (i := 0) (fuel := 7) (v := .slice (some ⟨A, 0, none⟩) 1 1) rfl (by kernel_rfl) (by kernel_rfl) (by kernel_rfl) (fun _ _ _ h => h) (Or.inl ⟨by rfl, by intro w1 hw1; go_simp⟩) h0 ?_
    try simp only [Act.put, List.getElem_toArray, List.getElem_cons_zero, List.setIfInBounds_toArray, List.set_cons_zero, List.set_cons_succ]
    refine wpAnyH_take (i := 1) (fuel := 6) (v := .int .i32 (c : Int)) rfl (by kernel_rfl) (by kernel_rfl) (by kernel_rfl) (fun _ _ _ h => h) (Or.inl ⟨by rfl, by intro w1 hw1; go_simp⟩) h0 ?_
    try simp only [Act.put, List.getElem_toArray, List.getElem_cons_zero, List.getElem_cons_succ, List.setIfInBounds_toArray, List.set_cons_zero, List.set_cons_succ]
    refine wpAnyH_take (i := 4) (fuel := 5) (v := _) rfl (by kernel_rfl) (by kernel_rfl) (by kernel_rfl) (fun _ _ _ h => h) (yieldsIf_load_mid (by rfl) 29 (.tmp 10) rfl D 0 rfl (deV deB).toList _ (fun w1 h1 => fun q v hv => by rw [Nat.zero_add, (IB.out.d.below h1 IB.out.d.lt).cell]; simpa using hv) Tryz.underlying29 rfl desc_size) h0 ?_
    try simp only [Act.put, List.getElem_toArray, List.getElem_cons_zero, List.getElem_cons_succ, List.setIfInBounds_toArray, List.set_cons_zero, List.set_cons_succ]
    refine wpAnyH_ready (fuel := 4) (rs := [2, 5]) (by kernel_rfl) (by simp) ?_
    refine AllReadyH.cons rfl (fun K hK => ?_) (AllReadyH.cons rfl (fun K hK => ?_) AllReadyH.nil)
    · rw [if_pos (by rfl)]
      go_wp2_with fail
      refine (RU.out _).mono ?_
      rintro e W10 ⟨rfl, hw⟩
      subst hw
      refine hK.out _ _ h0 (fun _ => ?_)
      clear hK
      try simp only [Act.put, List.getElem_toArray, List.getElem_cons_zero, List.getElem_cons_succ, List.setIfInBounds_toArray, List.set_cons_zero, List.set_cons_succ]
      refine wpAnyH_take (i := 3) (fuel := 3) (v := .string F) rfl (by kernel_rfl) (by kernel_rfl) (by kernel_rfl) (fun _ _ _ h => h) (Or.inl ⟨by rfl, by intro w1 hw1; go_simp⟩) h0 ?_
      try simp only [Act.put, List.getElem_toArray, List.getElem_cons_zero, List.getElem_cons_succ, List.setIfInBounds_toArray, List.set_cons_zero, List.set_cons_succ]
      refine wpAnyH_ready (fuel := 2) (rs := [5]) (by kernel_rfl) (by simp) ?_
      refine AllReadyH.cons rfl (fun K hK => ?_) AllReadyH.nil
      rw [if_pos (by rfl)]
      go_wp2_with fail
      have h2 := h0.alloc h0.size (.cells (deV deB) 29)
      have aa := Blk.new W8 (deV deB) 29
      obtain ⟨W9, hW9⟩ : ∃ W9, World.alloc W8 (.cells #[.int .i64 1, .string ⟨#[]⟩, .int .u64 1, .int .u64 0, .string ⟨#[]⟩, slV sl0, slV sl0, .int .i64 1] 29) = W9 := ⟨_, rfl⟩
      obtain ⟨G, hG⟩ : ∃ G, W8.heap.size = G := ⟨_, rfl⟩
      have h2' : Below WB.heap.size WB W9 := hW9 ▸ h2
      have aa' : Blk W9 G (deV deB) 29 := by rw [← hW9, ← hG]; exact aa
      rw [hW9, hG]
      have AA := hid (show ArgsAt W9 ⟨some ⟨G, 0, none⟩, 1, 1⟩ [deB] from argsAt_row [deB] aa' rfl rfl)
      clear aa aa' h2 hW9 hG
      refine hK.out _ _ h2' (fun _ => ?_)
      clear hK
      try simp only [Act.put, List.getElem_toArray, List.getElem_cons_zero, List.getElem_cons_succ, List.setIfInBounds_toArray, List.set_cons_zero, List.set_cons_succ]
      refine wpAnyH_ready (fuel := 1) (rs := [6]) (by kernel_rfl) (by simp) ?_
      refine AllReadyH.cons rfl (fun K hK => ?_) AllReadyH.nil
      rw [if_pos (by rfl)]
      go_wp2_with fail
      refine (PR.out A _ W9 (HT.out.below (IB.out.low.trans (h2'.mono IB.out.low.size))) (IB.out.t.below h2' IB.out.t.lt) AA.out (by show (1 : Nat) ≤ 1; decide)).mono ?_
      rintro e W11 ⟨rfl, hb⟩
      have h3 : Below WB.heap.size WB W11 := h2'.trans (hb.mono h2'.size)
      clear hb
      refine hK.out _ _ h3 (fun _ => ?_)
      clear hK
      try simp only [Act.put, List.getElem_toArray, List.getElem_cons_zero, List.getElem_cons_succ, List.setIfInBounds_toArray, List.set_cons_zero, List.set_cons_succ]
      refine wpAnyH_take (i := 7) (fuel := 0) (v := .string R) rfl (by kernel_rfl) (by kernel_rfl) (by kernel_rfl) (fun _ _ _ h => h) (Or.inl ⟨by rfl, by intro w1 hw1; go_simp⟩) h3 ?_
      try simp only [Act.put, List.getElem_toArray, List.getElem_cons_zero, List.getElem_cons_succ, List.setIfInBounds_toArray, List.set_cons_zero, List.set_cons_succ]
      refine wpAnyH_done (by kernel_rfl) ?_ _
      go_wp2_with fail
      go_meet
      exact ⟨rfl, IB.out.kept h3⟩
    · rw [if_pos (by rfl)]
      go_wp2_with fail
      have h2 := h0.alloc h0.size (.cells (deV deB) 29)
      have aa := Blk.new W8 (deV deB) 29
      obtain ⟨W9, hW9⟩ : ∃ W9, World.alloc W8 (.cells #[.int .i64 1, .string ⟨#[]⟩, .int .u64 1, .int .u64 0, .string ⟨#[]⟩, slV sl0, slV sl0, .int .i64 1] 29) = W9 := ⟨_, rfl⟩
      obtain ⟨G, hG⟩ : ∃ G, W8.heap.size = G := ⟨_, rfl⟩
      have h2' : Below WB.heap.size WB W9 := hW9 ▸ h2
      have aa' : Blk W9 G (deV deB) 29 := by rw [← hW9, ← hG]; exact aa
      rw [hW9, hG]
      have AA := hid (show ArgsAt W9 ⟨some ⟨G, 0, none⟩, 1, 1⟩ [deB] from argsAt_row [deB] aa' rfl rfl)
      clear aa aa' h2 hW9 hG
      refine hK.out _ _ h2' (fun _ => ?_)
      clear hK
      try simp only [Act.put, List.getElem_toArray, List.getElem_cons_zero, List.getElem_cons_succ, List.setIfInBounds_toArray, List.set_cons_zero, List.set_cons_succ]
      refine wpAnyH_ready (fuel := 3) (rs := [2]) (by kernel_rfl) (by simp) ?_
      refine AllReadyH.cons rfl (fun K hK => ?_) AllReadyH.nil
      rw [if_pos (by rfl)]
      go_wp2_with fail
      refine (RU.out _).mono ?_
      rintro e W10 ⟨rfl, hw⟩
      subst hw
      refine hK.out _ _ h2' (fun _ => ?_)
      clear hK
      try simp only [Act.put, List.getElem_toArray, List.getElem_cons_zero, List.getElem_cons_succ, List.setIfInBounds_toArray, List.set_cons_zero, List.set_cons_succ]
      refine wpAnyH_take (i := 3) (fuel := 2) (v := .string F) rfl (by kernel_rfl) (by kernel_rfl) (by kernel_rfl) (fun _ _ _ h => h) (Or.inl ⟨by rfl, by intro w1 hw1; go_simp⟩) h2' ?_
      try simp only [Act.put, List.getElem_toArray, List.getElem_cons_zero, List.getElem_cons_succ, List.setIfInBounds_toArray, List.set_cons_zero, List.set_cons_succ]
      refine wpAnyH_ready (fuel := 1) (rs := [6]) (by kernel_rfl) (by simp) ?_
      refine AllReadyH.cons rfl (fun K hK => ?_) AllReadyH.nil
      rw [if_pos (by rfl)]
      go_wp2_with fail
      refine (PR.out A _ W9 (HT.out.below (IB.out.low.trans (h2'.mono IB.out.low.size))) (IB.out.t.below h2' IB.out.t.lt) AA.out (by show (1 : Nat) ≤ 1; decide)).mono ?_
      rintro e W11 ⟨rfl, hb⟩
      have h3 : Below WB.heap.size WB W11 := h2'.trans (hb.mono h2'.size)
      clear hb
      refine hK.out _ _ h3 (fun _ => ?_)
      clear hK
      try simp only [Act.put, List.getElem_toArray, List.getElem_cons_zero, List.getElem_cons_succ, List.setIfInBounds_toArray, List.set_cons_zero, List.set_cons_succ]
      refine wpAnyH_take (i := 7) (fuel := 0) (v := .string R) rfl (by kernel_rfl) (by kernel_rfl) (by kernel_rfl) (fun _ _ _ h => h) (Or.inl ⟨by rfl, by intro w1 hw1; go_simp⟩) h3 ?_
      try simp only [Act.put, List.getElem_toArray, List.getElem_cons_zero, List.getElem_cons_succ, List.setIfInBounds_toArray, List.set_cons_zero, List.set_cons_succ]
      refine wpAnyH_done (by kernel_rfl) ?_ _
      go_wp2_with fail
      go_meet
      exact ⟨rfl, IB.out.kept h3⟩
  case rest =>
    obtain ⟨rfl, hI⟩ := hcut
    clear I7
    go_upto_region 8 with fail
    refine wp_region_list ?_
    refine wpList_plain rfl fun K hK => ?_
    have HK := hid hK
    clear hK
    go_wp2_with fail
    refine HK.out _ _ ?_
    clear HK
    refine wpList_load_mid rfl 29 (.tmp 10) rfl D 0 rfl (deV deB).toList _ (fun j v hv => by rw [Nat.zero_add, hI.out.d.cell]; simpa using hv) Tryz.underlying29 rfl desc_size ?_
    refine wpList_plain rfl fun K hK => ?_
    have HK := hid hK
    clear hK
    go_wp2_with fail
    refine HK.out _ _ ?_
    clear HK
    have h2 := (Below.refl wc.heap.size wc).alloc (Nat.le_refl _) (.cells (deV deB) 29)
    have aa := Blk.new wc (deV deB) 29
    obtain ⟨W9, hW9⟩ : ∃ W9, World.alloc wc (.cells #[.int .i64 1, .string ⟨#[]⟩, .int .u64 1, .int .u64 0, .string ⟨#[]⟩, slV sl0, slV sl0, .int .i64 1] 29) = W9 := ⟨_, rfl⟩
    obtain ⟨G, hG⟩ : ∃ G, wc.heap.size = G := ⟨_, rfl⟩
    have h2' : Below wc.heap.size wc W9 := hW9 ▸ h2
    have aa' : Blk W9 G (deV deB) 29 := by rw [← hW9, ← hG]; exact aa
    rw [hW9, hG]
    have AA := hid (show ArgsAt W9 ⟨some ⟨G, 0, none⟩, 1, 1⟩ [deB] from argsAt_row [deB] aa' rfl rfl)
    have I9 := hid (hI.out.kept h2')
    clear aa aa' h2 h2' hW9 hG hI
    refine wpList_plain rfl fun K hK => ?_
    have HK := hid hK
    clear hK
    go_wp2_with fail
    refine (PS.out A _ W9 (HT.out.below I9.out.low) I9.out.t AA.out (by show (1 : Nat) ≤ 1; decide)).mono ?_
    rintro e W10 ⟨rfl, hb⟩
    have I10 := hid (I9.out.kept hb)
    clear hb I9 AA
    refine HK.out _ _ ?_
    clear HK
    refine wpList_plain rfl fun K hK => ?_
    have HK := hid hK
    clear hK
    go_wp2_with fail
    refine HK.out _ _ ?_
    clear HK
    refine wpList_nil ?_
    go_upto_region 9 with fail
    go_cut [13] (fun x wn => x = .string Q ∧ Hid (TdI w A D (rowH f g e s) wn))
    case first =>
      have IB := I10
      obtain ⟨WB, hWB⟩ : ∃ WB, W10 = WB := ⟨_, rfl⟩
      rw [hWB] at IB ⊢
      clear I10 hWB
      refine wp_region_held_drew (S := fun w1 => Below WB.heap.size WB w1) (by kernel_rfl) (Below.refl _ _).drew (fun h0 => ?_)
      generalize World.drew WB = W8 at h0 ⊢
      refine wpAnyH_take (i := 0) (fuel := 6) (v := .int .i32 (c : Int)) rfl (by kernel_rfl) (by kernel_rfl) (by kernel_rfl) (fun _ _ _ h => h) (Or.inl ⟨by rfl, by intro w1 hw1; go_simp⟩) h0 ?_
      try simp only [Act.put, List.getElem_toArray, List.getElem_cons_zero, List.setIfInBounds_toArray, List.set_cons_zero, List.set_cons_succ]
      refine wpAnyH_take (i := 3) (fuel := 5) (v := _) rfl (by kernel_rfl) (by kernel_rfl) (by kernel_rfl) (fun _ _ _ h => h) (yieldsIf_load_mid (by rfl) 29 (.tmp 10) rfl D 0 rfl (deV deB).toList _ (fun w1 h1 => fun q v hv => by rw [Nat.zero_add, (IB.out.d.below h1 IB.out.d.lt).cell]; simpa using hv) Tryz.underlying29 rfl desc_size) h0 ?_
      try simp only [Act.put, List.getElem_toArray, List.getElem_cons_zero, List.getElem_cons_succ, List.setIfInBounds_toArray, List.set_cons_zero, List.set_cons_succ]
      refine wpAnyH_ready (fuel := 4) (rs := [1, 4]) (by kernel_rfl) (by simp) ?_
      refine AllReadyH.cons rfl (fun K hK => ?_) (AllReadyH.cons rfl (fun K hK => ?_) AllReadyH.nil)
      · rw [if_pos (by rfl)]
        go_wp2_with fail
        refine (RU.out _).mono ?_
        rintro e W10 ⟨rfl, hw⟩
        subst hw
        refine hK.out _ _ h0 (fun _ => ?_)
        clear hK
        try simp only [Act.put, List.getElem_toArray, List.getElem_cons_zero, List.getElem_cons_succ, List.setIfInBounds_toArray, List.set_cons_zero, List.set_cons_succ]
        refine wpAnyH_take (i := 2) (fuel := 3) (v := .string F) rfl (by kernel_rfl) (by kernel_rfl) (by kernel_rfl) (fun _ _ _ h => h) (Or.inl ⟨by rfl, by intro w1 hw1; go_simp⟩) h0 ?_
        try simp only [Act.put, List.getElem_toArray, List.getElem_cons_zero, List.getElem_cons_succ, List.setIfInBounds_toArray, List.set_cons_zero, List.set_cons_succ]
        refine wpAnyH_ready (fuel := 2) (rs := [4]) (by kernel_rfl) (by simp) ?_
        refine AllReadyH.cons rfl (fun K hK => ?_) AllReadyH.nil
        rw [if_pos (by rfl)]
        go_wp2_with fail
        have h2 := h0.alloc h0.size (.cells (deV deB) 29)
        have aa := Blk.new W8 (deV deB) 29
        obtain ⟨W9, hW9⟩ : ∃ W9, World.alloc W8 (.cells #[.int .i64 1, .string ⟨#[]⟩, .int .u64 1, .int .u64 0, .string ⟨#[]⟩, slV sl0, slV sl0, .int .i64 1] 29) = W9 := ⟨_, rfl⟩
        obtain ⟨G, hG⟩ : ∃ G, W8.heap.size = G := ⟨_, rfl⟩
        have h2' : Below WB.heap.size WB W9 := hW9 ▸ h2
        have aa' : Blk W9 G (deV deB) 29 := by rw [← hW9, ← hG]; exact aa
        rw [hW9, hG]
        have AA := hid (show ArgsAt W9 ⟨some ⟨G, 0, none⟩, 1, 1⟩ [deB] from argsAt_row [deB] aa' rfl rfl)
        clear aa aa' h2 hW9 hG
        refine hK.out _ _ h2' (fun _ => ?_)
        clear hK
        try simp only [Act.put, List.getElem_toArray, List.getElem_cons_zero, List.getElem_cons_succ, List.setIfInBounds_toArray, List.set_cons_zero, List.set_cons_succ]
        refine wpAnyH_ready (fuel := 1) (rs := [5]) (by kernel_rfl) (by simp) ?_
        refine AllReadyH.cons rfl (fun K hK => ?_) AllReadyH.nil
        rw [if_pos (by rfl)]
        go_wp2_with fail
        refine (PB.out _ W9 (HT.out.below (IB.out.low.trans (h2'.mono IB.out.low.size))) AA.out (by show (1 : Nat) ≤ 1; decide)).mono ?_
        rintro e W11 ⟨rfl, hb⟩
        have h3 : Below WB.heap.size WB W11 := h2'.trans (hb.mono h2'.size)
        clear hb
        refine hK.out _ _ h3 (fun _ => ?_)
        clear hK
        try simp only [Act.put, List.getElem_toArray, List.getElem_cons_zero, List.getElem_cons_succ, List.setIfInBounds_toArray, List.set_cons_zero, List.set_cons_succ]
        refine wpAnyH_take (i := 6) (fuel := 0) (v := .string Q) rfl (by kernel_rfl) (by kernel_rfl) (by kernel_rfl) (fun _ _ _ h => h) (Or.inl ⟨by rfl, by intro w1 hw1; go_simp⟩) h3 ?_
        try simp only [Act.put, List.getElem_toArray, List.getElem_cons_zero, List.getElem_cons_succ, List.setIfInBounds_toArray, List.set_cons_zero, List.set_cons_succ]
        refine wpAnyH_done (by kernel_rfl) ?_ _
        go_wp2_with fail
        go_meet
        exact ⟨rfl, IB.out.kept h3⟩
      · rw [if_pos (by rfl)]
        go_wp2_with fail
        have h2 := h0.alloc h0.size (.cells (deV deB) 29)
        have aa := Blk.new W8 (deV deB) 29
        obtain ⟨W9, hW9⟩ : ∃ W9, World.alloc W8 (.cells #[.int .i64 1, .string ⟨#[]⟩, .int .u64 1, .int .u64 0, .string ⟨#[]⟩, slV sl0, slV sl0, .int .i64 1] 29) = W9 := ⟨_, rfl⟩
        obtain ⟨G, hG⟩ : ∃ G, W8.heap.size = G := ⟨_, rfl⟩
        have h2' : Below WB.heap.size WB W9 := hW9 ▸ h2
        have aa' : Blk W9 G (deV deB) 29 := by rw [← hW9, ← hG]; exact aa
        rw [hW9, hG]
        have AA := hid (show ArgsAt W9 ⟨some ⟨G, 0, none⟩, 1, 1⟩ [deB] from argsAt_row [deB] aa' rfl rfl)
        clear aa aa' h2 hW9 hG
        refine hK.out _ _ h2' (fun _ => ?_)
        clear hK
        try simp only [Act.put, List.getElem_toArray, List.getElem_cons_zero, List.getElem_cons_succ, List.setIfInBounds_toArray, List.set_cons_zero, List.set_cons_succ]
        refine wpAnyH_ready (fuel := 3) (rs := [1]) (by kernel_rfl) (by simp) ?_
        refine AllReadyH.cons rfl (fun K hK => ?_) AllReadyH.nil
        rw [if_pos (by rfl)]
        go_wp2_with fail
        refine (RU.out _).mono ?_
        rintro e W10 ⟨rfl, hw⟩
        subst hw
        refine hK.out _ _ h2' (fun _ => ?_)
        clear hK
        try simp only [Act.put, List.getElem_toArray, List.getElem_cons_zero, List.getElem_cons_succ, List.setIfInBounds_toArray, List.set_cons_zero, List.set_cons_succ]
        refine wpAnyH_take (i := 2) (fuel := 2) (v := .string F) rfl (by kernel_rfl) (by kernel_rfl) (by kernel_rfl) (fun _ _ _ h => h) (Or.inl ⟨by rfl, by intro w1 hw1; go_simp⟩) h2' ?_
        try simp only [Act.put, List.getElem_toArray, List.getElem_cons_zero, List.getElem_cons_succ, List.setIfInBounds_toArray, List.set_cons_zero, List.set_cons_succ]
        refine wpAnyH_ready (fuel := 1) (rs := [5]) (by kernel_rfl) (by simp) ?_
        refine AllReadyH.cons rfl (fun K hK => ?_) AllReadyH.nil
        rw [if_pos (by rfl)]
        go_wp2_with fail
        refine (PB.out _ W9 (HT.out.below (IB.out.low.trans (h2'.mono IB.out.low.size))) AA.out (by show (1 : Nat) ≤ 1; decide)).mono ?_
        rintro e W11 ⟨rfl, hb⟩
        have h3 : Below WB.heap.size WB W11 := h2'.trans (hb.mono h2'.size)
        clear hb
        refine hK.out _ _ h3 (fun _ => ?_)
        clear hK
        try simp only [Act.put, List.getElem_toArray, List.getElem_cons_zero, List.getElem_cons_succ, List.setIfInBounds_toArray, List.set_cons_zero, List.set_cons_succ]
        refine wpAnyH_take (i := 6) (fuel := 0) (v := .string Q) rfl (by kernel_rfl) (by kernel_rfl) (by kernel_rfl) (fun _ _ _ h => h) (Or.inl ⟨by rfl, by intro w1 hw1; go_simp⟩) h3 ?_
        try simp only [Act.put, List.getElem_toArray, List.getElem_cons_zero, List.getElem_cons_succ, List.setIfInBounds_toArray, List.set_cons_zero, List.set_cons_succ]
        refine wpAnyH_done (by kernel_rfl) ?_ _
        go_wp2_with fail
        go_meet
        exact ⟨rfl, IB.out.kept h3⟩
    case rest =>
      obtain ⟨rfl, hI⟩ := hcut
      clear I10
      go_upto_region 10 with fail
      obtain ⟨nb, hnb⟩ : ∃ nb, namedB (c : Int) = nb := ⟨_, rfl⟩
      have NB := hid hnb
      clear hnb
      go_cut [14] (fun x wn => x = .bool nb ∧ Hid (TdI w A D (rowH f g e s) wn))
      case first =>
        have hnb := NB.out
        unfold namedB at hnb
        by_cases n1 : (c : Int) = 118
        · have q1 : ((c : Int) == 118) = true := by simpa using n1
          rw [decide_eq_true (Or.inl n1)] at hnb
          subst hnb
          go_wp2_with fail
          go_meet
          exact ⟨rfl, hI⟩
        have q1 : ((c : Int) == 118) = false := by simpa using n1
        by_cases n2 : (c : Int) = 115
        · have q2 : ((c : Int) == 115) = true := by simpa using n2
          rw [decide_eq_true (Or.inr (Or.inl n2))] at hnb
          subst hnb
          go_wp2_with fail
          go_meet
          exact ⟨rfl, hI⟩
        have q2 : ((c : Int) == 115) = false := by simpa using n2
        by_cases n3 : (c : Int) = 120
        · have q3 : ((c : Int) == 120) = true := by simpa using n3
          rw [decide_eq_true (Or.inr (Or.inr (Or.inl n3)))] at hnb
          subst hnb
          go_wp2_with fail
          go_meet
          exact ⟨rfl, hI⟩
        have q3 : ((c : Int) == 120) = false := by simpa using n3
        by_cases n4 : (c : Int) = 88
        · have q4 : ((c : Int) == 88) = true := by simpa using n4
          rw [decide_eq_true (Or.inr (Or.inr (Or.inr (Or.inl n4))))] at hnb
          subst hnb
          go_wp2_with fail
          go_meet
          exact ⟨rfl, hI⟩
        have q4 : ((c : Int) == 88) = false := by simpa using n4
        by_cases n5 : (c : Int) = 113
        · have q5 : ((c : Int) == 113) = true := by simpa using n5
          rw [decide_eq_true (Or.inr (Or.inr (Or.inr (Or.inr n5))))] at hnb
          subst hnb
          go_wp2_with fail
          go_meet
          exact ⟨rfl, hI⟩
        have q5 : ((c : Int) == 113) = false := by simpa using n5
        rw [decide_eq_false (by rintro (h | h | h | h | h) <;> contradiction)] at hnb
        subst hnb
        go_wp2_with fail
        go_meet
        exact ⟨rfl, hI⟩
      case rest =>
        obtain ⟨rfl, hI⟩ := hcut
        have hR := HR.out
        have hS := HS.out
        have hQ := HQ.out
        have TD := hid (fun t W => textd_any t W)
        cases f
        · have hS2 : S = if g then ⟨#[71]⟩ else ⟨#[116, 114, 117, 101]⟩ := by
            rw [← hS]
            unfold rowT
            rw [if_neg (by decide), if_pos ⟨rfl, rfl⟩]
            cases g <;> rfl
          have hR2 : R = if nb then (if e then namedT c 69 else if s then namedT c 83 else Q) else Q := by
            rw [← hR, ← hQ]
            unfold rowT
            rw [if_neg (by decide), if_neg (fun h => absurd h.2 (by decide)), NB.out]
          clear hS hR hQ
          cases g
          · have hS3 : S = ⟨#[116, 114, 117, 101]⟩ := by simpa using hS2
            subst hS3
            clear hS2
            cases nb
            · have hR3 : R = Q := by simpa using hR2
              subst hR3
              clear hR2
              have BEQ : (R.data.toList == R.data.toList) = true := by simp
              go_wp2_with fail
              refine (LIV.out _ hI.out.low).mono ?_
              rintro e9 W20 ⟨rfl, hb⟩
              have HB := hid hb
              clear hb
              go_wp2_with fail
              go_ret
              exact ⟨rfl, HB.out⟩
            · cases e
              · cases s
                · have hR3 : R = Q := by simpa using hR2
                  subst hR3
                  clear hR2
                  have BEQ : (R.data.toList == R.data.toList) = true := by simp
                  go_wp2_with fail
                  refine (LIV.out _ hI.out.low).mono ?_
                  rintro e9 W20 ⟨rfl, hb⟩
                  have HB := hid hb
                  clear hb
                  go_wp2_with fail
                  go_ret
                  exact ⟨rfl, HB.out⟩
                · obtain ⟨T, hTT⟩ : ∃ T, namedT (c : Int) 83 = T := ⟨_, rfl⟩
                  have PT1 := hid (PT.out 83 (Or.inr rfl) NB.out)
                  rw [hTT] at PT1
                  have hR3 : R = T := by rw [← hTT]; simpa using hR2
                  subst hR3
                  clear hR2 hTT
                  have BEQ : (R.data.toList == R.data.toList) = true := by simp
                  go_wp2_with fail
                  refine (RU.out _).mono ?_
                  rintro e9 W19 ⟨rfl, hw⟩
                  subst hw
                  go_wp2_with fail
                  refine (TD.out ⟨#[83]⟩ _).mono ?_
                  rintro e9 W20 ⟨rfl, hb⟩
                  have L20 := hid (hI.out.low.trans (hb.mono hI.out.low.size))
                  clear hb
                  go_wp2_with fail
                  have aa := Blk.new W20 (deV (deTx ⟨#[83]⟩)) 29
                  have l21 := L20.out.alloc L20.out.size (.cells (deV (deTx ⟨#[83]⟩)) 29)
                  have AA : ArgsAt (W20.alloc (.cells (deV (deTx ⟨#[83]⟩)) 29)) ⟨some ⟨W20.heap.size, 0, none⟩, 1, 1⟩ [deTx ⟨#[83]⟩] := argsAt_row [deTx ⟨#[83]⟩] aa rfl rfl
                  refine (PT1.out ⟨some ⟨W20.heap.size, 0, none⟩, 1, 1⟩ (W20.alloc (.cells (deV (deTx ⟨#[83]⟩)) 29)) (HT.out.below l21) AA (by show (1 : Nat) ≤ 1; decide)).mono ?_
                  rintro e9 W21 ⟨rfl, hb⟩
                  have L21 := hid (l21.trans (hb.mono l21.size))
                  clear hb l21 aa AA
                  go_wp2_with fail
                  refine (LIV.out _ L21.out).mono ?_
                  rintro e9 W22 ⟨rfl, hb⟩
                  have HB := hid hb
                  clear hb
                  go_wp2_with fail
                  go_ret
                  exact ⟨rfl, HB.out⟩
              · obtain ⟨T, hTT⟩ : ∃ T, namedT (c : Int) 69 = T := ⟨_, rfl⟩
                have PT1 := hid (PT.out 69 (Or.inl rfl) NB.out)
                rw [hTT] at PT1
                have hR3 : R = T := by rw [← hTT]; simpa using hR2
                subst hR3
                clear hR2 hTT
                have BEQ : (R.data.toList == R.data.toList) = true := by simp
                go_wp2_with fail
                refine (RU.out _).mono ?_
                rintro e9 W19 ⟨rfl, hw⟩
                subst hw
                go_wp2_with fail
                refine (TD.out ⟨#[69]⟩ _).mono ?_
                rintro e9 W20 ⟨rfl, hb⟩
                have L20 := hid (hI.out.low.trans (hb.mono hI.out.low.size))
                clear hb
                go_wp2_with fail
                have aa := Blk.new W20 (deV (deTx ⟨#[69]⟩)) 29
                have l21 := L20.out.alloc L20.out.size (.cells (deV (deTx ⟨#[69]⟩)) 29)
                have AA : ArgsAt (W20.alloc (.cells (deV (deTx ⟨#[69]⟩)) 29)) ⟨some ⟨W20.heap.size, 0, none⟩, 1, 1⟩ [deTx ⟨#[69]⟩] := argsAt_row [deTx ⟨#[69]⟩] aa rfl rfl
                refine (PT1.out ⟨some ⟨W20.heap.size, 0, none⟩, 1, 1⟩ (W20.alloc (.cells (deV (deTx ⟨#[69]⟩)) 29)) (HT.out.below l21) AA (by show (1 : Nat) ≤ 1; decide)).mono ?_
                rintro e9 W21 ⟨rfl, hb⟩
                have L21 := hid (l21.trans (hb.mono l21.size))
                clear hb l21 aa AA
                go_wp2_with fail
                refine (LIV.out _ L21.out).mono ?_
                rintro e9 W22 ⟨rfl, hb⟩
                have HB := hid hb
                clear hb
                go_wp2_with fail
                go_ret
                exact ⟨rfl, HB.out⟩
          · have hS3 : S = ⟨#[71]⟩ := by simpa using hS2
            subst hS3
            clear hS2
            cases nb
            · have hR3 : R = Q := by simpa using hR2
              subst hR3
              clear hR2
              have BEQ : (R.data.toList == R.data.toList) = true := by simp
              go_wp2_with fail
              refine (LIV.out _ hI.out.low).mono ?_
              rintro e9 W20 ⟨rfl, hb⟩
              have HB := hid hb
              clear hb
              go_wp2_with fail
              go_ret
              exact ⟨rfl, HB.out⟩
            · cases e
              · cases s
                · have hR3 : R = Q := by simpa using hR2
                  subst hR3
                  clear hR2
                  have BEQ : (R.data.toList == R.data.toList) = true := by simp
                  go_wp2_with fail
                  refine (LIV.out _ hI.out.low).mono ?_
                  rintro e9 W20 ⟨rfl, hb⟩
                  have HB := hid hb
                  clear hb
                  go_wp2_with fail
                  go_ret
                  exact ⟨rfl, HB.out⟩
                · obtain ⟨T, hTT⟩ : ∃ T, namedT (c : Int) 83 = T := ⟨_, rfl⟩
                  have PT1 := hid (PT.out 83 (Or.inr rfl) NB.out)
                  rw [hTT] at PT1
                  have hR3 : R = T := by rw [← hTT]; simpa using hR2
                  subst hR3
                  clear hR2 hTT
                  have BEQ : (R.data.toList == R.data.toList) = true := by simp
                  go_wp2_with fail
                  refine (RU.out _).mono ?_
                  rintro e9 W19 ⟨rfl, hw⟩
                  subst hw
                  go_wp2_with fail
                  refine (TD.out ⟨#[83]⟩ _).mono ?_
                  rintro e9 W20 ⟨rfl, hb⟩
                  have L20 := hid (hI.out.low.trans (hb.mono hI.out.low.size))
                  clear hb
                  go_wp2_with fail
                  have aa := Blk.new W20 (deV (deTx ⟨#[83]⟩)) 29
                  have l21 := L20.out.alloc L20.out.size (.cells (deV (deTx ⟨#[83]⟩)) 29)
                  have AA : ArgsAt (W20.alloc (.cells (deV (deTx ⟨#[83]⟩)) 29)) ⟨some ⟨W20.heap.size, 0, none⟩, 1, 1⟩ [deTx ⟨#[83]⟩] := argsAt_row [deTx ⟨#[83]⟩] aa rfl rfl
                  refine (PT1.out ⟨some ⟨W20.heap.size, 0, none⟩, 1, 1⟩ (W20.alloc (.cells (deV (deTx ⟨#[83]⟩)) 29)) (HT.out.below l21) AA (by show (1 : Nat) ≤ 1; decide)).mono ?_
                  rintro e9 W21 ⟨rfl, hb⟩
                  have L21 := hid (l21.trans (hb.mono l21.size))
                  clear hb l21 aa AA
                  go_wp2_with fail
                  refine (LIV.out _ L21.out).mono ?_
                  rintro e9 W22 ⟨rfl, hb⟩
                  have HB := hid hb
                  clear hb
                  go_wp2_with fail
                  go_ret
                  exact ⟨rfl, HB.out⟩
              · obtain ⟨T, hTT⟩ : ∃ T, namedT (c : Int) 69 = T := ⟨_, rfl⟩
                have PT1 := hid (PT.out 69 (Or.inl rfl) NB.out)
                rw [hTT] at PT1
                have hR3 : R = T := by rw [← hTT]; simpa using hR2
                subst hR3
                clear hR2 hTT
                have BEQ : (R.data.toList == R.data.toList) = true := by simp
                go_wp2_with fail
                refine (RU.out _).mono ?_
                rintro e9 W19 ⟨rfl, hw⟩
                subst hw
                go_wp2_with fail
                refine (TD.out ⟨#[69]⟩ _).mono ?_
                rintro e9 W20 ⟨rfl, hb⟩
                have L20 := hid (hI.out.low.trans (hb.mono hI.out.low.size))
                clear hb
                go_wp2_with fail
                have aa := Blk.new W20 (deV (deTx ⟨#[69]⟩)) 29
                have l21 := L20.out.alloc L20.out.size (.cells (deV (deTx ⟨#[69]⟩)) 29)
                have AA : ArgsAt (W20.alloc (.cells (deV (deTx ⟨#[69]⟩)) 29)) ⟨some ⟨W20.heap.size, 0, none⟩, 1, 1⟩ [deTx ⟨#[69]⟩] := argsAt_row [deTx ⟨#[69]⟩] aa rfl rfl
                refine (PT1.out ⟨some ⟨W20.heap.size, 0, none⟩, 1, 1⟩ (W20.alloc (.cells (deV (deTx ⟨#[69]⟩)) 29)) (HT.out.below l21) AA (by show (1 : Nat) ≤ 1; decide)).mono ?_
                rintro e9 W21 ⟨rfl, hb⟩
                have L21 := hid (l21.trans (hb.mono l21.size))
                clear hb l21 aa AA
                go_wp2_with fail
                refine (LIV.out _ L21.out).mono ?_
                rintro e9 W22 ⟨rfl, hb⟩
                have HB := hid hb
                clear hb
                go_wp2_with fail
                go_ret
                exact ⟨rfl, HB.out⟩
        · have hS2 : S = ⟨#[70]⟩ := by rw [← hS]; rfl
          have hR2 : R = ⟨#[70]⟩ := by rw [← hR]; rfl
          subst hS2 hR2
          clear hS hR hQ
          go_wp2_with fail
          refine (LIV.out _ hI.out.low).mono ?_
          rintro e9 W20 ⟨rfl, hb⟩
          have HB := hid hb
          clear hb
          go_wp2_with fail
          go_ret
          exact ⟨rfl, HB.out⟩
end Go.Proofs.YtdjhmanccoekjaaGreatDoor
end

section
namespace Go.Proofs.YtdjhmanccoekjaaGreatDoor
open Go.ChangeShapes Go.WideShapes Go.ChangeAt Go.RowKit Go.Lib Go.Proofs

theorem rowdT : ∃ f0 f1 f2 f3 f4 : Field, Tryz.prog.underlying 23 = some (.struct #[f0, f1, f2, f3, f4]) ∧
    (f0.type = 4 ∧ f1.type = 4 ∧ f2.type = 4 ∧ f3.type = 4 ∧ f4.type = 21) ∧
    (f0.offset = 0 ∧ f1.offset = 1 ∧ f2.offset = 2 ∧ f3.offset = 3 ∧ f4.offset = 4) :=
  ⟨_, _, _, _, _, Tryz.underlying23, ⟨rfl, rfl, rfl, rfl, rfl⟩, ⟨rfl, rfl, rfl, rfl, rfl⟩⟩
theorem rowdC : Tryz.prog.cellsOf 23 = 5 := by kernel_rfl
theorem rowdB : Tryz.prog.cellsOf 4 = 1 := by kernel_rfl
theorem rowdR : Tryz.prog.cellsOf 21 = 1 := by kernel_rfl

set_option maxRecDepth 100000 in
theorem open_rowd {H : Type} {enc : TypeId × Value → H} {w : World} {base : Nat} {spare : Nat → Bool} {held : Bool} {r : Reach} {b0 : Nat} {v : Value} {d : DataW H} {p : List MemPlace}
    (hv : Value.okWide Tryz.prog w r b0 23 v) (h : DataW.Trod enc Tryz.prog w base spare held 23 v d p) :
    ∃ (bf bg be bs : Bool) (vr : Int), v = .agg #[.bool bf, .bool bg, .bool be, .bool bs, .int .i32 vr] ∧ (-2147483648 ≤ vr ∧ vr ≤ 2147483647) := by
  obtain ⟨f0, f1, f2, f3, f4, hs, ⟨t0, t1, t2, t3, t4⟩, ⟨o0, o1, o2, o3, o4⟩⟩ := rowdT
  obtain ⟨cs, rfl, hsz⟩ := okWide_struct hs hv
  rw [rowdC] at hsz
  obtain ⟨l⟩ := cs
  match l, hsz with
  | [c0, c1, c2, c3, c4], _ =>
    obtain ⟨fuel, hf⟩ := h
    obtain ⟨xs, n, _, _, _, hlen, hg⟩ := DataW.trod_struct hs hf
    match xs, hlen with
    | [y0, y1, y2, y3, y4], _ =>
      have g0 := hg 0 f0 rfl; have g1 := hg 1 f1 rfl; have g2 := hg 2 f2 rfl; have g3 := hg 3 f3 rfl; have g4 := hg 4 f4 rfl
      rw [o0, t0, rowdB] at g0; rw [o1, t1, rowdB] at g1; rw [o2, t2, rowdB] at g2; rw [o3, t3, rowdB] at g3; rw [o4, t4, rowdR] at g4
      obtain ⟨bf, e0, _⟩ := DataW.trod_bool Tryz.underlying4 (g0.trans (show _ = some y0 from rfl))
      obtain ⟨bg, e1, _⟩ := DataW.trod_bool Tryz.underlying4 (g1.trans (show _ = some y1 from rfl))
      obtain ⟨be, e2, _⟩ := DataW.trod_bool Tryz.underlying4 (g2.trans (show _ = some y2 from rfl))
      obtain ⟨bs, e3, _⟩ := DataW.trod_bool Tryz.underlying4 (g3.trans (show _ = some y3 from rfl))
      obtain ⟨vr, e4, _, w4⟩ := DataW.trod_int Tryz.underlying21 (g4.trans (show _ = some y4 from rfl))
      simp [Value.cells] at e0 e1 e2 e3 e4
      subst e0 e1 e2 e3 e4
      exact ⟨bf, bg, be, bs, vr, rfl, by simpa [Lit.wf, IntKind.min, IntKind.max, IntKind.signed, IntKind.bits] using w4⟩
end Go.Proofs.YtdjhmanccoekjaaGreatDoor
end
