/-
  Walks of layer 2: a text by a verb.
-/
import Derived.Test.YtaniahkagmjkoaaDoorQH3
import Derived.Test.YtaniahkagmjkoaaDoorQW
import Derived.Test.YtaniahkagmjkoaaDoorB4
namespace Go.Proofs.YtaniahkagmjkoaaDoor
open Go.RowKit Go.Proofs

/-- What a text is by a verb; none: refused. -/
def textS (pl mi sh sp ze : Bool) (wid prec verb : Int) (s : ByteArray) : Option ByteArray :=
  if verb = 118 then some (padS (if sh then ⟨(IP.quoteL false s.data.toList).toArray⟩ else cutS s prec) mi ze wid)
  else if verb = 115 then some (padS (cutS s prec) mi ze wid)
  else if verb = 113 then some (padS (if sh = true ∧ IP.rawB (cutS s prec).data.toList = true then rawQ (cutS s prec) else ⟨(IP.quoteL pl (cutS s prec).data.toList).toArray⟩) mi ze wid)
  else if verb = 120 ∨ verb = 88 then some (padS ⟨(IP.hexS sh sp prec verb s.data.toList).toArray⟩ mi ze wid)
  else none
def tupB (r : Option ByteArray) : Value := match r with
  | none => .tuple #[.string ⟨#[]⟩, .bool false]
  | some t => .tuple #[.string t, .bool true]
theorem cutS_size (s : ByteArray) (n : Int) : (cutS s n).size ≤ s.size := by
  unfold cutS
  split
  · exact Nat.le_refl _
  · rw [ByteArray.size_extract]; omega
theorem quote_size (a : Bool) (s : ByteArray) : (⟨(IP.quoteL a s.data.toList).toArray⟩ : ByteArray).size ≤ 10 * s.size + 2 := by
  rw [Utf.size_eq, Utf.size_eq s]
  exact IP.quoteL_len a s.data.toList
/-- The state within: the tables, the spec's box. -/
structure Tx (w : World) (H : Nat) (F : Array Value) (W : World) : Prop where
  tabs : Tabs W
  below : Below w.heap.size w W
  blk : Blk W H F 48
theorem Tx.kept {w W W' : World} {H : Nat} {F : Array Value} (h : Tx w H F W) (hb : Below W.heap.size W W') : Tx w H F W' :=
  ⟨h.tabs.below hb, h.below.trans (hb.mono h.below.size), h.blk.below hb h.blk.lt⟩
theorem Tx.drew {w W : World} {H : Nat} {F : Array Value} (h : Tx w H F W) : Tx w H F W.drew := h.kept (Below.refl _ _).drew
theorem tx_start (w : World) (hT : Tabs w) (F : Array Value) : Tx w w.heap.size F (w.alloc (.cells F 48)) :=
  ⟨hT.below ((Below.refl _ _).alloc (Nat.le_refl _) _), (Below.refl _ _).alloc (Nat.le_refl _) _, Blk.new w F _⟩
theorem Tx.lift {w : World} {H : Nat} (pl mi sh sp ze : Bool) (wid prec verb : Int) {f : Nat} {args : Array Value} {r : Value} (h : ∀ W, Tabs W → Calls Tryd.prog f args W fun e w' => e = .returned r ∧ Below W.heap.size W w') :
    ∀ W, Tx w H (sp8 pl mi sh sp ze wid prec verb) W → Calls Tryd.prog f args W fun e w' => e = .returned r ∧ Tx w H (sp8 pl mi sh sp ze wid prec verb) w' ∧
      (w'.cell? ⟨H, 0, none⟩ = some (.bool pl) ∧ w'.cell? ⟨H, 1, none⟩ = some (.bool mi) ∧ w'.cell? ⟨H, 2, none⟩ = some (.bool sh) ∧ w'.cell? ⟨H, 3, none⟩ = some (.bool sp) ∧ w'.cell? ⟨H, 4, none⟩ = some (.bool ze) ∧ w'.cell? ⟨H, 5, none⟩ = some (.int .i64 wid) ∧ w'.cell? ⟨H, 6, none⟩ = some (.int .i64 prec) ∧ w'.cell? ⟨H, 7, none⟩ = some (.int .i32 verb)) :=
  fun W hW => (h W hW.tabs).mono fun _ _ ⟨he, hb⟩ => ⟨he, hW.kept hb, blk_cells _ _ _ _ _ _ _ _ (hW.kept hb).blk⟩

set_option maxRecDepth 100000 in
set_option maxHeartbeats 2000000 in
theorem text_any (s : ByteArray) (pl mi sh sp ze : Bool) (wid prec verb : Int) (w : World) (hT : Tabs w) (hs : s.size ≤ 2000) (hw0 : -9223372036854775808 ≤ wid) (hw1 : wid ≤ 9223372036854775807) (hp0 : -9223372036854775808 ≤ prec) (hp1 : prec ≤ 9223372036854775807) :
    Calls Tryd.prog 35 #[.string s, .agg #[.bool pl, .bool mi, .bool sh, .bool sp, .bool ze, .int .i64 wid, .int .i64 prec, .int .i32 verb]] w fun e w' => e = .returned (tupB (textS pl mi sh sp ze wid prec verb s)) ∧ Below w.heap.size w w' := by
  have hcz := cutS_size s prec
  have hqz := fun a => quote_size a s
  have T0 := hid (tx_start w hT (sp8 pl mi sh sp ze wid prec verb))
  obtain ⟨C, hC⟩ : ∃ C, cutS s prec = C := ⟨_, rfl⟩
  rw [hC] at hcz
  have CU0 := fun W => cut_any s prec W (by omega) hp0 hp1
  rw [hC] at CU0
  have CU := hid (Tx.lift (w := w) (H := w.heap.size) pl mi sh sp ze wid prec verb (fun W _ => CU0 W))
  unfold textS
  rw [hC]
  clear CU0 hC hT
  by_cases h118 : verb = 118
  · subst h118
    rw [if_pos rfl]
    cases sh
    · simp only [Bool.false_eq_true, if_false]
      obtain ⟨R, hR⟩ : ∃ R, padS C mi ze wid = R := ⟨_, rfl⟩
      have PD0 := fun W => pad_any C pl mi false sp ze wid prec 118 W (by omega) hw0 hw1
      rw [hR] at PD0 ⊢
      have PD := hid (Tx.lift (w := w) (H := w.heap.size) pl mi false sp ze wid prec 118 (fun W _ => PD0 W))
      clear PD0 hR
      obtain ⟨c0, c1, c2, c3, c4, c5, c6, c7⟩ := blk_cells _ _ _ _ _ _ _ _ T0.out.blk
      go_enter Tryd.func35, Tryd.ntmps35
      go_upto_region 6 with fail
      obtain ⟨W0, hW0⟩ : ∃ W0, w.alloc (.cells (sp8 pl mi false sp ze wid prec 118) 48) = W0 := ⟨_, rfl⟩
      rw [hW0] at T0 c0 c1 c2 c3 c4 c5 c6 c7 ⊢
      clear hW0
      have st0 := T0.out.drew
      go_region_with (first | (go_at_call 44; refine (CU.out _ (by assumption)).mono ?_; rintro e w9 ⟨rfl, st, k0, k1, k2, k3, k4, k5, k6, k7⟩) | (go_at_call 42; refine (PD.out _ (by assumption)).mono ?_; rintro e w9 ⟨rfl, st, k0, k1, k2, k3, k4, k5, k6, k7⟩))
      all_goals
        have ST := hid st
        clear st
        go_wp2_with fail
        go_ret2
        exact ⟨rfl, ST.out.below⟩
    · simp only [if_true]
      obtain ⟨Q, hQ⟩ : ∃ Q : ByteArray, (⟨(IP.quoteL false s.data.toList).toArray⟩ : ByteArray) = Q := ⟨_, rfl⟩
      have hQz : Q.size ≤ 30000 := by have := hqz false; rw [hQ] at this; omega
      have QU0 := fun W hT => quote_any s false W hT (by omega)
      rw [hQ] at QU0
      have QU := hid (Tx.lift (w := w) (H := w.heap.size) pl mi true sp ze wid prec 118 QU0)
      rw [hQ]
      obtain ⟨R, hR⟩ : ∃ R, padS Q mi ze wid = R := ⟨_, rfl⟩
      have PD0 := fun W => pad_any Q pl mi true sp ze wid prec 118 W (by omega) hw0 hw1
      rw [hR] at PD0 ⊢
      have PD := hid (Tx.lift (w := w) (H := w.heap.size) pl mi true sp ze wid prec 118 (fun W _ => PD0 W))
      clear PD0 hR hQ QU0 hqz
      obtain ⟨c0, c1, c2, c3, c4, c5, c6, c7⟩ := blk_cells _ _ _ _ _ _ _ _ T0.out.blk
      go_enter Tryd.func35, Tryd.ntmps35
      go_upto_region 5 with fail
      obtain ⟨W0, hW0⟩ : ∃ W0, w.alloc (.cells (sp8 pl mi true sp ze wid prec 118) 48) = W0 := ⟨_, rfl⟩
      rw [hW0] at T0 c0 c1 c2 c3 c4 c5 c6 c7 ⊢
      clear hW0
      have st0 := T0.out.drew
      go_region_with (first | (go_at_call 43; refine (QU.out _ (by assumption)).mono ?_; rintro e w9 ⟨rfl, st, k0, k1, k2, k3, k4, k5, k6, k7⟩) | (go_at_call 42; refine (PD.out _ (by assumption)).mono ?_; rintro e w9 ⟨rfl, st, k0, k1, k2, k3, k4, k5, k6, k7⟩))
      all_goals
        have ST := hid st
        clear st
        go_wp2_with fail
        go_ret2
        exact ⟨rfl, ST.out.below⟩
  · have h118b : (verb == 118) = false := beq_eq_false_iff_ne.2 h118
    rw [if_neg h118]
    by_cases h115 : verb = 115
    · subst h115
      rw [if_pos rfl]
      obtain ⟨R, hR⟩ : ∃ R, padS C mi ze wid = R := ⟨_, rfl⟩
      have PD0 := fun W => pad_any C pl mi sh sp ze wid prec 115 W (by omega) hw0 hw1
      rw [hR] at PD0 ⊢
      have PD := hid (Tx.lift (w := w) (H := w.heap.size) pl mi sh sp ze wid prec 115 (fun W _ => PD0 W))
      clear PD0 hR hqz
      obtain ⟨c0, c1, c2, c3, c4, c5, c6, c7⟩ := blk_cells _ _ _ _ _ _ _ _ T0.out.blk
      go_enter Tryd.func35, Tryd.ntmps35
      go_upto_region 6 with fail
      obtain ⟨W0, hW0⟩ : ∃ W0, w.alloc (.cells (sp8 pl mi sh sp ze wid prec 115) 48) = W0 := ⟨_, rfl⟩
      rw [hW0] at T0 c0 c1 c2 c3 c4 c5 c6 c7 ⊢
      clear hW0
      have st0 := T0.out.drew
      go_region_with (first | (go_at_call 44; refine (CU.out _ (by assumption)).mono ?_; rintro e w9 ⟨rfl, st, k0, k1, k2, k3, k4, k5, k6, k7⟩) | (go_at_call 42; refine (PD.out _ (by assumption)).mono ?_; rintro e w9 ⟨rfl, st, k0, k1, k2, k3, k4, k5, k6, k7⟩))
      all_goals
        have ST := hid st
        clear st
        go_wp2_with fail
        go_ret2
        exact ⟨rfl, ST.out.below⟩
    · have h115b : (verb == 115) = false := beq_eq_false_iff_ne.2 h115
      rw [if_neg h115]
      by_cases h113 : verb = 113
      · subst h113
        rw [if_pos rfl]
        have hcq := quote_size pl C
        obtain ⟨Q, hQ⟩ : ∃ Q : ByteArray, (⟨(IP.quoteL pl C.data.toList).toArray⟩ : ByteArray) = Q := ⟨_, rfl⟩
        have hQz : Q.size ≤ 30000 := by rw [hQ] at hcq; omega
        have QU0 := fun W hT => quote_any C pl W hT (by omega)
        rw [hQ] at QU0 ⊢
        have RW0 := fun W hT => raw_any C W hT (by omega)
        have hrz := rawQ_size C
        unfold rawT at RW0
        obtain ⟨B, hB⟩ : ∃ B : ByteArray, rawQ C = B := ⟨_, rfl⟩
        rw [hB] at RW0 hrz ⊢
        have hBz : B.size ≤ 30000 := by omega
        obtain ⟨rb, hrb⟩ : ∃ b, IP.rawB C.data.toList = b := ⟨_, rfl⟩
        rw [hrb] at RW0 ⊢
        have PD0 := fun (q : ByteArray) (hq : q.size ≤ 30000) sh W => pad_any q pl mi sh sp ze wid prec 113 W (by omega) hw0 hw1
        clear hrz hcq hQ hB hrb hqz
        cases sh
        · rw [if_neg (by simp)]
          obtain ⟨R, hR⟩ : ∃ R, padS Q mi ze wid = R := ⟨_, rfl⟩
          have PD1 := fun W => PD0 Q hQz false W
          rw [hR] at PD1 ⊢
          have QU := hid (Tx.lift (w := w) (H := w.heap.size) pl mi false sp ze wid prec 113 QU0)
          have PD := hid (Tx.lift (w := w) (H := w.heap.size) pl mi false sp ze wid prec 113 (fun W _ => PD1 W))
          clear PD0 PD1 hR RW0 QU0
          obtain ⟨c0, c1, c2, c3, c4, c5, c6, c7⟩ := blk_cells _ _ _ _ _ _ _ _ T0.out.blk
          go_enter Tryd.func35, Tryd.ntmps35
          go_upto_region 8 with fail
          obtain ⟨W0, hW0⟩ : ∃ W0, w.alloc (.cells (sp8 pl mi false sp ze wid prec 113) 48) = W0 := ⟨_, rfl⟩
          rw [hW0] at T0 c0 c1 c2 c3 c4 c5 c6 c7 ⊢
          clear hW0
          go_wp2_with fail
          refine (CU.out _ T0.out).mono ?_
          rintro e w1 ⟨rfl, st1, k0, k1, k2, k3, k4, k5, k6, k7⟩
          have ST1 := hid st1
          clear st1
          go_upto_region 13 with fail
          have st0 := ST1.out.drew
          go_region_with (first | (go_at_call 43; refine (QU.out _ (by assumption)).mono ?_; rintro e w9 ⟨rfl, st, k0, k1, k2, k3, k4, k5, k6, k7⟩) | (go_at_call 42; refine (PD.out _ (by assumption)).mono ?_; rintro e w9 ⟨rfl, st, k0, k1, k2, k3, k4, k5, k6, k7⟩))
          all_goals
            have ST := hid st
            clear st
            go_wp2_with fail
            go_ret2
            exact ⟨rfl, ST.out.below⟩
        · cases rb
          · rw [if_neg (by simp)]
            simp only [Bool.false_eq_true, if_false] at RW0
            obtain ⟨R, hR⟩ : ∃ R, padS Q mi ze wid = R := ⟨_, rfl⟩
            have PD1 := fun W => PD0 Q hQz true W
            rw [hR] at PD1 ⊢
            have QU := hid (Tx.lift (w := w) (H := w.heap.size) pl mi true sp ze wid prec 113 QU0)
            have RW := hid (Tx.lift (w := w) (H := w.heap.size) pl mi true sp ze wid prec 113 RW0)
            have PD := hid (Tx.lift (w := w) (H := w.heap.size) pl mi true sp ze wid prec 113 (fun W _ => PD1 W))
            clear PD0 PD1 hR RW0 QU0
            obtain ⟨c0, c1, c2, c3, c4, c5, c6, c7⟩ := blk_cells _ _ _ _ _ _ _ _ T0.out.blk
            go_enter Tryd.func35, Tryd.ntmps35
            go_upto_region 8 with fail
            obtain ⟨W0, hW0⟩ : ∃ W0, w.alloc (.cells (sp8 pl mi true sp ze wid prec 113) 48) = W0 := ⟨_, rfl⟩
            rw [hW0] at T0 c0 c1 c2 c3 c4 c5 c6 c7 ⊢
            clear hW0
            go_wp2_with fail
            refine (CU.out _ T0.out).mono ?_
            rintro e w1 ⟨rfl, st1, k0, k1, k2, k3, k4, k5, k6, k7⟩
            have ST1 := hid st1
            clear st1
            go_wp2_with fail
            refine (RW.out _ ST1.out).mono ?_
            rintro e w2 ⟨rfl, st2, j0, j1, j2, j3, j4, j5, j6, j7⟩
            have ST2 := hid st2
            clear st2
            go_upto_region 13 with fail
            have st0 := ST2.out.drew
            go_region_with (first | (go_at_call 43; refine (QU.out _ (by assumption)).mono ?_; rintro e w9 ⟨rfl, st, k0, k1, k2, k3, k4, k5, k6, k7⟩) | (go_at_call 42; refine (PD.out _ (by assumption)).mono ?_; rintro e w9 ⟨rfl, st, k0, k1, k2, k3, k4, k5, k6, k7⟩))
            all_goals
              have ST := hid st
              clear st
              go_wp2_with fail
              go_ret2
              exact ⟨rfl, ST.out.below⟩
          · rw [if_pos (by simp)]
            simp only [if_true] at RW0
            obtain ⟨R, hR⟩ : ∃ R, padS B mi ze wid = R := ⟨_, rfl⟩
            have PD1 := fun W => PD0 B hBz true W
            rw [hR] at PD1 ⊢
            have RW := hid (Tx.lift (w := w) (H := w.heap.size) pl mi true sp ze wid prec 113 RW0)
            have PD := hid (Tx.lift (w := w) (H := w.heap.size) pl mi true sp ze wid prec 113 (fun W _ => PD1 W))
            clear PD0 PD1 hR RW0 QU0
            obtain ⟨c0, c1, c2, c3, c4, c5, c6, c7⟩ := blk_cells _ _ _ _ _ _ _ _ T0.out.blk
            go_enter Tryd.func35, Tryd.ntmps35
            go_upto_region 8 with fail
            obtain ⟨W0, hW0⟩ : ∃ W0, w.alloc (.cells (sp8 pl mi true sp ze wid prec 113) 48) = W0 := ⟨_, rfl⟩
            rw [hW0] at T0 c0 c1 c2 c3 c4 c5 c6 c7 ⊢
            clear hW0
            go_wp2_with fail
            refine (CU.out _ T0.out).mono ?_
            rintro e w1 ⟨rfl, st1, k0, k1, k2, k3, k4, k5, k6, k7⟩
            have ST1 := hid st1
            clear st1
            go_wp2_with fail
            refine (RW.out _ ST1.out).mono ?_
            rintro e w2 ⟨rfl, st2, j0, j1, j2, j3, j4, j5, j6, j7⟩
            have ST2 := hid st2
            clear st2
            go_wp2_with fail
            refine (PD.out _ ST2.out).mono ?_
            rintro e w3 ⟨rfl, st3, _⟩
            have ST3 := hid st3
            clear st3
            go_wp2_with fail
            go_ret2
            exact ⟨rfl, ST3.out.below⟩
      · have h113b : (verb == 113) = false := beq_eq_false_iff_ne.2 h113
        rw [if_neg h113]
        by_cases hx : verb = 120 ∨ verb = 88
        · rw [if_pos hx]
          have HX0 := fun W => hex_any s pl mi sh sp ze wid prec verb W (by omega) hw0 hw1
          obtain ⟨R, hR⟩ : ∃ R, padS (⟨(IP.hexS sh sp prec verb s.data.toList).toArray⟩ : ByteArray) mi ze wid = R := ⟨_, rfl⟩
          rw [hR] at HX0 ⊢
          have HX := hid (Tx.lift (w := w) (H := w.heap.size) pl mi sh sp ze wid prec verb (fun W _ => HX0 W))
          clear HX0 hR hqz CU
          obtain ⟨c0, c1, c2, c3, c4, c5, c6, c7⟩ := blk_cells _ _ _ _ _ _ _ _ T0.out.blk
          rcases hx with rfl | rfl
          all_goals
            go_enter Tryd.func35, Tryd.ntmps35
            go_wp2_with fail
            refine (HX.out _ T0.out).mono ?_
            rintro e w3 ⟨rfl, st3, _⟩
            have ST3 := hid st3
            clear st3
            go_wp2_with fail
            go_ret2
            exact ⟨rfl, ST3.out.below⟩
        · rw [if_neg hx]
          have hx1 : (verb == 120) = false := beq_eq_false_iff_ne.2 (fun h => hx (Or.inl h))
          have hx2 : (verb == 88) = false := beq_eq_false_iff_ne.2 (fun h => hx (Or.inr h))
          obtain ⟨c0, c1, c2, c3, c4, c5, c6, c7⟩ := blk_cells _ _ _ _ _ _ _ _ T0.out.blk
          clear hqz CU hx
          go_enter Tryd.func35, Tryd.ntmps35
          go_wp2_with fail
          go_ret2
          exact ⟨rfl, T0.out.below⟩
end Go.Proofs.YtaniahkagmjkoaaDoor
