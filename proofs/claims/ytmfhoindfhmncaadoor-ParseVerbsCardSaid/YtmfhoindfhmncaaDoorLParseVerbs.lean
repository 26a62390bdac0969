/-
  The law ParseVerbs, walked.
-/
import Derived.Test.YtmfhoindfhmncaaDoorPD
import Derived.Test.YtmfhoindfhmncaaDoorPV
import Derived.Deep.CutBlock
import Derived.Lib.SlBytesConst
import Derived.StillTailTactics
namespace Go.Proofs.YtmfhoindfhmncaaDoor
open Go.RowKit Go.Proofs

/-- The bytes that begin no verb. -/
def noV : List Int := [43, 45, 35, 32, 48, 49, 50, 51, 52, 53, 54, 55, 56, 57, 46, 42, 91]
abbrev noVc : Array Value := #[.int .u8 43, .int .u8 45, .int .u8 35, .int .u8 32, .int .u8 48, .int .u8 49, .int .u8 50, .int .u8 51, .int .u8 52, .int .u8 53, .int .u8 54, .int .u8 55, .int .u8 56, .int .u8 57, .int .u8 46, .int .u8 42, .int .u8 91]
theorem noVc_at (k : Nat) (h : k < 17) : noVc[k]? = some (.int .u8 (noV.getD k 0)) := by
  rcases (show k = 0 ∨ k = 1 ∨ k = 2 ∨ k = 3 ∨ k = 4 ∨ k = 5 ∨ k = 6 ∨ k = 7 ∨ k = 8 ∨ k = 9 ∨ k = 10 ∨ k = 11 ∨ k = 12 ∨ k = 13 ∨ k = 14 ∨ k = 15 ∨ k = 16 by omega) with rfl | rfl | rfl | rfl | rfl | rfl | rfl | rfl | rfl | rfl | rfl | rfl | rfl | rfl | rfl | rfl | rfl <;> rfl
theorem vb_of {a : UInt8} (h : ∀ k : Nat, k < 17 → ¬ (a.toNat : Int) = noV.getD k 0) : PP.vb a := by
  have h0 := h 0 (by decide); have h1 := h 1 (by decide); have h2 := h 2 (by decide); have h3 := h 3 (by decide); have h4 := h 4 (by decide); have h5 := h 5 (by decide)
  have h6 := h 6 (by decide); have h7 := h 7 (by decide); have h8 := h 8 (by decide); have h9 := h 9 (by decide); have h10 := h 10 (by decide); have h11 := h 11 (by decide)
  have h12 := h 12 (by decide); have h13 := h 13 (by decide); have h14 := h 14 (by decide); have h15 := h 15 (by decide); have h16 := h 16 (by decide)
  simp only [noV, List.getD_cons_zero, List.getD_cons_succ] at *
  unfold PP.vb
  omega

set_option maxRecDepth 100000 in
set_option maxHeartbeats 4000000 in
theorem parseVerbs_law (s rest : ByteArray) (w : World) (hT : Tabs w) (hs : s.size ≤ 140737488355328) (hr : rest.size ≤ 140737488355328) :
    Calls Tryd.prog 8 #[.string s, .string rest] w fun e w' => e = .returned (.bool true) ∧ Below w.heap.size w w' := by
  have LV := hid (fun W hT => lives_any W hT)
  by_cases hp : 0 < s.size
  · have hie := isE_pos hp
    by_cases h100 : s.size ≤ 100
    · by_cases h1000 : rest.size ≤ 1000
      · obtain ⟨a, t, hat⟩ := list_of_pos hp
        have E0 := bt_at s 0 hp
        have hb0 : bt s 0 = (a.toNat : Int) := by unfold bt; rw [hat]; rfl
        rw [hb0] at E0
        have ha1 : (a.toNat : Int) < 256 := by have := UInt8.toNat_lt a; omega
        obtain ⟨b, hb⟩ : ∃ b : Int, (a.toNat : Int) = b := ⟨_, rfl⟩
        rw [hb] at E0 ha1
        have HB := hid hb
        have HA := hid hat
        clear hb hat hb0
        obtain ⟨f1, hf1⟩ : ∃ f1, (⟨#[37]⟩ : ByteArray) ++ s = f1 := ⟨_, rfl⟩
        obtain ⟨f2, hf2⟩ : ∃ f2, (⟨#[37, 55]⟩ : ByteArray) ++ s = f2 := ⟨_, rfl⟩
        have hz1 : f1.size ≤ 101 := by rw [← hf1, ByteArray.size_append]; show 1 + s.size ≤ 101; omega
        have hz2 : f2.size ≤ 102 := by rw [← hf2, ByteArray.size_append]; show 2 + s.size ≤ 102; omega
        have hl1 : f1.data.toList = 37 :: a :: t := by rw [← hf1, ByteArray.data_append, Array.toList_append, HA.out]; rfl
        have hl2 : f2.data.toList = 37 :: 55 :: a :: t := by rw [← hf2, ByteArray.data_append, Array.toList_append, HA.out]; rfl
        have P1 := hid (fun W hT => parse_any f1 W (by omega) hT)
        have P2 := hid (fun W hT => parse_any f2 W (by omega) hT)
        have HF := hid (And.intro hf1 hf2)
        have HL := hid (And.intro hl1 hl2)
        clear hf1 hf2 hl1 hl2
        have BN := hid (fun j => Lib.cell_of_heap (heap_alloc_new w (.cells noVc 5 (17, 18))) j)
        have BB0 := hid ((Below.refl w.heap.size w).alloc (Nat.le_refl _) (.cells noVc 5 (17, 18)))
        have kc := fun (w : World) (C : Array Value) (n c : Nat) => Lib.run_convert_bytes_const (P := Tryd.prog) w 49 5 C n c Tryd.underlying49 Tryd.underlying5
        go_enter Tryd.func8, Tryd.ntmps8
        go_wp2_with fail
        obtain ⟨W0, hW0⟩ : ∃ W0, w.alloc (.cells noVc 5 (17, 18)) = W0 := ⟨_, rfl⟩
        rw [hW0] at BN BB0 ⊢
        obtain ⟨G, hG⟩ : ∃ G, w.heap.size = G := ⟨_, rfl⟩
        rw [hG] at BN ⊢
        clear hW0 hG
        have HT0 := hid (hT.below BB0.out)
        go_loopw [6, 25] (fun _ kv wr => ∃ k : Nat, kv = .int .i64 k ∧ k ≤ 17 ∧ wr = W0 ∧ Hid (∀ j : Nat, j < k → ¬ (a.toNat : Int) = noV.getD j 0)) (fun _ kv _ => 17 - (intOf kv).toNat)
        case atStart => exact ⟨0, rfl, Nat.zero_le _, rfl, fun j hj => by omega⟩
        case round =>
          obtain ⟨k, rfl, hk, rfl, hno⟩ := hrel
          by_cases hk17 : k < 17
          · obtain ⟨d, hd⟩ : ∃ d, noV.getD k 0 = d := ⟨_, rfl⟩
            have hcell : wr.cell? ⟨G, k, none⟩ = some (.int .u8 d) := by
              rw [BN.out k, noVc_at k hk17, hd]
            by_cases hbd : b = d
            · go_wp2_with fail
              refine (LV.out _ HT0.out).mono ?_
              rintro e W3 ⟨rfl, b3⟩
              go_wp2_with fail
              go_ret
              exact ⟨rfl, BB0.out.trans (b3.mono BB0.out.size)⟩
            · have HN := hid (show ∀ j : Nat, j < k + 1 → ¬ (a.toNat : Int) = noV.getD j 0 from fun j hj => by
                by_cases e : j = k
                · rw [e, hd, HB.out]; exact hbd
                · exact hno.out j (by omega))
              clear hd
              go_wp2_with fail
              go_roundw
              case rel => exact ⟨k + 1, by go_num, by omega, by first | trivial | rfl, HN.out⟩
              case measure => simp [intOf]; omega
          · have hk' : k = 17 := by omega
            subst hk'
            have VB := vb_of hno.out
            have hdw := Utf.dec_width (a :: t)
            have hdl := Utf.dec_le (a :: t) (List.cons_ne_nil a t)
            have PA1 := P1.out wr HT0.out
            rw [HL.out.1, PP.verb_pieces a t VB] at PA1
            have PA2 := fun W hT => P2.out W hT
            rw [HL.out.2, PP.verb7_pieces a t VB] at PA2
            obtain ⟨LR, hLR⟩ : ∃ LR, PP.parseL ((a :: t).drop (Utf.decL (a :: t)).2) = LR := ⟨_, rfl⟩
            obtain ⟨vb, hvb⟩ : ∃ vb : Nat, (Utf.decL (a :: t)).1 = vb := ⟨_, rfl⟩
            obtain ⟨T, hTT⟩ : ∃ T, (a :: t).take (Utf.decL (a :: t)).2 = T := ⟨_, rfl⟩
            have hTl : 1 ≤ T.length ∧ T.length ≤ 4 := by rw [← hTT, List.length_take]; omega
            rw [hLR, hvb, hTT] at PA1 PA2
            have PA2 := hid PA2
            obtain ⟨vbi, hvbi⟩ : ∃ vbi : Int, (vb : Int) = vbi := ⟨_, rfl⟩
            rw [hvbi] at PA1 PA2
            obtain ⟨X, hX⟩ : ∃ X, txt (37 :: T) = X := ⟨_, rfl⟩
            obtain ⟨Y, hY⟩ : ∃ Y, txt (37 :: 55 :: T) = Y := ⟨_, rfl⟩
            have hXs : X.size = T.length + 1 := by rw [← hX]; rfl
            have hYs : Y.size = T.length + 2 := by rw [← hY]; rfl
            have HE := hid (show Y.size = X.size + 1 by omega)
            have hX2 : 2 ≤ X.size := by omega
            have hX5 : X.size ≤ 5 := by omega
            have HXY := hid (And.intro hX hY)
            clear hX hY hXs hYs hTl hLR hvb hTT hvbi hdw hdl
            go_wp2_with fail
            rw [HF.out.1]
            refine PA1.mono ?_
            rintro e W1 ⟨v1, rfl, o1, b1⟩
            obtain ⟨g1, c1, rfl, q1, q2, q3, q4, q5⟩ := own_open o1 (by simp)
            obtain ⟨N, hN⟩ : ∃ N, LR.length = N := ⟨_, rfl⟩
            simp only [List.length_cons, hN] at q3 ⊢
            have k0 : W1.cell? ⟨g1, 0, none⟩ = some (.int .i64 1) := q5 0 _ rfl
            have k1 : W1.cell? ⟨g1, 1, none⟩ = some (.string X) := by rw [← HXY.out.1]; exact q5 1 _ rfl
            have k9 : W1.cell? ⟨g1, 9, none⟩ = some (.int .i32 vbi) := q5 9 _ rfl
            have HT1 := hid (HT0.out.below b1)
            have BB1 := hid (BB0.out.trans (b1.mono BB0.out.size))
            have HN := hid hN
            clear q5 o1 b1 hN
            go_wp2_with fail
            rw [HF.out.2]
            refine (PA2.out _ HT1.out).mono ?_
            rintro e W2 ⟨v2, rfl, o2, b2⟩
            obtain ⟨g2, c2, rfl, r1, r2, r3, r4, r5⟩ := own_open o2 (by simp)
            simp only [List.length_cons, HN.out] at r3 ⊢
            have l1 : W2.cell? ⟨g1, 1, none⟩ = some (.string X) := (b2.cell (p := ⟨g1, 1, none⟩) q2).trans k1
            have l9 : W2.cell? ⟨g1, 9, none⟩ = some (.int .i32 vbi) := (b2.cell (p := ⟨g1, 9, none⟩) q2).trans k9
            have m1 : W2.cell? ⟨g2, 1, none⟩ = some (.string Y) := by rw [← HXY.out.2]; exact r5 1 _ rfl
            have m9 : W2.cell? ⟨g2, 9, none⟩ = some (.int .i32 vbi) := r5 9 _ rfl
            have m11 : W2.cell? ⟨g2, 11, none⟩ = some (.int .i64 7) := r5 11 _ rfl
            have HT2 := hid (HT1.out.below b2)
            have BB2 := hid (BB1.out.trans (b2.mono BB1.out.size))
            clear r5 o2 b2 k0 k1 k9
            go_wp2_with fail
            go_still_tail 41, (by kernel_rfl)
            go_wp2_with fail
            refine (LV.out _ (HT2.out.below (Below.refl _ _).drew)).mono ?_
            rintro e W3 ⟨rfl, b3⟩
            go_wp2_with fail
            any_goals (exfalso; have := HE.out; omega)
            go_ret
            exact ⟨rfl, BB2.out.drew.trans (b3.mono BB2.out.size)⟩
      · go_enter Tryd.func8, Tryd.ntmps8
        go_wp2_with fail
        refine (LV.out _ hT).mono ?_
        rintro e W3 ⟨rfl, b3⟩
        go_wp2_with fail
        go_ret
        exact ⟨rfl, b3⟩
    · go_enter Tryd.func8, Tryd.ntmps8
      go_wp2_with fail
      refine (LV.out _ hT).mono ?_
      rintro e W3 ⟨rfl, b3⟩
      go_wp2_with fail
      go_ret
      exact ⟨rfl, b3⟩
  · have hie := isE_zero hp
    go_enter Tryd.func8, Tryd.ntmps8
    go_wp2_with fail
    refine (LV.out _ hT).mono ?_
    rintro e W3 ⟨rfl, b3⟩
    go_wp2_with fail
    go_ret
    exact ⟨rfl, b3⟩
end Go.Proofs.YtmfhoindfhmncaaDoor
