/-
  Walks of layer 2: the document reads a quoted text.
-/
import Derived.Test.YtfbekjgbijlcaaaDoorQX
import Derived.Test.YtfbekjgbijlcaaaDoorQV
namespace Go.Proofs.YtfbekjgbijlcaaaDoor
open Go.RowKit Go.Proofs

attribute [local go_sem] conv1
theorem oneR_bound (l u : List UInt8) (n : Nat) (h : IP.oneR l = some (u, n)) : 1 ≤ n ∧ n ≤ l.length ∧ u.length ≤ n := by
  match l with
  | [] => simp [IP.oneR] at h
  | a :: t =>
    simp only [IP.oneR] at h
    split at h
    · simp only [Option.some.injEq, Prod.mk.injEq] at h
      obtain ⟨rfl, rfl⟩ := h
      simp
    · match t with
      | [] =>
        simp only [Option.some.injEq, Prod.mk.injEq] at h
        obtain ⟨rfl, rfl⟩ := h
        simp
      | b :: u' =>
        simp only [] at h
        split at h
        · simp only [Option.some.injEq, Prod.mk.injEq] at h
          obtain ⟨rfl, rfl⟩ := h
          simp
        · split at h
          · cases h
          · have he := escN_is b
            split at h
            · simp only [Option.some.injEq, Prod.mk.injEq] at h
              obtain ⟨rfl, rfl⟩ := h
              simp only [List.length_cons, List.length_nil]
              omega
            · simp only [Option.some.injEq, Prod.mk.injEq] at h
              obtain ⟨rfl, rfl⟩ := h
              have := Utf.encL_pos (IP.valR 0 (List.take (IP.escN b) u'))
              simp only [List.length_cons]
              omega
/-- What holds at the head of a round: the text so far, the rest. -/
structure RInv (S : Nat) (R : Option (List UInt8)) (o t : ByteArray) (k : Nat) : Prop where
  fuel : t.size ≤ k
  size : o.size + t.size ≤ S
  read : (IP.readN IP.oneR k t.data.toList).map (o.data.toList ++ ·) = R
theorem size_ne {t : ByteArray} (hp : 0 < t.size) : t.data.toList ≠ [] := by
  intro e
  rw [Utf.size_eq, e] at hp
  simp at hp
theorem RInv.none {S : Nat} {R : Option (List UInt8)} {o t : ByteArray} {k : Nat} (h : RInv S R o t k) (hp : 0 < t.size) (h1 : IP.oneR t.data.toList = none) : R = none := by
  rw [← h.read, IP.readN_none h1 (size_ne hp)]
  rfl
theorem RInv.step {S : Nat} {R : Option (List UInt8)} {o t U v : ByteArray} {k n : Nat} (h : RInv S R o t k) (hp : 0 < t.size) (h1 : IP.oneR t.data.toList = some (U.data.toList, n)) (hv : t.extract n t.size = v) :
    RInv S R (o ++ U) v (k - 1) ∧ v.size < t.size := by
  obtain ⟨b1, b2, b3⟩ := oneR_bound _ _ _ h1
  rw [← Utf.size_eq] at b2 b3
  have hvl : v.data.toList = t.data.toList.drop n := by rw [← hv]; exact extract_drop t n
  have hvz : v.size = t.size - n := by rw [Utf.size_eq, hvl, List.length_drop, ← Utf.size_eq]
  have hf := h.fuel
  have hz := h.size
  have hr := h.read
  obtain ⟨k', rfl⟩ : ∃ k', k = k' + 1 := ⟨k - 1, by omega⟩
  rw [IP.readN_some h1 (size_ne hp), Option.map_map] at hr
  refine ⟨⟨by omega, by rw [ByteArray.size_append]; omega, ?_⟩, by omega⟩
  rw [Nat.add_sub_cancel, ← hr, hvl]
  congr 1
  funext z
  simp
theorem oneR_raw {a : UInt8} {t : List UInt8} (h : ¬ a.toNat = 92) : IP.oneR (a :: t) = some ([a], 1) := by
  simp only [IP.oneR]
  rw [if_pos h]
theorem oneR_alone {a : UInt8} (h : a.toNat = 92) : IP.oneR [a] = some ([a], 1) := by
  simp only [IP.oneR]
  rw [if_neg (by omega)]
theorem oneR_low {a b : UInt8} {u : List UInt8} (h : a.toNat = 92) (hN : IP.escN b = 0) : IP.oneR (a :: b :: u) = some ([if 0 ≤ IP.ltrI b then UInt8.ofNat (7 + IP.ltrI b).toNat else b], 2) := by
  simp only [IP.oneR]
  rw [if_neg (by omega), if_pos hN]
theorem oneR_esc {a b : UInt8} {u : List UInt8} {N : Nat} {v : Int} (h : a.toNat = 92) (hN : IP.escN b = N) (h0 : N ≠ 0) (hv : (if u.length < N then -1 else IP.valR 0 (u.take N)) = v) : IP.oneR (a :: b :: u) = if v < 0 then none else if N = 2 then some ([UInt8.ofNat v.toNat], 4) else some (Utf.encL v, 2 + N) := by
  simp only [IP.oneR]
  rw [if_neg (by omega), hN, if_neg h0]
  by_cases hl : u.length < N
  · rw [if_pos (Or.inl hl)]
    rw [if_pos hl] at hv
    rw [if_pos (by omega)]
  · rw [if_neg hl] at hv
    rw [hv]
    by_cases hv0 : v < 0
    · rw [if_pos (Or.inr hv0), if_pos hv0]
    · rw [if_neg (by
        rintro (q | q)
        · exact hl q
        · exact hv0 q), if_neg hv0]
theorem one_byte (t : ByteArray) (_h : 0 < t.size) {a : UInt8} {r : List UInt8} (e : t.data.toList = a :: r) : (t.extract 0 1).data.toList = [a] := by
  rw [Lib.extract_data, e]
  rfl
theorem valR_le (l : List UInt8) : ∀ v : Int, 0 ≤ v → v ≤ 17825791 → IP.valR v l ≤ 17825791 := by
  induction l with
  | nil => intro v h0 h1; exact h1
  | cons a t ih =>
    intro v h0 h1
    have hb := IP.hv_bound a
    rw [IP.valR]
    split
    · decide
    · exact ih _ (by omega) (by omega)
theorem after2 (t : ByteArray) {a b : UInt8} {u : List UInt8} (e : t.data.toList = a :: b :: u) : (t.extract 2 t.size).data.toList = u ∧ (t.extract 2 t.size).size = u.length := by
  have h : (t.extract 2 t.size).data.toList = u := by rw [extract_drop, e]; rfl
  exact ⟨h, by rw [Utf.size_eq, h]⟩
/-- The digits behind an escape's letter, at the text behind them. -/
theorem val_lit (s : ByteArray) (u : List UInt8) (hl : s.data.toList = u) (n : Nat) (N : Int) (hN : (n : Int) = N) (v : Int) (hv : (if u.length < n then -1 else IP.valR 0 (u.take n)) = v) (w : World) (hs : s.size ≤ 3000) (hn : n ≤ 8) :
    Calls Tryd.prog 29 #[.string s, .int .i64 N] w fun e w' => e = .returned (.int .i64 v) ∧ Below w.heap.size w w' := by
  subst hN
  have := value_any s n w hs hn
  rw [Utf.size_eq, hl, hv] at this
  exact this

theorem back_bytes (o : ByteArray) : (⟨o.data.toList.toArray⟩ : ByteArray) = o := bytes_ext (by simp)
theorem letter_is (b : UInt8) (y : Int) (hy : (b.toNat : Int) = y) : ∀ k : Nat, k < 7 → (bt (⟨#[97, 98, 116, 110, 118, 102, 114]⟩ : ByteArray) k = y ↔ IP.ltrI b = k) := by
  intro k hk
  unfold IP.ltrI
  rcases (show k = 0 ∨ k = 1 ∨ k = 2 ∨ k = 3 ∨ k = 4 ∨ k = 5 ∨ k = 6 by omega) with rfl | rfl | rfl | rfl | rfl | rfl | rfl
  · show (97 : Int) = y ↔ _
    repeat' split
    all_goals omega
  · show (98 : Int) = y ↔ _
    repeat' split
    all_goals omega
  · show (116 : Int) = y ↔ _
    repeat' split
    all_goals omega
  · show (110 : Int) = y ↔ _
    repeat' split
    all_goals omega
  · show (118 : Int) = y ↔ _
    repeat' split
    all_goals omega
  · show (102 : Int) = y ↔ _
    repeat' split
    all_goals omega
  · show (114 : Int) = y ↔ _
    repeat' split
    all_goals omega
set_option maxRecDepth 100000 in
set_option maxHeartbeats 1000000 in
theorem refunquote_any (s : ByteArray) (w : World) (hs : s.size ≤ 3000) :
    Calls Tryd.prog 13 #[.string s] w fun e w' => e = .returned (uqT (IP.unqR s.data.toList)) ∧ Below w.heap.size w w' := by
  by_cases h2 : s.size < 2
  · have hr : IP.unqR s.data.toList = none := by
      unfold IP.unqR
      rw [if_pos (by rw [← Utf.size_eq]; exact h2)]
    rw [hr]
    have h2i : (s.size : Int) < 2 := by omega
    go_enter Tryd.func13, Tryd.ntmps13
    go_wp2_with fail
    go_ret2
    exact ⟨rfl, Below.refl _ _⟩
  · have h2i : (2 : Int) ≤ s.size := by omega
    have hr : IP.unqR s.data.toList = (IP.readN IP.oneR (IP.midL s.data.toList).length (IP.midL s.data.toList)).bind fun t => if IP.isQ s.data.toList t then some t else none := by
      unfold IP.unqR
      rw [if_neg (by rw [← Utf.size_eq]; exact h2)]
    rw [hr]
    obtain ⟨R, hR⟩ : ∃ R, IP.readN IP.oneR (IP.midL s.data.toList).length (IP.midL s.data.toList) = R := ⟨_, rfl⟩
    rw [hR]
    obtain ⟨m, hm⟩ : ∃ m, s.extract 1 (s.size - 1) = m := ⟨_, rfl⟩
    have hml := mid_list s
    rw [hm] at hml
    have hmz : m.size ≤ s.size := by rw [← hm, ByteArray.size_extract]; omega
    have R0 := hid (show RInv s.size R ⟨#[]⟩ m m.size from ⟨Nat.le_refl _, by show 0 + m.size ≤ _; omega, by rw [Utf.size_eq, hml, hR]; simp⟩)
    clear hr hR hml
    go_enter Tryd.func13, Tryd.ntmps13
    go_wp2_with fail
    go_loopw [4, 5] (fun ov rv wr => ∃ (o t : ByteArray) (k : Nat), ov = .string o ∧ rv = .string t ∧ Hid (RInv s.size R o t k) ∧ Hid (Below w.heap.size w wr)) (fun _ rv _ => strLen rv)
    case atStart => exact ⟨⟨#[]⟩, m, m.size, rfl, rfl, R0.out, Below.refl _ _⟩
    case round =>
      obtain ⟨o, t, k, rfl, rfl, hI, hb⟩ := hrel
      obtain ⟨wo, hwo⟩ : ∃ wo : World, wo = wr := ⟨_, rfl⟩
      subst hwo
      have hoz : o.size ≤ 3000 := by have := hI.out.size; omega
      have htz : t.size ≤ 3000 := by have := hI.out.size; omega
      by_cases hp : 0 < t.size
      · have he := isEmpty_of_pos hp
        obtain ⟨a, r, hat⟩ := list_front hp
        have E0 := bt_at t 0 hp
        have ha : bt t 0 = (a.toNat : Int) := by unfold bt; rw [hat]; rfl
        obtain ⟨x, hx⟩ : ∃ x : Int, (a.toNat : Int) = x := ⟨_, rfl⟩
        rw [ha, hx] at E0
        have plain : IP.oneR t.data.toList = some ([a], 1) → Hid (∃ U v : ByteArray, t.extract 0 1 = U ∧ t.extract 1 t.size = v ∧ U.size = 1 ∧ RInv s.size R (o ++ U) v (k - 1) ∧ v.size < t.size) := by
          intro h1
          have hU := one_byte t hp hat
          have := hI.out.step (U := t.extract 0 1) (n := 1) (v := t.extract 1 t.size) hp (by rw [hU]; exact h1) rfl
          exact ⟨_, _, rfl, rfl, by rw [Utf.size_eq, hU]; rfl, this⟩
        by_cases hx92 : x = 92
        · subst hx92
          have ha92 : a.toNat = 92 := by omega
          by_cases h1 : 1 < t.size
          · cases r with
            | nil => rw [Utf.size_eq, hat] at h1; simp at h1
            | cons b u =>
              obtain ⟨hz, _, hb1⟩ := list_two hat
              have h1i : (2 : Int) ≤ t.size := by omega
              have E1 := bt_at t 1 h1
              obtain ⟨y, hy⟩ : ∃ y : Int, (b.toNat : Int) = y := ⟨_, rfl⟩
              rw [hb1, hy] at E1
              obtain ⟨hs2, hs2z⟩ := after2 t hat
              obtain ⟨T2, hT2⟩ : ∃ T2, t.extract 2 t.size = T2 := ⟨_, rfl⟩
              rw [hT2] at hs2 hs2z
              have hT2z : T2.size ≤ 3000 := by omega
              clear plain ha hx hz hb1
              by_cases hy120 : y = 120
              · subst hy120
                have hN : IP.escN b = 2 := by unfold IP.escN; rw [if_pos (by omega)]
                obtain ⟨v, hv⟩ : ∃ v, (if u.length < 2 then -1 else IP.valR 0 (u.take 2)) = v := ⟨_, rfl⟩
                have h1r := oneR_esc ha92 hN (by decide) hv
                rw [← hat] at h1r
                have VA := hid (fun W => val_lit T2 u hs2 2 2 rfl v hv W hT2z (by decide))
                by_cases hv0 : v < 0
                · rw [if_pos hv0] at h1r
                  have HF := hid (hI.out.none hp h1r)
                  clear h1r hv hN hs2 hs2z hat
                  go_wp2_with fail
                  refine (VA.out _).mono ?_
                  rintro e w1 ⟨rfl, b1⟩
                  have B1 := hid (hb.out.trans (b1.mono hb.out.size))
                  clear b1
                  go_wp2_with fail
                  go_ret2
                  exact ⟨by rw [HF.out]; rfl, B1.out⟩
                · rw [if_neg hv0, if_pos rfl] at h1r
                  have hv1 : v ≤ 255 := by
                    rw [← hv]
                    split
                    · decide
                    · rename_i hl
                      match u, hl with
                      | c :: d :: u', _ =>
                        have hc := IP.hv_bound c
                        have hd := IP.hv_bound d
                        simp only [List.take_succ_cons, List.take_zero, IP.valR]
                        split
                        · decide
                        · split
                          · decide
                          · omega
                      | [c], hl => simp at hl
                      | [], hl => simp at hl
                  have hcv := nums1 v
                  obtain ⟨U, hU⟩ : ∃ U : ByteArray, (⟨[UInt8.ofNat v.toNat].toArray⟩ : ByteArray) = U := ⟨_, rfl⟩
                  obtain ⟨z, hzz⟩ : ∃ z, t.extract 4 t.size = z := ⟨_, rfl⟩
                  have STP := hid (hI.out.step (U := U) (n := 4) (v := z) hp (by rw [← hU]; exact h1r) hzz)
                  rw [hU] at hcv
                  have hUz : U.size = 1 := by rw [← hU]; rfl
                  have ht4 : 4 ≤ t.size := by
                    have := (oneR_bound _ _ _ h1r).2.1
                    rw [← Utf.size_eq] at this
                    exact this
                  have HUZ := hid hUz
                  have zz : ¬ 9223372036854775807 < o.size + U.size := by omega
                  clear h1r hv hN hs2 hs2z hat hU hUz
                  go_wp2_with fail
                  refine (VA.out _).mono ?_
                  rintro e w1 ⟨rfl, b1⟩
                  have B1 := hid (hb.out.trans (b1.mono hb.out.size))
                  clear b1
                  go_wp2_with fail
                  go_roundw
                  case rel => exact ⟨o ++ U, z, k - 1, rfl, rfl, STP.out.1, B1.out.alloc B1.out.size _⟩
                  case measure => exact STP.out.2
              · have hy120b : (y == 120) = false := beq_eq_false_iff_ne.2 hy120
                by_cases hyu : y = 117 ∨ y = 85
                · have hN : ∃ N : Nat, IP.escN b = N ∧ ((y = 117 ∧ N = 4) ∨ (y = 85 ∧ N = 8)) := by
                    unfold IP.escN
                    rcases hyu with h | h
                    · exact ⟨4, by rw [if_neg (by omega), if_pos (by omega)], Or.inl ⟨h, rfl⟩⟩
                    · exact ⟨8, by rw [if_neg (by omega), if_neg (by omega), if_pos (by omega)], Or.inr ⟨h, rfl⟩⟩
                  obtain ⟨N, hN1, hN2⟩ := hN
                  obtain ⟨v, hv⟩ : ∃ v, (if u.length < N then -1 else IP.valR 0 (u.take N)) = v := ⟨_, rfl⟩
                  have h1r := oneR_esc ha92 hN1 (by omega) hv
                  rw [← hat] at h1r
                  have hvle : v ≤ 17825791 := by
                    rw [← hv]
                    split
                    · decide
                    · exact valR_le _ 0 (by decide) (by decide)
                  have VA0 := fun (M : Int) (hM : (N : Int) = M) W => val_lit T2 u hs2 N M hM v hv W hT2z (by omega)
                  have VA := hid VA0
                  by_cases hv0 : v < 0
                  · rw [if_pos hv0] at h1r
                    have HF := hid (hI.out.none hp h1r)
                    clear h1r hv hN1 hs2 hs2z hat VA0
                    rcases hN2 with ⟨rfl, rfl⟩ | ⟨rfl, rfl⟩
                    · go_wp2_with fail
                      refine (VA.out 4 rfl _).mono ?_
                      rintro e w1 ⟨rfl, b1⟩
                      have B1 := hid (hb.out.trans (b1.mono hb.out.size))
                      clear b1
                      go_wp2_with fail
                      go_ret2
                      exact ⟨by rw [HF.out]; rfl, B1.out⟩
                    · go_wp2_with fail
                      refine (VA.out 8 rfl _).mono ?_
                      rintro e w1 ⟨rfl, b1⟩
                      have B1 := hid (hb.out.trans (b1.mono hb.out.size))
                      clear b1
                      go_wp2_with fail
                      go_ret2
                      exact ⟨by rw [HF.out]; rfl, B1.out⟩
                  · rw [if_neg hv0, if_neg (by omega)] at h1r
                    have RU := hid (fun W => refrune_any v (by omega) (by omega) W)
                    obtain ⟨U, hU⟩ : ∃ U : ByteArray, Utf8.encode v = U := ⟨_, rfl⟩
                    rw [hU] at RU
                    have hUl : U.data.toList = Utf.encL v := by rw [← hU]; rfl
                    have hUz : U.size ≤ 4 := by rw [Utf.size_eq, hUl]; exact (Utf.encL_pos v).2
                    obtain ⟨z, hzz⟩ : ∃ z, t.extract (2 + N) t.size = z := ⟨_, rfl⟩
                    have STP := hid (hI.out.step (U := U) (n := 2 + N) (v := z) hp (by rw [hUl]; exact h1r) hzz)
                    have ht4 : 2 + N ≤ t.size := by
                      have := (oneR_bound _ _ _ h1r).2.1
                      rw [← Utf.size_eq] at this
                      exact this
                    have zz : ¬ 9223372036854775807 < o.size + U.size := by omega
                    clear h1r hv hN1 hs2 hs2z hat VA0 hU hUl
                    rcases hN2 with ⟨rfl, rfl⟩ | ⟨rfl, rfl⟩
                    · have hzz : t.extract 6 t.size = z := hzz
                      go_wp2_with fail
                      refine (VA.out 4 rfl _).mono ?_
                      rintro e w1 ⟨rfl, b1⟩
                      have B1 := hid (hb.out.trans (b1.mono hb.out.size))
                      clear b1
                      go_wp2_with fail
                      refine (RU.out _).mono ?_
                      rintro e w2 ⟨rfl, b2⟩
                      have B2 := hid (B1.out.trans (b2.mono B1.out.size))
                      clear b2
                      go_wp2_with fail
                      go_roundw
                      case rel => exact ⟨o ++ U, z, k - 1, rfl, rfl, STP.out.1, B2.out⟩
                      case measure => exact STP.out.2
                    · have hzz : t.extract 10 t.size = z := hzz
                      go_wp2_with fail
                      refine (VA.out 8 rfl _).mono ?_
                      rintro e w1 ⟨rfl, b1⟩
                      have B1 := hid (hb.out.trans (b1.mono hb.out.size))
                      clear b1
                      go_wp2_with fail
                      refine (RU.out _).mono ?_
                      rintro e w2 ⟨rfl, b2⟩
                      have B2 := hid (B1.out.trans (b2.mono B1.out.size))
                      clear b2
                      go_wp2_with fail
                      go_roundw
                      case rel => exact ⟨o ++ U, z, k - 1, rfl, rfl, STP.out.1, B2.out⟩
                      case measure => exact STP.out.2
                · have h117 : ¬ y = 117 := fun h => hyu (Or.inl h)
                  have h85 : ¬ y = 85 := fun h => hyu (Or.inr h)
                  have hN : IP.escN b = 0 := by
                    unfold IP.escN
                    rw [if_neg (by omega), if_neg (by omega), if_neg (by omega)]
                  have h1r := oneR_low (u := u) ha92 hN
                  rw [← hat] at h1r
                  clear hyu hN
                  have LT := hid (letter_is b y hy)
                  have hqb := IP.ltrI_bound b
                  obtain ⟨q, hq⟩ : ∃ q, IP.ltrI b = q := ⟨_, rfl⟩
                  rw [hq] at hqb h1r LT
                  obtain ⟨hqb0, hqb1⟩ := hqb
                  by_cases hq0 : 0 ≤ q
                  · rw [if_pos hq0] at h1r
                    have hcv := nums1 (7 + q)
                    obtain ⟨U, hU⟩ : ∃ U : ByteArray, (⟨[UInt8.ofNat (7 + q).toNat].toArray⟩ : ByteArray) = U := ⟨_, rfl⟩
                    have STP := hid (hI.out.step (U := U) (n := 2) (v := T2) hp (by rw [← hU]; exact h1r) hT2)
                    rw [hU] at hcv
                    have hUz : U.size = 1 := by rw [← hU]; rfl
                    have HUZ := hid hUz
                    have zz : ¬ 9223372036854775807 < o.size + U.size := by omega
                    have h117b : (y == 117) = false := beq_eq_false_iff_ne.2 h117
                    have h85b : (y == 85) = false := beq_eq_false_iff_ne.2 h85
                    clear h1r hs2 hs2z hat hU hUz hy hq
                    go_wp2_with fail
                    go_loopw [9, 10] (fun xv kv wr => ∃ k : Nat, xv = .int .u8 y ∧ kv = .int .i64 k ∧ (k : Int) ≤ q ∧ wr = wo) (fun _ kv _ => 7 - (intOf kv).toNat)
                    case atStart => exact ⟨0, rfl, rfl, hq0, rfl⟩
                    case round =>
                      obtain ⟨k, rfl, rfl, hkq, hwr⟩ := hrel
                      subst hwr
                      have hk7 : k < (⟨#[97, 98, 116, 110, 118, 102, 114]⟩ : ByteArray).size := by show k < 7; omega
                      have EL := bt_at (⟨#[97, 98, 116, 110, 118, 102, 114]⟩ : ByteArray) k hk7
                      have LK := LT.out k (by omega)
                      obtain ⟨c, hc⟩ : ∃ c, bt (⟨#[97, 98, 116, 110, 118, 102, 114]⟩ : ByteArray) k = c := ⟨_, rfl⟩
                      rw [hc] at EL LK
                      have hk7i : (k : Int) < 7 := by omega
                      by_cases hkq2 : q = k
                      · have hcy := LK.2 hkq2
                        subst hcy
                        subst hkq2
                        clear LK hc
                        go_wp2_with fail
                        go_roundw
                        case rel => exact ⟨o ++ U, T2, _, rfl, rfl, STP.out.1, hb.out.alloc hb.out.size _⟩
                        case measure => exact STP.out.2
                      · have hcy : (c == y) = false := beq_eq_false_iff_ne.2 (fun h => hkq2 (LK.1 h))
                        clear LK hc
                        go_wp2_with fail
                        go_roundw
                        case rel => exact ⟨k + 1, rfl, by go_num, by omega, by first | trivial | rfl⟩
                        case measure => simp [intOf]; omega
                  · rw [if_neg hq0] at h1r
                    have hbb : b = UInt8.ofNat y.toNat := by
                      apply UInt8.toNat_inj.1
                      have := UInt8.toNat_lt b
                      rw [Utf.toNat_ofNat (by omega)]; omega
                    have hcv := nums1 y
                    rw [← hbb] at hcv
                    obtain ⟨U, hU⟩ : ∃ U : ByteArray, (⟨[b].toArray⟩ : ByteArray) = U := ⟨_, rfl⟩
                    have STP := hid (hI.out.step (U := U) (n := 2) (v := T2) hp (by rw [← hU]; exact h1r) hT2)
                    rw [hU] at hcv
                    have hUz : U.size = 1 := by rw [← hU]; rfl
                    have HUZ := hid hUz
                    have zz : ¬ 9223372036854775807 < o.size + U.size := by omega
                    have h117b : (y == 117) = false := beq_eq_false_iff_ne.2 h117
                    have h85b : (y == 85) = false := beq_eq_false_iff_ne.2 h85
                    clear h1r hs2 hs2z hat hU hUz hy hq hbb
                    go_wp2_with fail
                    go_loopw [9, 10] (fun xv kv wr => ∃ k : Nat, xv = .int .u8 y ∧ kv = .int .i64 k ∧ k ≤ 7 ∧ wr = wo) (fun _ kv _ => 7 - (intOf kv).toNat)
                    case atStart => exact ⟨0, rfl, rfl, by decide, rfl⟩
                    case round =>
                      obtain ⟨k, rfl, rfl, hkq, hwr⟩ := hrel
                      subst hwr
                      by_cases hk7 : k < (⟨#[97, 98, 116, 110, 118, 102, 114]⟩ : ByteArray).size
                      · have EL := bt_at (⟨#[97, 98, 116, 110, 118, 102, 114]⟩ : ByteArray) k hk7
                        have hk7' : k < 7 := hk7
                        have LK := LT.out k hk7'
                        obtain ⟨c, hc⟩ : ∃ c, bt (⟨#[97, 98, 116, 110, 118, 102, 114]⟩ : ByteArray) k = c := ⟨_, rfl⟩
                        rw [hc] at EL LK
                        have hk7i : (k : Int) < 7 := by omega
                        have hcy : (c == y) = false := beq_eq_false_iff_ne.2 (fun h => by have := LK.1 h; omega)
                        clear LK hc
                        go_wp2_with fail
                        go_roundw
                        case rel => exact ⟨k + 1, rfl, by go_num, by omega, by first | trivial | rfl⟩
                        case measure => simp [intOf]; omega
                      · have hk' : k = 7 := by
                          have : ¬ k < 7 := hk7
                          omega
                        subst hk'
                        clear hk7
                        go_wp2_with fail
                        go_roundw
                        case rel => exact ⟨o ++ U, T2, _, rfl, rfl, STP.out.1, hb.out.alloc hb.out.size _⟩
                        case measure => exact STP.out.2
          · have hr0 : r = [] := by
              rw [Utf.size_eq, hat] at h1
              simp only [List.length_cons] at h1
              exact List.eq_nil_of_length_eq_zero (by omega)
            subst hr0
            have h1i : (t.size : Int) < 2 := by omega
            obtain ⟨U, z, e1, e2, hUz, hI2, hlt⟩ := plain (by rw [hat]; exact oneR_alone ha92)
            have STP := hid (And.intro hI2 hlt)
            have HUZ := hid hUz
            have zz : ¬ 9223372036854775807 < o.size + U.size := by omega
            clear plain ha hx hat hI2 hlt hUz
            go_wp2_with fail
            go_roundw
            case rel => exact ⟨o ++ U, z, k - 1, rfl, rfl, STP.out.1, hb.out⟩
            case measure => exact STP.out.2
        · have hx92b : (x != 92) = true := by simpa using hx92
          obtain ⟨U, z, e1, e2, hUz, hI2, hlt⟩ := plain (by rw [hat]; exact oneR_raw (by omega))
          have STP := hid (And.intro hI2 hlt)
          have HUZ := hid hUz
          have zz : ¬ 9223372036854775807 < o.size + U.size := by omega
          clear plain ha hx hat hI2 hlt hUz
          go_wp2_with fail
          go_roundw
          case rel => exact ⟨o ++ U, z, k - 1, rfl, rfl, STP.out.1, hb.out⟩
          case measure => exact STP.out.2
      · have he := isEmpty_of_zero hp
        have hfin : R = some o.data.toList := by
          rw [← hI.out.read, show t.data.toList = [] from List.eq_nil_of_length_eq_zero (by rw [← Utf.size_eq]; omega), IP.readN_nil]
          simp
        have HF := hid hfin
        have QF := hid (fun W => refquote_any o false W hoz)
        have QG := hid (fun W => refquote_any o true W hoz)
        obtain ⟨q1, hq1⟩ : ∃ q1 : ByteArray, (⟨(IP.quoteL false o.data.toList).toArray⟩ : ByteArray) = q1 := ⟨_, rfl⟩
        obtain ⟨q2, hq2⟩ : ∃ q2 : ByteArray, (⟨(IP.quoteL true o.data.toList).toArray⟩ : ByteArray) = q2 := ⟨_, rfl⟩
        rw [hq1] at QF
        rw [hq2] at QG
        have i1 : IP.quoteL false o.data.toList = s.data.toList ↔ q1 = s := by
          rw [← hq1]
          exact ⟨fun h => bytes_ext h, fun h => by rw [← h]⟩
        have i2 : IP.quoteL true o.data.toList = s.data.toList ↔ q2 = s := by
          rw [← hq2]
          exact ⟨fun h => bytes_ext h, fun h => by rw [← h]⟩
        clear hq1 hq2 hfin
        by_cases c1 : q1 = s
        · subst c1
          have HQ := hid (show IP.isQ q1.data.toList o.data.toList = true from decide_eq_true (Or.inl (i1.2 rfl)))
          clear i1 i2 QG
          go_wp2_with fail
          refine (QF.out _).mono ?_
          rintro e w4 ⟨rfl, b4⟩
          have B4 := hid (hb.out.trans (b4.mono hb.out.size))
          clear b4
          go_wp2_with fail
          go_ret2
          exact ⟨by rw [HF.out, Option.bind_some, if_pos HQ.out]; simp only [uqT]; rw [back_bytes]; rfl, B4.out⟩
        · obtain ⟨n1, n2⟩ := bne_lst c1
          by_cases c2 : q2 = s
          · subst c2
            have HQ := hid (show IP.isQ q2.data.toList o.data.toList = true from decide_eq_true (Or.inr (i2.2 rfl)))
            clear i1 i2 c1
            go_wp2_with fail
            refine (QF.out _).mono ?_
            rintro e w4 ⟨rfl, b4⟩
            have B4 := hid (hb.out.trans (b4.mono hb.out.size))
            clear b4
            go_wp2_with fail
            refine (QG.out _).mono ?_
            rintro e w5 ⟨rfl, b5⟩
            have B5 := hid (B4.out.trans (b5.mono B4.out.size))
            clear b5
            go_wp2_with fail
            go_ret2
            exact ⟨by rw [HF.out, Option.bind_some, if_pos HQ.out]; simp only [uqT]; rw [back_bytes]; rfl, B5.out⟩
          · obtain ⟨n3, n4⟩ := bne_lst c2
            have HQ := hid (show ¬ IP.isQ s.data.toList o.data.toList = true from fun h => by
              rcases of_decide_eq_true h with h | h
              · exact c1 (i1.1 h)
              · exact c2 (i2.1 h))
            clear i1 i2 c1 c2
            go_wp2_with fail
            refine (QF.out _).mono ?_
            rintro e w4 ⟨rfl, b4⟩
            have B4 := hid (hb.out.trans (b4.mono hb.out.size))
            clear b4
            go_wp2_with fail
            refine (QG.out _).mono ?_
            rintro e w5 ⟨rfl, b5⟩
            have B5 := hid (B4.out.trans (b5.mono B4.out.size))
            clear b5
            go_wp2_with fail
            go_ret2
            exact ⟨by rw [HF.out, Option.bind_some, if_neg HQ.out]; rfl, B5.out⟩
end Go.Proofs.YtfbekjgbijlcaaaDoor
