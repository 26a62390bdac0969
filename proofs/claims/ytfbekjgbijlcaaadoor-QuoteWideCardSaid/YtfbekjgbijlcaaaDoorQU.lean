/-
  Walks of layer 2: an escape of so many digits; what stands at the front, whole.
-/
import Derived.Test.YtfbekjgbijlcaaaDoorQT
namespace Go.Proofs.YtfbekjgbijlcaaaDoor
open Go.RowKit Go.Proofs

attribute [local go_sem] conv1
theorem valP_two (x y : UInt8) (c : Int) (h : IP.valP c4 0 [x, y] = some c) : 0 ≤ c ∧ c ≤ 255 := by
  have hx := IP.hv_bound x
  have hy := IP.hv_bound y
  simp only [IP.valP] at h
  split at h
  · cases h
  · rename_i h1
    split at h
    · cases h
    · rename_i h2
      rw [c4_small 0 _ (by decide) (by decide) (by omega) hx.2, c4_small _ _ (by omega) (by omega) (by omega) hy.2] at h
      simp only [Option.some.injEq] at h
      omega
theorem valP_at (s : ByteArray) (c : Int) (k m : Nat) (h : k < s.size) (hm : k < m) : IP.valP c4 c ((s.data.toList.drop k).take (m - k)) = if IP.hv (s.data.toList[k]?.getD 0) < 0 then none else IP.valP c4 (c4 c (IP.hv (s.data.toList[k]?.getD 0))) ((s.data.toList.drop (k + 1)).take (m - (k + 1))) := by
  have hl : k < s.data.toList.length := by rw [← Utf.size_eq]; exact h
  rw [List.drop_eq_getElem_cons hl, show m - k = (m - (k + 1)) + 1 by omega, List.take_succ_cons, IP.valP, List.getElem?_eq_getElem hl]
  rfl
/-- What 'one' makes of the digits' number. -/
def escR (N : Nat) (r : Option Int) : Option (List UInt8 × Nat) := match r with
  | none => none
  | some c => if N = 2 then some ([UInt8.ofNat c.toNat], 4) else some (Utf.encL c, 2 + N)

set_option maxRecDepth 100000 in
set_option maxHeartbeats 4000000 in
theorem one_loop (s : ByteArray) (N : Nat) (y : Int) (w : World) (h0 : 0 < s.size) (h92 : bt s 0 = 92) (h1 : 1 < s.size) (hs : s.size ≤ 100000) (hy : bt s 1 = y) (hyN : (y = 120 ∧ N = 2) ∨ (y = 117 ∧ N = 4) ∨ (y = 85 ∧ N = 8)) (hN : 2 + N ≤ s.size) :
    Calls Tryd.prog 26 #[.string s] w fun e w' => e = .returned (oneT (escR N (IP.valP c4 0 ((s.data.toList.drop 2).take N)))) ∧ Below w.heap.size w w' := by
  have E0 := bt_at s 0 h0
  rw [h92] at E0
  have E1 := bt_at s 1 h1
  rw [hy] at E1
  have hs2 : (2 : Int) ≤ s.size := by omega
  have hNi : (2 : Int) + N ≤ s.size := by omega
  obtain ⟨R, hR⟩ : ∃ R, IP.valP c4 0 ((s.data.toList.drop 2).take N) = R := ⟨_, rfl⟩
  have hR2 : N = 2 → ∀ c, R = some c → 0 ≤ c ∧ c ≤ 255 := by
    intro e c hc
    subst e
    rw [← hR] at hc
    have hl : 2 + 2 ≤ s.data.toList.length := by rw [← Utf.size_eq]; exact hN
    rw [List.drop_eq_getElem_cons (by omega), List.drop_eq_getElem_cons (by omega)] at hc
    exact valP_two _ _ c hc
  rw [hR]
  have HR := hid hR
  have HR2 := hid hR2
  have mk := @run_makeMap Tryd.prog
  have i1 := ins1
  have i2 := ins2
  have i3 := ins3
  have i4 := look120
  have i5 := look117
  have i6 := look85
  clear hR hR2 hy h92
  rcases hyN with ⟨rfl, rfl⟩ | ⟨rfl, rfl⟩ | ⟨rfl, rfl⟩
  · have IB := hid (fun W => Tryd.strings_IndexByte ⟨#[97, 98, 116, 110, 118, 102, 114]⟩ 120 W)
    rw [show Lib.indexByte (⟨#[97, 98, 116, 110, 118, 102, 114]⟩ : ByteArray).data.toList (120 : Int).toNat.toUInt8 = -1 by decide] at IB
    go_enter Tryd.func26, Tryd.ntmps26
    go_wp2_with fail
    refine (IB.out _).mono ?_
    rintro e w' ⟨rfl, rfl⟩
    go_wp2_with fail
    go_loopw [8, 9] (fun cv iv wr => ∃ (c : Int) (k : Nat), cv = .int .i32 c ∧ iv = .int .i64 k ∧ 2 ≤ k ∧ k ≤ 4 ∧ wr = w'.alloc (.map em3 3) ∧ Hid (IP.valP c4 c ((s.data.toList.drop k).take (4 - k)) = R)) (fun _ iv _ => 4 - (intOf iv).toNat)
    case atStart => exact ⟨0, 2, rfl, rfl, by omega, by omega, rfl, HR.out⟩
    case round =>
      obtain ⟨c, k, rfl, rfl, hk2, hk4, rfl, hV⟩ := hrel
      by_cases hk : k < 4
      · have E := bt_at s k (by omega)
        have hst := valP_at s c k 4 (by omega) hk
        rw [hV.out] at hst
        obtain ⟨x, hx⟩ : ∃ x, bt s k = x := ⟨_, rfl⟩
        rw [hx] at E
        have DG := hid (fun W => qdigit_any (s.data.toList[k]?.getD 0) x hx W)
        obtain ⟨d, hd⟩ : ∃ d, IP.hv (s.data.toList[k]?.getD 0) = d := ⟨_, rfl⟩
        rw [hd] at DG hst
        clear hx hd
        by_cases hd0 : d < 0
        · rw [if_pos hd0] at hst
          have HF := hid hst
          clear hst
          go_wp2_with fail
          refine (DG.out _).mono ?_
          rintro e w2 ⟨rfl, rfl⟩
          go_wp2_with fail
          go_ret2
          exact ⟨by rw [HF.out]; rfl, (Below.refl _ _).alloc (Nat.le_refl _) _⟩
        · rw [if_neg hd0] at hst
          have HF := hid hst.symm
          clear hst
          go_wp2_with fail
          refine (DG.out _).mono ?_
          rintro e w2 ⟨rfl, rfl⟩
          go_wp2_with fail
          go_roundw
          case rel => exact ⟨c4 c d, k + 1, rfl, by go_num, by omega, by omega, by first | trivial | rfl, HF.out⟩
          case measure => simp [intOf]; omega
      · have hk' : k = 4 := by omega
        subst hk'
        have hfin : R = some c := by rw [← hV.out]; rfl
        obtain ⟨hb0, hb1⟩ := HR2.out trivial c hfin
        have HF := hid hfin
        have cv : ∀ a, (convert 44 9 (.slice (some ⟨w'.heap.size + 1, 0, none⟩) 1 1)).run Tryd.prog ((w'.alloc (.map em3 3)).alloc (.cells #[.int .u8 a] 5)) = .ok (.string (strOfNums [a])) ((w'.alloc (.map em3 3)).alloc (.cells #[.int .u8 a] 5)) := fun a => by
          have := conv1 (w'.alloc (.map em3 3)) a
          simpa using this
        clear hfin
        go_wp2_with fail
        go_ret2
        exact ⟨by rw [HF.out]; exact ret_two (nums1 _) rfl, ((Below.refl _ _).alloc (Nat.le_refl _) _).alloc (by simp) _⟩
  · have IB := hid (fun W => Tryd.strings_IndexByte ⟨#[97, 98, 116, 110, 118, 102, 114]⟩ 117 W)
    rw [show Lib.indexByte (⟨#[97, 98, 116, 110, 118, 102, 114]⟩ : ByteArray).data.toList (117 : Int).toNat.toUInt8 = -1 by decide] at IB
    clear HR2
    go_enter Tryd.func26, Tryd.ntmps26
    go_wp2_with fail
    refine (IB.out _).mono ?_
    rintro e w' ⟨rfl, rfl⟩
    go_wp2_with fail
    go_loopw [8, 9] (fun cv iv wr => ∃ (c : Int) (k : Nat), cv = .int .i32 c ∧ iv = .int .i64 k ∧ 2 ≤ k ∧ k ≤ 6 ∧ wr = w'.alloc (.map em3 3) ∧ Hid (IP.valP c4 c ((s.data.toList.drop k).take (6 - k)) = R)) (fun _ iv _ => 6 - (intOf iv).toNat)
    case atStart => exact ⟨0, 2, rfl, rfl, by omega, by omega, rfl, HR.out⟩
    case round =>
      obtain ⟨c, k, rfl, rfl, hk2, hk4, rfl, hV⟩ := hrel
      by_cases hk : k < 6
      · have E := bt_at s k (by omega)
        have hst := valP_at s c k 6 (by omega) hk
        rw [hV.out] at hst
        obtain ⟨x, hx⟩ : ∃ x, bt s k = x := ⟨_, rfl⟩
        rw [hx] at E
        have DG := hid (fun W => qdigit_any (s.data.toList[k]?.getD 0) x hx W)
        obtain ⟨d, hd⟩ : ∃ d, IP.hv (s.data.toList[k]?.getD 0) = d := ⟨_, rfl⟩
        rw [hd] at DG hst
        clear hx hd
        by_cases hd0 : d < 0
        · rw [if_pos hd0] at hst
          have HF := hid hst
          clear hst
          go_wp2_with fail
          refine (DG.out _).mono ?_
          rintro e w2 ⟨rfl, rfl⟩
          go_wp2_with fail
          go_ret2
          exact ⟨by rw [HF.out]; rfl, (Below.refl _ _).alloc (Nat.le_refl _) _⟩
        · rw [if_neg hd0] at hst
          have HF := hid hst.symm
          clear hst
          go_wp2_with fail
          refine (DG.out _).mono ?_
          rintro e w2 ⟨rfl, rfl⟩
          go_wp2_with fail
          go_roundw
          case rel => exact ⟨c4 c d, k + 1, rfl, by go_num, by omega, by omega, by first | trivial | rfl, HF.out⟩
          case measure => simp [intOf]; omega
      · have hk' : k = 6 := by omega
        subst hk'
        have hfin : R = some c := by rw [← hV.out]; rfl
        have HF := hid hfin
        clear hfin
        go_wp2_with fail
        go_ret2
        exact ⟨by rw [HF.out]; exact ret_two (enc_mk c) rfl, (Below.refl _ _).alloc (Nat.le_refl _) _⟩
  · have IB := hid (fun W => Tryd.strings_IndexByte ⟨#[97, 98, 116, 110, 118, 102, 114]⟩ 85 W)
    rw [show Lib.indexByte (⟨#[97, 98, 116, 110, 118, 102, 114]⟩ : ByteArray).data.toList (85 : Int).toNat.toUInt8 = -1 by decide] at IB
    clear HR2
    go_enter Tryd.func26, Tryd.ntmps26
    go_wp2_with fail
    refine (IB.out _).mono ?_
    rintro e w' ⟨rfl, rfl⟩
    go_wp2_with fail
    go_loopw [8, 9] (fun cv iv wr => ∃ (c : Int) (k : Nat), cv = .int .i32 c ∧ iv = .int .i64 k ∧ 2 ≤ k ∧ k ≤ 10 ∧ wr = w'.alloc (.map em3 3) ∧ Hid (IP.valP c4 c ((s.data.toList.drop k).take (10 - k)) = R)) (fun _ iv _ => 10 - (intOf iv).toNat)
    case atStart => exact ⟨0, 2, rfl, rfl, by omega, by omega, rfl, HR.out⟩
    case round =>
      obtain ⟨c, k, rfl, rfl, hk2, hk4, rfl, hV⟩ := hrel
      by_cases hk : k < 10
      · have E := bt_at s k (by omega)
        have hst := valP_at s c k 10 (by omega) hk
        rw [hV.out] at hst
        obtain ⟨x, hx⟩ : ∃ x, bt s k = x := ⟨_, rfl⟩
        rw [hx] at E
        have DG := hid (fun W => qdigit_any (s.data.toList[k]?.getD 0) x hx W)
        obtain ⟨d, hd⟩ : ∃ d, IP.hv (s.data.toList[k]?.getD 0) = d := ⟨_, rfl⟩
        rw [hd] at DG hst
        clear hx hd
        by_cases hd0 : d < 0
        · rw [if_pos hd0] at hst
          have HF := hid hst
          clear hst
          go_wp2_with fail
          refine (DG.out _).mono ?_
          rintro e w2 ⟨rfl, rfl⟩
          go_wp2_with fail
          go_ret2
          exact ⟨by rw [HF.out]; rfl, (Below.refl _ _).alloc (Nat.le_refl _) _⟩
        · rw [if_neg hd0] at hst
          have HF := hid hst.symm
          clear hst
          go_wp2_with fail
          refine (DG.out _).mono ?_
          rintro e w2 ⟨rfl, rfl⟩
          go_wp2_with fail
          go_roundw
          case rel => exact ⟨c4 c d, k + 1, rfl, by go_num, by omega, by omega, by first | trivial | rfl, HF.out⟩
          case measure => simp [intOf]; omega
      · have hk' : k = 10 := by omega
        subst hk'
        have hfin : R = some c := by rw [← hV.out]; rfl
        have HF := hid hfin
        clear hfin
        go_wp2_with fail
        go_ret2
        exact ⟨by rw [HF.out]; exact ret_two (enc_mk c) rfl, (Below.refl _ _).alloc (Nat.le_refl _) _⟩
set_option maxRecDepth 100000 in
set_option maxHeartbeats 2000000 in
theorem one_few (s : ByteArray) (N : Nat) (y : Int) (w : World) (h0 : 0 < s.size) (h92 : bt s 0 = 92) (h1 : 1 < s.size) (hs : s.size ≤ 100000) (hy : bt s 1 = y) (hyN : (y = 120 ∧ N = 2) ∨ (y = 117 ∧ N = 4) ∨ (y = 85 ∧ N = 8)) (hN : ¬ 2 + N ≤ s.size) :
    Calls Tryd.prog 26 #[.string s] w fun e w' => e = .returned (oneT none) ∧ Below w.heap.size w w' := by
  have E0 := bt_at s 0 h0
  rw [h92] at E0
  have E1 := bt_at s 1 h1
  rw [hy] at E1
  have hs2 : (2 : Int) ≤ s.size := by omega
  have hNi : (s.size : Int) < 2 + N := by omega
  have mk := @run_makeMap Tryd.prog
  have i1 := ins1
  have i2 := ins2
  have i3 := ins3
  have i4 := look120
  have i5 := look117
  have i6 := look85
  clear hy h92 hN
  have IB := hid (fun y W => Tryd.strings_IndexByte ⟨#[97, 98, 116, 110, 118, 102, 114]⟩ y W)
  have key : ∀ y : Int, y = 120 ∨ y = 117 ∨ y = 85 → Lib.indexByte (⟨#[97, 98, 116, 110, 118, 102, 114]⟩ : ByteArray).data.toList y.toNat.toUInt8 = -1 := by
    rintro y (rfl | rfl | rfl) <;> decide
  have KEY := hid key
  clear key
  rcases hyN with ⟨rfl, rfl⟩ | ⟨rfl, rfl⟩ | ⟨rfl, rfl⟩
  all_goals
    go_enter Tryd.func26, Tryd.ntmps26
    go_wp2_with fail
    refine (IB.out _ _).mono ?_
    rintro e w' ⟨rfl, rfl⟩
    rw [KEY.out _ (by decide)]
    go_wp2_with fail
    go_ret2
    exact ⟨rfl, (Below.refl _ _).alloc (Nat.le_refl _) _⟩

theorem one_any (s : ByteArray) (w : World) (hT : Tabs w) (h0 : 0 < s.size) (hs : s.size ≤ 100000) :
    Calls Tryd.prog 26 #[.string s] w fun e w' => e = .returned (oneT (IP.oneP c4 s.data.toList)) ∧ Below w.heap.size w w' := by
  by_cases h92 : bt s 0 = 92
  · by_cases h1 : 1 < s.size
    · obtain ⟨a, t, hat⟩ := list_front h0
      cases t with
      | nil => rw [Utf.size_eq, hat] at h1; simp at h1
      | cons b u =>
        obtain ⟨hz, ha, hb⟩ := list_two hat
        have ha92 : a.toNat = 92 := by omega
        obtain ⟨y, hy⟩ : ∃ y, bt s 1 = y := ⟨_, rfl⟩
        have hby : (b.toNat : Int) = y := by omega
        by_cases hq : y = 34 ∨ y = 92
        · have e : IP.oneP c4 s.data.toList = some ([b], 2) := by
            rw [hat]
            simp only [IP.oneP]
            rw [if_neg (by omega), if_pos (by omega)]
          rw [e]
          refine (one_quote s y w h0 h92 h1 hs hy hq).mono ?_
          rintro e w' ⟨rfl, hb⟩
          refine ⟨ret_two (bytes_ext ?_) rfl, hb⟩
          rw [Lib.extract_data, hat]
          rfl
        · by_cases hl : 0 ≤ IP.ltrI b
          · have e : IP.oneP c4 s.data.toList = some ([UInt8.ofNat (7 + IP.ltrI b).toNat], 2) := by
              rw [hat]
              simp only [IP.oneP]
              rw [if_neg (by omega), if_neg (by omega), if_pos hl]
            rw [e]
            exact one_letter s b y w h0 h92 h1 hs hy hby (by omega) (by omega) hl
          · have e : ∀ N, IP.escN b = N → N ≠ 0 → 2 + N ≤ s.size → IP.oneP c4 s.data.toList = escR N (IP.valP c4 0 ((s.data.toList.drop 2).take N)) := by
              intro N h1 h2 h3
              rw [hat]
              simp only [IP.oneP]
              rw [if_neg (by omega), if_neg (by omega), if_neg hl, h1, if_neg (by omega), List.drop_succ_cons, List.drop_succ_cons, List.drop_zero]
              cases IP.valP c4 0 (u.take N) with
              | none => rfl
              | some c => rfl
            have e0 : ∀ N, IP.escN b = N → (N = 0 ∨ ¬ 2 + N ≤ s.size) → IP.oneP c4 s.data.toList = none := by
              intro N h1 h2
              rw [hat]
              simp only [IP.oneP]
              rw [if_neg (by omega), if_neg (by omega), if_neg hl, h1, if_pos (by omega)]
            by_cases hx : y = 120 ∨ y = 117 ∨ y = 85
            · have hN : ∃ N, IP.escN b = N ∧ ((y = 120 ∧ N = 2) ∨ (y = 117 ∧ N = 4) ∨ (y = 85 ∧ N = 8)) := by
                unfold IP.escN
                rcases hx with h | h | h
                · exact ⟨2, by rw [if_pos (by omega)], Or.inl ⟨h, rfl⟩⟩
                · exact ⟨4, by rw [if_neg (by omega), if_pos (by omega)], Or.inr (Or.inl ⟨h, rfl⟩)⟩
                · exact ⟨8, by rw [if_neg (by omega), if_neg (by omega), if_pos (by omega)], Or.inr (Or.inr ⟨h, rfl⟩)⟩
              obtain ⟨N, hN1, hN2⟩ := hN
              by_cases hN3 : 2 + N ≤ s.size
              · rw [e N hN1 (by omega) hN3]
                exact one_loop s N y w h0 h92 h1 hs hy hN2 hN3
              · rw [e0 N hN1 (Or.inr hN3)]
                exact one_few s N y w h0 h92 h1 hs hy hN2 hN3
            · have hN1 : IP.escN b = 0 := by
                unfold IP.escN
                rw [if_neg (by omega), if_neg (by omega), if_neg (by omega)]
              rw [e0 0 hN1 (Or.inl rfl)]
              exact one_no s b y w h0 h92 h1 hs hy hby (by omega) (by omega) hl (by omega) (by omega) (by omega)
    · obtain ⟨a, t, hat⟩ := list_front h0
      have e : IP.oneP c4 s.data.toList = none := by
        have ht : t = [] := by
          rw [Utf.size_eq, hat] at h1
          simp only [List.length_cons] at h1
          exact List.eq_nil_of_length_eq_zero (by omega)
        have ha : (a.toNat : Int) = 92 := by rw [← h92]; unfold bt; rw [hat]; rfl
        rw [hat, ht]
        simp only [IP.oneP]
        rw [if_neg (by omega)]
      rw [e]
      exact one_short s w h0 h92 h1
  · exact one_plain s w hT h0 hs h92
end Go.Proofs.YtfbekjgbijlcaaaDoor
