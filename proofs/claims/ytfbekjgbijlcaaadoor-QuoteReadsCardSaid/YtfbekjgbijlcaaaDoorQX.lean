/-
  Walks of layer 2: the document's number of digits, and its way to read a quoted text.
-/
import Derived.Test.YtfbekjgbijlcaaaDoorQT
import Derived.Test.YtfbekjgbijlcaaaDoorQW
namespace Go.Proofs.YtfbekjgbijlcaaaDoor
open Go.RowKit Go.Proofs

theorem bne_lst {a b : ByteArray} (h : ¬ a = b) : (a.toList == b.toList) = false ∧ (a.toList != b.toList) = true := by
  have : ¬ a.toList = b.toList := by
    rw [Lib.toList_data, Lib.toList_data]
    exact fun e => h (bytes_ext e)
  exact ⟨beq_eq_false_iff_ne.2 this, by simpa using this⟩
theorem hexd_hv (a : UInt8) (k : Nat) (hk : k < 16) : a = IP.hexd false k ↔ IP.hv a = k := by
  constructor
  · rintro rfl
    exact IP.hv_hexd k hk
  · intro h
    have ha := UInt8.toNat_lt a
    apply UInt8.toNat_inj.1
    rw [IP.hexd_toNat false k hk]
    unfold IP.hv at h
    split at h
    · rw [if_pos (by omega)]; omega
    · split at h
      · rw [if_neg (by omega), if_neg Bool.false_ne_true]; omega
      · omega
/-- The digit found so far. -/
def dfnd (h : Int) (k : Nat) : Int := if 0 ≤ h ∧ h < k then h else -1
theorem dfnd_yes (h : Int) (k : Nat) (e : h = k) : dfnd h (k + 1) = k := by unfold dfnd; rw [if_pos (by omega)]; exact e
theorem dfnd_no (h : Int) (k : Nat) (e : ¬ h = k) : dfnd h (k + 1) = dfnd h k := by
  unfold dfnd
  by_cases q : 0 ≤ h ∧ h < k
  · rw [if_pos q, if_pos (by omega)]
  · rw [if_neg q, if_neg (by omega)]
theorem valR_at (s : ByteArray) (c : Int) (k m : Nat) (h : k < s.size) (hm : k < m) : IP.valR c ((s.data.toList.drop k).take (m - k)) = if IP.hv (s.data.toList[k]?.getD 0) < 0 ∨ 1114111 < c then -1 else IP.valR (16 * c + IP.hv (s.data.toList[k]?.getD 0)) ((s.data.toList.drop (k + 1)).take (m - (k + 1))) := by
  have hl : k < s.data.toList.length := by rw [← Utf.size_eq]; exact h
  rw [List.drop_eq_getElem_cons hl, show m - k = (m - (k + 1)) + 1 by omega, List.take_succ_cons, IP.valR, List.getElem?_eq_getElem hl]
  rfl

set_option maxRecDepth 100000 in
set_option maxHeartbeats 4000000 in
theorem value_any (s : ByteArray) (n : Nat) (w : World) (_hs : s.size ≤ 3000) (hn : n ≤ 8) :
    Calls Tryd.prog 29 #[.string s, .int .i64 n] w fun e w' => e = .returned (.int .i64 (if s.size < n then -1 else IP.valR 0 (s.data.toList.take n))) ∧ Below w.heap.size w w' := by
  by_cases hlt : s.size < n
  · rw [if_pos hlt]
    go_enter Tryd.func29, Tryd.ntmps29
    go_wp2_with fail
    go_ret
    exact ⟨rfl, Below.refl _ _⟩
  · rw [if_neg hlt]
    obtain ⟨R, hR⟩ : ∃ R, IP.valR 0 (s.data.toList.take n) = R := ⟨_, rfl⟩
    rw [hR]
    have HR := hid hR
    clear hR
    go_enter Tryd.func29, Tryd.ntmps29
    go_wp2_with fail
    go_loopw [5, 6] (fun vv iv wr => ∃ (v : Int) (i : Nat), vv = .int .i64 v ∧ iv = .int .i64 i ∧ i ≤ n ∧ 0 ≤ v ∧ v ≤ 17825791 ∧ Hid (IP.valR v ((s.data.toList.drop i).take (n - i)) = R) ∧ Hid (Below w.heap.size w wr)) (fun _ iv _ => n - (intOf iv).toNat)
    case atStart => exact ⟨0, 0, rfl, rfl, Nat.zero_le _, Int.le_refl _, by decide, by rw [List.drop_zero]; exact HR.out, Below.refl _ _⟩
    case round =>
      obtain ⟨v, i, rfl, rfl, hi, hv0, hv1, hV, hb⟩ := hrel
      obtain ⟨wo, hwo⟩ : ∃ wo : World, wo = wr := ⟨_, rfl⟩
      subst hwo
      by_cases hin : i < n
      · have hst := valR_at s v i n (by omega) hin
        rw [hV.out] at hst
        have hT : (s.extract i (i + 1)).data.toList = [s.data.toList[i]?.getD 0] := by
          rw [Lib.extract_data]
          have : i < s.data.toList.length := by rw [← Utf.size_eq]; omega
          rw [List.drop_eq_getElem_cons this, List.getElem?_eq_getElem this, show i + 1 - i = 1 by omega]
          rfl
        obtain ⟨a, ha⟩ : ∃ a, s.data.toList[i]?.getD 0 = a := ⟨_, rfl⟩
        rw [ha] at hst hT
        obtain ⟨T, hTT⟩ : ∃ T, s.extract i (i + 1) = T := ⟨_, rfl⟩
        rw [hTT] at hT
        have hhb := IP.hv_bound a
        have heq := fun k hk => hexd_hv a k hk
        obtain ⟨h, hh⟩ : ∃ h, IP.hv a = h := ⟨_, rfl⟩
        rw [hh] at hst hhb
        simp only [hh] at heq
        obtain ⟨hh0, hh1⟩ := hhb
        have HST := hid hst
        have HTl := hid hT
        have HEQ := hid heq
        have hw1 : IntKind.i64.wrap ((i : Int) + 1) = (i : Int) + 1 := IntWalk.i64_in _ (by omega)
        have hw2 : ((i : Int) + 1).toNat = i + 1 := by omega
        have hw3 : (0 : Int) ≤ (i : Int) + 1 := by omega
        have hw4 : i + 1 ≤ s.size := by omega
        have hw5 : (i : Int) ≤ (i : Int) + 1 := by omega
        have hw6 : (i : Int) + 1 ≤ s.size := by omega
        clear hst hT ha hh heq
        go_wp2_with fail
        go_loopw [7, 8] (fun dv kv wr2 => ∃ (d : Int) (k : Nat), dv = .int .i64 d ∧ kv = .int .i64 k ∧ k ≤ 16 ∧ -1 ≤ d ∧ d ≤ 15 ∧ Hid (d = dfnd h k) ∧ Hid (Below w.heap.size w wr2)) (fun _ kv _ => 16 - (intOf kv).toNat)
        case atStart => exact ⟨-1, 0, rfl, rfl, Nat.zero_le _, by decide, by decide, by show _ = if _ then _ else _; rw [if_neg (by omega)], hb.out⟩
        case round =>
          obtain ⟨d, k, rfl, rfl, hk, hd0, hd1, hD, hb2⟩ := hrel
          by_cases hk16 : k < 16
          · have DG := hid (fun W => refdigit_any k false W (by omega) (by omega))
            obtain ⟨G, hG⟩ : ∃ G : ByteArray, (⟨#[IP.hexd false (k : Int).toNat]⟩ : ByteArray) = G := ⟨_, rfl⟩
            rw [hG] at DG
            have hGl : G.data.toList = [IP.hexd false k] := by rw [← hG, Int.toNat_natCast]
            by_cases he : h = k
            · have hTG : T = G := bytes_ext (by rw [HTl.out, hGl, (HEQ.out k hk16).2 he])
              have HF := hid (dfnd_yes h k he)
              subst hTG
              clear hG hGl he
              go_wp2_with fail
              go_quiet ((go_at_call 33; exact Calls.quiet_of_same ((DG.out _).mono fun _ _ h => ⟨h.1, h.2.symm⟩)))
              go_wp2_with fail
              go_roundw
              case rel => exact ⟨k, k + 1, rfl, by go_num, by omega, by omega, by omega, HF.out.symm, below_drewN hb2.out _⟩
              case measure => simp [intOf]; omega
            · have hTG : ¬ T = G := fun e => he ((HEQ.out k hk16).1 (by
                have := HTl.out
                rw [e, hGl] at this
                exact (List.cons.inj this).1.symm))
              obtain ⟨n1, n2⟩ := bne_lst hTG
              have HF := hid (dfnd_no h k he)
              clear hG hGl he hTG
              go_wp2_with fail
              go_quiet ((go_at_call 33; exact Calls.quiet_of_same ((DG.out _).mono fun _ _ h => ⟨h.1, h.2.symm⟩)))
              go_wp2_with fail
              go_roundw
              case rel => exact ⟨d, k + 1, rfl, by go_num, by omega, hd0, hd1, by unfold Hid; rw [HF.out]; exact hD.out, below_drewN hb2.out _⟩
              case measure => simp [intOf]; omega
          · have hk' : k = 16 := by omega
            subst hk'
            have hdh : d = h := by
              rw [hD.out]
              unfold dfnd
              split
              · rfl
              · omega
            subst hdh
            clear hD
            by_cases hbad : d < 0 ∨ 1114111 < v
            · have hst := HST.out
              rw [if_pos hbad] at hst
              have HF := hid hst
              clear hst
              rcases (show d < 0 ∨ (0 ≤ d ∧ 1114111 < v) by omega) with q | ⟨q, q2⟩
              · clear hbad
                go_wp2_with fail
                go_ret
                exact ⟨by rw [HF.out]; rfl, hb2.out⟩
              · clear hbad
                go_wp2_with fail
                go_ret
                exact ⟨by rw [HF.out]; rfl, hb2.out⟩
            · have hst := HST.out
              rw [if_neg hbad] at hst
              have HF := hid hst.symm
              have q1 : 0 ≤ d := by omega
              have q2 : v ≤ 1114111 := by omega
              clear hst hbad
              go_wp2_with fail
              go_roundw
              case rel => exact ⟨16 * v + d, i + 1, rfl, by go_num, by omega, by omega, by omega, HF.out, hb2.out⟩
              case measure => simp [intOf]; omega
      · have hi' : i = n := by omega
        subst hi'
        have hfin : v = R := by
          rw [← hV.out, Nat.sub_self, List.take_zero]
          rfl
        have HF := hid hfin
        clear hfin
        go_wp2_with fail
        go_ret
        exact ⟨by rw [HF.out]; rfl, hb.out⟩
end Go.Proofs.YtfbekjgbijlcaaaDoor
