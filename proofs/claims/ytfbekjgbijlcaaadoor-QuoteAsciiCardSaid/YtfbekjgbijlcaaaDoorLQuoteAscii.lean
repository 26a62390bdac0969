/-
  The law QuoteAscii, walked.
-/
import Derived.Test.YtfbekjgbijlcaaaDoorLV2
import Derived.Test.YtfbekjgbijlcaaaDoorQR
namespace Go.Proofs.YtfbekjgbijlcaaaDoor
open Go.RowKit Go.Proofs

theorem bt_all {S : ByteArray} (h : ∀ a ∈ S.data.toList, 32 ≤ a.toNat ∧ a.toNat ≤ 126) (k : Nat) (hk : k < S.size) : 32 ≤ bt S k ∧ bt S k ≤ 126 := by
  have hl : k < S.data.toList.length := by rw [← Utf.size_eq]; exact hk
  have := h _ (List.getElem_mem hl)
  unfold bt
  rw [List.getElem?_eq_getElem hl]
  simp only [Option.getD_some]
  omega
theorem size_neA {t : ByteArray} (hp : 0 < t.size) : t.data.toList ≠ [] := by
  intro e
  rw [Utf.size_eq, e] at hp
  simp at hp
theorem plain_bounds {c : Int} (h : IP.plainB c = true) : 32 ≤ c ∧ ¬ c = 65533 := by
  have := of_decide_eq_true h
  omega
theorem plainAll_inv {l : List UInt8} (h : IP.PlainAll l) (hl : l ≠ []) : IP.plainB ((Utf.decL l).1 : Int) = true ∧ IP.PlainAll (l.drop (Utf.decL l).2) := by
  cases h with
  | nil => exact absurd rfl hl
  | step _ hp h => exact ⟨hp, h⟩

set_option maxRecDepth 100000 in
set_option maxHeartbeats 2000000 in
theorem quoteAscii_law (s : ByteArray) (c : Int) (w : World) (hT : Tabs w) (hs : s.size ≤ 140737488355328) (hc0 : -2147483648 ≤ c) (hc1 : c ≤ 2147483647) :
    Calls Tryd.prog 10 #[.string s, .int .i32 c] w fun e w' => e = .returned (.bool true) ∧ Below w.heap.size w w' := by
  have LV := hid (fun W hT => lives_any W hT)
  have CU := hid (lcut_any s w hs)
  have hz := lcut_size s
  obtain ⟨u, hu⟩ : ∃ u, s.extract 0 1000 = u := ⟨_, rfl⟩
  rw [hu] at CU hz
  have QA := hid (fun W hT => quote_any u true W hT (by omega))
  have QB := hid (fun W hT => quote_any u false W hT (by omega))
  have CA := hid (fun W => char_any c true W hc0 hc1)
  have qz1 := quote_size true u
  have qz2 := quote_size false u
  obtain ⟨A, hA⟩ : ∃ A : ByteArray, (⟨(IP.quoteL true u.data.toList).toArray⟩ : ByteArray) = A := ⟨_, rfl⟩
  obtain ⟨B, hB⟩ : ∃ B : ByteArray, (⟨(IP.charL c true).toArray⟩ : ByteArray) = B := ⟨_, rfl⟩
  obtain ⟨Q, hQ⟩ : ∃ Q : ByteArray, (⟨(IP.quoteL false u.data.toList).toArray⟩ : ByteArray) = Q := ⟨_, rfl⟩
  rw [hA] at QA qz1
  rw [hB] at CA
  rw [hQ] at QB qz2
  have hBz : B.size ≤ 20 := by
    rw [← hB, Utf.size_eq]
    show (IP.charL c true).length ≤ 20
    have := IP.inL_len (Utf.cp c : Int) 39 true
    unfold IP.charL
    simp only [List.length_cons, List.length_append, List.length_nil]
    omega
  have hAz : A.size ≤ 20000 := by omega
  have hQz : Q.size ≤ 20000 := by omega
  have HA := hid (fun k hk => bt_all (S := A) (by rw [← hA]; exact IP.quoteL_ascii _) k hk)
  have HB := hid (fun k hk => bt_all (S := B) (by rw [← hB]; exact IP.charL_ascii c) k hk)
  have HQ := hid (show IP.PlainAll Q.data.toList by rw [← hQ]; exact IP.quoteL_plain false _)
  have HT := hid hT
  clear hu hA hB hQ qz1 qz2 hT
  have ix0 : ∀ w, (Instr.index 38 (.agg #[.string A, .string B]) (.int .i64 0)).run Tryd.prog w = .ok (.string A) w := fun _ => by kernel_rfl
  have ix1 : ∀ w, (Instr.index 38 (.agg #[.string A, .string B]) (.int .i64 1)).run Tryd.prog w = .ok (.string B) w := fun _ => by kernel_rfl
  go_enter Tryd.func10, Tryd.ntmps10
  go_wp2_with fail
  refine CU.out.mono ?_
  rintro e w0 ⟨rfl, rfl⟩
  go_wp2_with fail
  refine (QA.out _ HT.out).mono ?_
  rintro e w1 ⟨rfl, b1⟩
  have B1 := hid b1
  clear b1
  go_wp2_with fail
  refine (CA.out _).mono ?_
  rintro e w2 ⟨rfl, b2⟩
  have B2 := hid (B1.out.trans (b2.mono B1.out.size))
  clear b2
  go_wp2_with fail
  go_loopw [18] (fun kv wr => (kv = .int .i64 0 ∨ kv = .int .i64 1 ∨ kv = .int .i64 2) ∧ wr = w2) (fun kv _ => 2 - (intOf kv).toNat)
  case atStart => exact ⟨Or.inl rfl, rfl⟩
  case round =>
    obtain ⟨hk, hwr⟩ := hrel
    subst hwr
    rcases hk with rfl | rfl | rfl
    · go_wp2_with fail
      go_loopw [7] (fun iv wx => (∃ i : Nat, iv = .int .i64 i ∧ i ≤ A.size) ∧ wx = wr) (fun iv _ => A.size - (intOf iv).toNat)
      case atStart => exact ⟨⟨0, rfl, Nat.zero_le _⟩, rfl⟩
      case round =>
        obtain ⟨⟨i, rfl, hi⟩, hwx⟩ := hrel
        subst hwx
        by_cases hlt : i < A.size
        · have E0 := bt_at A i hlt
          obtain ⟨x0, x1⟩ := HA.out i hlt
          obtain ⟨x, hx⟩ : ∃ x, bt A i = x := ⟨_, rfl⟩
          rw [hx] at E0 x0 x1
          clear hx
          go_wp2_with fail
          go_roundw
          case rel => exact ⟨⟨i + 1, by go_num, by omega⟩, by first | trivial | rfl⟩
          case measure => simp [intOf]; omega
        · go_wp2_with fail
          go_roundw
          case rel => exact ⟨Or.inr (Or.inl rfl), by first | trivial | rfl⟩
          case measure => decide
    · go_wp2_with fail
      go_loopw [7] (fun iv wx => (∃ i : Nat, iv = .int .i64 i ∧ i ≤ B.size) ∧ wx = wr) (fun iv _ => B.size - (intOf iv).toNat)
      case atStart => exact ⟨⟨0, rfl, Nat.zero_le _⟩, rfl⟩
      case round =>
        obtain ⟨⟨i, rfl, hi⟩, hwx⟩ := hrel
        subst hwx
        by_cases hlt : i < B.size
        · have E0 := bt_at B i hlt
          obtain ⟨x0, x1⟩ := HB.out i hlt
          obtain ⟨x, hx⟩ : ∃ x, bt B i = x := ⟨_, rfl⟩
          rw [hx] at E0 x0 x1
          clear hx
          go_wp2_with fail
          go_roundw
          case rel => exact ⟨⟨i + 1, by go_num, by omega⟩, by first | trivial | rfl⟩
          case measure => simp [intOf]; omega
        · go_wp2_with fail
          go_roundw
          case rel => exact ⟨Or.inr (Or.inr rfl), by first | trivial | rfl⟩
          case measure => decide
    · go_wp2_with fail
      refine (QB.out _ (HT.out.below B2.out)).mono ?_
      rintro e w3 ⟨rfl, b3⟩
      have B3 := hid (B2.out.trans (b3.mono B2.out.size))
      clear b3
      go_wp2_with fail
      go_loopw [8] (fun tv wx => (∃ t : ByteArray, tv = .string t ∧ t.size ≤ 20000 ∧ Hid (IP.PlainAll t.data.toList)) ∧ Hid (Below w.heap.size w wx)) (fun tv _ => strLen tv)
      case atStart => exact ⟨⟨Q, rfl, hQz, HQ.out⟩, B3.out⟩
      case round =>
        obtain ⟨⟨t, rfl, htz, hP⟩, hbx⟩ := hrel
        by_cases hp : 0 < t.size
        · have he := isEmpty_of_pos hp
          have hne := size_neA hp
          obtain ⟨hp1, hp2⟩ := plainAll_inv hP.out hne
          obtain ⟨d0, d1⟩ := plain_bounds hp1
          have hd := dec0_le hp
          have DC := decode_any t wr (HT.out.below hbx.out)
          have PL := hid (fun W => qplain_any ((Utf.decL t.data.toList).1 : Int) W)
          rw [hp1] at PL
          rw [dec0_ne hne] at DC hd
          obtain ⟨d, hdd⟩ : ∃ d : Int, ((Utf.decL t.data.toList).1 : Int) = d := ⟨_, rfl⟩
          obtain ⟨n, hn⟩ : ∃ n : Nat, (Utf.decL t.data.toList).2 = n := ⟨_, rfl⟩
          rw [hdd, hn] at DC
          rw [hdd] at PL d0 d1
          rw [hn] at hd hp2
          obtain ⟨hn1, hn2⟩ := hd
          have d2 : (d == 65533) = false := beq_eq_false_iff_ne.2 d1
          have DC := hid DC
          obtain ⟨v, hv⟩ : ∃ v, t.extract n t.size = v := ⟨_, rfl⟩
          have hvl : v.data.toList = t.data.toList.drop n := by rw [← hv]; exact extract_drop t n
          have hvz : v.size = t.size - n := by rw [Utf.size_eq, hvl, List.length_drop, ← Utf.size_eq]
          rw [← hvl] at hp2
          have HV := hid (And.intro hp2 hvz)
          clear hdd hn hp1 hp2 hvl hvz hne
          go_wp2_with fail
          refine DC.out.mono ?_
          rintro e w4 ⟨rfl, b4⟩
          have B4 := hid (hbx.out.trans (b4.mono hbx.out.size))
          clear b4
          go_wp2_with fail
          refine (PL.out _).mono ?_
          rintro e w5 ⟨rfl, rfl⟩
          go_wp2_with fail
          go_roundw
          case rel => exact ⟨⟨v, rfl, by rw [HV.out.2]; omega, HV.out.1⟩, B4.out⟩
          case measure => show v.size < t.size; rw [HV.out.2]; omega
        · have he := isEmpty_of_zero hp
          go_wp2_with fail
          refine (LV.out _ (HT.out.below hbx.out)).mono ?_
          rintro e w6 ⟨rfl, b6⟩
          have B6 := hid (hbx.out.trans (b6.mono hbx.out.size))
          clear b6
          go_wp2_with fail
          go_ret
          exact ⟨rfl, B6.out⟩
end Go.Proofs.YtfbekjgbijlcaaaDoor
