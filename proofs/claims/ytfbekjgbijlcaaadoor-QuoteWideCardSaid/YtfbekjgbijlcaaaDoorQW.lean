/-
  Walks of layer 2: a text between back quotes; the document's texts in quotes.
-/
import Derived.Test.YtfbekjgbijlcaaaDoorQS
import Derived.Test.YtfbekjgbijlcaaaDoorSh3
import Derived.Test.YtfbekjgbijlcaaaDoorQ5
namespace Go.Proofs.YtfbekjgbijlcaaaDoor
open Go.RowKit Go.Proofs

/-- A text between back quotes. -/
def rawQ (s : ByteArray) : ByteArray := ⟨#[96]⟩ ++ s ++ ⟨#[96]⟩
def rawT (s : ByteArray) : Value := if IP.rawB s.data.toList then .tuple #[.string (rawQ s), .bool true] else .tuple #[.string ⟨#[]⟩, .bool false]
theorem rawQ_size (s : ByteArray) : (rawQ s).size = s.size + 2 := by
  unfold rawQ
  rw [ByteArray.size_append, ByteArray.size_append]
  show 1 + s.size + 1 = _
  omega
theorem rawOk_cases (c : Int) : (IP.rawOk c = false ∧ (c = 96 ∨ (c < 32 ∧ ¬ c = 9) ∨ c = 127 ∨ c = 65279)) ∨ (IP.rawOk c = true ∧ (c = 9 ∨ (32 ≤ c ∧ ¬ c = 96 ∧ ¬ c = 127 ∧ ¬ c = 65279))) := by
  unfold IP.rawOk
  by_cases h : ¬ (c = 96 ∨ (c < 32 ∧ c ≠ 9) ∨ c = 127 ∨ c = 65279)
  · right
    exact ⟨decide_eq_true h, by omega⟩
  · left
    exact ⟨decide_eq_false h, by omega⟩
theorem ok_pos (s : ByteArray) (pos : Nat) (h : pos < s.size) : IP.okB (s.data.toList.drop pos) = if IP.rawOk ((Utf8.decode s pos).1 : Int) then IP.okB (s.data.toList.drop (pos + (Utf8.decode s pos).2)) else false := by
  rw [IP.okB_cons (drop_ne h), ← Utf.decode_eq, List.drop_drop]

set_option maxRecDepth 100000 in
set_option maxHeartbeats 2000000 in
theorem raw_any (s : ByteArray) (w : World) (hT : Tabs w) (hs : s.size ≤ 100000) :
    Calls Tryd.prog 36 #[.string s] w fun e w' => e = .returned (rawT s) ∧ Below w.heap.size w w' := by
  have VA := hid (valid_any s w (by omega) hT)
  have hand := IP.rawB_and s.data.toList.length s.data.toList (Nat.le_refl _)
  unfold rawT
  cases hv : IP.validB s.data.toList with
  | false =>
    rw [hand, hv, Bool.false_and]
    rw [hv] at VA
    simp only [Bool.false_eq_true, if_false]
    clear hand hv hT
    go_enter Tryd.func36, Tryd.ntmps36
    go_wp2_with fail
    refine VA.out.mono ?_
    rintro e w1 ⟨rfl, b1⟩
    have B1 := hid b1
    clear b1
    go_wp2_with fail
    go_ret2
    exact ⟨rfl, B1.out⟩
  | true =>
    rw [hand, hv, Bool.true_and]
    rw [hv] at VA
    obtain ⟨OK, hOK⟩ : ∃ OK, IP.okB s.data.toList = OK := ⟨_, rfl⟩
    rw [hOK]
    obtain ⟨Q, hQ⟩ : ∃ Q, rawQ s = Q := ⟨_, rfl⟩
    have HQ := hid (show (⟨#[96]⟩ : ByteArray) ++ s ++ ⟨#[96]⟩ = Q from hQ)
    rw [hQ]
    have HO := hid hOK
    clear hand hv hT hOK hQ
    go_enter Tryd.func36, Tryd.ntmps36
    go_wp2_with fail
    refine VA.out.mono ?_
    rintro e w1 ⟨rfl, b1⟩
    have B1 := hid b1
    clear b1
    go_wp2_with fail
    go_loopw [5] (fun _ wr => ∃ pos : Nat, pos ≤ s.size ∧ wr = w1.iter s pos ∧ Hid (IP.okB (s.data.toList.drop pos) = OK)) (fun _ wr => s.size - wr.iterPos w1.heap.size)
    case atStart => exact ⟨0, Nat.zero_le _, rfl, HO.out⟩
    case round =>
      obtain ⟨pos, hpos, rfl, hk⟩ := hrel
      by_cases hp : pos < s.size
      · have hnx : ∀ ty, (Instr.next (.pointer (some ⟨w1.heap.size, 0, none⟩)) true ty).run Tryd.prog (w1.iter s pos) = _ := fun ty => run_next_any w1 s pos ty hp
        have hwd := width_le s pos hp
        have hst := ok_pos s pos hp
        rw [hk.out] at hst
        obtain ⟨K, hK⟩ : ∃ K, (Utf8.decode s pos).2 = K := ⟨_, rfl⟩
        obtain ⟨c, hc⟩ : ∃ c : Int, ((Utf8.decode s pos).1 : Int) = c := ⟨_, rfl⟩
        rw [hK] at hnx hwd hst
        rw [hc] at hnx hst
        clear hK hc
        rcases rawOk_cases c with ⟨ho, h⟩ | ⟨ho, h⟩
        · rw [ho] at hst
          simp only [Bool.false_eq_true, if_false] at hst
          subst hst
          clear ho hk
          rcases h with rfl | ⟨h1, h2⟩ | rfl | rfl
          · go_wp2_with fail
            go_ret2
            exact ⟨rfl, B1.out.alloc B1.out.size _⟩
          · have h3 : ¬ c = 96 := by omega
            have h4 : (c != 9) = true := by simpa using h2
            have h5 : (c == 96) = false := beq_eq_false_iff_ne.2 h3
            go_wp2_with fail
            go_ret2
            exact ⟨rfl, B1.out.alloc B1.out.size _⟩
          · go_wp2_with fail
            go_ret2
            exact ⟨rfl, B1.out.alloc B1.out.size _⟩
          · go_wp2_with fail
            go_ret2
            exact ⟨rfl, B1.out.alloc B1.out.size _⟩
        · rw [ho] at hst
          simp only [if_true] at hst
          have HN := hid hst.symm
          clear ho hk hst
          rcases h with rfl | ⟨h1, h2, h3, h4⟩
          · go_wp2_with fail
            go_roundw
            case rel => exact ⟨pos + K, hwd.2, rfl, HN.out⟩
            case measure =>
              simp
              omega
          · have h5 : (c == 96) = false := beq_eq_false_iff_ne.2 h2
            have h6 : (c == 127) = false := beq_eq_false_iff_ne.2 h3
            have h7 : (c == 65279) = false := beq_eq_false_iff_ne.2 h4
            go_wp2_with fail
            go_roundw
            case rel => exact ⟨pos + K, hwd.2, rfl, HN.out⟩
            case measure =>
              simp
              omega
      · have hnx : ∀ ty, (Instr.next (.pointer (some ⟨w1.heap.size, 0, none⟩)) true ty).run Tryd.prog (w1.iter s pos) = _ := fun ty => run_next_end w1 s pos ty hp
        have hfin : OK = true := by
          rw [← hk.out, drop_all hp, IP.okB_nil]
        subst hfin
        clear hk HO
        go_wp2_with fail
        go_ret2
        exact ⟨by rw [← HQ.out]; rfl, B1.out.alloc B1.out.size _⟩

set_option maxRecDepth 100000 in
set_option maxHeartbeats 2000000 in
theorem refraw_any (s : ByteArray) (w : World) (hs : s.size ≤ 100000) :
    Calls Tryd.prog 38 #[.string s] w fun e w' => e = .returned (rawT s) ∧ Below w.heap.size w w' := by
  unfold rawT
  obtain ⟨OK, hOK⟩ : ∃ OK, IP.rawB s.data.toList = OK := ⟨_, rfl⟩
  rw [hOK]
  obtain ⟨Q, hQ⟩ : ∃ Q, rawQ s = Q := ⟨_, rfl⟩
  have HQ := hid (show (⟨#[96]⟩ : ByteArray) ++ s ++ ⟨#[96]⟩ = Q from hQ)
  rw [hQ]
  have HO := hid hOK
  clear hOK hQ
  go_enter Tryd.func38, Tryd.ntmps38
  go_wp2_with fail
  go_loopw [4] (fun tv wr => ∃ t : ByteArray, tv = .string t ∧ t.size ≤ s.size ∧ Hid (IP.rawB t.data.toList = OK) ∧ Below w.heap.size w wr) (fun tv _ => strLen tv)
  case atStart => exact ⟨s, rfl, Nat.le_refl _, HO.out, Below.refl _ _⟩
  case round =>
    obtain ⟨t, rfl, hts, hk, hb⟩ := hrel
    by_cases hp : 0 < t.size
    · have he := isEmpty_of_pos hp
      have hd := dec0_le hp
      have hD := refdecode_any t wr (by omega)
      have hne : t.data.toList ≠ [] := by
        intro e
        rw [Utf.size_eq, e] at hp
        simp at hp
      have hst := IP.rawB_cons hne
      rw [hk.out, ← dec0_ne hne] at hst
      obtain ⟨c, hc⟩ : ∃ c : Int, ((dec0 t.data.toList).1 : Int) = c := ⟨_, rfl⟩
      obtain ⟨K, hK⟩ : ∃ K : Nat, (dec0 t.data.toList).2 = K := ⟨_, rfl⟩
      unfold Dec3 at hD
      rw [hc, hK] at hD
      rw [hK] at hd hst
      rw [hc] at hst
      obtain ⟨hK1, hK2⟩ := hd
      clear hc hK
      by_cases hbr : Utf.Broken t.data.toList
      · rw [decide_eq_true hbr] at hD
        rw [if_pos (Or.inl hbr)] at hst
        subst hst
        have HD := hid hD
        clear hD hbr hk HO
        go_wp2_with fail
        refine HD.out.mono ?_
        rintro e w1 ⟨rfl, b1⟩
        have B1 := hid (hb.trans (b1.mono hb.size))
        clear b1
        go_wp2_with fail
        go_ret2
        exact ⟨rfl, B1.out⟩
      · rw [decide_eq_false hbr] at hD
        have HD := hid hD
        clear hD
        rcases rawOk_cases c with ⟨ho, h⟩ | ⟨ho, h⟩
        · rw [if_pos (Or.inr ho)] at hst
          subst hst
          clear hbr hk HO ho
          rcases h with rfl | ⟨h1, h2⟩ | rfl | rfl
          · go_wp2_with fail
            refine HD.out.mono ?_
            rintro e w1 ⟨rfl, b1⟩
            have B1 := hid (hb.trans (b1.mono hb.size))
            clear b1
            go_wp2_with fail
            go_ret2
            exact ⟨rfl, B1.out⟩
          · have h3 : ¬ c = 96 := by omega
            have h4 : (c != 9) = true := by simpa using h2
            have h5 : (c == 96) = false := beq_eq_false_iff_ne.2 h3
            go_wp2_with fail
            refine HD.out.mono ?_
            rintro e w1 ⟨rfl, b1⟩
            have B1 := hid (hb.trans (b1.mono hb.size))
            clear b1
            go_wp2_with fail
            go_ret2
            exact ⟨rfl, B1.out⟩
          · go_wp2_with fail
            refine HD.out.mono ?_
            rintro e w1 ⟨rfl, b1⟩
            have B1 := hid (hb.trans (b1.mono hb.size))
            clear b1
            go_wp2_with fail
            go_ret2
            exact ⟨rfl, B1.out⟩
          · go_wp2_with fail
            refine HD.out.mono ?_
            rintro e w1 ⟨rfl, b1⟩
            have B1 := hid (hb.trans (b1.mono hb.size))
            clear b1
            go_wp2_with fail
            go_ret2
            exact ⟨rfl, B1.out⟩
        · rw [if_neg (by
            rintro (q | q)
            · exact hbr q
            · rw [ho] at q; cases q)] at hst
          obtain ⟨v, hv⟩ : ∃ v, t.extract K t.size = v := ⟨_, rfl⟩
          have hvl : v.data.toList = t.data.toList.drop K := by rw [← hv]; exact extract_drop t K
          have hvz : v.size = t.size - K := by rw [Utf.size_eq, hvl, List.length_drop, ← Utf.size_eq]
          rw [← hvl] at hst
          have HN := hid hst.symm
          have HV := hid hvz
          clear ho hk hst hbr hvl hvz
          rcases h with rfl | ⟨h1, h2, h3, h4⟩
          · go_wp2_with fail
            refine HD.out.mono ?_
            rintro e w1 ⟨rfl, b1⟩
            have B1 := hid (hb.trans (b1.mono hb.size))
            clear b1
            go_wp2_with fail
            go_roundw
            case rel => exact ⟨v, rfl, by rw [HV.out]; omega, HN.out, B1.out⟩
            case measure => show v.size < t.size; rw [HV.out]; omega
          · have h5 : (c == 96) = false := beq_eq_false_iff_ne.2 h2
            have h6 : (c == 127) = false := beq_eq_false_iff_ne.2 h3
            have h7 : (c == 65279) = false := beq_eq_false_iff_ne.2 h4
            go_wp2_with fail
            refine HD.out.mono ?_
            rintro e w1 ⟨rfl, b1⟩
            have B1 := hid (hb.trans (b1.mono hb.size))
            clear b1
            go_wp2_with fail
            go_roundw
            case rel => exact ⟨v, rfl, by rw [HV.out]; omega, HN.out, B1.out⟩
            case measure => show v.size < t.size; rw [HV.out]; omega
    · have he := isEmpty_of_zero hp
      have hfin : OK = true := by
        rw [← hk.out, show t.data.toList = [] from List.eq_nil_of_length_eq_zero (by rw [← Utf.size_eq]; omega), IP.rawB_nil]
      subst hfin
      clear hk HO
      go_wp2_with fail
      go_ret2
      exact ⟨by rw [← HQ.out]; rfl, hb⟩

set_option maxRecDepth 100000 in
set_option maxHeartbeats 2000000 in
/-- The document's text in quotes. -/
theorem refquote_any (s : ByteArray) (ascii : Bool) (w : World) (hs : s.size ≤ 3000) :
    Calls Tryd.prog 31 #[.string s, .bool ascii] w fun e w' => e = .returned (.string ⟨(IP.quoteL ascii s.data.toList).toArray⟩) ∧ Below w.heap.size w w' := by
  obtain ⟨ALL, hALL⟩ : ∃ ALL, IP.runsQ ascii s.data.toList = ALL := ⟨_, rfl⟩
  have hlen := IP.runsQ_len ascii s.data.toList.length s.data.toList (Nat.le_refl _)
  rw [hALL, ← Utf.size_eq] at hlen
  have hq : IP.quoteL ascii s.data.toList = 34 :: (ALL ++ [34]) := by unfold IP.quoteL; rw [hALL]
  rw [hq]
  have HA := hid hALL
  clear hALL hq
  go_enter Tryd.func31, Tryd.ntmps31
  go_wp2_with fail
  go_loopw [0, 5] (fun sv tv wr => ∃ (t o : ByteArray) (l : List UInt8), sv = .string t ∧ tv = .string o ∧ t.size ≤ s.size ∧ l.length ≤ 30000 ∧ o.size = l.length + 1 ∧ Hid (o.data.toList = 34 :: l ∧ l ++ IP.runsQ ascii t.data.toList = ALL) ∧ Below w.heap.size w wr) (fun sv _ _ => strLen sv)
  case atStart => exact ⟨s, ⟨#[34]⟩, [], rfl, rfl, Nat.le_refl _, by simp, rfl, ⟨rfl, HA.out⟩, Below.refl _ _⟩
  case round =>
    obtain ⟨t, o, l, rfl, rfl, hts, hl, hoz, hk, hb⟩ := hrel
    by_cases hp : 0 < t.size
    · have he := isEmpty_of_pos hp
      have hd := dec0_le hp
      have hD := refdecode_any t wr (by omega)
      have hne : t.data.toList ≠ [] := by
        intro e
        rw [Utf.size_eq, e] at hp
        simp at hp
      have hst := hk.out.2
      rw [IP.runsQ_cons ascii _ hne, ← dec0_ne hne] at hst
      have hll := congrArg List.length hst
      rw [List.length_append, List.length_append] at hll
      have hcb := Utf.dec_rune t.data.toList
      rw [← dec0_ne hne] at hcb
      have hin : ¬ Utf.Broken t.data.toList → IP.stepQ ascii t.data.toList = IP.inL ((dec0 t.data.toList).1 : Int) 34 ascii := fun h => by
        unfold IP.stepQ
        rw [if_neg h, dec0_ne hne]
      obtain ⟨c, hc⟩ : ∃ c : Int, ((dec0 t.data.toList).1 : Int) = c := ⟨_, rfl⟩
      obtain ⟨K, hK⟩ : ∃ K : Nat, (dec0 t.data.toList).2 = K := ⟨_, rfl⟩
      have hc0 : 0 ≤ c := by omega
      have hc1 : c ≤ 1114111 := by omega
      unfold Dec3 at hD
      rw [hc, hK] at hD
      rw [hK] at hd hst hll
      rw [hc] at hin
      obtain ⟨hK1, hK2⟩ := hd
      obtain ⟨v, hv⟩ : ∃ v, t.extract K t.size = v := ⟨_, rfl⟩
      have hvl : v.data.toList = t.data.toList.drop K := by rw [← hv]; exact extract_drop t K
      have hvz : v.size = t.size - K := by rw [Utf.size_eq, hvl, List.length_drop, ← Utf.size_eq]
      rw [← hvl] at hst hll
      have HST := hid hst
      have HV := hid hvz
      obtain ⟨S, hS⟩ : ∃ S, IP.stepQ ascii t.data.toList = S := ⟨_, rfl⟩
      rw [hS] at HST hll hin
      have hSl : l.length + S.length ≤ 30000 := by omega
      have fin : ∀ (p : ByteArray), p.data.toList = S → Hid ((o ++ p).data.toList = 34 :: (l ++ S) ∧ (l ++ S) ++ IP.runsQ ascii v.data.toList = ALL) ∧ (o ++ p).size = (l ++ S).length + 1 := by
        intro p hp
        refine ⟨⟨?_, by rw [List.append_assoc]; exact HST.out⟩, ?_⟩
        · rw [ByteArray.data_append, Array.toList_append, hk.out.1, hp]; rfl
        · rw [ByteArray.size_append, hoz, Utf.size_eq p, hp, List.length_append]; omega
      have FIN := hid fin
      clear hc hK hvl hvz hst hll fin hcb
      by_cases hbr : Utf.Broken t.data.toList
      · rw [decide_eq_true hbr] at hD
        have HD := hid hD
        have E0 := bt_at t 0 hp
        have hbb := bt_bound t 0
        have hS2 : S = 92 :: 120 :: IP.hexW (bt t 0).toNat 2 := by
          rw [← hS]
          unfold IP.stepQ
          rw [if_pos hbr]
          unfold bt
          cases e : t.data.toList with
          | nil => exact absurd e hne
          | cons a r => simp
        obtain ⟨x, hx⟩ : ∃ x, bt t 0 = x := ⟨_, rfl⟩
        rw [hx] at E0 hbb hS2
        obtain ⟨hx0, hx1⟩ := hbb
        have DG := hid (fun W => refdigits_lit x 2 2 rfl W hx0 (by omega) (by decide))
        obtain ⟨D, hDD⟩ : ∃ D : ByteArray, (⟨(IP.hexW x.toNat 2).toArray⟩ : ByteArray) = D := ⟨_, rfl⟩
        rw [hDD] at DG
        have hDs : D.size = 2 := by rw [← hDD]; simp [ByteArray.size, IP.hexW_len]
        have hDl : D.data.toList = IP.hexW x.toNat 2 := by rw [← hDD]
        have H2 := hid (And.intro hS2 hDl)
        have hwx : IntKind.i64.wrap x = x := IntWalk.i64_in _ (by omega)
        have zz : ¬ 9223372036854775807 < o.size + 4 := by omega
        have HOZ := hid hoz
        clear hoz
        clear hD hbr hS hin hDD hDl hx hne hS2
        go_wp2_with fail
        refine HD.out.mono ?_
        rintro e w1 ⟨rfl, b1⟩
        have B1 := hid (hb.trans (b1.mono hb.size))
        clear b1
        have cd := conv2d w1 92 120
        have cn := conv2 w1 92 120
        go_wp2_with fail
        go_region_with (((with_reducible refine (DG.out _).mono ?_); rintro e w2 ⟨rfl, rfl⟩))
        all_goals
          go_wp2_with fail
          go_roundw
          case rel =>
            obtain ⟨f1, f2⟩ := FIN.out (strOfNums [92, 120] ++ D) (by rw [ByteArray.data_append, Array.toList_append, H2.out.2, H2.out.1]; rfl)
            exact ⟨v, _, l ++ S, rfl, rfl, by rw [HV.out]; omega, by rw [List.length_append]; exact hSl, f2, f1, by first | exact ((B1.out.alloc B1.out.size _).drew) | exact ((B1.out.drew).alloc (by simpa using B1.out.size) _) | exact (B1.out.alloc B1.out.size _)⟩
          case measure => show v.size < t.size; rw [HV.out]; omega
      · rw [decide_eq_false hbr] at hD
        have HD := hid hD
        have hS2 := hin hbr
        have IN := hid (fun W => refin_any c 34 ascii W hc0 hc1 (by decide) (by decide))
        obtain ⟨P, hP⟩ : ∃ P : ByteArray, (⟨(IP.inL c 34 ascii).toArray⟩ : ByteArray) = P := ⟨_, rfl⟩
        rw [hP] at IN
        have hPl : P.data.toList = S := by rw [hS2, ← hP]
        have hPz : P.size ≤ 30000 := by rw [Utf.size_eq, hPl]; omega
        have HP := hid hPl
        clear hD hbr hS hin hP hPl hne hS2
        go_wp2_with fail
        refine HD.out.mono ?_
        rintro e w1 ⟨rfl, b1⟩
        have B1 := hid (hb.trans (b1.mono hb.size))
        clear b1
        go_wp2_with fail
        refine (IN.out _).mono ?_
        rintro e w2 ⟨rfl, b2⟩
        have B2 := hid (B1.out.trans (b2.mono B1.out.size))
        clear b2
        go_wp2_with fail
        go_roundw
        case rel =>
          obtain ⟨f1, f2⟩ := FIN.out P HP.out
          exact ⟨v, _, l ++ S, rfl, rfl, by rw [HV.out]; omega, by rw [List.length_append]; exact hSl, f2, f1, B2.out⟩
        case measure => show v.size < t.size; rw [HV.out]; omega
    · have he := isEmpty_of_zero hp
      have hfin : l = ALL := by
        have h := hk.out.2
        rw [show t.data.toList = [] from List.eq_nil_of_length_eq_zero (by rw [← Utf.size_eq]; omega), IP.runsQ_nil, List.append_nil] at h
        exact h
      have HF := hid (And.intro hfin hk.out.1)
      clear hfin
      go_wp2_with fail
      go_ret
      exact ⟨ret_str (bytes_ext (by rw [ByteArray.data_append, Array.toList_append, HF.out.2, HF.out.1]; rfl)), hb⟩
end Go.Proofs.YtfbekjgbijlcaaaDoor
