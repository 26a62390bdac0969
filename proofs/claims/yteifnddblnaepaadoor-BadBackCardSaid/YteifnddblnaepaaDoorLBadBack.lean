/-
  The law BadBack, walked.
-/
import Derived.Test.YteifnddblnaepaaDoorD15
import Derived.Deep.CutBlock
import Derived.Deep.DeepCutAuto
namespace Go.Proofs.YteifnddblnaepaaDoor
open Go.RowKit Go.Proofs

theorem insS_size (v : Int) (J : ByteArray) : (insS (Utf8.encode v) J).size ≤ J.size + 8 := by
  unfold insS
  simp only [ByteArray.size_append]
  have e1 : (⟨#[37, 33]⟩ : ByteArray).size = 2 := rfl
  have e2 : (⟨#[40]⟩ : ByteArray).size = 1 := rfl
  have e3 : (⟨#[41]⟩ : ByteArray).size = 1 := rfl
  have e4 := enc_size v
  omega
theorem rd3_of (V : Int) (J : ByteArray) (k : Int) (hV : Utf8.valid V = true) (hk : verbedP J.data.toList = k) (hk0 : ¬ k = 0) (hz : J.size ≤ 90000) : Rd3 V (insS (Utf8.encode V) J) J k :=
  ⟨by have := insS_size V J; omega, readV_verb V J k hV hk hk0⟩

theorem own_below {w w' : World} {B n : Nat} {e : TypeId} {v : Value} {xs : List Value} (h : w.ownsRow B e 3 v n xs) (hb : Below w.heap.size w w') : w'.ownsRow B e 3 v n xs := by
  refine ⟨h.1, ?_⟩
  rcases h.2 with h0 | ⟨g, cap, cur, e1, e2, e3, e4⟩
  · exact Or.inl h0
  · exact Or.inr ⟨g, cap, cur, e1, e2, (hb.block g (by
      rcases Nat.lt_or_ge g w.heap.size with q | q
      · exact q
      · rw [Array.getElem?_eq_none q] at e3; cases e3)).trans e3, e4⟩
theorem ext5 (a : ByteArray) : (a.extract 0 5).data.toList = a.data.toList.take 5 := by
  rw [Lib.extract_data, List.drop_zero]
set_option maxRecDepth 100000 in
set_option maxHeartbeats 4000000 in
theorem badBack_law (c : Int) (s t : ByteArray) (w : World) (hT : TM w) (_h0 : -2147483648 ≤ c) (_h1 : c ≤ 2147483647) (_hs : s.size ≤ 140737488355328) (_ht : t.size ≤ 140737488355328) :
    Calls Tryd.prog 8 #[.int .i32 c, .string s, .string t] w fun e w' => e = .returned (.bool true) ∧ Below w.heap.size w w' := by
  have LV := hid (fun W hT => lives_any W hT)
  have CA := hid (lcut_any s w)
  have CB := hid (lcut_any t w)
  have za := lcut_size s
  have zb := lcut_size t
  obtain ⟨a, ha⟩ : ∃ a, s.extract 0 1000 = a := ⟨_, rfl⟩
  obtain ⟨b, hb⟩ : ∃ b, t.extract 0 1000 = b := ⟨_, rfl⟩
  rw [ha] at CA za
  rw [hb] at CB zb
  clear ha hb
  obtain ⟨V, hVV⟩ : ∃ V : Int, (if (c < 0 ∨ 1114111 < c) ∨ (55296 ≤ c ∧ c ≤ 57343) then 65533 else c) = V := ⟨_, rfl⟩
  have HVV := hid hVV
  have hval : Utf8.valid V = true := by
    rw [Utf.valid_iff, ← hVV]
    split <;> omega
  have HV := hid hval
  clear hval hVV
  have HT := hid hT
  clear hT
  go_enter Tryd.func8, Tryd.ntmps8
  go_wp2_with fail
  refine CA.out.mono ?_
  rintro e w' ⟨rfl, hw⟩
  subst hw
  go_wp2_with fail
  refine CB.out.mono ?_
  rintro e w' ⟨rfl, hw⟩
  subst hw
  go_upto_region 2 with fail
  obtain ⟨bad, hbad⟩ : ∃ b : Bool, decide ((c < 0 ∨ 1114111 < c) ∨ (55296 ≤ c ∧ c ≤ 57343)) = b := ⟨_, rfl⟩
  have HBD := hid hbad
  clear hbad
  go_cut [33] (fun v33 wn => v33 = .bool bad ∧ w = wn)
  case first =>
    have hcs : (c < 0 ∧ bad = true) ∨ (0 ≤ c ∧ 1114111 < c ∧ bad = true) ∨ (0 ≤ c ∧ c < 55296 ∧ bad = false) ∨ (55296 ≤ c ∧ c ≤ 57343 ∧ bad = true) ∨ (57343 < c ∧ c ≤ 1114111 ∧ bad = false) := by
      have h := HBD.out
      by_cases hc : (c < 0 ∨ 1114111 < c) ∨ (55296 ≤ c ∧ c ≤ 57343)
      · rw [decide_eq_true hc] at h
        have h := h.symm
        by_cases h1 : c < 0
        · exact Or.inl ⟨h1, h⟩
        · by_cases h2 : 1114111 < c
          · exact Or.inr (Or.inl ⟨by omega, h2, h⟩)
          · exact Or.inr (Or.inr (Or.inr (Or.inl ⟨by omega, by omega, h⟩)))
      · rw [decide_eq_false hc] at h
        have h := h.symm
        by_cases h1 : c < 55296
        · exact Or.inr (Or.inr (Or.inl ⟨by omega, h1, h⟩))
        · exact Or.inr (Or.inr (Or.inr (Or.inr ⟨by omega, by omega, h⟩)))
    rcases hcs with ⟨h1, rfl⟩ | ⟨h1, h2, rfl⟩ | ⟨h1, h2, rfl⟩ | ⟨h1, h2, rfl⟩ | ⟨h1, h2, rfl⟩
    all_goals
      go_wp2_with fail
      go_meet
      first
        | exact ⟨rfl, rfl⟩
        | exact ⟨by congr 1; simp only [Bool.or_eq_false_iff, decide_eq_false_iff_not]; omega, rfl⟩
  case rest =>
    obtain ⟨rfl, rfl⟩ := hcut
    go_upto_if 33 with fail
    go_cut [0] (fun v0 wn => v0 = .int .i32 V ∧ w = wn)
    case first =>
      have hV := HVV.out
      have hB := HBD.out
      cases bad
      · rw [if_neg (of_decide_eq_false hB)] at hV
        subst hV
        go_wp2_with fail
        go_meet
        exact ⟨rfl, rfl⟩
      · rw [if_pos (of_decide_eq_true hB)] at hV
        subst hV
        go_wp2_with fail
        go_meet
        exact ⟨rfl, rfl⟩
    case rest =>
      obtain ⟨rfl, rfl⟩ := hcut
      clear HVV HBD
      have P := hid (fun W => panic_any V a b W (by omega) (by omega))
      have VE := hid (fun W => verb_any V a b W (by omega) (by omega))
      have NI := hid (fun W => nil_any V W)
      have MI := hid (fun W => missing_any V W)
      have ID := hid (fun W => index_any V W)
      have r1 := rd3_of V (⟨#[60, 110, 105, 108, 62]⟩ : ByteArray) 2 HV.out (by decide) (by decide) (by decide)
      have r2 := rd3_of V (⟨#[77, 73, 83, 83, 73, 78, 71]⟩ : ByteArray) 3 HV.out (by decide) (by decide) (by decide)
      have r3 := rd3_of V (⟨#[66, 65, 68, 73, 78, 68, 69, 88]⟩ : ByteArray) 4 HV.out (by decide) (by decide) (by decide)
      have zp : ((((⟨#[80, 65, 78, 73, 67, 61]⟩ : ByteArray) ++ a) ++ (⟨#[32, 109, 101, 116, 104, 111, 100, 58, 32]⟩ : ByteArray)) ++ b).size ≤ 90000 := by
        have h1 : (⟨#[80, 65, 78, 73, 67, 61]⟩ : ByteArray).size = 6 := rfl
        have h2 : (⟨#[32, 109, 101, 116, 104, 111, 100, 58, 32]⟩ : ByteArray).size = 9 := rfl
        rw [ByteArray.size_append, ByteArray.size_append, ByteArray.size_append]
        omega
      have zv : ((a ++ (⟨#[61]⟩ : ByteArray)) ++ b).size ≤ 90000 := by
        have h1 : (⟨#[61]⟩ : ByteArray).size = 1 := rfl
        rw [ByteArray.size_append, ByteArray.size_append]
        omega
      have r4 := rd3_of V _ 5 HV.out (panicJ_k a b) (by decide) zp
      have r5 := fun h => rd3_of V _ 1 HV.out (verbJ_k a b h) (by decide) zv
      obtain ⟨T1, hT1⟩ : ∃ T, insS (Utf8.encode V) (⟨#[60, 110, 105, 108, 62]⟩ : ByteArray) = T := ⟨_, rfl⟩
      obtain ⟨T2, hT2⟩ : ∃ T, insS (Utf8.encode V) (⟨#[77, 73, 83, 83, 73, 78, 71]⟩ : ByteArray) = T := ⟨_, rfl⟩
      obtain ⟨T3, hT3⟩ : ∃ T, insS (Utf8.encode V) (⟨#[66, 65, 68, 73, 78, 68, 69, 88]⟩ : ByteArray) = T := ⟨_, rfl⟩
      obtain ⟨T4, hT4⟩ : ∃ T, insS (Utf8.encode V) ((((⟨#[80, 65, 78, 73, 67, 61]⟩ : ByteArray) ++ a) ++ (⟨#[32, 109, 101, 116, 104, 111, 100, 58, 32]⟩ : ByteArray)) ++ b) = T := ⟨_, rfl⟩
      obtain ⟨T5, hT5⟩ : ∃ T, insS (Utf8.encode V) ((a ++ (⟨#[61]⟩ : ByteArray)) ++ b) = T := ⟨_, rfl⟩
      rw [hT1] at NI r1
      rw [hT2] at MI r2
      rw [hT3] at ID r3
      rw [hT4] at P r4
      rw [hT5] at VE
      have r5' : (a.size < 5 ∨ ¬ a.data.toList.take 5 = [80, 65, 78, 73, 67]) → Rd3 V T5 ((a ++ (⟨#[61]⟩ : ByteArray)) ++ b) 1 := fun h => by rw [← hT5]; exact r5 h
      have HR := hid (And.intro r1 (And.intro r2 (And.intro r3 (And.intro r4 r5'))))
      clear hT1 hT2 hT3 hT4 hT5 r1 r2 r3 r4 r5 r5' zp zv
      go_wp2_with fail
      refine (NI.out _).mono ?_
      rintro e w1 ⟨rfl, b1⟩
      have B1 := hid b1
      clear b1
      go_wp2_with fail
      refine (MI.out _).mono ?_
      rintro e w2 ⟨rfl, b2⟩
      have B2 := hid (B1.out.trans (b2.mono B1.out.size))
      clear b2
      go_wp2_with fail
      refine (ID.out _).mono ?_
      rintro e w3 ⟨rfl, b3⟩
      have B3 := hid (B2.out.trans (b3.mono B2.out.size))
      clear b3
      go_wp2_with fail
      refine (P.out _).mono ?_
      rintro e w4 ⟨rfl, b4⟩
      have B4 := hid (B3.out.trans (b4.mono B3.out.size))
      clear b4 P ID MI NI
      go_upto_region 5 with fail
      obtain ⟨PJ, hPJ⟩ : ∃ P : ByteArray, (((⟨#[80, 65, 78, 73, 67, 61]⟩ : ByteArray) ++ a) ++ (⟨#[32, 109, 101, 116, 104, 111, 100, 58, 32]⟩ : ByteArray)) ++ b = P := ⟨_, rfl⟩
      rw [hPJ] at HR ⊢
      clear hPJ
      have O5 := hid (World.ownsRow_lit (base := w.heap.size) (size := 3) (e := 41) w4 #[.string T1, .int .i64 2, .string ⟨#[60, 110, 105, 108, 62]⟩, .string T2, .int .i64 3, .string ⟨#[77, 73, 83, 83, 73, 78, 71]⟩, .string T3, .int .i64 4, .string ⟨#[66, 65, 68, 73, 78, 68, 69, 88]⟩, .string T4, .int .i64 5, .string PJ] 4 B4.out.size (by decide) rfl)
      have B5 := hid (B4.out.alloc B4.out.size (.cells #[.string T1, .int .i64 2, .string ⟨#[60, 110, 105, 108, 62]⟩, .string T2, .int .i64 3, .string ⟨#[77, 73, 83, 83, 73, 78, 71]⟩, .string T3, .int .i64 4, .string ⟨#[66, 65, 68, 73, 78, 68, 69, 88]⟩, .string T4, .int .i64 5, .string PJ] 41))
      obtain ⟨W5, hW5⟩ : ∃ W5, w4.alloc (.cells #[.string T1, .int .i64 2, .string ⟨#[60, 110, 105, 108, 62]⟩, .string T2, .int .i64 3, .string ⟨#[77, 73, 83, 83, 73, 78, 71]⟩, .string T3, .int .i64 4, .string ⟨#[66, 65, 68, 73, 78, 68, 69, 88]⟩, .string T4, .int .i64 5, .string PJ] 41) = W5 := ⟨_, rfl⟩
      rw [hW5] at O5 B5 ⊢
      obtain ⟨v5, hv5⟩ : ∃ v5 : Value, .slice (some ⟨w4.heap.size, 0, none⟩) 4 4 = v5 := ⟨_, rfl⟩
      rw [hv5] at O5 ⊢
      clear hW5 hv5 B1 B2 B3 B4
      obtain ⟨app, happ⟩ : ∃ b : Bool, decide (a.size < 5 ∨ ¬ a.data.toList.take 5 = [80, 65, 78, 73, 67]) = b := ⟨_, rfl⟩
      have HAP := hid happ
      clear happ
      go_cut [61] (fun v wn => v = .bool app ∧ W5 = wn)
      case first =>
        have hap := HAP.out
        by_cases h5 : a.size < 5
        · rw [decide_eq_true (Or.inl h5)] at hap
          subst hap
          go_wp2_with fail
          go_meet
          exact ⟨rfl, rfl⟩
        · have e5 := beq_lit (a.extract 0 5) [80, 65, 78, 73, 67]
          rw [ext5] at e5
          by_cases hq : a.data.toList.take 5 = [80, 65, 78, 73, 67]
          · rw [decide_eq_false (by rintro (h | h); exact h5 h; exact h hq)] at hap
            subst hap
            rw [decide_eq_true hq] at e5
            go_wp2_with fail
            go_meet
            first
              | exact ⟨rfl, rfl⟩
              | exact ⟨by simp; omega, rfl⟩
          · rw [decide_eq_true (Or.inr hq)] at hap
            subst hap
            rw [decide_eq_false hq] at e5
            go_wp2_with fail
            go_meet
            first
              | exact ⟨rfl, rfl⟩
              | exact ⟨by simp; omega, rfl⟩
      case rest =>
        obtain ⟨rfl, rfl⟩ := hcut
        go_upto_if 61 with fail
        go_cut [7] (fun v wn => RowsOk w wn v V)
        case first =>
          cases app
          · go_wp2_with fail
            go_meet
            exact rows_own (n := 4) [(T1, 2, ⟨#[60, 110, 105, 108, 62]⟩), (T2, 3, ⟨#[77, 73, 83, 83, 73, 78, 71]⟩), (T3, 4, ⟨#[66, 65, 68, 73, 78, 68, 69, 88]⟩), (T4, 5, PJ)]
              (by
                intro r hr
                simp only [List.mem_cons, List.not_mem_nil, or_false] at hr
                rcases hr with rfl | rfl | rfl | rfl
                · exact HR.out.1
                · exact HR.out.2.1
                · exact HR.out.2.2.1
                · exact HR.out.2.2.2.1) rfl (by decide) (by decide) O5.out B5.out
          · go_upto_region 6 with fail
            refine wp_region_list ?_
            iterate 4
              refine wpList_plain rfl fun K hK => ?_
              have HK := hid hK
              clear hK
              go_wp2_with fail
              refine HK.out _ _ ?_
              clear HK
            refine wpList_plain rfl fun K hK => ?_
            have HK := hid hK
            clear hK
            go_wp2_with fail
            refine (VE.out _).mono ?_
            rintro e w6 ⟨rfl, b6⟩
            have O6 := hid (own_below O5.out b6)
            have B6 := hid (B5.out.trans (b6.mono B5.out.size))
            clear b6
            go_wp2_with fail
            refine HK.out _ _ ?_
            clear HK
            iterate 5
              refine wpList_plain rfl fun K hK => ?_
              have HK := hid hK
              clear hK
              go_wp2_with fail
              refine HK.out _ _ ?_
              clear HK
            refine wpList_push3 rfl rfl (.tmp 71) (.tmp 62) 72 rfl rfl rfl T5 ((a ++ (⟨#[61]⟩ : ByteArray)) ++ b) 1 rfl w.heap.size _ 4 _ _ rfl rfl rfl O6.out B6.out.size (by decide) ?_
            intro v7 w7 ho7 hb7
            have R7 := hid (rows_own (n := 5) [(T1, 2, ⟨#[60, 110, 105, 108, 62]⟩), (T2, 3, ⟨#[77, 73, 83, 83, 73, 78, 71]⟩), (T3, 4, ⟨#[66, 65, 68, 73, 78, 68, 69, 88]⟩), (T4, 5, PJ), (T5, 1, (a ++ (⟨#[61]⟩ : ByteArray)) ++ b)]
              (by
                intro r hr
                simp only [List.mem_cons, List.not_mem_nil, or_false] at hr
                rcases hr with rfl | rfl | rfl | rfl | rfl
                · exact HR.out.1
                · exact HR.out.2.1
                · exact HR.out.2.2.1
                · exact HR.out.2.2.2.1
                · exact HR.out.2.2.2.2 (of_decide_eq_true HAP.out)) rfl (by decide) (by decide) ho7 (B6.out.trans hb7))
            clear ho7 hb7
            go_wp2_with fail
            go_meet
            exact R7.out
        case rest =>
          obtain ⟨g, n, cap, rfl, hn5, hg, hbw, hrows⟩ := hcut
          have HRW := hid hrows
          have HG := hid hg
          have HBW := hid hbw
          clear hrows hg hbw O5 B5 HR VE HAP
          go_wp2_with fail
          go_loopw [76] (fun iv wr => ∃ i : Nat, iv = .int .i64 i ∧ i ≤ n ∧ Hid (Below wc.heap.size wc wr)) (fun iv _ => n - (intOf iv).toNat)
          case atStart => exact ⟨0, rfl, Nat.zero_le _, Below.refl _ _⟩
          case round =>
            obtain ⟨i, rfl, hi, hI⟩ := hrel
            by_cases hlt : i < n
            · obtain ⟨T, J, k, c1, c2, c3, hz, hrd⟩ := HRW.out i hlt
              have d1 := (hI.out.cell (p := ⟨g, i * 3, none⟩) HG.out).trans c1
              have d2 := (hI.out.cell (p := ⟨g, i * 3 + 1, none⟩) HG.out).trans c2
              have d3 := (hI.out.cell (p := ⟨g, i * 3 + 2, none⟩) HG.out).trans c3
              have RD := hid (fun W hT => read_any T W hT hz)
              rw [hrd] at RD
              have BW := hid (HBW.out.trans (hI.out.mono HBW.out.size))
              clear c1 c2 c3 hrd hz
              go_wp2_with fail
              clear d1 d2 d3
              have BX := hid (BW.out.alloc BW.out.size (.cells #[.string T, .int .i64 k, .string J] 41))
              refine (RD.out _ (HT.out.below BX.out)).mono ?_
              rintro e w7 ⟨rfl, b7⟩
              have x0 := (b7.cell (p := ⟨wr.heap.size, 0, none⟩) (alloc_lt _ _)).trans ((Blk.new wr _ _).cell 0)
              have x1 := (b7.cell (p := ⟨wr.heap.size, 1, none⟩) (alloc_lt _ _)).trans ((Blk.new wr _ _).cell 1)
              have x2 := (b7.cell (p := ⟨wr.heap.size, 2, none⟩) (alloc_lt _ _)).trans ((Blk.new wr _ _).cell 2)
              have N := hid ((hI.out.alloc hI.out.size (.cells #[.string T, .int .i64 k, .string J] 41)).trans (b7.mono (Nat.le_trans hI.out.size (Nat.le_of_lt (alloc_lt _ _)))))
              simp only [List.getElem?_toArray, List.getElem?_cons_zero, List.getElem?_cons_succ] at x0 x1 x2
              clear b7
              go_wp2_with fail
              go_roundw
              case rel => exact ⟨i + 1, by go_num, by omega, N.out⟩
              case measure => simp [intOf]; omega
            · have BW := hid (HBW.out.trans (hI.out.mono HBW.out.size))
              have EX := hid (fun W va vb h1 h2 => extra_any [a] [b] va vb W h1 h2 (by simp) (by simp) (fun x hx => by rw [List.mem_singleton.1 hx]; omega) (fun x hx => by rw [List.mem_singleton.1 hx]; omega))
              have hek := extraJ_k a b
              have hrv := readV_bare (extraJ [a] [b]) 10 hek.1 (by decide) hek.2
              rw [extraJ_one] at EX hrv
              have hzx : (insS ⟨#[]⟩ ((((⟨#[69, 88, 84, 82, 65, 32]⟩ : ByteArray) ++ a) ++ (⟨#[61]⟩ : ByteArray)) ++ b)).size ≤ 100000 := by
                unfold insS
                simp only [ByteArray.size_append]
                have e1 : (⟨#[37, 33]⟩ : ByteArray).size = 2 := rfl
                have e2 : (⟨#[40]⟩ : ByteArray).size = 1 := rfl
                have e3 : (⟨#[41]⟩ : ByteArray).size = 1 := rfl
                have e4 : (⟨#[69, 88, 84, 82, 65, 32]⟩ : ByteArray).size = 6 := rfl
                have e5 : (⟨#[61]⟩ : ByteArray).size = 1 := rfl
                have e6 : (⟨#[]⟩ : ByteArray).size = 0 := rfl
                omega
              obtain ⟨X, hX⟩ : ∃ X, insS ⟨#[]⟩ ((((⟨#[69, 88, 84, 82, 65, 32]⟩ : ByteArray) ++ a) ++ (⟨#[61]⟩ : ByteArray)) ++ b) = X := ⟨_, rfl⟩
              rw [hX] at EX hrv hzx
              have RX := hid (fun W hT => read_any X W hT hzx)
              rw [hrv] at RX
              clear hX hrv hek hzx
              go_wp2_with fail
              have s1 := SL_new wr #[.string a] 9 [a] 1 rfl rfl
              have s2 := SL_new (wr.alloc (.cells #[.string a] 9)) #[.string b] 9 [b] 1 rfl rfl
              have s3 := s1.below ((Below.refl _ _).alloc (Nat.le_refl _) (.cells #[.string b] 9))
              have hsz : (wr.alloc (.cells #[.string a] 9)).heap.size = wr.heap.size + 1 := by simp
              rw [hsz] at s2
              refine (EX.out _ _ _ s3 s2).mono ?_
              rintro e w8 ⟨rfl, b8⟩
              have B8 := hid (((BW.out.alloc BW.out.size _).alloc (Nat.le_trans BW.out.size (Nat.le_of_lt (alloc_lt _ _))) _).trans (b8.mono (Nat.le_trans BW.out.size (Nat.le_trans (Nat.le_of_lt (alloc_lt _ _)) (Nat.le_of_lt (alloc_lt _ _))))))
              clear b8 s1 s2 s3 hsz
              go_wp2_with fail
              refine (RX.out _ (HT.out.below B8.out)).mono ?_
              rintro e w9 ⟨rfl, b9⟩
              have B9 := hid (B8.out.trans (b9.mono B8.out.size))
              clear b9
              go_wp2_with fail
              refine (LV.out _ (HT.out.below B9.out)).mono ?_
              rintro e w10 ⟨rfl, b10⟩
              have B10 := hid (B9.out.trans (b10.mono B9.out.size))
              clear b10
              go_wp2_with fail
              go_ret
              exact ⟨rfl, B10.out⟩
end Go.Proofs.YteifnddblnaepaaDoor
