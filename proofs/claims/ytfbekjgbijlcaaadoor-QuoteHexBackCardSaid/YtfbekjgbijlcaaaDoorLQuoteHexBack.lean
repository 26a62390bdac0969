/-
  The law QuoteHexBack, walked.
-/
import Derived.Test.YtfbekjgbijlcaaaDoorLV2
namespace Go.Proofs.YtfbekjgbijlcaaaDoor
open Go.RowKit Go.Proofs

/-- A digit's number, great or small. -/
theorem ldigit_any (g : Bool) (d : Nat) (hd : d < 16) (y : Int) (hy : ((IP.hexd g d).toNat : Int) = y) (w : World) : Calls Tryd.prog 20 #[.int .u8 y] w fun e w' => e = .returned (.int .i64 d) ∧ w = w' := by
  rw [IP.hexd_toNat g d hd] at hy
  by_cases h10 : d < 10
  · rw [if_pos h10] at hy
    have e : y = 48 + d := by omega
    obtain ⟨q, hq⟩ : ∃ q : Int, (d : Int) = q := ⟨_, rfl⟩
    have e2 : y - 48 = q := by omega
    have b0 : 48 ≤ y := by omega
    have b1 : y ≤ 57 := by omega
    rw [hq]
    clear hy e h10 hq hd
    go_enter Tryd.func20, Tryd.ntmps20
    go_wp2_with fail
    go_ret
    exact ⟨by rw [← e2]; rfl, rfl⟩
  · rw [if_neg h10] at hy
    cases g
    · rw [if_neg Bool.false_ne_true] at hy
      obtain ⟨q, hq⟩ : ∃ q : Int, (d : Int) = q := ⟨_, rfl⟩
      have e2 : y - 97 + 10 = q := by omega
      have b0 : 97 ≤ y := by omega
      have b1 : y ≤ 102 := by omega
      rw [hq]
      clear hy h10 hq hd
      go_enter Tryd.func20, Tryd.ntmps20
      go_wp2_with fail
      go_ret
      exact ⟨by rw [← e2]; rfl, rfl⟩
    · rw [if_pos rfl] at hy
      obtain ⟨q, hq⟩ : ∃ q : Int, (d : Int) = q := ⟨_, rfl⟩
      have e2 : y - 65 + 10 = q := by omega
      have b0 : 65 ≤ y := by omega
      have b1 : y ≤ 70 := by omega
      rw [hq]
      clear hy h10 hq hd
      go_enter Tryd.func20, Tryd.ntmps20
      go_wp2_with fail
      go_ret
      exact ⟨by rw [← e2]; rfl, rfl⟩
/-- What is left of the digits at byte i. -/
def restH (g sp : Bool) (mark l : List UInt8) (i : Nat) : List UInt8 := if i = 0 then IP.hexL g sp mark l else IP.hexT g sp mark (l.drop i)
theorem restH_step (g sp : Bool) (mark l : List UInt8) (i : Nat) (h : i < l.length) : restH g sp mark l i = (if sp = true ∧ 0 < i then [32] else []) ++ ((if sp = true ∨ i = 0 then mark else []) ++ (IP.twoH g (l[i]?.getD 0) ++ restH g sp mark l (i + 1))) := by
  unfold restH
  rw [if_neg (Nat.succ_ne_zero i), List.getElem?_eq_getElem h]
  simp only [Option.getD_some]
  by_cases h0 : i = 0
  · subst h0
    rw [if_pos rfl, if_neg (by simp), if_pos (Or.inr rfl), List.nil_append]
    cases l with
    | nil => simp at h
    | cons a t =>
      rw [IP.hexL]
      simp
  · rw [if_neg h0, List.drop_eq_getElem_cons h, IP.hexT]
    cases sp
    · simp [h0]
    · simp [show 0 < i by omega]
theorem restH_end (g sp : Bool) (mark l : List UInt8) : restH g sp mark l l.length = [] := by
  unfold restH
  cases l with
  | nil => rfl
  | cons a t => rw [if_neg (by simp), List.drop_length]; rfl
theorem pieces_is (g sp sh : Bool) (l : List UInt8) (i : Nat) (h : i < l.length) : restH g sp (IP.markH sh g) l i =
    (if (sp && decide (0 < i)) = true then [32] else []) ++ ((if (sh && (sp || decide (i = 0))) = true then [48, if g then 88 else 120] else []) ++ (IP.twoH g (l[i]?.getD 0) ++ restH g sp (IP.markH sh g) l (i + 1))) := by
  rw [restH_step _ _ _ _ _ h]
  unfold IP.markH
  cases sp <;> cases sh <;> cases g <;> simp
theorem ext_cons {t : ByteArray} {a : UInt8} {r : List UInt8} (h : t.data.toList = a :: r) : (t.extract 1 t.size).data.toList = r ∧ t.size = r.length + 1 ∧ bt t 0 = (a.toNat : Int) := by
  refine ⟨by rw [extract_drop, h]; rfl, by rw [Utf.size_eq, h]; rfl, ?_⟩
  unfold bt
  rw [h]
  rfl
theorem ext_cons2 {t : ByteArray} {a b : UInt8} {r : List UInt8} (h : t.data.toList = a :: b :: r) : (t.extract 2 t.size).data.toList = r ∧ t.size = r.length + 2 ∧ bt t 0 = (a.toNat : Int) ∧ bt t 1 = (b.toNat : Int) := by
  refine ⟨by rw [extract_drop, h]; rfl, by rw [Utf.size_eq, h]; rfl, ?_, ?_⟩
  · unfold bt; rw [h]; rfl
  · unfold bt; rw [h]; rfl

set_option maxRecDepth 100000 in
set_option maxHeartbeats 2000000 in
theorem quoteHexBack_law (s : ByteArray) (pl mi sh sp ze : Bool) (wid prec verb : Int) (w : World) (hT : Tabs w) (hs : s.size ≤ 140737488355328) (_hw0 : -9223372036854775808 ≤ wid) (_hw1 : wid ≤ 9223372036854775807) (_hp0 : -9223372036854775808 ≤ prec) (_hp1 : prec ≤ 9223372036854775807) (_hr0 : -2147483648 ≤ verb) (_hr1 : verb ≤ 2147483647) :
    Calls Tryd.prog 7 #[.string s, .agg #[.bool pl, .bool mi, .bool sh, .bool sp, .bool ze, .int .i64 wid, .int .i64 prec, .int .i32 verb]] w fun e w' => e = .returned (.bool true) ∧ Below w.heap.size w w' := by
  have LV := hid (fun W hT => lives_any W hT)
  have hz := lcut_size s
  have CU0 := fun W => lcut_any s W hs
  obtain ⟨c, hc⟩ : ∃ c, s.extract 0 1000 = c := ⟨_, rfl⟩
  rw [hc] at CU0 hz
  have CU := hid CU0
  have HX0 := fun W => hex_any c pl mi sh sp ze (-1) (-1) verb W (by omega) (by decide) (by decide)
  rw [pad_off] at HX0
  obtain ⟨g, hg⟩ : ∃ g : Bool, (verb == 88) = g := ⟨_, rfl⟩
  have hgd : decide (verb = 88) = g := by rw [← hg]; rfl
  have hres : IP.hexS sh sp (-1) verb c.data.toList = restH g sp (IP.markH sh g) c.data.toList 0 := by
    unfold IP.hexS restH
    rw [hgd, if_pos rfl]
    rfl
  have hlen := IP.hexS_len sh sp (-1) verb c.data.toList
  rw [← Utf.size_eq] at hlen
  obtain ⟨R, hR⟩ : ∃ R : ByteArray, (⟨(IP.hexS sh sp (-1) verb c.data.toList).toArray⟩ : ByteArray) = R := ⟨_, rfl⟩
  have hRl : R.data.toList = restH g sp (IP.markH sh g) c.data.toList 0 := by rw [← hR, ← hres]
  have hRz : R.size ≤ 5000 := by rw [Utf.size_eq, hRl, ← hres]; omega
  rw [hR] at HX0
  have HX := hid HX0
  have HR := hid hRl
  have HT := hid hT
  obtain ⟨c0, c1, c2, c3, c4', c5, c6, c7⟩ := blk_cells _ _ _ _ _ _ _ _ (Blk.new w (sp8 pl mi sh sp ze wid prec verb) 28)
  have BW := hid (fun n => (((below_drewN ((Below.refl w.heap.size w).alloc (Nat.le_refl _) (.cells (sp8 pl mi sh sp ze wid prec verb) 28)) n).setCell (p := ⟨w.heap.size, 5, none⟩) (Nat.le_refl _) (.int .i64 (-1))).setCell (p := ⟨w.heap.size, 6, none⟩) (Nat.le_refl _) (.int .i64 (-1))))
  clear hc CU0 HX0 hgd hres hlen hR hRl hT
  go_enter Tryd.func7, Tryd.ntmps7
  go_wp2_with fail
  refine (CU.out _).mono ?_
  rintro e w0 ⟨rfl, rfl⟩
  go_wp2_with fail
  go_quiet (fail)
  go_wp2_with fail
  refine (HX.out _).mono ?_
  rintro e w1 ⟨rfl, b1⟩
  have B1 := hid ((BW.out nq).trans (b1.mono (BW.out nq).size))
  clear b1 c0 c1 c2 c3 c4' c5 c6 c7
  go_wp2_with fail
  go_loopw [8, 9] (fun tv iv wr => ∃ (t : ByteArray) (i : Nat), tv = .string t ∧ iv = .int .i64 i ∧ i ≤ c.size ∧ t.size ≤ 5000 ∧ Hid (t.data.toList = restH g sp (IP.markH sh g) c.data.toList i) ∧ Hid (Below w.heap.size w wr)) (fun _ iv _ => c.size - (intOf iv).toNat)
  case atStart => exact ⟨R, 0, rfl, rfl, Nat.zero_le _, hRz, HR.out, B1.out⟩
  case round =>
    obtain ⟨t, i, rfl, rfl, hi, htz, ht, hbw⟩ := hrel
    by_cases hlt : i < c.size
    · have hst := ht.out
      rw [pieces_is g sp sh c.data.toList i (by rw [← Utf.size_eq]; exact hlt)] at hst
      have E0 := bt_at c i hlt
      have hbb := bt_bound c i
      have hxx : (c.data.toList[i]?.getD 0).toNat = (bt c i).toNat := by unfold bt; rw [Int.toNat_natCast]
      obtain ⟨x, hx⟩ : ∃ x, bt c i = x := ⟨_, rfl⟩
      rw [hx] at E0 hbb hxx
      obtain ⟨hx0, hx1⟩ := hbb
      obtain ⟨up, hhi⟩ : ∃ q : Nat, x.toNat / 16 = q := ⟨_, rfl⟩
      obtain ⟨lo, hlo⟩ : ∃ q : Nat, x.toNat % 16 = q := ⟨_, rfl⟩
      have h16 : up < 16 := by omega
      have l16 : lo < 16 := by omega
      have hsum : 16 * (up : Int) + lo = x := by omega
      have htw : IP.twoH g (c.data.toList[i]?.getD 0) = [IP.hexd g up, IP.hexd g lo] := by
        unfold IP.twoH
        rw [hxx, hhi, hlo]
      rw [htw] at hst
      obtain ⟨y1, hy1⟩ : ∃ y : Int, ((IP.hexd g up).toNat : Int) = y := ⟨_, rfl⟩
      obtain ⟨y2, hy2⟩ : ∃ y : Int, ((IP.hexd g lo).toNat : Int) = y := ⟨_, rfl⟩
      have D1 := hid (fun W => ldigit_any g up h16 y1 hy1 W)
      have D2 := hid (fun W => ldigit_any g lo l16 y2 hy2 W)
      obtain ⟨ds, hds⟩ : ∃ ds, (sp && decide (0 < i)) = ds := ⟨_, rfl⟩
      obtain ⟨dm, hdm⟩ : ∃ dm, (sh && (sp || decide (i = 0))) = dm := ⟨_, rfl⟩
      rw [hds, hdm] at hst
      have HDS := hid hds
      have HDM := hid hdm
      obtain ⟨L2, hL2⟩ : ∃ L2, [IP.hexd g up, IP.hexd g lo] ++ restH g sp (IP.markH sh g) c.data.toList (i + 1) = L2 := ⟨_, rfl⟩
      rw [hL2] at hst
      obtain ⟨L1, hL1⟩ : ∃ L1, (if dm = true then [48, if g then 88 else 120] else []) ++ L2 = L1 := ⟨_, rfl⟩
      rw [hL1] at hst
      obtain ⟨t1, ht1⟩ : ∃ t1 : ByteArray, (if ds = true then t.extract 1 t.size else t) = t1 := ⟨_, rfl⟩
      have ht1l : t1.data.toList = L1 ∧ t1.size ≤ 5000 ∧ (ds = true → 0 < t.size ∧ bt t 0 = 32) := by
        cases ds
        · simp only [Bool.false_eq_true, if_false, List.nil_append] at hst ht1
          rw [← ht1]
          exact ⟨hst, htz, fun h => by cases h⟩
        · simp only [if_true, List.cons_append, List.nil_append] at hst ht1
          obtain ⟨k1, k2, k3⟩ := ext_cons hst
          rw [← ht1]
          exact ⟨k1, by rw [Utf.size_eq, k1]; omega, fun _ => ⟨by omega, k3⟩⟩
      obtain ⟨q1, q2, q3⟩ := ht1l
      obtain ⟨t2, ht2⟩ : ∃ t2 : ByteArray, (if dm = true then t1.extract 2 t1.size else t1) = t2 := ⟨_, rfl⟩
      have ht2l : t2.data.toList = L2 ∧ t2.size ≤ 5000 ∧ (dm = true → 2 ≤ t1.size ∧ bt t1 0 = 48 ∧ bt t1 1 = if g then 88 else 120) := by
        cases dm
        · simp only [Bool.false_eq_true, if_false, List.nil_append] at hL1 ht2
          rw [← ht2, hL1]
          exact ⟨q1, q2, fun h => by cases h⟩
        · simp only [if_true, List.cons_append, List.nil_append] at hL1 ht2
          rw [← hL1] at q1
          obtain ⟨k1, k2, k3, k4⟩ := ext_cons2 q1
          rw [← ht2]
          exact ⟨k1, by rw [Utf.size_eq, k1]; omega, fun _ => ⟨by omega, k3, by rw [k4]; cases g <;> rfl⟩⟩
      obtain ⟨p1, p2, p3⟩ := ht2l
      rw [← hL2] at p1
      obtain ⟨k1, k2, k3, k4⟩ := ext_cons2 p1
      obtain ⟨t3, ht3⟩ : ∃ t3, t2.extract 2 t2.size = t3 := ⟨_, rfl⟩
      rw [ht3] at k1
      have hz2 : 2 ≤ t2.size := by omega
      have F0 := bt_at t2 0 (Nat.lt_of_lt_of_le (by decide) hz2)
      have F1 := bt_at t2 1 (Nat.lt_of_lt_of_le (by decide) hz2)
      rw [k3, hy1] at F0
      rw [k4, hy2] at F1
      have ht3z : t3.size ≤ 5000 := by rw [Utf.size_eq, k1]; omega
      have Q3 := hid q3
      have P3 := hid p3
      have K1 := hid k1
      have HT1 := hid ht1
      have HT2 := hid ht2
      have hw1 : IntKind.i64.wrap (16 * (up : Int)) = 16 * (up : Int) := IntWalk.i64_in _ (by omega)
      have hw2 : IntKind.i64.wrap (16 * (up : Int) + lo) = x := by rw [hsum]; exact IntWalk.i64_in _ (by omega)
      have hw3 : IntKind.i64.wrap x = x := IntWalk.i64_in _ (by omega)
      clear hst hxx hx hhi hlo htw hy1 hy2 hds hdm hL1 hL2 ht1 ht2 q1 q3 p1 p3 k1 k2 k3 k4 ht
      obtain ⟨wo, hwo⟩ : ∃ wo : World, wo = wr := ⟨_, rfl⟩
      subst hwo
      go_upto_region 8 with fail
      go_cut [34] (fun v34 wn => v34 = .bool ds ∧ wo = wn)
      case first =>
        have h := HDS.out
        cases sp
        · have h : false = ds := h
          subst h
          go_wp2_with fail
          go_meet
          exact ⟨rfl, rfl⟩
        · by_cases h0 : i = 0
          · subst h0
            have h : false = ds := h
            subst h
            go_wp2_with fail
            go_meet
            exact ⟨rfl, rfl⟩
          · have h0i : (0 : Int) < i := by omega
            rw [Bool.true_and, decide_eq_true (show 0 < i by omega)] at h
            subst h
            have h0d : decide (0 < i) = true := decide_eq_true (by omega)
            go_wp2_with fail
            go_meet
            exact ⟨rfl, rfl⟩
      case rest =>
        obtain ⟨rfl, rfl⟩ := hcut
        go_upto_if 34 with fail
        go_cut [8] (fun v8 wn => v8 = .string t1 ∧ wo = wn)
        case first =>
          cases ds
          · have h : t = t1 := HT1.out
            subst h
            go_wp2_with fail
            go_meet
            exact ⟨rfl, rfl⟩
          · have h : t.extract 1 t.size = t1 := HT1.out
            obtain ⟨j1, j2⟩ := Q3.out (by first | rfl | trivial)
            have he := isEmpty_of_pos j1
            have G0 := bt_at t 0 j1
            rw [j2] at G0
            clear j2
            go_wp2_with fail
            go_meet
            exact ⟨rfl, rfl⟩
        case rest =>
          obtain ⟨rfl, rfl⟩ := hcut
          go_upto_region 12 with fail
          go_cut [51] (fun v51 wn => v51 = .bool dm ∧ wo = wn)
          case first =>
            have h := HDM.out
            cases sh
            · have h : false = dm := h
              subst h
              go_wp2_with fail
              go_meet
              exact ⟨rfl, rfl⟩
            · cases sp
              · by_cases h0 : i = 0
                · subst h0
                  have h : true = dm := h
                  subst h
                  go_wp2_with fail
                  go_meet
                  exact ⟨rfl, rfl⟩
                · have h0b : ((i : Int) == 0) = false := beq_eq_false_iff_ne.2 (by omega)
                  rw [Bool.true_and, Bool.false_or, decide_eq_false h0] at h
                  subst h
                  go_wp2_with fail
                  go_meet
                  exact ⟨rfl, rfl⟩
              · have h : true = dm := h
                subst h
                go_wp2_with fail
                go_meet
                exact ⟨rfl, rfl⟩
          case rest =>
            obtain ⟨rfl, rfl⟩ := hcut
            go_upto_if 51 with fail
            go_cut [8] (fun v8 wn => v8 = .string t2 ∧ wo = wn)
            case first =>
              cases dm
              · have h : t1 = t2 := HT2.out
                subst h
                go_wp2_with fail
                go_meet
                exact ⟨rfl, rfl⟩
              · have h : t1.extract 2 t1.size = t2 := HT2.out
                obtain ⟨j1, j2, j3⟩ := P3.out (by first | rfl | trivial)
                have j1i : (2 : Int) ≤ t1.size := by omega
                have G0 := bt_at t1 0 (Nat.lt_of_lt_of_le (by decide) j1)
                have G1 := bt_at t1 1 (Nat.lt_of_lt_of_le (by decide) j1)
                rw [j2] at G0
                rw [j3] at G1
                clear j2 j3
                cases g
                · have G1 : ((t1[1].toNat : Nat) : Int) = 120 := G1
                  go_wp2_with fail
                  go_meet
                  exact ⟨rfl, rfl⟩
                · have G1 : ((t1[1].toNat : Nat) : Int) = 88 := G1
                  go_wp2_with fail
                  go_meet
                  exact ⟨rfl, rfl⟩
            case rest =>
              obtain ⟨rfl, rfl⟩ := hcut
              have hz2i : (2 : Int) ≤ t2.size := by omega
              have hA0 : 0 < t2.size := by omega
              have hA1 : 1 < t2.size := by omega
              have hA0i : (0 : Int) < t2.size := by omega
              have hA1i : (1 : Int) < t2.size := by omega
              have u0 : (0 : Int) ≤ (up : Int) := by omega
              have l0 : (0 : Int) ≤ (lo : Int) := by omega
              go_upto_region 16 with fail
              go_quiet ((go_at_call 20; first | (with_reducible exact Calls.quiet_of_same ((D1.out _).mono fun _ _ h => ⟨h.1, h.2.symm⟩)) | (with_reducible exact Calls.quiet_of_same ((D2.out _).mono fun _ _ h => ⟨h.1, h.2.symm⟩))))
              go_wp2_with fail
              go_roundw
              case rel => exact ⟨t3, i + 1, rfl, by go_num, by omega, ht3z, K1.out, below_drewN hbw.out _⟩
              case measure => simp [intOf]; omega
    · have hic : i = c.size := by omega
      have h0 : t.data.toList = [] := by
        rw [ht.out, hic, Utf.size_eq]
        exact restH_end _ _ _ _
      have he : t.toList.isEmpty = true := by rw [isEmpty_iff, h0]; rfl
      clear h0 ht
      go_wp2_with fail
      refine (LV.out _ (HT.out.below hbw.out)).mono ?_
      rintro e w9 ⟨rfl, b9⟩
      have B9 := hid (hbw.out.trans (b9.mono hbw.out.size))
      clear b9
      go_wp2_with fail
      go_ret
      exact ⟨rfl, B9.out⟩
end Go.Proofs.YtfbekjgbijlcaaaDoor
