/-
  Walks of layer 2: the document's bytes in hexadecimal digits.
-/
import Derived.Test.YtfbekjgbijlcaaaDoorQH2
import Derived.Test.YtfbekjgbijlcaaaDoorQ5
namespace Go.Proofs.YtfbekjgbijlcaaaDoor
open Go.RowKit Go.Proofs

theorem digit_u8 (_x : Int) (g : Bool) (d : Nat) (q : Int) (hq : q = (d : Int)) (h : d < 16) (w : World) : Calls Tryd.prog 33 #[.int .i64 q, .bool g] w fun e w' => e = .returned (.string ⟨#[IP.hexd g d]⟩) ∧ w = w' := by
  subst hq
  have := refdigit_any (d : Int) g w (by omega) (by omega)
  rw [Int.toNat_natCast] at this
  exact this
/-- The document's round: what is written so far. -/
structure RhI (w : World) (g sp : Bool) (M S : ByteArray) (F : Array Value) (wr : World) (o : ByteArray) (i : Nat) : Prop where
  txt : o.data.toList = IP.hexL g sp M.data.toList (S.data.toList.take i)
  blk : Blk wr w.heap.size F 28
  below : Below w.heap.size w wr
theorem RhI.len {w wr : World} {g sp : Bool} {M S o : ByteArray} {F : Array Value} {i : Nat} (h : RhI w g sp M S F wr o i) (hM : M.size ≤ 2) : o.size ≤ 5 * S.size := by
  have h1 := IP.hexL_len g sp M.data.toList (by rw [← Utf.size_eq]; exact hM) (S.data.toList.take i)
  have h2 : (S.data.toList.take i).length ≤ S.size := by rw [List.length_take, ← Utf.size_eq]; omega
  rw [Utf.size_eq, h.txt]
  omega
theorem RhI.step {w wr W : World} {g sp : Bool} {M S o : ByteArray} {F : Array Value} {i : Nat} (h : RhI w g sp M S F wr o i) (hi : i < S.size) (p : ByteArray)
    (hP : (if sp = true ∧ 0 < i then [32] else []) ++ (if sp = true ∨ i = 0 then M.data.toList else []) ++ IP.twoH g (S.data.toList[i]?.getD 0) = p.data.toList) (o' : ByteArray) (ho : o'.data.toList = o.data.toList ++ p.data.toList)
    (hW : W.heap = wr.heap) (hb : Below w.heap.size w W) : RhI w g sp M S F W o' (i + 1) := by
  refine ⟨?_, ?_, hb⟩
  · rw [hexL_take _ _ _ _ _ hi, hP, ho, h.txt]
  · have := h.blk
    unfold Blk at this ⊢
    rw [hW]
    exact this

set_option maxRecDepth 100000 in
set_option maxHeartbeats 1000000 in
theorem refhex_any (s : ByteArray) (pl mi sh sp ze : Bool) (wid prec verb : Int) (w : World) (hs : s.size ≤ 3000) (hw0 : -9223372036854775808 ≤ wid) (hw1 : wid ≤ 9223372036854775807) :
    Calls Tryd.prog 16 #[.string s, .agg #[.bool pl, .bool mi, .bool sh, .bool sp, .bool ze, .int .i64 wid, .int .i64 prec, .int .i32 verb]] w fun e w' => e = .returned (.string (padS ⟨(IP.hexS sh sp prec verb s.data.toList).toArray⟩ mi ze wid)) ∧ Below w.heap.size w w' := by
  obtain ⟨g, hg⟩ : ∃ g : Bool, decide (verb = 88) = g := ⟨_, rfl⟩
  obtain ⟨S, hS⟩ : ∃ S, preS prec s = S := ⟨_, rfl⟩
  have hSz : S.size ≤ 3000 := by have := preS_size prec s; rw [hS] at this; omega
  obtain ⟨M, hM⟩ : ∃ M : ByteArray, (⟨(IP.markH sh g).toArray⟩ : ByteArray) = M := ⟨_, rfl⟩
  have hMz : M.size ≤ 2 := by rw [← hM]; cases sh <;> cases g <;> decide
  have HRES := hid (show IP.hexS sh sp prec verb s.data.toList = IP.hexL g sp M.data.toList S.data.toList by
    unfold IP.hexS
    rw [hg, ← preS_list, hS, ← hM])
  have hverb : (verb = 88 ∧ g = true) ∨ ((verb == 88) = false ∧ g = false) := by
    by_cases h : verb = 88
    · exact Or.inl ⟨h, by rw [← hg]; exact decide_eq_true h⟩
    · exact Or.inr ⟨beq_eq_false_iff_ne.2 h, by rw [← hg]; exact decide_eq_false h⟩
  have HV := hid hverb
  have HS := hid hS
  have HM := hid hM
  obtain ⟨inr, hinr⟩ : ∃ b : Bool, decide (0 ≤ prec ∧ prec < s.size) = b := ⟨_, rfl⟩
  have HI := hid hinr
  have hB0 := Blk.new w (sp8 pl mi sh sp ze wid prec verb) 28
  have hb0 : Below w.heap.size w (w.alloc (.cells (sp8 pl mi sh sp ze wid prec verb) 28)) := (Below.refl _ _).alloc (Nat.le_refl _) _
  have HB := hid (And.intro hB0 hb0)
  clear hg hS hM hverb hinr hB0 hb0
  go_enter Tryd.func16, Tryd.ntmps16
  go_upto_region 1 with fail
  obtain ⟨W0, hW0⟩ : ∃ W0, w.alloc (.cells (sp8 pl mi sh sp ze wid prec verb) 28) = W0 := ⟨_, rfl⟩
  rw [hW0] at HB ⊢
  clear hW0
  obtain ⟨c0, c1, c2, c3, c4, c5, c6, c7⟩ := blk_cells _ _ _ _ _ _ _ _ HB.out.1
  go_cut [18] (fun v18 wn => v18 = .bool inr ∧ W0 = wn)
  case first =>
    rcases (show (prec < 0 ∧ inr = false) ∨ (0 ≤ prec ∧ prec < s.size ∧ inr = true) ∨ (0 ≤ prec ∧ (s.size : Int) ≤ prec ∧ inr = false) by
      have h := HI.out
      by_cases h1 : prec < 0
      · exact Or.inl ⟨h1, by rw [← h]; exact decide_eq_false (by omega)⟩
      · by_cases h2 : prec < s.size
        · exact Or.inr (Or.inl ⟨by omega, h2, by rw [← h]; exact decide_eq_true (by omega)⟩)
        · exact Or.inr (Or.inr ⟨by omega, by omega, by rw [← h]; exact decide_eq_false (by omega)⟩)) with ⟨h1, rfl⟩ | ⟨h1, h2, rfl⟩ | ⟨h1, h2, rfl⟩
    · go_wp2_with fail
      go_meet
      exact ⟨rfl, rfl⟩
    · go_wp2_with fail
      go_meet
      exact ⟨rfl, rfl⟩
    · have hdf : decide (prec < (s.size : Int)) = false := decide_eq_false (by omega)
      go_wp2_with fail
      go_meet
      exact ⟨rfl, rfl⟩
  case rest =>
    obtain ⟨rfl, rfl⟩ := hcut
    go_upto_if 18 with fail
    go_cut [0] (fun v0 wn => v0 = .string S ∧ W0 = wn)
    case first =>
      cases inr
      · have h := HS.out
        unfold preS at h
        rw [if_neg (of_decide_eq_false HI.out)] at h
        subst h
        go_wp2_with fail
        go_meet
        exact ⟨rfl, rfl⟩
      · have h := HS.out
        have hi := of_decide_eq_true HI.out
        unfold preS at h
        rw [if_pos hi] at h
        obtain ⟨h1, h2⟩ := hi
        go_wp2_with fail
        go_meet
        exact ⟨rfl, rfl⟩
    case rest =>
      obtain ⟨rfl, rfl⟩ := hcut
      go_upto_region 3 with fail
      go_cut [5] (fun v5 wn => v5 = .bool g ∧ W0 = wn)
      case first =>
        rcases HV.out with ⟨rfl, rfl⟩ | ⟨hv, rfl⟩
        · go_wp2_with fail
          go_meet
          exact ⟨rfl, rfl⟩
        · go_wp2_with fail
          go_meet
          exact ⟨rfl, rfl⟩
      case rest =>
        obtain ⟨rfl, rfl⟩ := hcut
        go_upto_if 27 with fail
        go_cut [6] (fun v6 wn => v6 = .string M ∧ W0 = wn)
        case first =>
          cases sh
          · have h := HM.out
            subst h
            go_wp2_with fail
            go_meet
            exact ⟨rfl, rfl⟩
          · cases g
            · have h := HM.out
              subst h
              go_wp2_with fail
              go_meet
              exact ⟨rfl, rfl⟩
            · have h := HM.out
              subst h
              go_wp2_with fail
              go_meet
              exact ⟨rfl, rfl⟩
        case rest =>
          obtain ⟨rfl, rfl⟩ := hcut
          have H0 := hid (show RhI w g sp M S (sp8 pl mi sh sp ze wid prec verb) W0 ⟨#[]⟩ 0 from ⟨by simp [IP.hexL], HB.out.1, HB.out.2⟩)
          clear c0 c1 c2 c3 c4 c5 c6 c7
          go_wp2_with fail
          go_loopw [7, 8] (fun ov iv wr => ∃ (o : ByteArray) (i : Nat), ov = .string o ∧ iv = .int .i64 i ∧ i ≤ S.size ∧ Hid (RhI w g sp M S (sp8 pl mi sh sp ze wid prec verb) wr o i)) (fun _ iv _ => S.size - (intOf iv).toNat)
          case atStart => exact ⟨⟨#[]⟩, 0, rfl, rfl, Nat.zero_le _, H0.out⟩
          case round =>
            obtain ⟨o, i, rfl, rfl, hi, hI⟩ := hrel
            obtain ⟨c0, c1, c2, c3, c4, c5, c6, c7⟩ := blk_cells _ _ _ _ _ _ _ _ hI.out.blk
            have hoz := hI.out.len hMz
            by_cases hlt : i < S.size
            · have E0 := bt_at S i hlt
              have hbb := bt_bound S i
              have hxx : Hid ((S.data.toList[i]?.getD 0).toNat = (bt S i).toNat) := by unfold bt Hid; rw [Int.toNat_natCast]
              obtain ⟨x, hx⟩ : ∃ x, bt S i = x := ⟨_, rfl⟩
              rw [hx] at E0 hbb hxx
              obtain ⟨hx0, hx1⟩ := hbb
              obtain ⟨up, hhi⟩ : ∃ q : Nat, x.toNat / 16 = q := ⟨_, rfl⟩
              obtain ⟨lo, hlo⟩ : ∃ q : Nat, x.toNat % 16 = q := ⟨_, rfl⟩
              have hq : x / 16 = (up : Int) := by omega
              have hr : x % 16 = (lo : Int) := by omega
              have h16 : up < 16 := by omega
              have l16 : lo < 16 := by omega
              have hwx : IntKind.i64.wrap x = x := IntWalk.i64_in _ (by omega)
              have hqt : x.tdiv 16 = (up : Int) := by rw [Int.tdiv_eq_ediv_of_nonneg hx0]; exact hq
              have hrt : x.tmod 16 = (lo : Int) := by rw [Int.tmod_eq_emod_of_nonneg hx0]; exact hr
              have hwq : IntKind.i64.wrap (up : Int) = (up : Int) := IntWalk.i64_in _ (by omega)
              have hwr : IntKind.i64.wrap (lo : Int) = (lo : Int) := IntWalk.i64_in _ (by omega)
              have HTW : Hid (IP.twoH g (S.data.toList[i]?.getD 0) = [IP.hexd g up, IP.hexd g lo]) := by
                unfold IP.twoH Hid
                rw [hxx.out, hhi, hlo]
              obtain ⟨A, hA⟩ : ∃ A : ByteArray, (⟨#[IP.hexd g up]⟩ : ByteArray) = A := ⟨_, rfl⟩
              obtain ⟨B, hB⟩ : ∃ B : ByteArray, (⟨#[IP.hexd g lo]⟩ : ByteArray) = B := ⟨_, rfl⟩
              have D1 := hid (fun W => digit_u8 x g up _ rfl h16 W)
              have D2 := hid (fun W => digit_u8 x g lo _ rfl l16 W)
              rw [hA] at D1
              rw [hB] at D2
              have hAz : A.size = 1 := by rw [← hA]; rfl
              have hBz : B.size = 1 := by rw [← hB]; rfl
              have HAB := hid (And.intro hA hB)
              clear hhi hlo hx hA hB hxx
              cases sp
              · by_cases h0 : i = 0
                · subst h0
                  go_upto_region 17 with fail
                  obtain ⟨o2, ho2⟩ : ∃ o2, o ++ M = o2 := ⟨_, rfl⟩
                  have hz2 : o2.size ≤ 20000 := by
                    rw [← ho2]
                    simp only [ByteArray.size_append]
                    skip
                    omega
                  rw [ho2]
                  have HO2 := hid ho2
                  clear ho2
                  have zz : ¬ 9223372036854775807 < o2.size + 2 := by omega
                  go_quiet ((go_at_call 33; first | (with_reducible exact Calls.quiet_of_same ((D1.out _).mono fun _ _ h => ⟨h.1, h.2.symm⟩)) | (with_reducible exact Calls.quiet_of_same ((D2.out _).mono fun _ _ h => ⟨h.1, h.2.symm⟩))))
                  have N := hid (fun (W : World) (hW : W.heap = wr.heap) hb => hI.out.step hlt (M ++ (A ++ B)) (by rw [HTW.out, ← HAB.out.1, ← HAB.out.2]; simp) (o2 ++ (A ++ B)) (by rw [← HO2.out]; simp) hW hb)
                  go_wp2_with fail
                  go_roundw
                  case rel => exact ⟨_, 1, rfl, by go_num, by omega, N.out _ rfl (below_drewN hI.out.below _)⟩
                  case measure => simp [intOf]; omega
                · have h0i : 0 < (i : Int) := by omega
                  have h0b : ((i : Int) == 0) = false := beq_eq_false_iff_ne.2 (by omega)
                  go_upto_region 17 with fail
                  have zz : ¬ 9223372036854775807 < o.size + 2 := by omega
                  go_quiet ((go_at_call 33; first | (with_reducible exact Calls.quiet_of_same ((D1.out _).mono fun _ _ h => ⟨h.1, h.2.symm⟩)) | (with_reducible exact Calls.quiet_of_same ((D2.out _).mono fun _ _ h => ⟨h.1, h.2.symm⟩))))
                  have N := hid (fun (W : World) (hW : W.heap = wr.heap) hb => hI.out.step hlt (A ++ B) (by rw [HTW.out, ← HAB.out.1, ← HAB.out.2]; simp [h0]) (o ++ (A ++ B)) (by simp) hW hb)
                  go_wp2_with fail
                  go_roundw
                  case rel => exact ⟨_, i + 1, rfl, by go_num, by omega, N.out _ rfl (below_drewN hI.out.below _)⟩
                  case measure => simp [intOf]; omega
              · by_cases h0 : i = 0
                · subst h0
                  go_upto_region 17 with fail
                  obtain ⟨o2, ho2⟩ : ∃ o2, o ++ M = o2 := ⟨_, rfl⟩
                  have hz2 : o2.size ≤ 20000 := by
                    rw [← ho2]
                    simp only [ByteArray.size_append]
                    skip
                    omega
                  rw [ho2]
                  have HO2 := hid ho2
                  clear ho2
                  have zz : ¬ 9223372036854775807 < o2.size + 2 := by omega
                  go_quiet ((go_at_call 33; first | (with_reducible exact Calls.quiet_of_same ((D1.out _).mono fun _ _ h => ⟨h.1, h.2.symm⟩)) | (with_reducible exact Calls.quiet_of_same ((D2.out _).mono fun _ _ h => ⟨h.1, h.2.symm⟩))))
                  have N := hid (fun (W : World) (hW : W.heap = wr.heap) hb => hI.out.step hlt (M ++ (A ++ B)) (by rw [HTW.out, ← HAB.out.1, ← HAB.out.2]; simp) (o2 ++ (A ++ B)) (by rw [← HO2.out]; simp) hW hb)
                  go_wp2_with fail
                  go_roundw
                  case rel => exact ⟨_, 1, rfl, by go_num, by omega, N.out _ rfl (below_drewN hI.out.below _)⟩
                  case measure => simp [intOf]; omega
                · have h0i : 0 < (i : Int) := by omega
                  have h0b : ((i : Int) == 0) = false := beq_eq_false_iff_ne.2 (by omega)
                  go_upto_region 17 with fail
                  obtain ⟨o2, ho2⟩ : ∃ o2, o ++ (⟨#[32]⟩ ++ M) = o2 := ⟨_, rfl⟩
                  have hz2 : o2.size ≤ 20000 := by
                    rw [← ho2]
                    simp only [ByteArray.size_append]
                    show o.size + (1 + M.size) ≤ 20000
                    omega
                  rw [ho2]
                  have HO2 := hid ho2
                  clear ho2
                  have zz : ¬ 9223372036854775807 < o2.size + 2 := by omega
                  go_quiet ((go_at_call 33; first | (with_reducible exact Calls.quiet_of_same ((D1.out _).mono fun _ _ h => ⟨h.1, h.2.symm⟩)) | (with_reducible exact Calls.quiet_of_same ((D2.out _).mono fun _ _ h => ⟨h.1, h.2.symm⟩))))
                  have N := hid (fun (W : World) (hW : W.heap = wr.heap) hb => hI.out.step hlt ((⟨#[32]⟩ ++ M) ++ (A ++ B)) (by rw [HTW.out, ← HAB.out.1, ← HAB.out.2]; simp [show 0 < i by omega]) (o2 ++ (A ++ B)) (by rw [← HO2.out]; simp) hW hb)
                  go_wp2_with fail
                  go_roundw
                  case rel => exact ⟨_, i + 1, rfl, by go_num, by omega, N.out _ rfl (below_drewN hI.out.below _)⟩
                  case measure => simp [intOf]; omega
            · have hiS : i = S.size := by omega
              have hfin : (⟨(IP.hexS sh sp prec verb s.data.toList).toArray⟩ : ByteArray) = o := bytes_ext (by
                rw [hI.out.txt, HRES.out, List.take_of_length_le (by rw [← Utf.size_eq]; omega)])
              have HF := hid hfin
              have PD := hid (fun W => refpad_any o pl mi sh sp ze wid prec verb W (by omega) hw0 hw1)
              clear hfin
              go_wp2_with fail
              refine (PD.out _).mono ?_
              rintro e w1 ⟨rfl, b1⟩
              have B1 := hid (hI.out.below.trans (b1.mono hI.out.below.size))
              clear b1
              go_wp2_with fail
              go_ret
              exact ⟨by rw [HF.out]; rfl, B1.out⟩
end Go.Proofs.YtfbekjgbijlcaaaDoor
