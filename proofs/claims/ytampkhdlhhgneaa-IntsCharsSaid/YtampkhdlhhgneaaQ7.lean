/-
  Walks of layer 3: a number by any verb.
-/
import Derived.Test.YtampkhdlhhgneaaQ6
import Derived.StillTailTactics
import Derived.Deep.RegionHeld3
namespace Go.Proofs.Ytampkhdlhhgneaa
open Go.RowKit Go.Proofs

def basedS (neg : Bool) (n b : Nat) (g : Bool) (mark : List UInt8) (pl mi sp ze : Bool) (wid prec : Int) : ByteArray := padS ⟨(IP.bodyL neg n b g mark pl mi sp ze wid prec).toArray⟩ mi false wid
/-- What is written of a number by any verb; none: the verb is refused. -/
def writeS (neg uns : Bool) (n bits : Nat) (pl mi sh sp ze : Bool) (wid prec verb : Int) : Option ByteArray :=
  if verb = 99 then some (padS (Utf8.encode (IP.pointI bits)) mi ze wid)
  else if verb = 113 then some (padS ⟨(IP.charL (IP.pointI bits) pl).toArray⟩ mi ze wid)
  else if verb = 85 then some (padS ⟨(IP.uniL bits sh prec).toArray⟩ mi false wid)
  else if verb = 118 ∧ uns = true ∧ sh = true then some (basedS neg n 16 false [48, 120] pl mi sp ze wid prec)
  else match IP.baseOf verb with
    | none => none
    | some (b, m, al, g) => some (basedS neg n b g (if al || sh then m else []) pl mi sp ze wid prec)
/-- A text and whether there is one. -/
def tupS : Option ByteArray → Value
  | none => .tuple #[.string ⟨#[]⟩, .bool false]
  | some s => .tuple #[.string s, .bool true]

theorem sharp_any (pl mi sh sp ze : Bool) (wid prec verb : Int) (m : ByteArray) (w : World) : Calls Try.prog 32 #[.agg #[.bool pl, .bool mi, .bool sh, .bool sp, .bool ze, .int .i64 wid, .int .i64 prec, .int .i32 verb], .string m] w fun e w' => e = .returned (.string (if sh then m else ⟨#[]⟩)) ∧ Below w.heap.size w w' := by
  cases sh
  all_goals
    go_enter Try.func32, Try.ntmps32
    go_wp2_with fail
    go_ret
    exact ⟨rfl, (Below.refl _ _).alloc (Nat.le_refl _) _⟩
theorem ipoint_any (neg uns : Bool) (n bits : Int) (w : World) (h0 : 0 ≤ bits) (h1 : bits ≤ 18446744073709551615) : Calls Try.prog 35 #[whole neg n bits uns] w fun e w' => e = .returned (.int .i32 (IP.pointI bits.toNat)) ∧ Below w.heap.size w w' := by
  by_cases h : 1114111 < bits
  · have hr : IP.pointI bits.toNat = 65533 := by unfold IP.pointI; rw [if_pos (by omega)]
    rw [hr]
    clear hr
    go_enter Try.func35, Try.ntmps35
    go_wp2_with fail
    go_ret
    exact ⟨rfl, (Below.refl _ _).alloc (Nat.le_refl _) _⟩
  · have hr : IP.pointI bits.toNat = bits := by unfold IP.pointI; rw [if_neg (by omega)]; omega
    rw [hr]
    clear hr
    go_enter Try.func35, Try.ntmps35
    go_wp2_with fail
    go_ret
    exact ⟨rfl, (Below.refl _ _).alloc (Nat.le_refl _) _⟩
set_option maxRecDepth 100000 in
set_option maxHeartbeats 2000000 in
theorem unicode_any (neg uns : Bool) (n bits : Int) (pl mi sh sp ze : Bool) (wid prec verb : Int) (w : World) (h0 : 0 ≤ bits) (h1 : bits ≤ 18446744073709551615) (hw0 : -9223372036854775808 ≤ wid) (hw1 : wid ≤ 9223372036854775807) :
    Calls Try.prog 37 #[whole neg n bits uns, .agg #[.bool pl, .bool mi, .bool sh, .bool sp, .bool ze, .int .i64 wid, .int .i64 prec, .int .i32 verb]] w fun e w' => e = .returned (.string (padS ⟨(IP.uniL bits.toNat sh prec).toArray⟩ mi false wid)) ∧ Below w.heap.size w w' := by
  obtain ⟨P, hP⟩ : ∃ P, IP.limI prec = P := ⟨_, rfl⟩
  have hPb : -1 ≤ P ∧ P ≤ 1000 := by rw [← hP]; unfold IP.limI; omega
  obtain ⟨hPb0, hPb1⟩ := hPb
  have LP := hid (fun W => limit_any prec W)
  rw [hP] at LP
  have DG := hid (fun W => digits_any bits 16 true W h0 h1 (by decide) (by decide))
  have hdl := IP.dgb_len64 16 true (by decide) bits.toNat (by omega)
  obtain ⟨D, hD⟩ : ∃ D : ByteArray, ⟨(IP.dgb (16 : Int).toNat true bits.toNat).toArray⟩ = D := ⟨_, rfl⟩
  rw [hD] at DG
  have hDs : D.size ≤ 64 := by rw [← hD]; simpa [ByteArray.size] using hdl
  obtain ⟨Q, hQ⟩ : ∃ Q, max 4 P = Q := ⟨_, rfl⟩
  have hQb : 4 ≤ Q ∧ Q ≤ 1000 := by omega
  obtain ⟨hQ0, hQ1⟩ := hQb
  have FI := hid (fun W => fill_any 48 (Q - D.size) W (by omega) (by omega))
  have hfs := fillS_size 48 (Q - D.size)
  have RU := hid (fun W => rune_any bits W)
  have PL := hid (fun W => qplain_any bits W)
  obtain ⟨U, hU⟩ : ∃ U : ByteArray, (⟨#[85, 43]⟩ : ByteArray) ++ fillS 48 (Q - D.size) ++ D = U := ⟨_, rfl⟩
  have hUs : U.size ≤ 1066 := by
    rw [← hU, ByteArray.size_append, ByteArray.size_append]
    show 2 + _ + _ ≤ 1066
    omega
  have hUl : U.data.toList = [85, 43] ++ IP.zerosTo (max 4 (IP.limI prec)) (IP.dgb 16 true bits.toNat) := by
    rw [← hU, hP, hQ]
    have hf := fill_zeros Q D hQ1
    rw [ByteArray.append_assoc, hf]
    simp only [ByteArray.data_append, Array.toList_append]
    rw [← hD]
    rfl
  have HU := hid (And.intro hU (And.intro hUl hQ))
  have S0 := hid (bs_start w (wh4 neg n bits uns) (sp8 pl mi sh sp ze wid prec verb))
  clear hD hP hU hUl hQ hdl
  go_enter Try.func37, Try.ntmps37
  go_upto_region 1 with fail
  obtain ⟨W0, hW0⟩ : ∃ W0, (w.alloc (.cells (wh4 neg n bits uns) 47)).alloc (.cells (sp8 pl mi sh sp ze wid prec verb) 27) = W0 := ⟨_, rfl⟩
  obtain ⟨H, hH⟩ : ∃ H, w.heap.size = H := ⟨_, rfl⟩
  have HH := hid hH
  rw [hW0] at S0 ⊢
  rw [hH] at S0 ⊢
  clear hW0 hH
  obtain ⟨c0, c1, c2, c3, s0, s1, s2, s3, s4, s5, s6, s7, sf⟩ := S0.out.cells
  go_wp2_with fail
  refine (DG.out _).mono ?_
  rintro e w1 ⟨rfl, hb1⟩
  have S1 := hid (S0.out.kept hb1)
  clear hb1 c0 c1 c2 c3 s0 s1 s2 s3 s4 s5 s6 s7 sf
  obtain ⟨c0, c1, c2, c3, s0, s1, s2, s3, s4, s5, s6, s7, sf⟩ := S1.out.cells
  go_wp2_with fail
  refine (LP.out _).mono ?_
  rintro e w' ⟨rfl, rfl⟩
  go_wp2_with fail
  rw [HU.out.2.2]
  refine (FI.out _).mono ?_
  rintro e w2 ⟨rfl, hb2⟩
  have S2 := hid (S1.out.kept hb2)
  clear hb2 c0 c1 c2 c3 s0 s1 s2 s3 s4 s5 s6 s7 sf
  obtain ⟨c0, c1, c2, c3, s0, s1, s2, s3, s4, s5, s6, s7, sf⟩ := S2.out.cells
  obtain ⟨zf, hzf⟩ : ∃ zf : Bool, (sh && decide (bits ≤ 1114111) && IP.plainB bits) = zf := ⟨_, rfl⟩
  have HZ := hid hzf
  clear hzf
  go_upto_region 3 with fail
  rw [HU.out.1]
  go_cut [33] (fun v33 wn => v33 = .bool zf ∧ wn = w2)
  case first =>
    cases sh
    · have e : zf = false := HZ.out.symm
      subst e
      go_wp2_with fail
      go_meet
      exact ⟨rfl, rfl⟩
    · by_cases hbb : bits ≤ 1114111
      · have e : zf = IP.plainB bits := by rw [← HZ.out, decide_eq_true hbb]; rfl
        subst e
        go_wp2_with fail
        refine (PL.out _).mono ?_
        rintro e w' ⟨rfl, rfl⟩
        go_wp2_with fail
        go_meet
        exact ⟨rfl, rfl⟩
      · have e : zf = false := by rw [← HZ.out, decide_eq_false hbb]; rfl
        subst e
        go_wp2_with fail
        go_meet
        exact ⟨rfl, rfl⟩
  case rest =>
    obtain ⟨rfl, rfl⟩ := hcut
    obtain ⟨V, hV⟩ : ∃ V : ByteArray, (if zf then U ++ ((⟨#[32, 39]⟩ : ByteArray) ++ Utf8.encode bits ++ ⟨#[39]⟩) else U) = V := ⟨_, rfl⟩
    have hes : (Utf8.encode bits).size ≤ 4 := by
      rw [Utf.size_eq]
      exact (Utf.encL_pos bits).2
    have hVs : V.size ≤ 2000 := by
      rw [← hV]
      cases zf
      · show U.size ≤ 2000; omega
      · show (U ++ _).size ≤ 2000
        rw [ByteArray.size_append, ByteArray.size_append, ByteArray.size_append]
        show U.size + (2 + _ + 1) ≤ 2000
        omega
    have hVl : V.data.toList = IP.uniL bits.toNat sh prec := by
      have hbn : (bits.toNat : Int) = bits := by omega
      unfold IP.uniL
      rw [← hV, ← HU.out.2.1, hbn]
      by_cases hc : sh = true ∧ bits.toNat ≤ 1114111 ∧ IP.plainB bits = true
      · have e : zf = true := by rw [← HZ.out, hc.1, hc.2.2, decide_eq_true (show bits ≤ 1114111 by omega)]; rfl
        rw [if_pos hc, if_pos e]
        simp only [ByteArray.data_append, Array.toList_append, Utf.encL]
      · have e : ¬ zf = true := by
          intro e
          rw [← HZ.out] at e
          simp only [Bool.and_eq_true, decide_eq_true_eq] at e
          exact hc ⟨e.1.1, by omega, e.2⟩
        rw [if_neg hc, if_neg e, List.append_nil]
    have HV := hid (And.intro hV hVl)
    clear hV hVl
    go_upto_if 33 with fail
    go_cut [6] (fun v6 wn => v6 = .string V ∧ wn = wc)
    case first =>
      cases zf
      · have e : V = U := HV.out.1.symm
        subst e
        go_wp2_with fail
        go_meet
        exact ⟨rfl, rfl⟩
      · have hbb : bits ≤ 1114111 := by
          have e := HZ.out
          simp only [Bool.and_eq_true, decide_eq_true_eq] at e
          exact e.1.2
        go_wp2_with fail
        refine (RU.out _).mono ?_
        rintro e w' ⟨rfl, rfl⟩
        go_wp2_with fail
        go_meet
        exact ⟨by rw [← HV.out.1]; rfl, rfl⟩
    case rest =>
      obtain ⟨rfl, rfl⟩ := hcut
      have PAD := hid (fun W => pad_any V pl mi sh sp false wid prec verb W (by omega) hw0 hw1)
      have BF := hid (S2.out.below.setCell (p := ⟨H + 1, 4, none⟩) (by rw [HH.out]; exact Nat.le_succ _) (.bool false))
      go_wp2_with fail
      refine (PAD.out _).mono ?_
      rintro e w9 ⟨rfl, hb9⟩
      have HB9 := hid hb9
      have hfin : (⟨(IP.uniL bits.toNat sh prec).toArray⟩ : ByteArray) = V := bytes_ext (by rw [HV.out.2])
      have HFIN := hid hfin
      clear hb9 hfin
      go_wp2_with fail
      go_ret
      exact ⟨by rw [HFIN.out]; rfl, BF.out.trans (HB9.out.mono BF.out.size)⟩
end Go.Proofs.Ytampkhdlhhgneaa
