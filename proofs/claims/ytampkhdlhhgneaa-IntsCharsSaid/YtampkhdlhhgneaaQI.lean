/-
  Walks of layer 3: the document's quotes, verbs, and blanks.
-/
import Derived.Test.YtampkhdlhhgneaaQH
import Derived.Test.YtampkhdlhhgneaaQB
namespace Go.Proofs.Ytampkhdlhhgneaa
open Go.RowKit Go.Proofs

theorem rpadplain_any (s : ByteArray) (pl mi sh sp ze : Bool) (wid prec verb : Int) (w : World) (hs : s.size ≤ 140737488355328) (hw0 : -9223372036854775808 ≤ wid) (hw1 : wid ≤ 9223372036854775807) :
    Calls Try.prog 46 #[.string s, .agg #[.bool pl, .bool mi, .bool sh, .bool sp, .bool ze, .int .i64 wid, .int .i64 prec, .int .i32 verb]] w fun e w' => e = .returned (.string (padS s mi false wid)) ∧ Below w.heap.size w w' := by
  have PD := hid (fun W => refpad_any s pl mi sh sp false wid prec verb W hs hw0 hw1)
  obtain ⟨r, hr⟩ : ∃ r, padS s mi false wid = r := ⟨_, rfl⟩
  rw [hr] at PD ⊢
  clear hr
  go_enter Try.func46, Try.ntmps46
  go_wp2_with fail
  refine (PD.out _).mono ?_
  rintro e w1 ⟨rfl, hb⟩
  have HB := hid (((Below.refl w.heap.size w).alloc (Nat.le_refl _) _).trans (hb.mono (by simp)))
  clear hb
  go_wp2_with fail
  go_ret
  exact ⟨rfl, HB.out⟩
theorem rchar_any (c : Int) (ascii : Bool) (w : World) (hc0 : -2147483648 ≤ c) (hc1 : c ≤ 2147483647) :
    Calls Try.prog 41 #[.int .i32 c, .bool ascii] w fun e w' => e = .returned (.string ⟨(IP.charL c ascii).toArray⟩) ∧ Below w.heap.size w w' := by
  obtain ⟨cp, hcp⟩ : ∃ cp : Int, (Utf.cp c : Int) = cp := ⟨_, rfl⟩
  have hb := Utf.cp_bound c
  have hcp0 : 0 ≤ cp ∧ cp ≤ 1114111 := by omega
  obtain ⟨hcp0, hcp1⟩ := hcp0
  have hch : IP.charL c ascii = 39 :: (IP.inL cp 39 ascii ++ [39]) := by unfold IP.charL; rw [hcp]
  rw [hch]
  have hlen := IP.inL_len cp 39 ascii
  have IN := hid (fun W => refin_any cp 39 ascii W hcp0 hcp1 (by decide) (by decide))
  have PT := hid (fun W => point_any c W)
  obtain ⟨L, hL⟩ : ∃ L, IP.inL cp 39 ascii = L := ⟨_, rfl⟩
  rw [hL] at hlen IN ⊢
  obtain ⟨T, hT⟩ : ∃ T : ByteArray, ⟨L.toArray⟩ = T := ⟨_, rfl⟩
  rw [hT] at IN
  have hTs : T.size ≤ 10 := by rw [← hT]; simpa [ByteArray.size] using hlen.2
  have hfin : cp = if Utf8.valid c then c else 65533 := by
    cases hv : Utf8.valid c
    · rw [← hcp]; unfold Utf.cp; rw [hv]; rfl
    · rw [← hcp, Utf.cp_of_valid hv]; rfl
  have hres : (⟨#[39]⟩ : ByteArray) ++ T ++ ⟨#[39]⟩ = ⟨(39 :: (L ++ [39])).toArray⟩ := bytes_ext (by rw [← hT]; simp)
  have HR := hid hres
  clear hch hL hb hcp hT hlen hres
  cases hv : Utf8.valid c
  all_goals
    rw [hv] at hfin PT
    simp only [if_true, Bool.false_eq_true, if_false] at hfin
    subst hfin
    clear hv
    go_enter Try.func41, Try.ntmps41
    go_wp2_with fail
    refine (PT.out _).mono ?_
    rintro e w' ⟨rfl, rfl⟩
    go_wp2_with fail
    refine (IN.out _).mono ?_
    rintro e w1 ⟨rfl, hb⟩
    have HB := hid hb
    clear hb
    go_wp2_with fail
    go_ret
    exact ⟨by rw [← HR.out]; rfl, HB.out⟩
/-- A verb's base (0: none), its mark, whether the mark is always there. -/
def basT (verb : Int) : Int × ByteArray × Bool :=
  if verb = 100 ∨ verb = 118 then (10, ⟨#[]⟩, false)
  else if verb = 98 then (2, ⟨#[48, 98]⟩, false)
  else if verb = 111 then (8, ⟨#[48]⟩, false)
  else if verb = 79 then (8, ⟨#[48, 111]⟩, true)
  else if verb = 120 then (16, ⟨#[48, 120]⟩, false)
  else if verb = 88 then (16, ⟨#[48, 88]⟩, false)
  else (0, ⟨#[]⟩, false)
set_option maxRecDepth 100000 in
theorem bases_any (verb : Int) (w : World) : Calls Try.prog 47 #[.int .i32 verb] w fun e w' => e = .returned (.tuple #[.int .i64 (basT verb).1, .string (basT verb).2.1, .bool (basT verb).2.2]) ∧ w = w' := by
  by_cases h1 : verb = 100
  · subst h1
    go_enter Try.func47, Try.ntmps47
    go_wp2_with fail
    go_ret3
    exact ⟨rfl, rfl⟩
  by_cases h2 : verb = 118
  · subst h2
    go_enter Try.func47, Try.ntmps47
    go_wp2_with fail
    go_ret3
    exact ⟨rfl, rfl⟩
  by_cases h3 : verb = 98
  · subst h3
    go_enter Try.func47, Try.ntmps47
    go_wp2_with fail
    go_ret3
    exact ⟨rfl, rfl⟩
  by_cases h4 : verb = 111
  · subst h4
    go_enter Try.func47, Try.ntmps47
    go_wp2_with fail
    go_ret3
    exact ⟨rfl, rfl⟩
  by_cases h5 : verb = 79
  · subst h5
    go_enter Try.func47, Try.ntmps47
    go_wp2_with fail
    go_ret3
    exact ⟨rfl, rfl⟩
  by_cases h6 : verb = 120
  · subst h6
    go_enter Try.func47, Try.ntmps47
    go_wp2_with fail
    go_ret3
    exact ⟨rfl, rfl⟩
  by_cases h7 : verb = 88
  · subst h7
    go_enter Try.func47, Try.ntmps47
    go_wp2_with fail
    go_ret3
    exact ⟨rfl, rfl⟩
  have hr : basT verb = (0, ⟨#[]⟩, false) := by
    unfold basT
    rw [if_neg (fun h => h.elim h1 h2), if_neg h3, if_neg h4, if_neg h5, if_neg h6, if_neg h7]
  rw [hr]
  have b1 : (verb == 100) = false := beq_eq_false_iff_ne.2 h1
  have b2 : (verb == 118) = false := beq_eq_false_iff_ne.2 h2
  have b3 : (verb == 98) = false := beq_eq_false_iff_ne.2 h3
  have b4 : (verb == 111) = false := beq_eq_false_iff_ne.2 h4
  have b5 : (verb == 79) = false := beq_eq_false_iff_ne.2 h5
  have b6 : (verb == 120) = false := beq_eq_false_iff_ne.2 h6
  have b7 : (verb == 88) = false := beq_eq_false_iff_ne.2 h7
  clear hr h1 h2 h3 h4 h5 h6 h7
  go_enter Try.func47, Try.ntmps47
  go_wp2_with fail
  go_ret3
  exact ⟨rfl, rfl⟩
end Go.Proofs.Ytampkhdlhhgneaa
