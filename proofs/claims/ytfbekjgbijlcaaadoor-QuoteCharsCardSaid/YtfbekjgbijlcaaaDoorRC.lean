/-
  Walks of layer 2: the document's code point in quotes.
-/
import Derived.Test.YtfbekjgbijlcaaaDoorQ5
namespace Go.Proofs.YtfbekjgbijlcaaaDoor
open Go.RowKit Go.Proofs

theorem rchar_any (c : Int) (ascii : Bool) (w : World) (hc0 : -2147483648 ≤ c) (hc1 : c ≤ 2147483647) :
    Calls Tryd.prog 23 #[.int .i32 c, .bool ascii] w fun e w' => e = .returned (.string ⟨(IP.charL c ascii).toArray⟩) ∧ Below w.heap.size w w' := by
  obtain ⟨cp, hcp⟩ : ∃ cp : Int, (Utf.cp c : Int) = cp := ⟨_, rfl⟩
  have hb := Utf.cp_bound c
  have hcp0 : 0 ≤ cp ∧ cp ≤ 1114111 := by omega
  obtain ⟨hcp0, hcp1⟩ := hcp0
  have hch : IP.charL c ascii = 39 :: (IP.inL cp 39 ascii ++ [39]) := by unfold IP.charL; rw [hcp]
  rw [hch]
  have hlen := IP.inL_len cp 39 ascii
  have IN := hid (fun W => refin_any cp 39 ascii W hcp0 hcp1 (by decide) (by decide))
  have PT := hid (fun W => point_any c W)
  obtain ⟨L, hL⟩ : ∃ L, IP.inL cp 39 ascii = L := ⟨_, rfl⟩
  rw [hL] at hlen IN ⊢
  obtain ⟨T, hT⟩ : ∃ T : ByteArray, ⟨L.toArray⟩ = T := ⟨_, rfl⟩
  rw [hT] at IN
  have hTs : T.size ≤ 10 := by rw [← hT]; simpa [ByteArray.size] using hlen.2
  have hfin : cp = if Utf8.valid c then c else 65533 := by
    cases hv : Utf8.valid c
    · rw [← hcp]; unfold Utf.cp; rw [hv]; rfl
    · rw [← hcp, Utf.cp_of_valid hv]; rfl
  have hres : (⟨#[39]⟩ : ByteArray) ++ T ++ ⟨#[39]⟩ = ⟨(39 :: (L ++ [39])).toArray⟩ := bytes_ext (by rw [← hT]; simp)
  have HR := hid hres
  clear hch hL hb hcp hT hlen hres
  cases hv : Utf8.valid c
  all_goals
    rw [hv] at hfin PT
    simp only [if_true, Bool.false_eq_true, if_false] at hfin
    subst hfin
    clear hv
    go_enter Tryd.func23, Tryd.ntmps23
    go_wp2_with fail
    refine (PT.out _).mono ?_
    rintro e w' ⟨rfl, rfl⟩
    go_wp2_with fail
    refine (IN.out _).mono ?_
    rintro e w1 ⟨rfl, hb⟩
    have HB := hid hb
    clear hb
    go_wp2_with fail
    go_ret
    exact ⟨by rw [← HR.out]; rfl, HB.out⟩
end Go.Proofs.YtfbekjgbijlcaaaDoor
