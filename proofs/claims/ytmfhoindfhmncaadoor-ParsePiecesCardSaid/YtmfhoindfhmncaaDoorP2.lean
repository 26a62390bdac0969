/-
  Walks of layer 9: flags, digits, numbers.
-/
import Derived.Test.YtmfhoindfhmncaaDoorP1
import Derived.Lib.ConvBytes
import Derived.Deep.LoopGhost
namespace Go.Proofs.YtmfhoindfhmncaaDoor
open Go.RowKit Go.Proofs

theorem ext_drop (t : ByteArray) (k : Nat) : (t.extract k t.size).data.toList = t.data.toList.drop k := by
  rw [Lib.extract_data]
  exact List.take_of_length_le (by rw [List.length_drop, ← Utf.size_eq]; omega)
theorem ext_take (t : ByteArray) (k : Nat) : (t.extract 0 k).data.toList = t.data.toList.take k := by
  rw [Lib.extract_data]; simp

/-- What the reader's text weighs: for a loop's measure. -/
def rdLen (w : World) (R : Nat) : Nat := match w.cell? ⟨R, 0, none⟩ with | some (.string t) => t.size | _ => 0
theorem rdLen_of {w : World} {R V : Nat} {t : ByteArray} (h : Rd w R V t) : rdLen w R = t.size := by
  have : w.cell? ⟨R, 0, none⟩ = some (.string t) := h.1.cell 0
  unfold rdLen
  rw [this]

/-- A piece under way: only its flags are told. -/
abbrev p0 (f : PP.Fl) : Array Value := #[.int .i64 2, .string ⟨#[]⟩, .bool f.pl, .bool f.mi, .bool f.sh, .bool f.sp, .bool f.ze, .int .i64 (-1), .int .i64 (-1), .int .i32 0, .int .i64 0, .int .i64 0, .int .i64 0, .int .i64 0, .int .i64 0, .int .i64 0, .int .i64 0, .int .i64 0, .int .i64 0, .int .i64 0]

theorem flL_eq (f : PP.Fl) (l : List UInt8) : PP.flL f l = match l with
    | [] => (f, [])
    | a :: t => match PP.flOn f a with
      | some g => PP.flL g t
      | none => (f, a :: t) := by
  cases l <;> rw [PP.flL] <;> rfl
theorem flL_on {f : PP.Fl} {t : ByteArray} {g : PP.Fl} (h : 0 < t.size) (hg : ∀ a : UInt8, (a.toNat : Int) = PP.pk t.data.toList → PP.flOn f a = some g) : PP.flL f t.data.toList = PP.flL g (t.extract 1 t.size).data.toList := by
  obtain ⟨a, r, e⟩ := list_of_pos h
  rw [ext_drop, flL_eq, e]
  simp only []
  rw [hg a (by rw [e]; rfl)]
  rfl
theorem flL_off {f : PP.Fl} {t : ByteArray} (h1 : PP.pk t.data.toList ≠ 43) (h2 : PP.pk t.data.toList ≠ 45) (h3 : PP.pk t.data.toList ≠ 35) (h4 : PP.pk t.data.toList ≠ 32) (h5 : PP.pk t.data.toList ≠ 48) : PP.flL f t.data.toList = (f, t.data.toList) := by
  rw [flL_eq]
  cases e : t.data.toList with
  | nil => rfl
  | cons a r =>
    have hk : PP.pk t.data.toList = (a.toNat : Int) := by rw [e]; rfl
    rw [hk] at h1 h2 h3 h4 h5
    simp only []
    unfold PP.flOn
    rw [if_neg (by omega), if_neg (by omega), if_neg (by omega), if_neg (by omega), if_neg (by omega)]
theorem pk_pos {t : ByteArray} (h : PP.pk t.data.toList ≠ 0) : 0 < t.size := by
  rcases Nat.eq_zero_or_pos t.size with e | e
  · exfalso
    apply h
    have e0 : t.data.toList = [] := List.eq_nil_of_length_eq_zero (by rw [← Utf.size_eq]; omega)
    rw [e0]; rfl
  · exact e
theorem pk_size (t : ByteArray) (h : 0 < t.size) : 1 ≤ t.size := h

set_option maxRecDepth 100000 in
set_option maxHeartbeats 4000000 in
theorem flags_any (B R V P : Nat) (t0 : ByteArray) (f0 : PP.Fl) (w : World) (h : Rd w R V t0) (hp : Blk w P (p0 f0) 40) (hBR : B ≤ R) (hBP : B ≤ P) (hRP : R ≠ P) (hVP : V ≠ P) :
    Calls Tryd.prog 26 #[.pointer (some ⟨R, 0, none⟩), .pointer (some ⟨P, 2, none⟩)] w fun e w' => e = .returned (.tuple #[]) ∧
      ∃ t, t.data.toList = (PP.flL f0 t0.data.toList).2 ∧ Rd w' R V t ∧ Blk w' P (p0 (PP.flL f0 t0.data.toList).1) 40 ∧ Below B w w' := by
  obtain ⟨F, hF⟩ : ∃ F, PP.flL f0 t0.data.toList = F := ⟨_, rfl⟩
  rw [hF]
  have HR := hid h
  have HP := hid hp
  have HF := hid hF
  clear h hp hF
  go_enter Tryd.func26, Tryd.ntmps26
  go_step3
  go_wp2_with fail
  go_step3
  go_wp2_with fail
  go_loopg [] t0.size (fun g wr => ∃ (t : ByteArray) (f : PP.Fl), t.size ≤ g ∧ Hid (Rd wr R V t ∧ Blk wr P (p0 f) 40 ∧ PP.flL f t.data.toList = F) ∧ Below B w wr)
  case atStart => exact ⟨t0, f0, Nat.le_refl _, ⟨HR.out, HP.out, HF.out⟩, Below.refl _ _⟩
  case round =>
    obtain ⟨t, f, hg, hrel, hb⟩ := hrel
    have hr0 : wr.cell? ⟨R, 0, none⟩ = some (.string t) := hrel.out.1.1.cell 0
    have hr1 : wr.cell? ⟨R, 1, none⟩ = some (clo V) := hrel.out.1.1.cell 1
    have hp2 : wr.cell? ⟨P, 2, none⟩ = some (.bool f.pl) := hrel.out.2.1.cell 2
    have hp3 : wr.cell? ⟨P, 3, none⟩ = some (.bool f.mi) := hrel.out.2.1.cell 3
    have hp4 : wr.cell? ⟨P, 4, none⟩ = some (.bool f.sh) := hrel.out.2.1.cell 4
    have hp5 : wr.cell? ⟨P, 5, none⟩ = some (.bool f.sp) := hrel.out.2.1.cell 5
    have hp6 : wr.cell? ⟨P, 6, none⟩ = some (.bool f.ze) := hrel.out.2.1.cell 6
    have hfp : ∀ i, wr.frozen? ⟨P, i, none⟩ = false := hrel.out.2.1.frozen
    have hfr : ∀ i, wr.frozen? ⟨R, i, none⟩ = false := hrel.out.1.1.frozen
    have hpk := peek_any R V t wr hrel.out.1
    by_cases h43 : PP.pk t.data.toList = 43
    · have hpos : 0 < t.size := pk_pos (by omega)
      have hon : Hid (PP.flL f t.data.toList = PP.flL { f with pl := true } (t.extract 1 t.size).data.toList) := flL_on hpos (fun a ha => by
        rw [h43] at ha
        unfold PP.flOn
        rw [if_pos (by omega)])
      rw [h43] at hpk
      have HPK := hid hpk
      clear hpk h43
      obtain ⟨t', ht'⟩ : ∃ t', t.extract 1 t.size = t' := ⟨_, rfl⟩
      go_wp2_with fail
      refine HPK.out.mono ?_
      rintro e w' ⟨rfl, rfl⟩
      go_wp2_with fail
      subst ht'
      go_roundg (gk - 1)
      case measure => omega
      case rel => exact ⟨_, { f with pl := true }, by simp; omega, ⟨(hrel.out.1.far (by simpa using hRP) (by simpa using hVP) _).put _, (hrel.out.2.1.set_ 2 _).far (by simpa using hRP.symm) _, hon.out ▸ hrel.out.2.2⟩, (hb.setCell hBP _).setCell hBR _⟩
    by_cases h45 : PP.pk t.data.toList = 45
    · have hpos : 0 < t.size := pk_pos (by omega)
      have hon : Hid (PP.flL f t.data.toList = PP.flL { f with mi := true } (t.extract 1 t.size).data.toList) := flL_on hpos (fun a ha => by
        rw [h45] at ha
        unfold PP.flOn
        rw [if_neg (by omega)]; rw [if_pos (by omega)])
      rw [h45] at hpk
      have HPK := hid hpk
      clear hpk h43 h45
      obtain ⟨t', ht'⟩ : ∃ t', t.extract 1 t.size = t' := ⟨_, rfl⟩
      go_wp2_with fail
      refine HPK.out.mono ?_
      rintro e w' ⟨rfl, rfl⟩
      go_wp2_with fail
      subst ht'
      go_roundg (gk - 1)
      case measure => omega
      case rel => exact ⟨_, { f with mi := true }, by simp; omega, ⟨(hrel.out.1.far (by simpa using hRP) (by simpa using hVP) _).put _, (hrel.out.2.1.set_ 3 _).far (by simpa using hRP.symm) _, hon.out ▸ hrel.out.2.2⟩, (hb.setCell hBP _).setCell hBR _⟩
    by_cases h35 : PP.pk t.data.toList = 35
    · have hpos : 0 < t.size := pk_pos (by omega)
      have hon : Hid (PP.flL f t.data.toList = PP.flL { f with sh := true } (t.extract 1 t.size).data.toList) := flL_on hpos (fun a ha => by
        rw [h35] at ha
        unfold PP.flOn
        rw [if_neg (by omega)]; rw [if_neg (by omega)]; rw [if_pos (by omega)])
      rw [h35] at hpk
      have HPK := hid hpk
      clear hpk h43 h45 h35
      obtain ⟨t', ht'⟩ : ∃ t', t.extract 1 t.size = t' := ⟨_, rfl⟩
      go_wp2_with fail
      refine HPK.out.mono ?_
      rintro e w' ⟨rfl, rfl⟩
      go_wp2_with fail
      subst ht'
      go_roundg (gk - 1)
      case measure => omega
      case rel => exact ⟨_, { f with sh := true }, by simp; omega, ⟨(hrel.out.1.far (by simpa using hRP) (by simpa using hVP) _).put _, (hrel.out.2.1.set_ 4 _).far (by simpa using hRP.symm) _, hon.out ▸ hrel.out.2.2⟩, (hb.setCell hBP _).setCell hBR _⟩
    by_cases h32 : PP.pk t.data.toList = 32
    · have hpos : 0 < t.size := pk_pos (by omega)
      have hon : Hid (PP.flL f t.data.toList = PP.flL { f with sp := true } (t.extract 1 t.size).data.toList) := flL_on hpos (fun a ha => by
        rw [h32] at ha
        unfold PP.flOn
        rw [if_neg (by omega)]; rw [if_neg (by omega)]; rw [if_neg (by omega)]; rw [if_pos (by omega)])
      rw [h32] at hpk
      have HPK := hid hpk
      clear hpk h43 h45 h35 h32
      obtain ⟨t', ht'⟩ : ∃ t', t.extract 1 t.size = t' := ⟨_, rfl⟩
      go_wp2_with fail
      refine HPK.out.mono ?_
      rintro e w' ⟨rfl, rfl⟩
      go_wp2_with fail
      subst ht'
      go_roundg (gk - 1)
      case measure => omega
      case rel => exact ⟨_, { f with sp := true }, by simp; omega, ⟨(hrel.out.1.far (by simpa using hRP) (by simpa using hVP) _).put _, (hrel.out.2.1.set_ 5 _).far (by simpa using hRP.symm) _, hon.out ▸ hrel.out.2.2⟩, (hb.setCell hBP _).setCell hBR _⟩
    by_cases h48 : PP.pk t.data.toList = 48
    · have hpos : 0 < t.size := pk_pos (by omega)
      have hon : Hid (PP.flL f t.data.toList = PP.flL { f with ze := true } (t.extract 1 t.size).data.toList) := flL_on hpos (fun a ha => by
        rw [h48] at ha
        unfold PP.flOn
        rw [if_neg (by omega)]; rw [if_neg (by omega)]; rw [if_neg (by omega)]; rw [if_neg (by omega)]; rw [if_pos (by omega)])
      rw [h48] at hpk
      have HPK := hid hpk
      clear hpk h43 h45 h35 h32 h48
      obtain ⟨t', ht'⟩ : ∃ t', t.extract 1 t.size = t' := ⟨_, rfl⟩
      go_wp2_with fail
      refine HPK.out.mono ?_
      rintro e w' ⟨rfl, rfl⟩
      go_wp2_with fail
      subst ht'
      go_roundg (gk - 1)
      case measure => omega
      case rel => exact ⟨_, { f with ze := true }, by simp; omega, ⟨(hrel.out.1.far (by simpa using hRP) (by simpa using hVP) _).put _, (hrel.out.2.1.set_ 6 _).far (by simpa using hRP.symm) _, hon.out ▸ hrel.out.2.2⟩, (hb.setCell hBP _).setCell hBR _⟩
    have hoff := hid (flL_off (f := f) h43 h45 h35 h32 h48)
    obtain ⟨c, hc⟩ : ∃ c, PP.pk t.data.toList = c := ⟨_, rfl⟩
    rw [hc] at hpk h43 h45 h35 h32 h48
    have HPK := hid hpk
    clear hpk
    go_wp2_with fail
    refine HPK.out.mono ?_
    rintro e w' ⟨rfl, rfl⟩
    go_wp2_with fail
    rw [Exit.noGoto_normal]
    first | go_end0 | go_ret
    have e := hoff.out
    rw [hrel.out.2.2] at e
    rw [e]
    exact ⟨rfl, t, rfl, hrel.out.1, hrel.out.2.1, hb⟩
end Go.Proofs.YtmfhoindfhmncaaDoor
