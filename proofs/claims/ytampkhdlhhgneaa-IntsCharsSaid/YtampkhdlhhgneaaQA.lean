/-
  Walks of layer 3: Digits, and the law's own examples.
-/
import Derived.Test.YtampkhdlhhgneaaQ9
namespace Go.Proofs.Ytampkhdlhhgneaa
open Go.RowKit Go.Proofs

/-- The digits to a base that there is. -/
def digS (n : Nat) (b : Int) : ByteArray := if b = 2 ∨ b = 8 ∨ b = 10 ∨ b = 16 then ⟨(IP.dgb b.toNat false n).toArray⟩ else ⟨#[]⟩
theorem idigits_any (n b : Int) (w : World) (h0 : 0 ≤ n) (h1 : n ≤ 18446744073709551615) : Calls Try.prog 13 #[.int .u64 n, .int .i64 b] w fun e w' => e = .returned (.string (digS n.toNat b)) ∧ Below w.heap.size w w' := by
  by_cases hb : b = 2 ∨ b = 8 ∨ b = 10 ∨ b = 16
  · have hr : digS n.toNat b = ⟨(IP.dgb b.toNat false n.toNat).toArray⟩ := by unfold digS; rw [if_pos hb]
    rw [hr]
    have DG := hid (fun W => digits_any n b false W h0 h1 (by omega) (by omega))
    have hs : signsS false = ⟨#[48, 49, 50, 51, 52, 53, 54, 55, 56, 57, 97, 98, 99, 100, 101, 102]⟩ := rfl
    rw [hs] at DG
    clear hr hs
    rcases hb with rfl | rfl | rfl | rfl
    all_goals
      go_enter Try.func13, Try.ntmps13
      go_wp2_with fail
      refine (DG.out _).mono ?_
      rintro e w1 ⟨rfl, hb1⟩
      have HB := hid hb1
      clear hb1
      go_wp2_with fail
      go_ret
      exact ⟨rfl, HB.out⟩
  · have hr : digS n.toNat b = ⟨#[]⟩ := by unfold digS; rw [if_neg hb]
    rw [hr]
    have b1 : (b == 2) = false := beq_eq_false_iff_ne.2 fun h => hb (Or.inl h)
    have b2 : (b == 8) = false := beq_eq_false_iff_ne.2 fun h => hb (Or.inr (Or.inl h))
    have b3 : (b == 10) = false := beq_eq_false_iff_ne.2 fun h => hb (Or.inr (Or.inr (Or.inl h)))
    have b4 : (b == 16) = false := beq_eq_false_iff_ne.2 fun h => hb (Or.inr (Or.inr (Or.inr h)))
    clear hr hb
    go_enter Try.func13, Try.ntmps13
    go_wp2_with fail
    go_ret
    exact ⟨rfl, Below.refl _ _⟩
theorem pad_ascii (l : List UInt8) (mi ze : Bool) (wid : Int) (h : ∀ a ∈ l, a.toNat < 128) : padS ⟨l.toArray⟩ mi ze wid = (let n := max 0 (min wid 1000) - (l.length : Int); if n ≤ 0 then ⟨l.toArray⟩ else if mi then ⟨l.toArray⟩ ++ fillS 32 n else if ze then fillS 48 n ++ ⟨l.toArray⟩ else fillS 32 n ++ ⟨l.toArray⟩) := by
  unfold padS
  have e : (⟨l.toArray⟩ : ByteArray).data.toList = l := by simp
  rw [e, IP.count_all_ascii l h]
theorem lv1 : signedS (-42) false false false false true 6 4 100 = some ⟨#[32, 45, 48, 48, 52, 50]⟩ := by
  have hd : IP.dgb 10 false 42 = [52, 50] := by
    rw [IP.dgb_big false (by decide) (by decide), IP.dgb_small false (by decide)]; rfl
  have hb : IP.bodyL true 42 10 false [] false false false true 6 4 = [45, 48, 48, 52, 50] := by
    unfold IP.bodyL
    rw [if_neg (by decide), hd]
    rfl
  show some (basedS true 42 10 false [] false false false true 6 4) = _
  unfold basedS
  rw [hb, pad_ascii _ _ _ _ (by decide)]
  rfl
theorem lv2 : unsignedS 255 false false true false true 8 (-1) 120 = some ⟨#[48, 120, 48, 48, 48, 48, 102, 102]⟩ := by
  have hd : IP.dgb 16 false 255 = [102, 102] := by
    rw [IP.dgb_big false (by decide) (by decide), IP.dgb_small false (by decide)]; rfl
  have hb : IP.bodyL false 255 16 false [48, 120] false false false true 8 (-1) = [48, 120, 48, 48, 48, 48, 102, 102] := by
    unfold IP.bodyL
    rw [if_neg (by decide), hd]
    rfl
  show some (basedS false 255 16 false [48, 120] false false false true 8 (-1)) = _
  unfold basedS
  rw [hb, pad_ascii _ _ _ _ (by decide)]
  rfl
theorem lv3 : signedS 65 false false true false false (-1) (-1) 85 = some ⟨#[85, 43, 48, 48, 52, 49, 32, 39, 65, 39]⟩ := by
  have hd : IP.dgb 16 true 65 = [52, 49] := by
    rw [IP.dgb_big true (by decide) (by decide), IP.dgb_small true (by decide)]; rfl
  have hu : IP.uniL 65 true (-1) = [85, 43, 48, 48, 52, 49, 32, 39, 65, 39] := by
    unfold IP.uniL
    rw [hd, if_pos (by decide), show Utf.encL ((65 : Nat) : Int) = [65] from by rw [Utf.encL_one (by decide)]; rfl]
    rfl
  show some (padS ⟨(IP.uniL 65 true (-1)).toArray⟩ false false (-1)) = _
  rw [hu, pad_ascii _ _ _ _ (by decide)]
  rfl
theorem lv4 : digS 10 2 = ⟨#[49, 48, 49, 48]⟩ := by
  unfold digS
  rw [if_pos (Or.inl rfl)]
  show (⟨(IP.dgb 2 false 10).toArray⟩ : ByteArray) = _
  rw [IP.dgb_big false (by decide) (by decide), IP.dgb_big false (by decide) (by decide), IP.dgb_big false (by decide) (by decide), IP.dgb_small false (by decide)]
  rfl

set_option maxRecDepth 100000 in
set_option maxHeartbeats 1000000 in
theorem lives_any (w : World) : Calls Try.prog 15 #[] w fun e w' => e = .returned (.bool true) ∧ Below w.heap.size w w' := by
  have A1 := hid (fun W => signed_any (-42) false false false false true 6 4 100 W (by decide) (by decide) (by decide) (by decide))
  have A2 := hid (fun W => unsigned_any 255 false false true false true 8 (-1) 120 W (by decide) (by decide) (by decide) (by decide))
  have A3 := hid (fun W => signed_any 65 false false true false false (-1) (-1) 85 W (by decide) (by decide) (by decide) (by decide))
  have A4 := hid (fun W => idigits_any 10 2 W (by decide) (by decide))
  rw [lv1] at A1
  rw [show (255 : Int).toNat = 255 from rfl, lv2] at A2
  rw [lv3] at A3
  rw [show (10 : Int).toNat = 10 from rfl, lv4] at A4
  simp only [tupS] at A1 A2 A3
  go_enter Try.func15, Try.ntmps15
  go_wp2_with fail
  refine (A1.out _).mono ?_
  rintro e w1 ⟨rfl, b1⟩
  go_wp2_with fail
  refine (A2.out _).mono ?_
  rintro e w2 ⟨rfl, b2⟩
  go_wp2_with fail
  refine (A3.out _).mono ?_
  rintro e w3 ⟨rfl, b3⟩
  go_wp2_with fail
  refine (A4.out _).mono ?_
  rintro e w4 ⟨rfl, b4⟩
  have BB := hid (((b1.trans (b2.mono b1.size)).trans (b3.mono (b1.trans (b2.mono b1.size)).size)).trans (b4.mono ((b1.trans (b2.mono b1.size)).trans (b3.mono (b1.trans (b2.mono b1.size)).size)).size))
  clear b1 b2 b3 b4
  go_wp2_with fail
  go_ret
  exact ⟨rfl, BB.out⟩
end Go.Proofs.Ytampkhdlhhgneaa
