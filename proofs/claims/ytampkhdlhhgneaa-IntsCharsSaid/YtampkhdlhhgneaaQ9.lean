/-
  Walks of layer 3: numbers with a sign, and without.
-/
import Derived.Test.YtampkhdlhhgneaaQ8
namespace Go.Proofs.Ytampkhdlhhgneaa
open Go.RowKit Go.Proofs

/-- The 64 bits of a number with a sign. -/
def bitsI (v : Int) : Nat := (v % 18446744073709551616).toNat
theorem bits_pos {v : Int} (h0 : 0 ≤ v) (h1 : v ≤ 9223372036854775807) : (bitsI v : Int) = v := by unfold bitsI; omega
theorem bits_neg {v : Int} (h0 : v < 0) (h1 : -9223372036854775808 ≤ v) : (bitsI v : Int) = v + 18446744073709551616 := by unfold bitsI; omega
theorem bits_lt (v : Int) : (bitsI v : Int) ≤ 18446744073709551615 := by unfold bitsI; omega
theorem wrapu (v : Int) : IntKind.u64.wrap v = (bitsI v : Int) := by
  rw [IntKind.wrap_u64]
  unfold bitsI
  omega
/-- What is written of a number with a sign. -/
def signedS (v : Int) (pl mi sh sp ze : Bool) (wid prec verb : Int) : Option ByteArray := writeS (decide (v < 0)) false v.natAbs (bitsI v) pl mi sh sp ze wid prec verb
def unsignedS (n : Nat) (pl mi sh sp ze : Bool) (wid prec verb : Int) : Option ByteArray := writeS false true n n pl mi sh sp ze wid prec verb

set_option maxRecDepth 100000 in
set_option maxHeartbeats 1000000 in
theorem signed_any (v : Int) (pl mi sh sp ze : Bool) (wid prec verb : Int) (w : World) (h0 : -9223372036854775808 ≤ v) (h1 : v ≤ 9223372036854775807) (hw0 : -9223372036854775808 ≤ wid) (hw1 : wid ≤ 9223372036854775807) :
    Calls Try.prog 16 #[.int .i64 v, .agg #[.bool pl, .bool mi, .bool sh, .bool sp, .bool ze, .int .i64 wid, .int .i64 prec, .int .i32 verb]] w fun e w' => e = .returned (tupS (signedS v pl mi sh sp ze wid prec verb)) ∧ Below w.heap.size w w' := by
  obtain ⟨u, hu⟩ : ∃ u : Int, (bitsI v : Int) = u := ⟨_, rfl⟩
  have hwr := wrapu v
  rw [hu] at hwr
  have hub := bits_lt v
  rw [hu] at hub
  have hu0 : 0 ≤ u := by omega
  by_cases hv : v < 0
  · have hb := bits_neg hv h0
    rw [hu] at hb
    obtain ⟨m, hm⟩ : ∃ m : Int, IntKind.u64.wrap (-u) = m := ⟨_, rfl⟩
    have hmv : m = -v := by
      rw [← hm, wrapu]
      unfold bitsI
      omega
    have hm0 : 0 ≤ m := by omega
    have hm1 : m ≤ 18446744073709551615 := by omega
    have WA := hid (fun W => write_any true false m u pl mi sh sp ze wid prec verb W hm0 hm1 hu0 hub hw0 hw1)
    have hfin : writeS true false m.toNat u.toNat pl mi sh sp ze wid prec verb = signedS v pl mi sh sp ze wid prec verb := by
      unfold signedS
      rw [decide_eq_true hv, show m.toNat = v.natAbs by omega, show u.toNat = bitsI v by omega]
    rw [hfin] at WA
    obtain ⟨R, hR⟩ : ∃ R, signedS v pl mi sh sp ze wid prec verb = R := ⟨_, rfl⟩
    rw [hR] at WA ⊢
    clear hfin hR hmv hb hu
    go_enter Try.func16, Try.ntmps16
    go_wp2_with fail
    refine (WA.out _).mono ?_
    rintro e w1 ⟨rfl, hb⟩
    have HB := hid ((((Below.refl w.heap.size w).alloc (Nat.le_refl _) _).alloc (by simp) _).trans (hb.mono (by simp; omega)))
    clear hb
    cases R
    all_goals
      simp only [tupS]
      go_wp2_with fail
      go_ret2
      exact ⟨rfl, HB.out⟩
  · have hv' : 0 ≤ v := by omega
    have hb := bits_pos hv' h1
    rw [hu] at hb
    have WA := hid (fun W => write_any false false u u pl mi sh sp ze wid prec verb W hu0 hub hu0 hub hw0 hw1)
    have hfin : writeS false false u.toNat u.toNat pl mi sh sp ze wid prec verb = signedS v pl mi sh sp ze wid prec verb := by
      unfold signedS
      rw [decide_eq_false hv, show u.toNat = bitsI v by omega, show v.natAbs = bitsI v by omega]
    rw [hfin] at WA
    obtain ⟨R, hR⟩ : ∃ R, signedS v pl mi sh sp ze wid prec verb = R := ⟨_, rfl⟩
    rw [hR] at WA ⊢
    clear hfin hR hb hu
    go_enter Try.func16, Try.ntmps16
    go_wp2_with fail
    refine (WA.out _).mono ?_
    rintro e w1 ⟨rfl, hb⟩
    have HB := hid ((((Below.refl w.heap.size w).alloc (Nat.le_refl _) _).alloc (by simp) _).trans (hb.mono (by simp; omega)))
    clear hb
    cases R
    all_goals
      simp only [tupS]
      go_wp2_with fail
      go_ret2
      exact ⟨rfl, HB.out⟩
theorem unsigned_any (n : Int) (pl mi sh sp ze : Bool) (wid prec verb : Int) (w : World) (h0 : 0 ≤ n) (h1 : n ≤ 18446744073709551615) (hw0 : -9223372036854775808 ≤ wid) (hw1 : wid ≤ 9223372036854775807) :
    Calls Try.prog 18 #[.int .u64 n, .agg #[.bool pl, .bool mi, .bool sh, .bool sp, .bool ze, .int .i64 wid, .int .i64 prec, .int .i32 verb]] w fun e w' => e = .returned (tupS (unsignedS n.toNat pl mi sh sp ze wid prec verb)) ∧ Below w.heap.size w w' := by
  have WA := hid (fun W => write_any false true n n pl mi sh sp ze wid prec verb W h0 h1 h0 h1 hw0 hw1)
  have hfin : writeS false true n.toNat n.toNat pl mi sh sp ze wid prec verb = unsignedS n.toNat pl mi sh sp ze wid prec verb := rfl
  rw [hfin] at WA
  obtain ⟨R, hR⟩ : ∃ R, unsignedS n.toNat pl mi sh sp ze wid prec verb = R := ⟨_, rfl⟩
  rw [hR] at WA ⊢
  clear hfin hR
  go_enter Try.func18, Try.ntmps18
  go_wp2_with fail
  refine (WA.out _).mono ?_
  rintro e w1 ⟨rfl, hb⟩
  have HB := hid (((Below.refl w.heap.size w).alloc (Nat.le_refl _) _).trans (hb.mono (by simp)))
  clear hb
  cases R
  all_goals
    simp only [tupS]
    go_wp2_with fail
    go_ret2
    exact ⟨rfl, HB.out⟩
end Go.Proofs.Ytampkhdlhhgneaa
