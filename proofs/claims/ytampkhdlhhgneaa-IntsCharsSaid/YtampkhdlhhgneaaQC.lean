/-
  Layer 3: a spec with one of some verbs; a spec's sides.
-/
import Derived.Test.YtampkhdlhhgneaaQB
namespace Go.Proofs.Ytampkhdlhhgneaa
open Go.RowKit Go.Proofs

/-- A text filled at either side. -/
theorem sides_pad (t : ByteArray) (wid : Int) : ∃ F : ByteArray, padS t true false wid = t ++ F ∧ padS t false false wid = F ++ t ∧ fillS 32 F.size = F ∧ F.size ≤ 1000 := by
  have hl : ∀ n : Int, n ≤ 1000 → (fillS 32 n).size = n.toNat := by
    intro n hn
    rw [Utf.size_eq]
    show (fillL 32 n).length = _
    rw [fillL_length]
    omega
  unfold padS
  simp only []
  by_cases h : max 0 (min wid 1000) - (Utf.count t.data.toList : Int) ≤ 0
  · refine ⟨⟨#[]⟩, ?_, ?_, rfl, by decide⟩
    · rw [if_pos h]
      exact bytes_ext (by simp)
    · rw [if_pos h]
      exact bytes_ext (by simp)
  · obtain ⟨d, hd⟩ : ∃ d, max 0 (min wid 1000) - (Utf.count t.data.toList : Int) = d := ⟨_, rfl⟩
    rw [hd] at h ⊢
    have h2 : d ≤ 1000 := by omega
    refine ⟨fillS 32 d, by rw [if_neg h]; rfl, by rw [if_neg h]; rfl, ?_, fillS_size 32 d⟩
    rw [hl d h2, show ((d.toNat : Nat) : Int) = d by omega]
theorem sides_facts (v : Int) (pl sh sp : Bool) (wid prec verb : Int) (h0 : -9223372036854775808 ≤ v) (h1 : v ≤ 9223372036854775807) : ∃ (t F : ByteArray) (ok : Bool), tupS (signedS v pl true sh sp false wid prec verb) = .tuple #[.string (t ++ F), .bool ok] ∧ tupS (signedS v pl false sh sp false wid prec verb) = .tuple #[.string (F ++ t), .bool ok] ∧
    tupS (signedS v pl false sh sp false (-1) prec verb) = .tuple #[.string t, .bool ok] ∧ fillS 32 F.size = F ∧ F.size ≤ 1000 ∧ t.size ≤ 3100 := by
  have ea := write_bare (decide (v < 0)) false v.natAbs (bitsI v) pl true sh sp wid prec verb
  have eb := write_bare (decide (v < 0)) false v.natAbs (bitsI v) pl false sh sp wid prec verb
  unfold signedS
  rw [ea, eb]
  cases hx : writeS (decide (v < 0)) false v.natAbs (bitsI v) pl false sh sp false (-1) prec verb with
  | none =>
    refine ⟨⟨#[]⟩, ⟨#[]⟩, false, ?_, ?_, rfl, rfl, by decide, by decide⟩
    · rfl
    · rfl
  | some t =>
    obtain ⟨F, h1, h2, h3, h4⟩ := sides_pad t wid
    have ht : t.size ≤ 3100 := by
      obtain ⟨t', z, e, hs⟩ := write_some _ _ _ _ _ _ _ _ _ _ _ _ t hx (by omega) (by have := bits_lt v; omega)
      rw [e, pad_none]
      exact hs
    refine ⟨t, F, true, ?_, ?_, rfl, h3, h4, ht⟩
    · rw [← h1]; rfl
    · rw [← h2]; rfl

set_option maxRecDepth 100000 in
set_option maxHeartbeats 1000000 in
/-- A spec with one of some verbs. -/
theorem verb_any (pl mi sh sp ze : Bool) (wid prec verb : Int) (k : Int) (vs : ByteArray) (c : Int) (w : World) (h0 : 0 ≤ k) (h1 : k ≤ 18446744073709551615) (hs0 : 0 < vs.size) (hs1 : vs.size ≤ 100) (hc : bt vs (k.toNat % vs.size) = c) :
    Calls Try.prog 20 #[.agg #[.bool pl, .bool mi, .bool sh, .bool sp, .bool ze, .int .i64 wid, .int .i64 prec, .int .i32 verb], .int .u64 k, .string vs] w fun e w' => e = .returned (.agg (sp8 pl mi sh sp ze wid prec c)) ∧ Below w.heap.size w w' := by
  obtain ⟨j, hj⟩ : ∃ j : Nat, k.toNat % vs.size = j := ⟨_, rfl⟩
  have hjl : j < vs.size := by rw [← hj]; exact Nat.mod_lt _ hs0
  rw [hj] at hc
  have hat := bt_at vs j hjl
  rw [hc] at hat
  have hc0 : 0 ≤ c ∧ c ≤ 255 := by
    rw [← hc]
    unfold bt
    have := ((vs.data.toList[j]?.getD 0)).toNat_lt
    omega
  obtain ⟨hc0, hc1⟩ := hc0
  have hrem : k.tmod (vs.size : Int) = (j : Int) := by
    rw [← hj]
    obtain ⟨m, rfl⟩ : ∃ m : Nat, k = m := ⟨k.toNat, by omega⟩
    rw [Int.tmod_eq_emod_of_nonneg (Int.natCast_nonneg m)]
    simp
  clear hj hc
  go_enter Try.func20, Try.ntmps20
  go_wp2_with fail
  refine bodyPost_ret (v := .agg (sp8 pl mi sh sp ze wid prec c)) (by simp [results, Try.results20, go_sem]) rfl ⟨rfl, ?_⟩
  exact ((Below.refl w.heap.size w).alloc (Nat.le_refl _) _).alloc (by simp) _
end Go.Proofs.Ytampkhdlhhgneaa
