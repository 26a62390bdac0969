/-
  The law IntsZeros, walked.
-/
import Derived.Test.YtampkhdlhhgneaaQF
namespace Go.Proofs.Ytampkhdlhhgneaa
open Go.RowKit Go.Proofs

theorem zeros_verbs (k : Nat) : ∃ c : Int, bt ⟨#[100, 98, 120, 88]⟩ (k % 4) = c ∧ (c = 100 ∨ c = 98 ∨ c = 120 ∨ c = 88) := by
  refine ⟨_, rfl, ?_⟩
  have h : k % 4 < 4 := Nat.mod_lt _ (by decide)
  generalize k % 4 = j at h ⊢
  match j, h with
  | 0, _ => exact Or.inl rfl
  | 1, _ => exact Or.inr (Or.inl rfl)
  | 2, _ => exact Or.inr (Or.inr (Or.inl rfl))
  | 3, _ => exact Or.inr (Or.inr (Or.inr rfl))
theorem bx_new {w w1 : World} (hb : Below w.heap.size w w1) (C : Array Value) : Bx w w1.heap.size C (w1.alloc (.cells C 27)) :=
  ⟨Blk.new w1 C _, hb.alloc hb.size _⟩

set_option maxRecDepth 100000 in
set_option maxHeartbeats 2000000 in
theorem intsZeros_law (n x k : Int) (w : World) (_hT : Tabs w) (h0 : 0 ≤ n) (h1 : n ≤ 18446744073709551615) (hx0 : -9223372036854775808 ≤ x) (hx1 : x ≤ 9223372036854775807) (hk0 : 0 ≤ k) (hk1 : k ≤ 18446744073709551615) :
    Calls Try.prog 11 #[.int .u64 n, .int .i64 x, .int .u64 k] w fun e w' => e = .returned (.bool true) ∧ Below w.heap.size w w' := by
  have LV := hid (fun W => lives_any W)
  obtain ⟨c, hc, hcv⟩ := zeros_verbs k.toNat
  obtain ⟨d, hd⟩ : ∃ d : Int, max 0 (min x 1000) = d := ⟨_, rfl⟩
  have hd0 : 0 ≤ d ∧ d ≤ 1000 := by omega
  obtain ⟨hd0, hd1⟩ := hd0
  obtain ⟨a, b, ha, hb, hz, hnz⟩ := zeros_facts n.toNat d c (by omega) hd0 hd1 hcv
  have VB := hid (fun W => verb_any false false false false true d (-1) 0 k ⟨#[100, 98, 120, 88]⟩ c W hk0 hk1 (by decide) (by decide) hc)
  have UA := hid (fun W => unsigned_any n false false false false true d (-1) c W h0 h1 (by omega) (by omega))
  have UB := hid (fun W => unsigned_any n false false false false false (-1) d c W h0 h1 (by omega) (by omega))
  rw [ha] at UA
  rw [hb] at UB
  simp only [tupS] at UA UB
  have HZ := hid hz
  have HN := hid hnz
  clear ha hb hz hnz hc hcv
  have HD := hid hd
  clear hd
  go_enter Try.func11, Try.ntmps11
  go_upto_region 1 with fail
  go_cut [1] (fun v1 wn => v1 = .int .i64 d ∧ wn = w)
  case first =>
    go_wp2_with fail
    go_meet
    exact ⟨congrArg (Value.int .i64) HD.out, rfl⟩
  case rest =>
    obtain ⟨rfl, rfl⟩ := hcut
    go_wp2_with fail
    refine (VB.out _).mono ?_
    rintro e w1 ⟨rfl, hb⟩
    have B0 := hid (bx_new hb (sp8 false false false false true d (-1) c))
    have hle := hb.size
    clear hb
    go_wp2_with fail
    refine (UA.out _).mono ?_
    rintro e w2 ⟨rfl, hb⟩
    have B1 := hid (B0.out.kept hb)
    clear hb
    obtain ⟨H, hH⟩ : ∃ H, w1.heap.size = H := ⟨_, rfl⟩
    rw [hH] at B1 hle ⊢
    clear hH B0
    obtain ⟨s0, s1, s2, s3, s4, s5, s6, s7⟩ := B1.out.cells
    have f4 := B1.out.frozen 4
    have f5 := B1.out.frozen 5
    have f6 := B1.out.frozen 6
    go_wp2_with fail
    refine (UB.out _).mono ?_
    rintro e w3 ⟨rfl, hb⟩
    have B2 := hid ((((B1.out.set hle 5 (.int .i64 (-1))).set hle 6 (.int .i64 d)).set hle 4 (.bool false)).kept hb)
    clear hb s0 s1 s2 s3 s4 s5 s6 s7 f4 f5 f6
    by_cases q : d = 0 ∧ n = 0
    · obtain ⟨rfl, rfl⟩ := HZ.out ⟨q.1, by omega⟩
      obtain ⟨rfl, rfl⟩ := q
      go_wp2_with fail
      refine (LV.out _).mono ?_
      rintro e w4 ⟨rfl, hb⟩
      have B3 := hid (B2.out.kept hb)
      clear hb
      go_wp2_with fail
      go_ret
      exact ⟨rfl, B3.out.below⟩
    · have hab := HN.out (fun h => q ⟨h.1, by omega⟩)
      subst hab
      rcases (show (d = 0 ∧ (n == 0) = false) ∨ ((d == 0) = false) by
        by_cases qd : d = 0
        · exact Or.inl ⟨qd, beq_eq_false_iff_ne.2 fun h => q ⟨qd, h⟩⟩
        · exact Or.inr (beq_eq_false_iff_ne.2 qd)) with ⟨q1, q2⟩ | q1
      · subst q1
        clear q
        go_wp2_with fail
        refine (LV.out _).mono ?_
        rintro e w4 ⟨rfl, hb⟩
        have B3 := hid (B2.out.kept hb)
        clear hb
        go_wp2_with fail
        go_ret
        exact ⟨rfl, B3.out.below⟩
      · clear q
        go_wp2_with fail
        refine (LV.out _).mono ?_
        rintro e w4 ⟨rfl, hb⟩
        have B3 := hid (B2.out.kept hb)
        clear hb
        go_wp2_with fail
        go_ret
        exact ⟨rfl, B3.out.below⟩
end Go.Proofs.Ytampkhdlhhgneaa
