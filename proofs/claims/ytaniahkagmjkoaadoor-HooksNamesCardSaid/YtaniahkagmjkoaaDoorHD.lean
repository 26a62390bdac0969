/-
  Walks of layer 11: the document's decimal digits.
-/
import Derived.Test.YtaniahkagmjkoaaDoorQ5
namespace Go.Proofs.YtaniahkagmjkoaaDoor
open Go.RowKit Go.Proofs
attribute [local go_sem] conv1

theorem rdigit_u (d : Int) (w : World) (h0 : 0 ≤ d) (h1 : d < 16) : Calls Tryd.prog 40 #[.int .i64 d, .bool false] w fun e w' => e = .returned (.string ⟨#[IP.hexd false d.toNat]⟩) ∧ w = w' := refdigit_any d false w h0 h1
/-- A digit on. -/
theorem dig_step (b : Nat) (h2 : 2 ≤ b) (x : Int) (hx : 0 ≤ x) (t R : List UInt8) (h : IP.dgb b false x.toNat ++ t = R) :
    (x < b → IP.hexd false (x % b).toNat :: t = R) ∧ (¬ x < b → IP.dgb b false (x / b).toNat ++ IP.hexd false (x % b).toNat :: t = R) := by
  have hxt : (x % b).toNat = x.toNat % b := by
    obtain ⟨a, ha⟩ := Int.eq_ofNat_of_zero_le hx
    rw [ha, ← Int.natCast_emod, Int.toNat_natCast, Int.toNat_natCast]
  have hxq : (x / b).toNat = x.toNat / b := by
    obtain ⟨a, ha⟩ := Int.eq_ofNat_of_zero_le hx
    rw [ha, ← Int.natCast_ediv, Int.toNat_natCast, Int.toNat_natCast]
  refine ⟨fun hl => ?_, fun hl => ?_⟩
  · rw [hxt, ← h, IP.dgb_small (n := x.toNat) false (by omega), Nat.mod_eq_of_lt (by omega)]
    rfl
  · rw [hxt, hxq, ← h, IP.dgb_big (n := x.toNat) false h2 (by omega), List.append_assoc]
    rfl
set_option maxRecDepth 100000 in
set_option maxHeartbeats 2000000 in
theorem rdigits_10 (n : Int) (w : World) (h0 : 0 ≤ n) (h1 : n ≤ 18446744073709551615) :
    Calls Tryd.prog 32 #[.int .u64 n, .int .i64 10] w fun e w' => e = .returned (.string ⟨(IP.dgb 10 false n.toNat).toArray⟩) ∧ w = w' := by
  obtain ⟨R, hR⟩ : ∃ R, IP.dgb 10 false n.toNat = R := ⟨_, rfl⟩
  rw [hR]
  have hlen := IP.dgb_len64 10 false (by omega) n.toNat (by omega)
  rw [hR] at hlen
  have HR := hid hR
  have HL := hid hlen
  clear hR hlen
  go_enter Tryd.func32, Tryd.ntmps32
  go_wp2_with fail
  go_loopw [0, 5] (fun nv sv wr => ∃ (x : Int) (t : ByteArray), nv = .int .u64 x ∧ 0 ≤ x ∧ x ≤ n ∧ sv = .string t ∧ t.size ≤ 64 ∧ Hid ((t.size = 0 ∨ 0 < x) → IP.dgb 10 false x.toNat ++ t.data.toList = R) ∧ Hid (0 < t.size ∧ x = 0 → t.data.toList = R) ∧ wr = w) (fun nv sv _ => (intOf nv).toNat + (match sv with | .string t => if t.size = 0 then 1 else 0 | _ => 0))
  case atStart => exact ⟨n, ⟨#[]⟩, rfl, h0, Int.le_refl _, rfl, by decide, hid (fun _ => by rw [← HR.out]; exact List.append_nil _), hid (fun h => absurd h.1 (by decide)), rfl⟩
  case round =>
    obtain ⟨x, t, rfl, hx0, hx1, rfl, ht, hA, hB, rfl⟩ := hrel
    by_cases hC : 0 < t.size ∧ x = 0
    · have HF := hid (hB.out hC)
      obtain ⟨hC1, rfl⟩ := hC
      have he : (t.toList == []) = false := by
        have := isEmpty_of_pos hC1
        rw [List.isEmpty_eq_false_iff] at this
        exact beq_eq_false_iff_ne.2 this
      go_wp2_with fail
      go_ret
      exact ⟨ret_str (bytes_ext (by rw [HF.out])), rfl⟩
    · have hst : (x < 10 → IP.hexd false (x % 10).toNat :: t.data.toList = R) ∧ (¬ x < 10 → IP.dgb 10 false (x / 10).toNat ++ IP.hexd false (x % 10).toNat :: t.data.toList = R) := dig_step 10 (by decide) x hx0 t.data.toList R (hA.out (by omega))
      have DG := hid (fun W => refdigit_any (x % 10) false W (by omega) (by omega))
      obtain ⟨d, hd⟩ : ∃ d : ByteArray, ⟨#[IP.hexd false (x % 10).toNat]⟩ = d := ⟨_, rfl⟩
      have hds : d.size = 1 := by rw [← hd]; rfl
      have hdl : ∀ l : ByteArray, (d ++ l).data.toList = IP.hexd false (x % 10).toNat :: l.data.toList := by
        intro l
        rw [← hd, ByteArray.data_append, Array.toList_append]
        rfl
      have hsz : (d ++ t).size = 1 + t.size := by rw [ByteArray.size_append, hds]
      have hs64 : 1 + t.size ≤ 64 := by
        have hl := HL.out
        have e : t.size = t.data.toList.length := Utf.size_eq t
        by_cases q : x < 10
        · have := congrArg List.length (hst.1 q)
          simp only [List.length_cons] at this
          omega
        · have := congrArg List.length (hst.2 q)
          simp only [List.length_append, List.length_cons] at this
          omega
      rw [hd] at DG
      have NX : Hid (((d ++ t).size = 0 ∨ 0 < x / 10) → IP.dgb 10 false (x / 10).toNat ++ (d ++ t).data.toList = R) := by
        refine hid fun h => ?_
        rw [hsz] at h
        rw [hdl]
        exact hst.2 (by omega)
      have NY : Hid (0 < (d ++ t).size ∧ x / 10 = 0 → (d ++ t).data.toList = R) := by
        refine hid fun h => ?_
        rw [hdl]
        exact hst.1 (by omega)
      have HD := hid hd
      clear hd hst hdl
      have hq1 : 0 ≤ x / 10 ∧ x / 10 ≤ n := by omega
      obtain ⟨hq1, hq2⟩ := hq1
      by_cases hp : 0 < x
      · go_wp2_with fail
        refine (DG.out _).mono ?_
        rintro e w' ⟨rfl, rfl⟩
        go_wp2_with fail
        go_roundw
        case rel => exact ⟨x / 10, d ++ t, rfl, hq1, hq2, rfl, by omega, NX, NY, by first | trivial | rfl⟩
        case measure =>
          show (x / 10).toNat + (if (d ++ t).size = 0 then 1 else 0) < x.toNat + (if t.size = 0 then 1 else 0)
          rw [if_neg (by omega)]
          omega
      · have hx : x = 0 := by omega
        have htz : t = ⟨#[]⟩ := by
          refine bytes_ext ?_
          exact List.eq_nil_of_length_eq_zero (by rw [← Utf.size_eq]; omega)
        subst hx
        subst htz
        go_wp2_with fail
        refine (DG.out _).mono ?_
        rintro e w' ⟨rfl, rfl⟩
        go_wp2_with fail
        go_roundw
        case rel => exact ⟨0, d ++ ⟨#[]⟩, rfl, Int.le_refl _, h0, rfl, by omega, NX, NY, by first | trivial | rfl⟩
        case measure =>
          show 0 + (if (d ++ ⟨#[]⟩).size = 0 then 1 else 0) < 0 + 1
          rw [if_neg (by omega)]
          omega
end Go.Proofs.YtaniahkagmjkoaaDoor
