/-
  Layer 3: digits read back.
-/
import Derived.Test.YtampkhdlhhgneaaQC
namespace Go.Proofs.Ytampkhdlhhgneaa
open Go.RowKit Go.Proofs

theorem dig_cases (S : ByteArray) (q : Nat) (h : q < S.data.toList.length) (b : Nat) (hb : b ≤ 16) (hd : IP.digV (S.data.toList[q]) < b) :
    (48 ≤ bt S q ∧ bt S q ≤ 57 ∧ (IP.digV (S.data.toList[q]) : Int) = bt S q - 48) ∨ (97 ≤ bt S q ∧ bt S q ≤ 102 ∧ (IP.digV (S.data.toList[q]) : Int) = bt S q - 87) ∨ (65 ≤ bt S q ∧ bt S q ≤ 70 ∧ (IP.digV (S.data.toList[q]) : Int) = bt S q - 55) := by
  have e : bt S q = ((S.data.toList[q]).toNat : Int) := by unfold bt; rw [List.getElem?_eq_getElem h]; rfl
  rw [e]
  revert hd
  unfold IP.digV
  generalize (S.data.toList[q]).toNat = x
  intro hd
  split at hd
  · rename_i h1
    rw [if_pos h1]
    omega
  · rename_i h1
    rw [if_neg h1]
    split at hd
    · rename_i h2
      rw [if_pos h2]
      omega
    · rename_i h2
      rw [if_neg h2]
      split at hd
      · rename_i h3
        rw [if_pos h3]
        omega
      · omega
/-- A number of digits, a digit on. -/
theorem read_step (S : ByteArray) (b : Nat) (V N : Int) (q : Nat) (hq : q < S.data.toList.length) (hb1 : 1 ≤ b) (hV : (IP.valB b 0 S.data.toList : Int) = V) (hN : (IP.valB b 0 (S.data.toList.take q) : Int) = N) :
    (IP.valB b 0 (S.data.toList.take (q + 1)) : Int) = N * b + (IP.digV (S.data.toList[q]) : Int) ∧ N * b + (IP.digV (S.data.toList[q]) : Int) ≤ V ∧ 0 ≤ N := by
  have h1 := IP.valB_succ b S.data.toList q hq
  have h2 := IP.valB_take b hb1 S.data.toList (q + 1)
  have h3 : (IP.valB b 0 (S.data.toList.take (q + 1)) : Int) = N * b + (IP.digV (S.data.toList[q]) : Int) := by
    rw [h1, ← hN]
    push_cast
    rfl
  refine ⟨h3, ?_, by omega⟩
  rw [← h3]
  omega

set_option maxRecDepth 100000 in
set_option maxHeartbeats 4000000 in
theorem read_10 (S : ByteArray) (V : Int) (w : World) (hS : 0 < S.size) (hS1 : S.size ≤ 1000) (hd : ∀ x ∈ S.data.toList, IP.digV x < 10) (hV : (IP.valB 10 0 S.data.toList : Int) = V) (hV1 : V ≤ 18446744073709551615) :
    Calls Try.prog 22 #[.string S, .int .u64 10] w fun e w' => e = .returned (.tuple #[.int .u64 V, .bool true]) ∧ w' = w := by
  have HD := hid hd
  have HV := hid hV
  clear hd hV
  have hSe : (S.toList == []) = false := by
    have := isEmpty_of_pos hS
    rw [List.isEmpty_eq_false_iff] at this
    exact beq_eq_false_iff_ne.2 this
  go_enter Try.func22, Try.ntmps22
  go_wp2_with fail
  go_loopw [6, 7] (fun nv iv wr => ∃ (q : Nat) (N : Int), nv = .int .u64 N ∧ iv = .int .i64 q ∧ q ≤ S.size ∧ wr = w ∧ Hid ((IP.valB 10 0 (S.data.toList.take q) : Int) = N)) (fun _ iv _ => S.size - (match iv with | .int _ k => k.toNat | _ => 0))
  case atStart => exact ⟨0, 0, rfl, rfl, Nat.zero_le _, rfl, rfl⟩
  case round =>
    obtain ⟨q, N, rfl, rfl, hq, rfl, hN⟩ := hrel
    by_cases hp : q < S.size
    · have hlen : q < S.data.toList.length := by rw [← Utf.size_eq]; exact hp
      have hst := read_step S 10 V N q hlen (by decide) HV.out hN.out
      have hcs := dig_cases S q hlen 10 (by decide) (HD.out _ (List.getElem_mem hlen))
      have hdl := HD.out _ (List.getElem_mem hlen)
      have E0 := bt_at S q hp
      obtain ⟨D, hD⟩ : ∃ D : Int, (IP.digV (S.data.toList[q]) : Int) = D := ⟨_, rfl⟩
      have hD1 : D < 10 := by rw [← hD]; exact Int.ofNat_lt.2 hdl
      obtain ⟨c, hc⟩ : ∃ c, bt S q = c := ⟨_, rfl⟩
      rw [hD] at hst hcs
      rw [hc] at E0 hcs
      obtain ⟨hs1, hs2, hs3⟩ := hst
      have HS1 := hid hs1
      clear hD hc hs1 hdl
      rcases hcs with ⟨k1, k2, k3⟩ | ⟨k1, k2, k3⟩ | ⟨k1, k2, k3⟩
      all_goals
        subst k3
        simp at hD1 hs2
        first
          | (exfalso; omega)
          | (go_wp2_with fail
             go_roundw
             case rel => exact ⟨q + 1, _, rfl, by go_num, hp, trivial, hid (by rw [HS1.out]; try omega)⟩
             case measure => go_num)
    · have hqe : q = S.size := by omega
      have hNV : N = V := by
        rw [← hN.out, ← HV.out, hqe, Utf.size_eq, List.take_length]
      subst hNV
      go_wp2_with fail
      go_ret2
      exact ⟨rfl, rfl⟩
set_option maxRecDepth 100000 in
set_option maxHeartbeats 4000000 in
theorem read_2 (S : ByteArray) (V : Int) (w : World) (hS : 0 < S.size) (hS1 : S.size ≤ 1000) (hd : ∀ x ∈ S.data.toList, IP.digV x < 2) (hV : (IP.valB 2 0 S.data.toList : Int) = V) (hV1 : V ≤ 18446744073709551615) :
    Calls Try.prog 22 #[.string S, .int .u64 2] w fun e w' => e = .returned (.tuple #[.int .u64 V, .bool true]) ∧ w' = w := by
  have HD := hid hd
  have HV := hid hV
  clear hd hV
  have hSe : (S.toList == []) = false := by
    have := isEmpty_of_pos hS
    rw [List.isEmpty_eq_false_iff] at this
    exact beq_eq_false_iff_ne.2 this
  go_enter Try.func22, Try.ntmps22
  go_wp2_with fail
  go_loopw [6, 7] (fun nv iv wr => ∃ (q : Nat) (N : Int), nv = .int .u64 N ∧ iv = .int .i64 q ∧ q ≤ S.size ∧ wr = w ∧ Hid ((IP.valB 2 0 (S.data.toList.take q) : Int) = N)) (fun _ iv _ => S.size - (match iv with | .int _ k => k.toNat | _ => 0))
  case atStart => exact ⟨0, 0, rfl, rfl, Nat.zero_le _, rfl, rfl⟩
  case round =>
    obtain ⟨q, N, rfl, rfl, hq, rfl, hN⟩ := hrel
    by_cases hp : q < S.size
    · have hlen : q < S.data.toList.length := by rw [← Utf.size_eq]; exact hp
      have hst := read_step S 2 V N q hlen (by decide) HV.out hN.out
      have hcs := dig_cases S q hlen 2 (by decide) (HD.out _ (List.getElem_mem hlen))
      have hdl := HD.out _ (List.getElem_mem hlen)
      have E0 := bt_at S q hp
      obtain ⟨D, hD⟩ : ∃ D : Int, (IP.digV (S.data.toList[q]) : Int) = D := ⟨_, rfl⟩
      have hD1 : D < 2 := by rw [← hD]; exact Int.ofNat_lt.2 hdl
      obtain ⟨c, hc⟩ : ∃ c, bt S q = c := ⟨_, rfl⟩
      rw [hD] at hst hcs
      rw [hc] at E0 hcs
      obtain ⟨hs1, hs2, hs3⟩ := hst
      have HS1 := hid hs1
      clear hD hc hs1 hdl
      rcases hcs with ⟨k1, k2, k3⟩ | ⟨k1, k2, k3⟩ | ⟨k1, k2, k3⟩
      all_goals
        subst k3
        simp at hD1 hs2
        first
          | (exfalso; omega)
          | (go_wp2_with fail
             go_roundw
             case rel => exact ⟨q + 1, _, rfl, by go_num, hp, trivial, hid (by rw [HS1.out]; try omega)⟩
             case measure => go_num)
    · have hqe : q = S.size := by omega
      have hNV : N = V := by
        rw [← hN.out, ← HV.out, hqe, Utf.size_eq, List.take_length]
      subst hNV
      go_wp2_with fail
      go_ret2
      exact ⟨rfl, rfl⟩
set_option maxRecDepth 100000 in
set_option maxHeartbeats 4000000 in
theorem read_8 (S : ByteArray) (V : Int) (w : World) (hS : 0 < S.size) (hS1 : S.size ≤ 1000) (hd : ∀ x ∈ S.data.toList, IP.digV x < 8) (hV : (IP.valB 8 0 S.data.toList : Int) = V) (hV1 : V ≤ 18446744073709551615) :
    Calls Try.prog 22 #[.string S, .int .u64 8] w fun e w' => e = .returned (.tuple #[.int .u64 V, .bool true]) ∧ w' = w := by
  have HD := hid hd
  have HV := hid hV
  clear hd hV
  have hSe : (S.toList == []) = false := by
    have := isEmpty_of_pos hS
    rw [List.isEmpty_eq_false_iff] at this
    exact beq_eq_false_iff_ne.2 this
  go_enter Try.func22, Try.ntmps22
  go_wp2_with fail
  go_loopw [6, 7] (fun nv iv wr => ∃ (q : Nat) (N : Int), nv = .int .u64 N ∧ iv = .int .i64 q ∧ q ≤ S.size ∧ wr = w ∧ Hid ((IP.valB 8 0 (S.data.toList.take q) : Int) = N)) (fun _ iv _ => S.size - (match iv with | .int _ k => k.toNat | _ => 0))
  case atStart => exact ⟨0, 0, rfl, rfl, Nat.zero_le _, rfl, rfl⟩
  case round =>
    obtain ⟨q, N, rfl, rfl, hq, rfl, hN⟩ := hrel
    by_cases hp : q < S.size
    · have hlen : q < S.data.toList.length := by rw [← Utf.size_eq]; exact hp
      have hst := read_step S 8 V N q hlen (by decide) HV.out hN.out
      have hcs := dig_cases S q hlen 8 (by decide) (HD.out _ (List.getElem_mem hlen))
      have hdl := HD.out _ (List.getElem_mem hlen)
      have E0 := bt_at S q hp
      obtain ⟨D, hD⟩ : ∃ D : Int, (IP.digV (S.data.toList[q]) : Int) = D := ⟨_, rfl⟩
      have hD1 : D < 8 := by rw [← hD]; exact Int.ofNat_lt.2 hdl
      obtain ⟨c, hc⟩ : ∃ c, bt S q = c := ⟨_, rfl⟩
      rw [hD] at hst hcs
      rw [hc] at E0 hcs
      obtain ⟨hs1, hs2, hs3⟩ := hst
      have HS1 := hid hs1
      clear hD hc hs1 hdl
      rcases hcs with ⟨k1, k2, k3⟩ | ⟨k1, k2, k3⟩ | ⟨k1, k2, k3⟩
      all_goals
        subst k3
        simp at hD1 hs2
        first
          | (exfalso; omega)
          | (go_wp2_with fail
             go_roundw
             case rel => exact ⟨q + 1, _, rfl, by go_num, hp, trivial, hid (by rw [HS1.out]; try omega)⟩
             case measure => go_num)
    · have hqe : q = S.size := by omega
      have hNV : N = V := by
        rw [← hN.out, ← HV.out, hqe, Utf.size_eq, List.take_length]
      subst hNV
      go_wp2_with fail
      go_ret2
      exact ⟨rfl, rfl⟩
set_option maxRecDepth 100000 in
set_option maxHeartbeats 4000000 in
theorem read_16 (S : ByteArray) (V : Int) (w : World) (hS : 0 < S.size) (hS1 : S.size ≤ 1000) (hd : ∀ x ∈ S.data.toList, IP.digV x < 16) (hV : (IP.valB 16 0 S.data.toList : Int) = V) (hV1 : V ≤ 18446744073709551615) :
    Calls Try.prog 22 #[.string S, .int .u64 16] w fun e w' => e = .returned (.tuple #[.int .u64 V, .bool true]) ∧ w' = w := by
  have HD := hid hd
  have HV := hid hV
  clear hd hV
  have hSe : (S.toList == []) = false := by
    have := isEmpty_of_pos hS
    rw [List.isEmpty_eq_false_iff] at this
    exact beq_eq_false_iff_ne.2 this
  go_enter Try.func22, Try.ntmps22
  go_wp2_with fail
  go_loopw [6, 7] (fun nv iv wr => ∃ (q : Nat) (N : Int), nv = .int .u64 N ∧ iv = .int .i64 q ∧ q ≤ S.size ∧ wr = w ∧ Hid ((IP.valB 16 0 (S.data.toList.take q) : Int) = N)) (fun _ iv _ => S.size - (match iv with | .int _ k => k.toNat | _ => 0))
  case atStart => exact ⟨0, 0, rfl, rfl, Nat.zero_le _, rfl, rfl⟩
  case round =>
    obtain ⟨q, N, rfl, rfl, hq, rfl, hN⟩ := hrel
    by_cases hp : q < S.size
    · have hlen : q < S.data.toList.length := by rw [← Utf.size_eq]; exact hp
      have hst := read_step S 16 V N q hlen (by decide) HV.out hN.out
      have hcs := dig_cases S q hlen 16 (by decide) (HD.out _ (List.getElem_mem hlen))
      have hdl := HD.out _ (List.getElem_mem hlen)
      have E0 := bt_at S q hp
      obtain ⟨D, hD⟩ : ∃ D : Int, (IP.digV (S.data.toList[q]) : Int) = D := ⟨_, rfl⟩
      have hD1 : D < 16 := by rw [← hD]; exact Int.ofNat_lt.2 hdl
      obtain ⟨c, hc⟩ : ∃ c, bt S q = c := ⟨_, rfl⟩
      rw [hD] at hst hcs
      rw [hc] at E0 hcs
      obtain ⟨hs1, hs2, hs3⟩ := hst
      have HS1 := hid hs1
      clear hD hc hs1 hdl
      rcases hcs with ⟨k1, k2, k3⟩ | ⟨k1, k2, k3⟩ | ⟨k1, k2, k3⟩
      all_goals
        subst k3
        simp at hD1 hs2
        first
          | (exfalso; omega)
          | (go_wp2_with fail
             go_roundw
             case rel => exact ⟨q + 1, _, rfl, by go_num, hp, trivial, hid (by rw [HS1.out]; try omega)⟩
             case measure => go_num)
    · have hqe : q = S.size := by omega
      have hNV : N = V := by
        rw [← hN.out, ← HV.out, hqe, Utf.size_eq, List.take_length]
      subst hNV
      go_wp2_with fail
      go_ret2
      exact ⟨rfl, rfl⟩
theorem read_any (S : ByteArray) (b V : Int) (w : World) (hb : b = 10 ∨ b = 2 ∨ b = 8 ∨ b = 16) (hS : 0 < S.size) (hS1 : S.size ≤ 1000) (hd : ∀ x ∈ S.data.toList, IP.digV x < b.toNat) (hV : (IP.valB b.toNat 0 S.data.toList : Int) = V) (hV1 : V ≤ 18446744073709551615) :
    Calls Try.prog 22 #[.string S, .int .u64 b] w fun e w' => e = .returned (.tuple #[.int .u64 V, .bool true]) ∧ w' = w := by
  rcases hb with rfl | rfl | rfl | rfl
  · exact read_10 S V w hS hS1 hd hV hV1
  · exact read_2 S V w hS hS1 hd hV hV1
  · exact read_8 S V w hS hS1 hd hV hV1
  · exact read_16 S V w hS hS1 hd hV hV1
theorem read0_any (S : ByteArray) (b V : Int) (w : World) (hb : b = 10 ∨ b = 2 ∨ b = 8 ∨ b = 16) (hS : 0 < S.size) (hS1 : S.size ≤ 1000) (hd : ∀ x ∈ S.data.toList, IP.digV x < b.toNat) (hV : (IP.valB b.toNat 0 S.data.toList : Int) = V) (hV1 : V ≤ 18446744073709551615) :
    Calls Try.prog 23 #[.string S, .int .u64 b] w fun e w' => e = .returned (.int .u64 V) ∧ w' = w := by
  have RD := hid (fun W => read_any S b V W hb hS hS1 hd hV hV1)
  clear hb hS hS1 hd hV hV1
  go_enter Try.func23, Try.ntmps23
  go_wp2_with fail
  refine (RD.out _).mono ?_
  rintro e w' ⟨rfl, rfl⟩
  go_wp2_with fail
  go_ret
  exact ⟨rfl, rfl⟩
end Go.Proofs.Ytampkhdlhhgneaa
