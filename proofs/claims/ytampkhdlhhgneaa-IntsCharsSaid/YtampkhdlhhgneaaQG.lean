/-
  Walks of layer 3: the document's digits, noughts, great letters.
-/
import Derived.Test.YtampkhdlhhgneaaQA
import Derived.Test.YtampkhdlhhgneaaQ5
namespace Go.Proofs.Ytampkhdlhhgneaa
open Go.RowKit Go.Proofs
attribute [local go_sem] conv1

theorem mag_any (v : Int) (w : World) (h0 : -9223372036854775808 ≤ v) (h1 : v ≤ 9223372036854775807) : Calls Try.prog 29 #[.int .i64 v] w fun e w' => e = .returned (.int .u64 v.natAbs) ∧ w = w' := by
  obtain ⟨m, hm⟩ : ∃ m : Int, (v.natAbs : Int) = m := ⟨_, rfl⟩
  rw [hm]
  by_cases h : v < 0
  · have hm2 : m = -(v + 1) + 1 := by omega
    clear hm
    go_enter Try.func29, Try.ntmps29
    go_wp2_with fail
    go_ret
    exact ⟨by rw [hm2]; rfl, rfl⟩
  · have hm2 : m = v := by omega
    subst hm2
    clear hm
    go_enter Try.func29, Try.ntmps29
    go_wp2_with fail
    go_ret
    exact ⟨rfl, rfl⟩
theorem rpoint_any (bits : Int) (w : World) (h0 : 0 ≤ bits) (h1 : bits ≤ 18446744073709551615) : Calls Try.prog 40 #[.int .u64 bits] w fun e w' => e = .returned (.int .i32 (IP.pointI bits.toNat)) ∧ w = w' := by
  by_cases h : 1114111 < bits
  · have hr : IP.pointI bits.toNat = 65533 := by unfold IP.pointI; rw [if_pos (by omega)]
    rw [hr]
    clear hr
    go_enter Try.func40, Try.ntmps40
    go_wp2_with fail
    go_ret
    exact ⟨rfl, rfl⟩
  · have hr : IP.pointI bits.toNat = bits := by unfold IP.pointI; rw [if_neg (by omega)]; omega
    rw [hr]
    clear hr
    go_enter Try.func40, Try.ntmps40
    go_wp2_with fail
    go_ret
    exact ⟨rfl, rfl⟩
set_option maxRecDepth 100000 in
theorem zeros_any (s : ByteArray) (k : Int) (w : World) (hs : s.size ≤ 3000) (hk : k ≤ 3000) (hk0 : -3000 ≤ k) : Calls Try.prog 43 #[.string s, .int .i64 k] w fun e w' => e = .returned (.string ⟨(IP.zerosTo k s.data.toList).toArray⟩) ∧ w = w' := by
  obtain ⟨R, hR⟩ : ∃ R, IP.zerosTo k s.data.toList = R := ⟨_, rfl⟩
  rw [hR]
  have HR := hid hR
  clear hR
  go_enter Try.func43, Try.ntmps43
  go_wp2_with fail
  go_loopw [0] (fun sv wr => ∃ t : ByteArray, sv = .string t ∧ t.size ≤ 3000 ∧ Hid (IP.zerosTo k t.data.toList = R) ∧ wr = w) (fun sv _ => 3000 - (match sv with | .string t => t.size | _ => 0))
  case atStart => exact ⟨s, rfl, hs, HR, rfl⟩
  case round =>
    obtain ⟨t, rfl, ht, hz, rfl⟩ := hrel
    by_cases hlt : (t.size : Int) < k
    · have hsz : ((⟨#[48]⟩ : ByteArray) ++ t).size = 1 + t.size := by rw [ByteArray.size_append]; rfl
      have hst : Hid (IP.zerosTo k ((⟨#[48]⟩ : ByteArray) ++ t).data.toList = R) := by
        have e : ((⟨#[48]⟩ : ByteArray) ++ t).data.toList = 48 :: t.data.toList := by simp
        refine hid ?_
        rw [e, ← IP.zerosTo_step (by rw [← Utf.size_eq]; exact hlt)]
        exact hz.out
      go_wp2_with fail
      go_roundw
      case rel =>
        refine ⟨_, rfl, ?_, hst, by first | trivial | rfl⟩
        rw [ByteArray.size_append]
        show 1 + t.size ≤ 3000
        omega
      case measure =>
        show 3000 - ((⟨#[48]⟩ : ByteArray) ++ t).size < 3000 - t.size
        rw [ByteArray.size_append]
        show 3000 - (1 + t.size) < 3000 - t.size
        omega
    · have hfin : t.data.toList = R := by
        rw [← hz.out, IP.zerosTo_done (by rw [← Utf.size_eq]; exact hlt)]
      have HF := hid hfin
      clear hfin
      go_wp2_with fail
      go_ret
      exact ⟨ret_str (bytes_ext (by rw [HF.out])), rfl⟩

/-- Great letters. -/
def greatB (a : UInt8) : UInt8 := if 97 ≤ a.toNat ∧ a.toNat ≤ 122 then UInt8.ofNat (a.toNat - 32) else a
theorem great_hexd (d : Nat) (h : d < 16) : greatB (IP.hexd false d) = IP.hexd true d := by
  have : ∀ d : Fin 16, greatB (IP.hexd false d) = IP.hexd true d := by decide
  exact this ⟨d, h⟩
theorem great_dgb (b : Nat) (h2 : 2 ≤ b) (h16 : b ≤ 16) (n : Nat) : (IP.dgb b false n).map greatB = IP.dgb b true n := by
  induction n using Nat.strongRecOn with
  | _ n ih =>
    by_cases h : n < b
    · rw [IP.dgb_small false h, IP.dgb_small true h]
      show [greatB _] = _
      rw [great_hexd n (by omega)]
    · rw [IP.dgb_big false h2 (by omega), IP.dgb_big true h2 (by omega), List.map_append, ih (n / b) (Nat.div_lt_self (by omega) (by omega))]
      show _ ++ [greatB _] = _
      rw [great_hexd _ (by have := Nat.mod_lt n (show 0 < b by omega); omega)]
theorem great_step (s : ByteArray) (k : Nat) (h : k < s.size) : (s.data.toList.take (k + 1)).map greatB = (s.data.toList.take k).map greatB ++ [UInt8.ofNat (if 97 ≤ bt s k ∧ bt s k ≤ 122 then bt s k - 32 else bt s k).toNat] := by
  have hl : k < s.data.toList.length := by rw [← Utf.size_eq]; exact h
  have e : bt s k = ((s.data.toList[k]).toNat : Int) := by unfold bt; rw [List.getElem?_eq_getElem hl]; rfl
  rw [List.take_add_one, List.getElem?_eq_getElem hl, List.map_append, e]
  congr 1
  show [greatB _] = _
  unfold greatB
  congr 1
  by_cases hc : 97 ≤ (s.data.toList[k]).toNat ∧ (s.data.toList[k]).toNat ≤ 122
  · rw [if_pos hc, if_pos (by omega)]
    congr 1
    omega
  · rw [if_neg hc, if_neg (by omega)]
    simp
set_option maxRecDepth 100000 in
theorem great_any (s : ByteArray) (w : World) (hs : s.size ≤ 3000) : Calls Try.prog 44 #[.string s] w fun e w' => e = .returned (.string ⟨(s.data.toList.map greatB).toArray⟩) ∧ Below w.heap.size w w' := by
  go_enter Try.func44, Try.ntmps44
  go_wp2_with fail
  go_loopw [3, 4] (fun v i wr => ∃ (k : Nat) (t : ByteArray), v = .string t ∧ i = .int .i64 k ∧ k ≤ s.size ∧ t.size ≤ 3000 ∧ Hid (t.data.toList = (s.data.toList.take k).map greatB) ∧ Below w.heap.size w wr) (fun _ i _ => s.size - (intOf i).toNat)
  case atStart => exact ⟨0, ⟨#[]⟩, rfl, rfl, Nat.zero_le _, by decide, rfl, Below.refl _ _⟩
  case round =>
    obtain ⟨k, t, rfl, rfl, hk, ht, hT, hb⟩ := hrel
    by_cases hlt : k < s.size
    · have E0 := bt_at s k hlt
      have hst := great_step s k hlt
      have hbb := bt_bound s k
      obtain ⟨c, hc⟩ : ∃ c, bt s k = c := ⟨_, rfl⟩
      rw [hc] at E0 hst hbb
      clear hc
      obtain ⟨hbb0, hbb1⟩ := hbb
      obtain ⟨d, hd⟩ : ∃ d : Int, (if 97 ≤ c ∧ c ≤ 122 then c - 32 else c) = d := ⟨_, rfl⟩
      rw [hd] at hst
      have ht1 : Hid ((t ++ strOfNums [d]).data.toList = (s.data.toList.take (k + 1)).map greatB) := by
        refine hid ?_
        rw [hst, ByteArray.data_append, Array.toList_append, hT.out]
        rfl
      have hsz : (t ++ strOfNums [d]).size ≤ 3000 := by
        rw [Utf.size_eq, ht1.out, List.length_map, List.length_take]; omega
      have h1 : (strOfNums [d]).size = 1 := strOfNums_size [d]
      clear hst
      rcases (show (97 ≤ c ∧ c ≤ 122 ∧ d = c - 32) ∨ (c < 97 ∧ d = c) ∨ (97 ≤ c ∧ ¬ c ≤ 122 ∧ d = c) by
        by_cases q : 97 ≤ c ∧ c ≤ 122
        · rw [if_pos q] at hd; exact Or.inl ⟨q.1, q.2, hd.symm⟩
        · rw [if_neg q] at hd; omega) with ⟨q1, q2, rfl⟩ | ⟨q1, rfl⟩ | ⟨q1, q2, rfl⟩
      all_goals
        clear hd
        go_wp2_with fail
        go_roundw
        case rel => exact ⟨k + 1, _, rfl, by go_num, by omega, hsz, ht1, hb.alloc hb.size _⟩
        case measure => simp [intOf]; omega
    · have hke : k = s.size := by omega
      have hfin : t.data.toList = s.data.toList.map greatB := by
        rw [hT.out, hke, Utf.size_eq, List.take_length]
      have HF := hid hfin
      clear hfin
      go_wp2_with fail
      go_ret
      exact ⟨ret_str (bytes_ext (by rw [HF.out])), hb⟩
end Go.Proofs.Ytampkhdlhhgneaa
