/-
  Walks of layer 9: a number out of digits; the digits ahead.
-/
import Derived.Test.YtmfhoindfhmncaaDoorP2
namespace Go.Proofs.YtmfhoindfhmncaaDoor
open Go.RowKit Go.Proofs

def AllD (l : List UInt8) : Prop := ∀ a ∈ l, 48 ≤ a.toNat ∧ a.toNat ≤ 57
theorem allD_dg (l : List UInt8) : AllD (PP.dg l) := by
  intro a ha
  have h : PP.isD a = true := by
    unfold PP.dg at ha
    induction l with
    | nil => simp at ha
    | cons b t ih =>
      rw [List.takeWhile_cons] at ha
      split at ha
      · rename_i hb
        rcases List.mem_cons.mp ha with e | e
        · rw [e]; exact hb
        · exact ih e
      · cases ha
  simp [PP.isD] at h
  omega
theorem bytesWorld_below (w : World) (e : TypeId) (s : ByteArray) : Below w.heap.size w (Lib.bytesWorld w e s) :=
  ⟨rfl, rfl, rfl, by rw [Lib.bytesWorld_size]; omega, fun k hk => Lib.bytesWorld_at_old w e s k hk⟩
theorem valL_cons {limit n : Int} {a : UInt8} {t : List UInt8} : PP.valL limit n (a :: t) = if limit < 10 * n + ((a.toNat : Int) - 48) then -1 else PP.valL limit (10 * n + ((a.toNat : Int) - 48)) t := by rw [PP.valL]
theorem drop_at {l : List UInt8} {i : Nat} (h : i < l.length) : l.drop i = l.getD i 0 :: l.drop (i + 1) := by
  rw [List.drop_eq_getElem_cons h]
  simp [List.getD, h]

theorem getD_mem {l : List UInt8} {i : Nat} (h : i < l.length) : l.getD i 0 ∈ l := by
  have e : l.getD i 0 = l[i] := by unfold List.getD; rw [List.getElem?_eq_getElem h]; rfl
  rw [e]
  exact List.getElem_mem h

theorem dg_len_in {l : List UInt8} {k : Nat} {K : Nat} (hk : k + (PP.dg (l.drop k)).length = K) (h : k < l.length) (h1 : 48 ≤ ((l[k]?.getD 0).toNat : Int)) (h2 : ((l[k]?.getD 0).toNat : Int) ≤ 57) : k + 1 + (PP.dg (l.drop (k + 1))).length = K := by
  rw [List.drop_eq_getElem_cons h] at hk
  rw [List.getElem?_eq_getElem h] at h1 h2
  simp only [Option.getD_some] at h1 h2
  have : PP.isD l[k] = true := by simp [PP.isD]; omega
  unfold PP.dg at hk ⊢
  rw [List.takeWhile_cons, this] at hk
  simp only [if_true, List.length_cons] at hk
  omega
theorem dg_len_out {l : List UInt8} {k : Nat} {K : Nat} (hk : k + (PP.dg (l.drop k)).length = K) (h : ∀ _ : k < l.length, ¬ (48 ≤ ((l[k]?.getD 0).toNat : Int) ∧ ((l[k]?.getD 0).toNat : Int) ≤ 57)) : k = K := by
  rcases Nat.lt_or_ge k l.length with hl | hl
  · have := h hl
    rw [List.getElem?_eq_getElem hl] at this
    simp only [Option.getD_some] at this
    rw [List.drop_eq_getElem_cons hl] at hk
    have hb : PP.isD l[k] = false := by simp [PP.isD]; omega
    unfold PP.dg at hk
    rw [List.takeWhile_cons, hb] at hk
    simpa using hk
  · rw [List.drop_eq_nil_of_le hl] at hk
    simpa [PP.dg] using hk
theorem dg_take (l : List UInt8) : PP.dg l = l.take (PP.dg l).length := by
  have h := PP.dg_rs l
  conv => rhs; rw [← h]
  rw [show (PP.dg (PP.dg l ++ PP.rs l)).length = (PP.dg l).length by rw [h], List.take_left]

set_option maxRecDepth 100000 in
theorem number_any (d : ByteArray) (limit : Int) (w : World) (hs : d.size ≤ 140737488355328) (hl : 0 ≤ limit ∧ limit ≤ 1000000000) (hd : AllD d.data.toList) :
    Calls Tryd.prog 41 #[.string d, .int .i64 limit] w fun e w' => e = .returned (.int .i64 (PP.valL limit 0 d.data.toList)) ∧ Below w.heap.size w w' := by
  have hcv := Lib.run_convert_string_bytes (P := Tryd.prog) w 9 49 5 d Tryd.underlying9 Tryd.underlying49 Tryd.underlying5
  obtain ⟨N, hN⟩ : ∃ N, PP.valL limit 0 d.data.toList = N := ⟨_, rfl⟩
  rw [hN]
  have HN := hid hN
  have HD := hid hd
  clear hN hd
  have hbw := bytesWorld_below w 5 d
  have hcl := hid (Lib.bytesWorld_cell w 5 d)
  go_enter Tryd.func41, Tryd.ntmps41
  go_wp2_with fail
  obtain ⟨W1, hW1⟩ : ∃ W1, Lib.bytesWorld w 5 d = W1 := ⟨_, rfl⟩
  rw [hW1] at hbw hcl ⊢
  clear hcv hW1
  go_loopw [5, 11] (fun nv iv wr => ∃ (n : Int) (i : Nat), nv = .int .i64 n ∧ iv = .int .i64 i ∧ i ≤ d.size ∧ 0 ≤ n ∧ n ≤ limit ∧ wr = W1 ∧ Hid (PP.valL limit n (d.data.toList.drop i) = N)) (fun _ iv _ => d.size - (match iv with | .int _ k => k.toNat | _ => 0))
  case atStart => exact ⟨0, 0, rfl, rfl, Nat.zero_le _, Int.le_refl _, hl.1, rfl, HN⟩
  case round =>
    obtain ⟨n, i, rfl, rfl, hi, hn0, hnl, rfl, hk⟩ := hrel
    by_cases hp : i < d.size
    · have hlen : i < d.data.toList.length := by rw [← Utf.size_eq]; exact hp
      have hci := hcl.out i hp
      have hdi := HD.out (d.data.toList.getD i 0) (getD_mem hlen)
      have hst := hk.out
      rw [drop_at hlen, valL_cons] at hst
      obtain ⟨c, hc⟩ : ∃ c : Int, ((d.data.toList.getD i 0).toNat : Int) = c := ⟨_, rfl⟩
      rw [hc] at hci hst
      have hb : 48 ≤ c ∧ c ≤ 57 := by omega
      have hu : (c - 48) % 256 = c - 48 := by omega
      clear hc hdi
      have HST := hid hst
      clear hst
      by_cases hg : limit < 10 * n + (c - 48)
      · go_wp2_with fail
        go_ret
        have := HST.out
        rw [if_pos hg] at this
        subst this
        exact ⟨rfl, hbw⟩
      · go_wp2_with fail
        go_roundw
        case rel =>
          refine ⟨10 * n + (c - 48), i + 1, by simp, by go_num, hp, by omega, by omega, by first | trivial | rfl, ?_⟩
          have := HST.out
          rw [if_neg hg] at this
          exact this
        case measure => go_num
    · go_wp2_with fail
      go_ret
      have e : d.data.toList.drop i = [] := List.drop_eq_nil_of_le (by rw [← Utf.size_eq]; omega)
      have := hk.out
      rw [e] at this
      have e2 : n = N := by rw [← this]; rfl
      subst e2
      exact ⟨rfl, hbw⟩

set_option maxRecDepth 100000 in
set_option maxHeartbeats 2000000 in
theorem digits_any (R V : Nat) (t : ByteArray) (w : World) (h : Rd w R V t) (hs : t.size ≤ 140737488355328) :
    Calls Tryd.prog 42 #[.pointer (some ⟨R, 0, none⟩)] w fun e w' => ∃ d, e = .returned (.string d) ∧ d.data.toList = PP.dg t.data.toList ∧ ∃ t', t'.data.toList = PP.rs t.data.toList ∧ Rd w' R V t' ∧ Only R w w' := by
  have HR := hid h
  have hr0 : w.cell? ⟨R, 0, none⟩ = some (.string t) := h.1.cell 0
  have hfr : w.frozen? ⟨R, 0, none⟩ = false := h.1.frozen 0
  clear h
  obtain ⟨K, hK⟩ : ∃ K, (PP.dg t.data.toList).length = K := ⟨_, rfl⟩
  have HK := hid hK
  clear hK
  go_enter Tryd.func42, Tryd.ntmps42
  go_wp2_with fail
  go_loopw [3] (fun nv wr => ∃ (k : Nat), nv = .int .i64 k ∧ k ≤ t.size ∧ wr = w ∧ Hid (k + (PP.dg (t.data.toList.drop k)).length = K)) (fun nv _ => t.size - (match nv with | .int _ k => k.toNat | _ => 0))
  case atStart => exact ⟨0, rfl, Nat.zero_le _, rfl, by rw [List.drop_zero, HK.out]; exact Nat.zero_add _⟩
  case round =>
    obtain ⟨k, rfl, hk, rfl, hi⟩ := hrel
    by_cases hp : k < t.size
    · have hlen : k < t.data.toList.length := by rw [← Utf.size_eq]; exact hp
      have hin := @dg_len_in _ _ _ hi.out hlen
      have hout := @dg_len_out _ _ _ hi.out
      have E0 := bt_at t k hp
      have hbb := bt_bound t k
      change 48 ≤ bt t k → bt t k ≤ 57 → _ at hin
      change (∀ h : k < t.data.toList.length, ¬ (48 ≤ bt t k ∧ bt t k ≤ 57)) → _ at hout
      obtain ⟨c, hc⟩ : ∃ c, bt t k = c := ⟨_, rfl⟩
      rw [hc] at E0 hin hout hbb
      have HIN := hid hin
      have HOUT := hid hout
      clear hin hout hc
      by_cases h1 : 48 ≤ c
      · by_cases h2 : c ≤ 57
        · go_wp2_with fail
          go_roundw
          case rel => exact ⟨k + 1, by go_num, hp, by first | trivial | rfl, HIN.out h1 h2⟩
          case measure => go_num
        · obtain ⟨d, hd⟩ : ∃ d, t.extract 0 k = d := ⟨_, rfl⟩
          obtain ⟨t', ht'⟩ : ∃ t', t.extract k t.size = t' := ⟨_, rfl⟩
          have e1 := hid (show d.data.toList = PP.dg t.data.toList by have hkK : k = K := HOUT.out (fun _ h => h2 h.2); rw [← hd, ext_take, dg_take, HK.out, hkK])
          have e2 := hid (show t'.data.toList = PP.rs t.data.toList by have hkK : k = K := HOUT.out (fun _ h => h2 h.2); rw [← ht', ext_drop, PP.rs_drop, HK.out, hkK])
          clear HOUT
          go_wp2_with fail
          go_ret
          exact ⟨d, rfl, e1.out, t', e2.out, HR.out.put t', (Only.refl R _).set_ 0 _⟩
      · obtain ⟨d, hd⟩ : ∃ d, t.extract 0 k = d := ⟨_, rfl⟩
        obtain ⟨t', ht'⟩ : ∃ t', t.extract k t.size = t' := ⟨_, rfl⟩
        have e1 := hid (show d.data.toList = PP.dg t.data.toList by have hkK : k = K := HOUT.out (fun _ h => h1 h.1); rw [← hd, ext_take, dg_take, HK.out, hkK])
        have e2 := hid (show t'.data.toList = PP.rs t.data.toList by have hkK : k = K := HOUT.out (fun _ h => h1 h.1); rw [← ht', ext_drop, PP.rs_drop, HK.out, hkK])
        clear HOUT
        go_wp2_with fail
        go_ret
        exact ⟨d, rfl, e1.out, t', e2.out, HR.out.put t', (Only.refl R _).set_ 0 _⟩
    · have hkK : k = K := dg_len_out hi.out (fun h => absurd h (by rw [← Utf.size_eq]; exact hp))
      obtain ⟨d, hd⟩ : ∃ d, t.extract 0 k = d := ⟨_, rfl⟩
      obtain ⟨t', ht'⟩ : ∃ t', t.extract k t.size = t' := ⟨_, rfl⟩
      have e1 := hid (show d.data.toList = PP.dg t.data.toList by rw [← hd, ext_take, dg_take, HK.out, hkK])
      have e2 := hid (show t'.data.toList = PP.rs t.data.toList by rw [← ht', ext_drop, PP.rs_drop, HK.out, hkK])
      clear hkK
      go_wp2_with fail
      go_ret
      exact ⟨d, rfl, e1.out, t', e2.out, HR.out.put t', (Only.refl R _).set_ 0 _⟩
end Go.Proofs.YtmfhoindfhmncaaDoor
