/-
  Walks of layer 9: the law's own helpers: digits and flags as texts.
-/
import Derived.Test.YtmfhoindfhmncaaDoorPN
import Derived.Test.YtmfhoindfhmncaaDoorP5
namespace Go.Proofs.YtmfhoindfhmncaaDoor
open Go.RowKit Go.Proofs
attribute [local go_sem] conv1

theorem nums_one (x : Int) : (strOfNums [x]).data.toList = [UInt8.ofNat x.toNat] := by
  unfold strOfNums
  simp

set_option maxRecDepth 100000 in
theorem ldigits_any (n : Int) (w : World) (h0 : 0 ≤ n) (h1 : n ≤ 1000000000) :
    Calls Tryd.prog 15 #[.int .i64 n] w fun e w' => e = .returned (.string ⟨(PP.dgs n.toNat).toArray⟩) ∧ Below w.heap.size w w' := by
  have hl := PP.dgs_len n.toNat 10 (by omega) (by omega)
  go_enter Tryd.func15, Tryd.ntmps15
  go_wp2_with fail
  go_loopw [0, 3] (fun nv sv wr => ∃ (x : Int) (t : ByteArray), nv = .int .i64 x ∧ 0 ≤ x ∧ x ≤ n ∧ sv = .string t ∧ Hid (PP.dgs n.toNat = PP.dgs x.toNat ++ t.data.toList) ∧ Below w.heap.size w wr) (fun nv _ _ => (intOf nv).toNat)
  case atStart => exact ⟨n, ⟨#[]⟩, rfl, h0, Int.le_refl _, rfl, (List.append_nil _).symm, Below.refl _ _⟩
  case round =>
    obtain ⟨x, t, rfl, hx0, hxn, rfl, hd, hb⟩ := hrel
    have hts : t.size ≤ 10 := by
      have := congrArg List.length hd.out
      rw [List.length_append, ← Utf.size_eq] at this
      omega
    have B1 := hid ((hb.alloc hb.size (.cells #[.int .u8 (48 + x % 10)] 5)))
    have hs1 : (strOfNums [48 + x % 10]).size = 1 := by rw [Utf.size_eq, nums_one]; rfl
    by_cases hlt : x < 10
    · have hq : ((x / 10 : Int) == 0) = true := beq_iff_eq.2 (by omega)
      go_wp2_with fail
      go_ret
      refine ⟨ret_str (bytes_ext ?_), B1.out⟩
      rw [ByteArray.data_append, Array.toList_append, nums_one, hd.out, PP.dgs_small (by omega)]
      rw [show (48 + x % 10).toNat = 48 + x.toNat by omega]
    · have hq : ((x / 10 : Int) == 0) = false := beq_eq_false_iff_ne.2 (by omega)
      go_wp2_with fail
      go_roundw
      case rel =>
        refine ⟨x / 10, _, rfl, by omega, by omega, rfl, ?_, B1.out⟩
        unfold Hid
        rw [hd.out, PP.dgs_big (by omega), ByteArray.data_append, Array.toList_append, nums_one, List.append_assoc, show (48 + x % 10).toNat = 48 + x.toNat % 10 by omega, show (x / 10).toNat = x.toNat / 10 by omega]
      case measure => simp [intOf]; omega

set_option maxRecDepth 100000 in
set_option maxHeartbeats 2000000 in
theorem lflags_any (f : PP.Fl) (wid prec verb : Int) (back : Bool) (w : World) :
    Calls Tryd.prog 16 #[.agg #[.bool f.pl, .bool f.mi, .bool f.sh, .bool f.sp, .bool f.ze, .int .i64 wid, .int .i64 prec, .int .i32 verb], .bool back] w fun e w' => e = .returned (.string ⟨(PP.flT f back 5).toArray⟩) ∧ Below w.heap.size w w' := by
  obtain ⟨pl, mi, sh, sp, ze⟩ := f
  obtain ⟨f, hf⟩ : ∃ f : PP.Fl, f = ⟨pl, mi, sh, sp, ze⟩ := ⟨_, rfl⟩
  rw [← hf]
  have HF := hid hf
  clear hf
  go_enter Tryd.func16, Tryd.ntmps16
  go_wp2_with fail
  go_loopw [5, 20] (fun sv kv wr => ∃ (k : Nat) (t : ByteArray), kv = .int .i64 k ∧ k ≤ 5 ∧ sv = .string t ∧ t.size ≤ 2 * k ∧ Hid (t.data.toList = PP.flT f back k) ∧ Below w.heap.size w wr) (fun _ kv _ => 5 - (intOf kv).toNat)
  case atStart => exact ⟨0, ⟨#[]⟩, rfl, by omega, rfl, Nat.le_refl _, rfl, (Below.refl _ _).alloc (Nat.le_refl _) _⟩
  case round =>
    obtain ⟨k, t, rfl, hk, rfl, hts, ht, hb⟩ := hrel
    by_cases hk5 : k < 5
    · obtain ⟨c, hc⟩ : ∃ c, PP.chF.getD k 0 = c := ⟨_, rfl⟩
      obtain ⟨d, hd⟩ : ∃ d, (⟨#[43, 45, 35, 32, 48]⟩ : ByteArray).extract k (k + 1) = d := ⟨_, rfl⟩
      have hdl : d.data.toList = [c] := by
        rw [← hd, ← hc, Lib.extract_data]
        rcases (show k = 0 ∨ k = 1 ∨ k = 2 ∨ k = 3 ∨ k = 4 by omega) with rfl | rfl | rfl | rfl | rfl <;> rfl
      have hds : d.size = 1 := by rw [Utf.size_eq, hdl]; rfl
      obtain ⟨o, ho⟩ : ∃ o, PP.onF f k = o := ⟨_, rfl⟩
      have ix : ∀ W : World, (Instr.index 57 (.agg #[.bool f.pl, .bool f.mi, .bool f.sh, .bool f.sp, .bool f.ze]) (.int .i64 k)).run Tryd.prog W = .ok (.bool o) W := by
        intro W
        rw [← ho]
        rcases (show k = 0 ∨ k = 1 ∨ k = 2 ∨ k = 3 ∨ k = 4 by omega) with rfl | rfl | rfl | rfl | rfl <;> kernel_rfl
      have H := hid (And.intro hc (And.intro hdl ho))
      have hstep : PP.flT f back (k + 1) = if o then (if back then [c, c] ++ PP.flT f back k else PP.flT f back k ++ [c]) else PP.flT f back k := by rw [PP.flT, ho, hc]
      have HST := hid hstep
      clear hc hdl ho hstep
      cases o
      · go_wp2_with fail
        go_roundw
        case rel => exact ⟨k + 1, t, by go_num, by omega, rfl, by omega, by unfold Hid; rw [HST.out]; exact ht.out, hb⟩
        case measure => simp [intOf]; omega
      · cases back
        · go_wp2_with fail
          go_roundw
          case rel => exact ⟨k + 1, _, by go_num, by omega, rfl, by rw [ByteArray.size_append]; omega, by unfold Hid; rw [HST.out, ByteArray.data_append, Array.toList_append, H.out.2.1, ht.out]; rfl, hb⟩
          case measure => simp [intOf]; omega
        · go_wp2_with fail
          go_roundw
          case rel => exact ⟨k + 1, _, by go_num, by omega, rfl, by rw [ByteArray.size_append, ByteArray.size_append]; omega, by unfold Hid; rw [HST.out, ByteArray.data_append, Array.toList_append, ByteArray.data_append, Array.toList_append, H.out.2.1, ht.out]; rfl, hb⟩
          case measure => simp [intOf]; omega
    · have hk' : k = 5 := by omega
      subst hk'
      go_wp2_with fail
      go_ret
      exact ⟨ret_str (bytes_ext (by rw [ht.out])), hb⟩
end Go.Proofs.YtmfhoindfhmncaaDoor
