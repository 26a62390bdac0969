/-
  Walks of layer 3: the digits of a number.
-/
import Derived.Test.YtampkhdlhhgneaaIP
import Derived.Test.YtampkhdlhhgneaaB6
import Derived.Test.YtampkhdlhhgneaaBlk
namespace Go.Proofs.Ytampkhdlhhgneaa
open Go.RowKit Go.Proofs

theorem bytes_ext {a b : ByteArray} (h : a.data.toList = b.data.toList) : a = b := by
  apply ByteArray.ext
  apply Array.ext'
  exact h
def zero64 : Array Value := Array.replicate 64 (.int .u8 0)
/-- The digits' signs. -/
def signsS (g : Bool) : ByteArray := if g then ⟨#[48, 49, 50, 51, 52, 53, 54, 55, 56, 57, 65, 66, 67, 68, 69, 70]⟩ else ⟨#[48, 49, 50, 51, 52, 53, 54, 55, 56, 57, 97, 98, 99, 100, 101, 102]⟩
theorem signs_at (g : Bool) (d : Nat) (h : d < 16) : bt (signsS g) d = ((IP.hexd g d).toNat : Int) := by
  cases g <;> (rcases (show d = 0 ∨ d = 1 ∨ d = 2 ∨ d = 3 ∨ d = 4 ∨ d = 5 ∨ d = 6 ∨ d = 7 ∨ d = 8 ∨ d = 9 ∨ d = 10 ∨ d = 11 ∨ d = 12 ∨ d = 13 ∨ d = 14 ∨ d = 15 by omega) with rfl | rfl | rfl | rfl | rfl | rfl | rfl | rfl | rfl | rfl | rfl | rfl | rfl | rfl | rfl | rfl <;> rfl)

set_option maxRecDepth 100000 in
set_option maxHeartbeats 1000000 in
theorem digits_any (n b : Int) (g : Bool) (w : World) (h0 : 0 ≤ n) (h1 : n ≤ 18446744073709551615) (hb2 : 2 ≤ b) (hb16 : b ≤ 16) :
    Calls Try.prog 25 #[.int .u64 n, .int .u64 b, .string (signsS g)] w fun e w' => e = .returned (.string ⟨(IP.dgb b.toNat g n.toNat).toArray⟩) ∧ Below w.heap.size w w' := by
  have hl := IP.dgb_len64 b.toNat g (by omega) n.toNat (by omega)
  obtain ⟨S, hS⟩ : ∃ S, signsS g = S := ⟨_, rfl⟩
  have hSz : S.size = 16 := by rw [← hS]; cases g <;> rfl
  have HSS := hid (fun (d : Nat) (h : d < 16) => signs_at g d h)
  rw [hS] at HSS ⊢
  clear hS
  have BN := hid (Blk.new w zero64 53)
  have BB0 := hid ((Below.refl w.heap.size w).alloc (Nat.le_refl _) (.cells zero64 53))
  go_enter Try.func25, Try.ntmps25
  go_wp2_with fail
  obtain ⟨W0, hW0⟩ : ∃ W0, w.alloc (.cells zero64 53) = W0 := ⟨_, rfl⟩
  change Code.wp _ _ _ _ (w.alloc (.cells zero64 53))
  rw [hW0] at BN BB0 ⊢
  obtain ⟨G, hG⟩ : ∃ G, w.heap.size = G := ⟨_, rfl⟩
  have HG := hid hG
  rw [hG] at BN ⊢
  clear hW0 hG
  go_loopw [0, 8] (fun nv av wr => ∃ (x : Int) (k : Nat) (t : List Int) (cs : Array Value), nv = .int .u64 x ∧ 0 ≤ x ∧ x ≤ n ∧ av = .int .i64 k ∧ k ≤ 64 ∧ Hid (k + t.length = 64 ∧ IP.dgb b.toNat g n.toNat = IP.dgb b.toNat g x.toNat ++ t.map (fun v => UInt8.ofNat v.toNat) ∧ Blk wr G cs 53 ∧ cs.size = 64 ∧ (∀ i, i < t.length → cs[k + i]? = some (.int .u8 (t.getD i 0))) ∧ Below w.heap.size w wr)) (fun nv _ _ => (intOf nv).toNat)
  case atStart => exact ⟨n, 64, [], zero64, rfl, h0, Int.le_refl _, rfl, Nat.le_refl _, ⟨rfl, (List.append_nil _).symm, BN.out, rfl, fun i h => absurd h (Nat.not_lt_zero _), BB0.out⟩⟩
  case round =>
    obtain ⟨x, k, t, cs, rfl, hx0, hxn, rfl, hk, hrel⟩ := hrel
    obtain ⟨r1, r2, r3, r4, r5, r6⟩ := hrel.out
    have hk1 : 1 ≤ k := by
      have h2 := congrArg List.length r2
      have h3 := IP.dgb_pos b.toNat x.toNat g
      rw [List.length_append, List.length_map] at h2
      omega
    have hm0 : 0 ≤ x % b := Int.emod_nonneg _ (by omega)
    have hm1 : x % b < b := Int.emod_lt_of_pos _ (by omega)
    have hq0 : 0 ≤ x / b := Int.ediv_nonneg hx0 (by omega)
    obtain ⟨c, hc⟩ : ∃ c : Int, ((IP.hexd g (x % b).toNat).toNat : Int) = c := ⟨_, rfl⟩
    have hc0 : 0 ≤ c ∧ c < 256 := by have := UInt8.toNat_lt (IP.hexd g (x % b).toNat); omega
    obtain ⟨hc0, hc1⟩ := hc0
    have hidx : (x % b).toNat < S.size := by rw [hSz]; omega
    have E0 := bt_at S (x % b).toNat hidx
    rw [HSS.out _ (by omega), hc] at E0
    obtain ⟨old, hcc⟩ : ∃ old, wr.cell? ⟨G, k - 1, none⟩ = some old := ⟨_, by rw [r3.cell (k - 1), Array.getElem?_eq_getElem (by omega)]⟩
    have hcf := r3.frozen (k - 1)
    have hcu : UInt8.ofNat c.toNat = IP.hexd g (x % b).toNat := by
      rw [← hc, Int.toNat_natCast]
      exact UInt8.ofNat_toNat
    have hxt : (x % b).toNat = x.toNat % b.toNat := Int.toNat_emod hx0 (by omega)
    have hxq : (x / b).toNat = x.toNat / b.toNat := by
      obtain ⟨a, ha⟩ := Int.eq_ofNat_of_zero_le hx0
      obtain ⟨d, hd⟩ := Int.eq_ofNat_of_zero_le (show 0 ≤ b by omega)
      rw [ha, hd, ← Int.natCast_ediv, Int.toNat_natCast, Int.toNat_natCast, Int.toNat_natCast]
    have NEXT : Hid (Blk (wr.setCell ⟨G, k - 1, none⟩ (.int .u8 c)) G (cs.setIfInBounds (k - 1) (.int .u8 c)) 53 ∧ (cs.setIfInBounds (k - 1) (.int .u8 c)).size = 64 ∧
        (∀ i, i < (c :: t).length → (cs.setIfInBounds (k - 1) (.int .u8 c))[k - 1 + i]? = some (.int .u8 ((c :: t).getD i 0))) ∧ Below w.heap.size w (wr.setCell ⟨G, k - 1, none⟩ (.int .u8 c))) := by
      refine ⟨r3.set_ _ _, by simp [r4], fun i hi => ?_, r6.setCell (by rw [HG.out]; exact Nat.le_refl _) _⟩
      cases i with
      | zero => rw [Nat.add_zero, Array.getElem?_setIfInBounds_self_of_lt (by omega)]; rfl
      | succ i =>
        rw [Array.getElem?_setIfInBounds_ne (by omega), show k - 1 + (i + 1) = k + i by omega, r5 i (by simpa using hi)]
        rfl
    have KK := hid (And.intro r1 (And.intro r2 (And.intro hcu (And.intro hxt hxq))))
    clear r1 r2 r3 r4 r5 r6 hc hcu hxt hxq hrel
    by_cases hlt : x < b
    · have hq : ((x / b : Int) == 0) = true := beq_iff_eq.2 (Int.ediv_eq_zero_of_lt hx0 hlt)
      have hlen : (c :: t).length = 65 - k := by have := KK.out.1; simp only [List.length_cons]; omega
      have sl : ∀ W : World, (Instr.sliceAt 53 (.pointer (some ⟨G, 0, none⟩)) (some (.int .i64 (↑k - 1))) none none).run Try.prog W = .ok (.slice (some ⟨G, k - 1, none⟩) (65 - k) (65 - k)) W := fun W => by
        have h := run_sliceAt_array_l (P := Try.prog) W 53 ⟨G, 0, none⟩ Try.underlying53 .i64 (↑k - 1) (by omega) (by show _ ≤ ((64 : Nat) : Int); omega)
        have e1 : ((k : Int) - 1).toNat = k - 1 := by omega
        have e2 : Try.prog.arrayLen 53 = 64 := rfl
        have e3 : Try.prog.elem 53 = 5 := rfl
        rw [h, e1, e2, e3]
        have e4 := Try.sizeOf5 W
        rw [e4]
        simp only [Result.andThen_ok, slicedAt, if_neg (show ¬ 64 = k - 1 by omega), Nat.mul_one]
        rw [show 64 - (k - 1) = 65 - k by omega, Addr.add_mid, Nat.zero_add]
      have cv : (convert 52 9 (.slice (some ⟨G, k - 1, none⟩) (65 - k) (65 - k))).run Try.prog (wr.setCell ⟨G, k - 1, none⟩ (.int .u8 c)) = .ok (.string (strOfNums (c :: t))) (wr.setCell ⟨G, k - 1, none⟩ (.int .u8 c)) :=
        run_convert_bytes_arg _ 52 5 Try.underlying52 Try.underlying5 G (k - 1) (65 - k) (65 - k) (c :: t) hlen (fun i hi => by
          rw [NEXT.out.1.cell]
          exact NEXT.out.2.2.1 i (by rw [hlen]; exact hi)) 9 Try.underlying9
      clear hlen
      go_wp2_with fail
      go_ret
      refine ⟨ret_str (bytes_ext ?_), NEXT.out.2.2.2⟩
      rw [strOfNums_data, List.map_cons, KK.out.2.2.1, KK.out.2.1, IP.dgb_small g (by omega), KK.out.2.2.2.1, Nat.mod_eq_of_lt (by omega)]
      rfl
    · have hq : ((x / b : Int) == 0) = false := beq_eq_false_iff_ne.2 (by
        have : 1 ≤ x / b := Int.le_ediv_of_mul_le (by omega) (by omega)
        omega)
      have hdec : x / b < x := Int.ediv_lt_self_of_pos_of_ne_one (by omega) (by omega)
      go_wp2_with fail
      go_roundw
      case rel =>
        refine ⟨x / b, k - 1, c :: t, _, rfl, hq0, by omega, by go_num, by omega, ⟨?_, ?_, NEXT.out.1, NEXT.out.2.1, NEXT.out.2.2.1, NEXT.out.2.2.2⟩⟩
        · have := KK.out.1
          simp only [List.length_cons]; omega
        · rw [List.map_cons, KK.out.2.2.1, KK.out.2.1, IP.dgb_big g (by omega) (by omega), KK.out.2.2.2.1, KK.out.2.2.2.2, List.append_assoc]
          rfl
      case measure => simp [intOf]; omega
end Go.Proofs.Ytampkhdlhhgneaa
