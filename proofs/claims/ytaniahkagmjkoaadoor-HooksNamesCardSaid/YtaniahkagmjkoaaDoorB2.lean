/-
  Walks of layer 1: the document's Decode.
-/
import Derived.Test.YtaniahkagmjkoaaDoorB1
import Derived.LoopTactic
import Derived.IntWalk
import Derived.Deep.QuietTactic
import Derived.BigQuiet
import Derived.Deep.RegionWith
import Derived.Deep.RegionHeld3
namespace Go.Proofs.YtaniahkagmjkoaaDoor
open Go.RowKit Go.Proofs

/-- A byte of a text, as a number. -/
def bt (s : ByteArray) (k : Nat) : Int := ((s.data.toList[k]?.getD 0).toNat : Int)
theorem bt_at (s : ByteArray) (k : Nat) (h : k < s.size) : ((s[k]'h).toNat : Int) = bt s k := by
  unfold bt
  have hl : k < s.data.toList.length := by rw [← Utf.size_eq]; exact h
  rw [List.getElem?_eq_getElem hl]
  rfl
theorem bt_bound (s : ByteArray) (k : Nat) : 0 ≤ bt s k ∧ bt s k < 256 := by
  have := Utf.at_lt s.data.toList k
  unfold bt
  omega

theorem cval1 (s : ByteArray) (q : Nat) (h : q = 1) : bt s 0 = (Utf.cval s.data.toList q : Int) := by
  subst h
  unfold bt Utf.cval
  simp only [if_true]
theorem cval2 (s : ByteArray) (q : Nat) (h : q = 2) : 64 * (bt s 0 % 32) + bt s 1 % 64 = (Utf.cval s.data.toList q : Int) := by
  subst h
  unfold bt Utf.cval
  simp only [if_true, if_neg (show ¬ (2 = 1) by decide)]
  omega
theorem cval3 (s : ByteArray) (q : Nat) (h : q = 3) : 64 * (64 * (bt s 0 % 16) + bt s 1 % 64) + bt s 2 % 64 = (Utf.cval s.data.toList q : Int) := by
  subst h
  unfold bt Utf.cval
  simp only [if_true, if_neg (show ¬ (3 = 1) by decide), if_neg (show ¬ (3 = 2) by decide)]
  omega
theorem cval4 (s : ByteArray) (q : Nat) (h : q = 4) : 64 * (64 * (64 * (bt s 0 % 8) + bt s 1 % 64) + bt s 2 % 64) + bt s 3 % 64 = (Utf.cval s.data.toList q : Int) := by
  subst h
  unfold bt Utf.cval
  simp only [if_neg (show ¬ (4 = 1) by decide), if_neg (show ¬ (4 = 2) by decide), if_neg (show ¬ (4 = 3) by decide)]
  omega
theorem cval_bound (s : ByteArray) (k : Nat) : Utf.cval s.data.toList k < 2097152 := by
  have b0 := Utf.at_lt s.data.toList 0; have b1 := Utf.at_lt s.data.toList 1; have b2 := Utf.at_lt s.data.toList 2; have b3 := Utf.at_lt s.data.toList 3
  unfold Utf.cval
  dsimp only
  split
  · omega
  · split
    · omega
    · split <;> omega

theorem ok_inv {l : List UInt8} {q : Nat} {c : Int} (hc : (Utf.cval l q : Int) = c) (hv : Utf8.valid c = false) : Utf.okAt l q = false := by
  unfold Utf.okAt
  rw [hc, hv]; rfl
theorem no_more {l : List UInt8} {q : Nat} {k : Int} (h : ∀ m : Nat, 1 ≤ m → (m : Int) < k → Utf.okAt l m = false) (hq : k = (q : Int)) (h1 : Utf.okAt l q = false) :
    ∀ m : Nat, 1 ≤ m → (m : Int) < k + 1 → Utf.okAt l m = false := fun m hm hk => by
  by_cases e : m = q
  · rw [e]; exact h1
  · exact h m hm (by omega)

/-- What the document's Decode tells. -/
def Dec3 (s : ByteArray) (e : Ending) : Prop :=
  e = .returned (.tuple #[.int .i32 (dec0 s.data.toList).1, .int .i64 (dec0 s.data.toList).2, .bool (decide (Utf.Broken s.data.toList))])

theorem extract_list (s : ByteArray) (a b : Nat) : (s.extract a b).toList = (s.data.toList.drop a).take (b - a) := by
  rw [Lib.toList_data, Lib.extract_data]
theorem enc_list (c : Int) : (Utf8.encode c).toList = Utf.encL c := by rw [Lib.toList_data]; rfl
theorem dec_yes {s : ByteArray} {q j : Nat} {c k : Int} (h0 : ¬ s.data.toList = []) (hc : (Utf.cval s.data.toList q : Int) = c) (hv : Utf8.valid c = true) (hq : k = (q : Int)) (hj : (j : Int) = k)
    (hs : k ≤ s.size) (ht : ((Utf8.encode c).toList == (s.extract 0 j).toList) = true) (h1 : 1 ≤ k := by omega) : Dec3 s (.returned (.tuple #[.int .i32 c, .int .i64 k, .bool false])) := by
  have e : j = q := by omega
  subst e
  rw [extract_list, enc_list, List.drop_zero, Nat.sub_zero] at ht
  have hok : Utf.okAt s.data.toList j = true := by
    unfold Utf.okAt
    rw [hc, hv, ht]; rfl
  obtain ⟨hd, hb⟩ := Utf.ref_some (by rw [← Utf.size_eq]; omega) (by omega) hok
  unfold Dec3
  rw [dec0_ne h0, hd, decide_eq_false hb, hc, hq]
theorem ok_not {s : ByteArray} {q j : Nat} {c k : Int} (hc : (Utf.cval s.data.toList q : Int) = c) (hq : k = (q : Int)) (ht : ((Utf8.encode c).toList == (s.extract 0 j).toList) = false) (hj : (j : Int) = k := by omega) :
    Utf.okAt s.data.toList q = false := by
  have e : j = q := by omega
  subst e
  rw [extract_list, enc_list, List.drop_zero, Nat.sub_zero] at ht
  unfold Utf.okAt
  rw [hc, ht, Bool.and_false]
theorem below_drewN {B : Nat} {a w : World} (h : Below B a w) (n : Nat) : Below B a (w.drewN n) := ⟨h.os, h.tape, h.output, h.size, h.block⟩

end Go.Proofs.YtaniahkagmjkoaaDoor
