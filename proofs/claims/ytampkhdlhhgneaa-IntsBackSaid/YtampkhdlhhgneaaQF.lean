/-
  Layer 3: signs, noughts, and digits, in plain Lean.
-/
import Derived.Test.YtampkhdlhhgneaaQC
namespace Go.Proofs.Ytampkhdlhhgneaa
open Go.RowKit Go.Proofs

theorem base_of {verb : Int} (h : verb = 100 ∨ verb = 98 ∨ verb = 111 ∨ verb = 79 ∨ verb = 120 ∨ verb = 88 ∨ verb = 118) : ∃ b m al g, IP.baseOf verb = some (b, m, al, g) ∧ 2 ≤ b ∧ b ≤ 16 ∧ m.length ≤ 2 ∧ (verb = 100 → b = 10 ∧ al = false) ∧ (verb = 98 → b = 2 ∧ al = false) ∧ (verb = 111 → b = 8 ∧ al = false) ∧ (verb = 120 → b = 16 ∧ al = false) ∧ (verb = 88 → b = 16 ∧ al = false) := by
  rcases h with rfl | rfl | rfl | rfl | rfl | rfl | rfl
  · exact ⟨10, [], false, false, rfl, by decide⟩
  · exact ⟨2, [48, 98], false, false, rfl, by decide⟩
  · exact ⟨8, [48], false, false, rfl, by decide⟩
  · exact ⟨8, [48, 111], true, false, rfl, by decide⟩
  · exact ⟨16, [48, 120], false, false, rfl, by decide⟩
  · exact ⟨16, [48, 88], false, true, rfl, by decide⟩
  · exact ⟨10, [], false, false, rfl, by decide⟩
/-- A number by a base's verb, without Sharp. -/
theorem write_base (neg uns : Bool) (n bits : Nat) (pl mi sp ze : Bool) (wid prec verb : Int) (b : Nat) (m : List UInt8) (al g : Bool) (h : IP.baseOf verb = some (b, m, al, g)) :
    writeS neg uns n bits pl mi false sp ze wid prec verb = some (padS ⟨(IP.bodyL neg n b g (if al then m else []) pl mi sp ze wid prec).toArray⟩ mi false wid) := by
  have h1 : ¬ verb = 99 := by rintro rfl; revert h; unfold IP.baseOf; simp
  have h2 : ¬ verb = 113 := by rintro rfl; revert h; unfold IP.baseOf; simp
  have h3 : ¬ verb = 85 := by rintro rfl; revert h; unfold IP.baseOf; simp
  unfold writeS
  rw [if_neg h1, if_neg h2, if_neg h3, if_neg (by simp), h]
  simp [basedS]
theorem nl (l : List UInt8) : (⟨l.toArray⟩ : ByteArray).size = l.length := by simp [ByteArray.size]
theorem app_l (a b : List UInt8) : (⟨(a ++ b).toArray⟩ : ByteArray) = (⟨a.toArray⟩ : ByteArray) ++ ⟨b.toArray⟩ := bytes_ext (by simp)
/-- The body without width and precision: a sign, and what is behind it. -/
theorem body_bare (neg : Bool) (n b : Nat) (g : Bool) (m : List UInt8) (pl sp : Bool) : IP.bodyL neg n b g m pl false sp false (-1) (-1) = IP.signL neg pl sp ++ (IP.markL m (IP.dgb b g n) ++ IP.dgb b g n) := by
  unfold IP.bodyL
  have e : IP.limI (-1) = -1 := by decide
  rw [e, if_neg (by omega), IP.zerosTo_done (by omega)]
  simp only []
  rw [if_neg (by simp), List.append_assoc]
/-- The signs. -/
theorem signs_facts (v verb : Int) (h0 : -9223372036854775808 ≤ v) (h1 : v ≤ 9223372036854775807) (hv : verb = 100 ∨ verb = 98 ∨ verb = 111 ∨ verb = 79 ∨ verb = 120 ∨ verb = 88 ∨ verb = 118) :
    ∃ T : ByteArray, 0 < T.size ∧ T.size ≤ 3100 ∧
      (v < 0 → signedS v false false false false false (-1) (-1) verb = some (⟨#[45]⟩ ++ T) ∧ signedS v true false false false false (-1) (-1) verb = some (⟨#[45]⟩ ++ T) ∧ signedS v false false false true false (-1) (-1) verb = some (⟨#[45]⟩ ++ T)) ∧
      (0 ≤ v → signedS v false false false false false (-1) (-1) verb = some T ∧ signedS v true false false false false (-1) (-1) verb = some (⟨#[43]⟩ ++ T) ∧ signedS v false false false true false (-1) (-1) verb = some (⟨#[32]⟩ ++ T)) := by
  obtain ⟨b, m, al, g, hb, hb2, hb16, hm, _⟩ := base_of hv
  obtain ⟨M, hM⟩ : ∃ M : List UInt8, (if al then m else []) = M := ⟨_, rfl⟩
  have hMl : M.length ≤ 2 := by
    rw [← hM]
    split
    · exact hm
    · decide
  have W := fun pl sp => write_base (decide (v < 0)) false v.natAbs (bitsI v) pl false sp false (-1) (-1) verb b m al g hb
  simp only [hM, pad_none, body_bare] at W
  have hd := IP.dgb_len64 b g hb2 v.natAbs (by omega)
  have hp := IP.dgb_pos b v.natAbs g
  refine ⟨⟨(IP.markL M (IP.dgb b g v.natAbs) ++ IP.dgb b g v.natAbs).toArray⟩, ?_, ?_, fun hn => ?_, fun hn => ?_⟩
  · rw [nl, List.length_append]; omega
  · rw [nl, List.length_append]
    have : (IP.markL M (IP.dgb b g v.natAbs)).length ≤ 2 := by
      unfold IP.markL
      split
      · decide
      · exact hMl
    omega
  · unfold signedS
    rw [W, W, W, decide_eq_true hn]
    exact ⟨congrArg some (bytes_ext (by simp [IP.signL])), congrArg some (bytes_ext (by simp [IP.signL])), congrArg some (bytes_ext (by simp [IP.signL]))⟩
  · unfold signedS
    rw [W, W, W, decide_eq_false (by omega)]
    exact ⟨congrArg some (bytes_ext (by simp [IP.signL])), congrArg some (bytes_ext (by simp [IP.signL])), congrArg some (bytes_ext (by simp [IP.signL]))⟩
/-- Noughts that fill a width are those that a precision brings. -/
theorem zeros_facts (n : Nat) (wd verb : Int) (hn : n < 18446744073709551616) (h0 : 0 ≤ wd) (h1 : wd ≤ 1000) (hv : verb = 100 ∨ verb = 98 ∨ verb = 120 ∨ verb = 88) :
    ∃ a b : ByteArray, unsignedS n false false false false true wd (-1) verb = some a ∧ unsignedS n false false false false false (-1) wd verb = some b ∧
      ((wd = 0 ∧ n = 0 → a = ⟨#[48]⟩ ∧ b = ⟨#[]⟩) ∧ (¬ (wd = 0 ∧ n = 0) → a = b)) := by
  obtain ⟨b, m, al, g, hb, hb2, hb16, hm, a1, a2, a3, a4, a5⟩ := base_of (verb := verb) (by rcases hv with h | h | h | h <;> simp [h])
  have hal : al = false := by
    rcases hv with h | h | h | h
    · exact (a1 h).2
    · exact (a2 h).2
    · exact (a4 h).2
    · exact (a5 h).2
  subst hal
  have W := fun ze wid prec => write_base false true n n false false false ze wid prec verb b m false g hb
  simp only [Bool.false_eq_true, if_false] at W
  have e : IP.limI (-1) = -1 := by decide
  have ew : IP.limI wd = wd := by unfold IP.limI; omega
  have hmk : ∀ d : List UInt8, IP.markL [] d = [] := by
    intro d
    unfold IP.markL
    rw [if_neg (by simp)]
  have hsg : IP.signL false false false = [] := rfl
  have hA : IP.bodyL false n b g [] false false false true wd (-1) = IP.zerosTo wd (IP.dgb b g n) := by
    unfold IP.bodyL
    rw [e, if_neg (by omega), IP.zerosTo_done (k := -1) (by omega)]
    simp only []
    rw [if_pos ⟨trivial, trivial, by omega⟩, hmk, hsg, ew]
    simp
  have hB : IP.bodyL false n b g [] false false false false (-1) wd = if n = 0 ∧ wd = 0 then [] else IP.zerosTo wd (IP.dgb b g n) := by
    unfold IP.bodyL
    rw [ew]
    split
    · rfl
    · simp only []
      rw [if_neg (by simp), hmk, hsg]
      rfl
  have hasc : ∀ x ∈ IP.zerosTo wd (IP.dgb b g n), x.toNat < 128 := by
    intro x hx
    unfold IP.zerosTo at hx
    rcases List.mem_append.1 hx with h | h
    · rw [List.eq_of_mem_replicate h]; decide
    · exact IP.dgb_ascii b g hb2 hb16 n x h
  have hP : padS ⟨(IP.zerosTo wd (IP.dgb b g n)).toArray⟩ false false wd = ⟨(IP.zerosTo wd (IP.dgb b g n)).toArray⟩ := by
    have hl := IP.zerosTo_len wd (IP.dgb b g n)
    rw [pad_ascii _ _ _ _ hasc]
    simp only []
    rw [if_pos (by omega)]
  refine ⟨⟨(IP.zerosTo wd (IP.dgb b g n)).toArray⟩, ⟨(if n = 0 ∧ wd = 0 then [] else IP.zerosTo wd (IP.dgb b g n)).toArray⟩, ?_, ?_, fun ⟨q1, q2⟩ => ⟨?_, ?_⟩, fun q => ?_⟩
  · unfold unsignedS
    rw [W, hA, hP]
  · unfold unsignedS
    rw [W, hB, pad_none]
  · subst q1
    subst q2
    rw [IP.dgb_small g (by omega), IP.zerosTo_done (by simp)]
    cases g <;> rfl
  · rw [if_pos ⟨q2, q1⟩]
  · rw [if_neg (fun h => q ⟨h.2, h.1⟩)]
/-- The digits of a number to a base, read. -/
theorem back_facts (v verb : Int) (b : Nat) (hb : (verb = 100 ∧ b = 10) ∨ (verb = 98 ∧ b = 2) ∨ (verb = 111 ∧ b = 8) ∨ (verb = 120 ∧ b = 16) ∨ (verb = 88 ∧ b = 16)) :
    ∃ g : Bool, signedS v false false false false false (-1) (-1) verb = some ⟨((if v < 0 then [45] else []) ++ IP.dgb b g v.natAbs).toArray⟩ ∧ unsignedS (bitsI v) false false false false false (-1) (-1) verb = some ⟨(IP.dgb b g (bitsI v)).toArray⟩ := by
  obtain ⟨b', m, al, g, hx, hb2, hb16, hm, a1, a2, a3, a4, a5⟩ := base_of (verb := verb) (by rcases hb with h | h | h | h | h <;> simp [h.1])
  have hal : al = false ∧ b' = b := by
    rcases hb with h | h | h | h | h
    · exact ⟨(a1 h.1).2, by rw [(a1 h.1).1, h.2]⟩
    · exact ⟨(a2 h.1).2, by rw [(a2 h.1).1, h.2]⟩
    · exact ⟨(a3 h.1).2, by rw [(a3 h.1).1, h.2]⟩
    · exact ⟨(a4 h.1).2, by rw [(a4 h.1).1, h.2]⟩
    · exact ⟨(a5 h.1).2, by rw [(a5 h.1).1, h.2]⟩
  obtain ⟨rfl, rfl⟩ := hal
  have W := fun neg uns n bits => write_base neg uns n bits false false false false (-1) (-1) verb b' m false g hx
  simp only [Bool.false_eq_true, if_false, pad_none, body_bare] at W
  have hmk : ∀ d : List UInt8, IP.markL [] d = [] := by
    intro d
    unfold IP.markL
    rw [if_neg (by simp)]
  refine ⟨g, ?_, ?_⟩
  · unfold signedS
    rw [W, hmk]
    by_cases h : v < 0
    · rw [decide_eq_true h, if_pos h]; rfl
    · rw [decide_eq_false h, if_neg h]; rfl
  · unfold unsignedS
    rw [W, hmk]
    rfl
end Go.Proofs.Ytampkhdlhhgneaa
