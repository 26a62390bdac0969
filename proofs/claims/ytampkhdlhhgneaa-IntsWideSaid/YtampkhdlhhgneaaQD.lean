/-
  Layer 3: the runes of what is written.
-/
import Derived.Test.YtampkhdlhhgneaaQC
namespace Go.Proofs.Ytampkhdlhhgneaa
open Go.RowKit Go.Proofs

/-- A padded text has the width's runes, or more. -/
theorem pad_count (t : ByteArray) (mi ze : Bool) (wid : Int) : min wid 1000 ≤ (Utf.count (padS t mi ze wid).data.toList : Int) := by
  have hr : ∀ (d : Nat) (x : UInt8), x.toNat < 128 → Utf.count (List.replicate d x) = d := by
    intro d x hx
    rw [IP.count_all_ascii _ (fun a ha => by rw [List.eq_of_mem_replicate ha]; exact hx), List.length_replicate]
  have hl : ∀ (c : Nat) (n : Int), (fillS c n).data.toList = List.replicate (min n 1000).toNat (UInt8.ofNat c) := fun c n => rfl
  unfold padS
  simp only []
  split
  · omega
  · obtain ⟨k, hk⟩ : ∃ k, Utf.count t.data.toList = k := ⟨_, rfl⟩
    rw [hk]
    split
    · rw [ByteArray.data_append, Array.toList_append]
      show min wid 1000 ≤ ((Utf.count (t.data.toList ++ List.replicate _ _) : Nat) : Int)
      rw [Utf.count_append_replicate _ _ _ (by decide), hk]
      omega
    split
    · rw [ByteArray.data_append, Array.toList_append]
      show min wid 1000 ≤ ((Utf.count (List.replicate _ _ ++ t.data.toList) : Nat) : Int)
      rw [Utf.count_replicate _ _ _ (by decide), hk]
      omega
    · rw [ByteArray.data_append, Array.toList_append]
      show min wid 1000 ≤ ((Utf.count (List.replicate _ _ ++ t.data.toList) : Nat) : Int)
      rw [Utf.count_replicate _ _ _ (by decide), hk]
      omega
/-- What is written has the width's runes, or more. -/
theorem wide_facts (neg uns : Bool) (n bits : Nat) (pl mi sh sp ze : Bool) (wid prec verb : Int) (hn : n < 18446744073709551616) (hb : bits < 18446744073709551616) :
    (writeS neg uns n bits pl mi sh sp ze wid prec verb = none) ∨ ∃ s, writeS neg uns n bits pl mi sh sp ze wid prec verb = some s ∧ s.size ≤ 10000 ∧ min wid 1000 ≤ (Utf.count s.data.toList : Int) := by
  cases hx : writeS neg uns n bits pl mi sh sp ze wid prec verb with
  | none => exact Or.inl rfl
  | some s =>
    obtain ⟨t, z, e, hs⟩ := write_some _ _ _ _ _ _ _ _ _ _ _ _ s hx hn hb
    have := pad_size t mi z wid
    refine Or.inr ⟨s, rfl, by rw [e]; omega, ?_⟩
    rw [e]
    exact pad_count t mi z wid
end Go.Proofs.Ytampkhdlhhgneaa
