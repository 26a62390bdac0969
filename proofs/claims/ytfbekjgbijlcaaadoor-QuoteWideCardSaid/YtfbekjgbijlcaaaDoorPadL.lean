/-
  What padding makes, in plain words: the fill at one end, of one byte; so many runes.
-/
import Derived.Test.YtfbekjgbijlcaaaDoorB6
namespace Go.Proofs.YtfbekjgbijlcaaaDoor
open Go.RowKit Go.Proofs

theorem app_list (a b : ByteArray) : (a ++ b).data.toList = a.data.toList ++ b.data.toList := by simp
theorem take_own (l : List UInt8) (n : Nat) (h : n = l.length) : l.take n = l := by rw [h]; exact List.take_length
theorem app_head (a b : ByteArray) : (a ++ b).extract 0 a.size = a := by
  apply ByteArray.ext
  apply Array.ext'
  rw [Lib.extract_data, app_list, Utf.size_eq a]
  simp
theorem app_tail (a b : ByteArray) : (a ++ b).extract a.size (a.size + b.size) = b := by
  apply ByteArray.ext
  apply Array.ext'
  rw [Lib.extract_data, app_list, Utf.size_eq a, List.drop_left]
  exact take_own _ _ (by rw [Utf.size_eq b]; omega)

/-- The byte with which a text is filled. -/
def fillByte (mi ze : Bool) : Int := if ze && !mi then 48 else 32

/-- What padding makes: the fill at one end, of one byte; so many runes. -/
theorem padded (s : ByteArray) (mi ze : Bool) (wid : Int) : ∃ f p : ByteArray, padS s mi ze wid = p ∧ p.size = f.size + s.size ∧ f.size ≤ 1000 ∧
    (mi = true → p.extract 0 s.size = s ∧ p.extract s.size (f.size + s.size) = f) ∧
    (mi = false → p.extract 0 f.size = f ∧ p.extract f.size (f.size + s.size) = s) ∧
    (∀ k (h : k < f.size), ((f[k]'h).toNat : Int) = fillByte mi ze) ∧
    (Utf.count p.data.toList : Int) = max (Utf.count s.data.toList : Int) (min wid 1000) := by
  have key : ∀ (c : Int) (d : Int), 0 ≤ c → c < 128 → 0 < d → d ≤ 1000 → (fillS c d).size = d.toNat ∧ (∀ k (h : k < (fillS c d).size), (((fillS c d)[k]'h).toNat : Int) = c) ∧
      (fillS c d).data.toList = List.replicate d.toNat (UInt8.ofNat c.toNat) := by
    intro c d h0 h1 h2 h3
    have hl : (fillS c d).data.toList = List.replicate d.toNat (UInt8.ofNat c.toNat) := by
      show fillL c d = _
      unfold fillL
      rw [show min d 1000 = d by omega]
    refine ⟨by rw [Utf.size_eq, hl, List.length_replicate], fun k h => ?_, hl⟩
    rw [bt_at]
    unfold bt
    rw [hl]
    have hk : k < d.toNat := by rw [Utf.size_eq, hl, List.length_replicate] at h; exact h
    rw [List.getElem?_replicate, if_pos hk]
    simp only [Option.getD_some]
    rw [Utf.toNat_ofNat (by omega)]
    omega
  have hempty : ∀ k (h : k < ByteArray.empty.size), ((ByteArray.empty[k]'h).toNat : Int) = fillByte mi ze := fun k h => absurd h (Nat.not_lt_zero k)
  by_cases hd : max 0 (min wid 1000) - (Utf.count s.data.toList : Int) ≤ 0
  · have e : padS s mi ze wid = s := by unfold padS; rw [if_pos hd]
    have z : ByteArray.empty.size = 0 := rfl
    have x1 : s.extract s.size (0 + s.size) = ByteArray.empty := by
      apply ByteArray.ext
      apply Array.ext'
      rw [Lib.extract_data]
      apply List.eq_nil_of_length_eq_zero
      rw [List.length_take, List.length_drop, ← Utf.size_eq]
      omega
    have x2 : s.extract 0 0 = ByteArray.empty := by
      apply ByteArray.ext
      apply Array.ext'
      rw [Lib.extract_data]
      rfl
    refine ⟨ByteArray.empty, s, e, by rw [z]; omega, by rw [z]; omega, fun _ => ⟨extract_all s, by rw [z]; exact x1⟩, fun _ => ⟨by rw [z]; exact x2, by rw [z, Nat.zero_add]; exact extract_all s⟩, hempty, by omega⟩
  · obtain ⟨d, hdd⟩ : ∃ d, max 0 (min wid 1000) - (Utf.count s.data.toList : Int) = d := ⟨_, rfl⟩
    rw [hdd] at hd
    have h3 : d ≤ 1000 := by omega
    cases mi
    · have hb : ∃ c : Int, fillByte false ze = c ∧ 0 ≤ c ∧ c < 128 ∧ padS s false ze wid = fillS c d ++ s := by
        cases ze
        · exact ⟨32, rfl, by omega, by omega, by unfold padS; rw [hdd, if_neg hd]; rfl⟩
        · exact ⟨48, rfl, by omega, by omega, by unfold padS; rw [hdd, if_neg hd]; rfl⟩
      obtain ⟨c, hc, h0, h1, hp⟩ := hb
      obtain ⟨k1, k2, k3⟩ := key c d h0 h1 (by omega) h3
      refine ⟨fillS c d, fillS c d ++ s, hp, by simp, by omega, (fun h => by cases h), fun _ => ⟨app_head _ _, app_tail _ _⟩, by rw [hc]; exact k2, ?_⟩
      rw [app_list, k3, Utf.count_replicate _ _ _ (by rw [Utf.toNat_ofNat (by omega)]; omega)]
      omega
    · have hp : padS s true ze wid = s ++ fillS 32 d := by unfold padS; rw [hdd, if_neg hd]; rfl
      have hc : fillByte true ze = 32 := by unfold fillByte; simp
      obtain ⟨k1, k2, k3⟩ := key 32 d (by omega) (by omega) (by omega) h3
      refine ⟨fillS 32 d, s ++ fillS 32 d, hp, by simp; omega, by omega, fun _ => ⟨app_head _ _, by rw [Nat.add_comm]; exact app_tail _ _⟩, (fun h => by cases h), by rw [hc]; exact k2, ?_⟩
      rw [app_list, k3, Utf.count_append_replicate _ _ _ (by decide)]
      omega
end Go.Proofs.YtfbekjgbijlcaaaDoor
