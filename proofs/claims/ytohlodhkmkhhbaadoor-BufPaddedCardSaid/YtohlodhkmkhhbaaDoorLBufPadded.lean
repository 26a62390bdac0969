/-
  The law BufPadded, walked.
-/
import Derived.Test.YtohlodhkmkhhbaaDoorB7
namespace Go.Proofs.YtohlodhkmkhhbaaDoor
open Go.RowKit Go.Proofs

theorem cut2000q (s : ByteArray) : (s.extract 0 2000).size ≤ 2000 := by
  rw [ByteArray.size_extract]; omega
theorem app_list (a b : ByteArray) : (a ++ b).data.toList = a.data.toList ++ b.data.toList := by simp
theorem take_own (l : List UInt8) (n : Nat) (h : n = l.length) : l.take n = l := by rw [h]; exact List.take_length
theorem app_head (a b : ByteArray) : (a ++ b).extract 0 a.size = a := by
  apply ByteArray.ext
  apply Array.ext'
  rw [Lib.extract_data, app_list, Utf.size_eq a]
  simp
theorem app_tail (a b : ByteArray) : (a ++ b).extract a.size (a.size + b.size) = b := by
  apply ByteArray.ext
  apply Array.ext'
  rw [Lib.extract_data, app_list, Utf.size_eq a, List.drop_left]
  exact take_own _ _ (by rw [Utf.size_eq b]; omega)

/-- The byte with which a text is filled. -/
def fillByte (mi ze : Bool) : Int := if ze && !mi then 48 else 32

/-- What padding makes: the fill at one end, of one byte; so many runes. -/
theorem padded (s : ByteArray) (mi ze : Bool) (wid : Int) : ∃ f p : ByteArray, padS s mi ze wid = p ∧ p.size = f.size + s.size ∧ f.size ≤ 1000 ∧
    (mi = true → p.extract 0 s.size = s ∧ p.extract s.size (f.size + s.size) = f) ∧
    (mi = false → p.extract 0 f.size = f ∧ p.extract f.size (f.size + s.size) = s) ∧
    (∀ k (h : k < f.size), ((f[k]'h).toNat : Int) = fillByte mi ze) ∧
    (Utf.count p.data.toList : Int) = max (Utf.count s.data.toList : Int) (min wid 1000) := by
  have key : ∀ (c : Int) (d : Int), 0 ≤ c → c < 128 → 0 < d → d ≤ 1000 → (fillS c d).size = d.toNat ∧ (∀ k (h : k < (fillS c d).size), (((fillS c d)[k]'h).toNat : Int) = c) ∧
      (fillS c d).data.toList = List.replicate d.toNat (UInt8.ofNat c.toNat) := by
    intro c d h0 h1 h2 h3
    have hl : (fillS c d).data.toList = List.replicate d.toNat (UInt8.ofNat c.toNat) := by
      show fillL c d = _
      unfold fillL
      rw [show min d 1000 = d by omega]
    refine ⟨by rw [Utf.size_eq, hl, List.length_replicate], fun k h => ?_, hl⟩
    rw [bt_at]
    unfold bt
    rw [hl]
    have hk : k < d.toNat := by rw [Utf.size_eq, hl, List.length_replicate] at h; exact h
    rw [List.getElem?_replicate, if_pos hk]
    simp only [Option.getD_some]
    rw [Utf.toNat_ofNat (by omega)]
    omega
  have hempty : ∀ k (h : k < ByteArray.empty.size), ((ByteArray.empty[k]'h).toNat : Int) = fillByte mi ze := fun k h => absurd h (Nat.not_lt_zero k)
  by_cases hd : max 0 (min wid 1000) - (Utf.count s.data.toList : Int) ≤ 0
  · have e : padS s mi ze wid = s := by unfold padS; rw [if_pos hd]
    have z : ByteArray.empty.size = 0 := rfl
    have x1 : s.extract s.size (0 + s.size) = ByteArray.empty := by
      apply ByteArray.ext
      apply Array.ext'
      rw [Lib.extract_data]
      apply List.eq_nil_of_length_eq_zero
      rw [List.length_take, List.length_drop, ← Utf.size_eq]
      omega
    have x2 : s.extract 0 0 = ByteArray.empty := by
      apply ByteArray.ext
      apply Array.ext'
      rw [Lib.extract_data]
      rfl
    refine ⟨ByteArray.empty, s, e, by rw [z]; omega, by rw [z]; omega, fun _ => ⟨extract_all s, by rw [z]; exact x1⟩, fun _ => ⟨by rw [z]; exact x2, by rw [z, Nat.zero_add]; exact extract_all s⟩, hempty, by omega⟩
  · obtain ⟨d, hdd⟩ : ∃ d, max 0 (min wid 1000) - (Utf.count s.data.toList : Int) = d := ⟨_, rfl⟩
    rw [hdd] at hd
    have h3 : d ≤ 1000 := by omega
    cases mi
    · have hb : ∃ c : Int, fillByte false ze = c ∧ 0 ≤ c ∧ c < 128 ∧ padS s false ze wid = fillS c d ++ s := by
        cases ze
        · exact ⟨32, rfl, by omega, by omega, by unfold padS; rw [hdd, if_neg hd]; rfl⟩
        · exact ⟨48, rfl, by omega, by omega, by unfold padS; rw [hdd, if_neg hd]; rfl⟩
      obtain ⟨c, hc, h0, h1, hp⟩ := hb
      obtain ⟨k1, k2, k3⟩ := key c d h0 h1 (by omega) h3
      refine ⟨fillS c d, fillS c d ++ s, hp, by simp, by omega, (fun h => by cases h), fun _ => ⟨app_head _ _, app_tail _ _⟩, by rw [hc]; exact k2, ?_⟩
      rw [app_list, k3, Utf.count_replicate _ _ _ (by rw [Utf.toNat_ofNat (by omega)]; omega)]
      omega
    · have hp : padS s true ze wid = s ++ fillS 32 d := by unfold padS; rw [hdd, if_neg hd]; rfl
      have hc : fillByte true ze = 32 := by unfold fillByte; simp
      obtain ⟨k1, k2, k3⟩ := key 32 d (by omega) (by omega) (by omega) h3
      refine ⟨fillS 32 d, s ++ fillS 32 d, hp, by simp; omega, by omega, fun _ => ⟨app_head _ _, by rw [Nat.add_comm]; exact app_tail _ _⟩, (fun h => by cases h), by rw [hc]; exact k2, ?_⟩
      rw [app_list, k3, Utf.count_append_replicate _ _ _ (by decide)]
      omega

set_option maxRecDepth 100000 in
set_option maxHeartbeats 8000000 in
theorem bufPadded_law (s : ByteArray) (pl mi sh sp ze : Bool) (wid prec verb : Int) (w : World) (hT : Tabs w) (hs : s.size ≤ 140737488355328) (hw0 : -9223372036854775808 ≤ wid) (hw1 : wid ≤ 9223372036854775807) (_hp0 : -9223372036854775808 ≤ prec) (_hp1 : prec ≤ 9223372036854775807) (_hr0 : -2147483648 ≤ verb) (_hr1 : verb ≤ 2147483647) :
    Calls Tryd.prog 7 #[.string s, .agg #[.bool pl, .bool mi, .bool sh, .bool sp, .bool ze, .int .i64 wid, .int .i64 prec, .int .i32 verb]] w fun e w' => e = .returned (.bool true) ∧ Below w.heap.size w w' := by
  have HT := hid hT
  clear hT
  obtain ⟨t, ht⟩ : ∃ t, t = if 2000 < s.size then s.extract 0 2000 else s := ⟨_, rfl⟩
  have htz : t.size ≤ 2000 := by
    rw [ht]
    split
    · exact cut2000q s
    · omega
  obtain ⟨f, p, hp, hpz, hfz, hmi, hnm, hfb, hcp⟩ := padded t mi ze wid
  have hA := fun W => pad_any t pl mi sh sp ze wid prec verb W (by omega) hw0 hw1
  have hB := fun W => count_any t W (by omega)
  have hC := fun W => count_any p W (by omega)
  have hkb : (Utf.count t.data.toList : Int) ≤ 2000 ∧ 0 ≤ (Utf.count t.data.toList : Int) := by
    have := Utf.count_le t.data.toList.length t.data.toList (Nat.le_refl _)
    rw [← Utf.size_eq] at this
    omega
  rw [hp] at hA
  rw [hcp] at hC
  obtain ⟨k, hk⟩ : ∃ k : Int, (Utf.count t.data.toList : Int) = k := ⟨_, rfl⟩
  rw [hk] at hB hC hkb
  obtain ⟨hk1, hk2⟩ := hkb
  have HA := hid hA
  have HB := hid hB
  have HC := hid hC
  have HE : Hid (t = if 2000 < s.size then s.extract 0 2000 else s) := ht
  clear hA hB hC hp hcp hk ht
  have hA0 := hid hmi
  have hA1 := hid hnm
  have hA2 := hid hfb
  clear hmi hnm hfb
  by_cases h : 2000 < s.size
  · have hr : s.extract 0 2000 = t := by rw [HE.out, if_pos h]
    clear HE
    cases mi
    · obtain ⟨e1, e2⟩ := hA1.out rfl
      clear hA0 hA1
      cases ze
      · go_enter Tryd.func7, Tryd.ntmps7
        go_wp2_with fail
        refine (HA.out _).mono ?_
        rintro e w1 ⟨rfl, hb1⟩
        have X1 := hid (box8_plain pl false sh sp false wid prec verb hb1 (by simp))
        have hlt : w.heap.size < w1.heap.size := by
          have := hb1.size
          simp at this
          omega
        have hbw1 : Below w.heap.size w w1 := ((Below.refl w.heap.size w).alloc (Nat.le_refl _) _).trans (hb1.mono (by simp))
        clear hb1
        have hx5 : w1.cell? ⟨w.heap.size, 5, none⟩ = some (.int .i64 wid) := X1.out.2.2.2.2.2.1
        go_wp2_with fail
        go_region_held3 (fun w' => w'.cell? ⟨w.heap.size, 5, none⟩ = some (.int .i64 wid)) (first | exact hx5 | exact (hb2.cell (p := ⟨w.heap.size, 5, none⟩) hlt).trans hx5) ((first | (go_at_call 22; refine (HB.out _).mono ?_; rintro e w2 ⟨rfl, hb2⟩)))
        all_goals
          have X2 := hid (box8_below pl false sh sp false wid prec verb X1.out (w2 := w2) ⟨hb2.os, hb2.tape, hb2.output, hb2.size, hb2.block⟩ hlt)
          have hbw2 : Below w.heap.size w w2 := hbw1.trans (Below.mono (B := w1.heap.size) ⟨hb2.os, hb2.tape, hb2.output, hb2.size, hb2.block⟩ (by omega))
          have hlt2 : w.heap.size < w2.heap.size := Nat.lt_of_lt_of_le hlt hb2.size
          clear hb2
          go_wp2_with fail
          refine (HC.out _).mono ?_
          rintro e w3 ⟨rfl, hb3⟩
          have X3 := hid (box8_below pl false sh sp false wid prec verb X2.out hb3 hlt2)
          have hbw3 := hbw2.trans (hb3.mono hbw2.size)
          clear hb3
          have c1 := X3.out.2.1
          have c4 := X3.out.2.2.2.2.1
          go_wp2_with fail
          clear e1 e2 c1 c4 hx5 hpz
          go_loop [9] (fun i => ∃ q : Nat, q ≤ f.size ∧ i = .int .i64 q) (fun i => f.size - (intOf i).toNat)
          case atStart => exact ⟨0, Nat.zero_le _, rfl⟩
          case round =>
            obtain ⟨q, hq, rfl⟩ := hrel
            by_cases hl : q < f.size
            · have hfk : ∀ h : q < f.size, ((f[q]'h).toNat : Int) = 32 := fun h => hA2.out q h
              go_wp2_with fail
              go_round
              case rel => exact ⟨q + 1, by omega, by go_num⟩
              case measure => simp [intOf]; omega
            · go_wp2_with fail
              refine (lives_any _ (HT.out.below hbw3)).mono ?_
              rintro e w5 ⟨rfl, hb5⟩
              go_wp2_with fail
              go_ret
              exact ⟨rfl, hbw3.trans (hb5.mono hbw3.size)⟩
      · go_enter Tryd.func7, Tryd.ntmps7
        go_wp2_with fail
        refine (HA.out _).mono ?_
        rintro e w1 ⟨rfl, hb1⟩
        have X1 := hid (box8_plain pl false sh sp true wid prec verb hb1 (by simp))
        have hlt : w.heap.size < w1.heap.size := by
          have := hb1.size
          simp at this
          omega
        have hbw1 : Below w.heap.size w w1 := ((Below.refl w.heap.size w).alloc (Nat.le_refl _) _).trans (hb1.mono (by simp))
        clear hb1
        have hx5 : w1.cell? ⟨w.heap.size, 5, none⟩ = some (.int .i64 wid) := X1.out.2.2.2.2.2.1
        go_wp2_with fail
        go_region_held3 (fun w' => w'.cell? ⟨w.heap.size, 5, none⟩ = some (.int .i64 wid)) (first | exact hx5 | exact (hb2.cell (p := ⟨w.heap.size, 5, none⟩) hlt).trans hx5) ((first | (go_at_call 22; refine (HB.out _).mono ?_; rintro e w2 ⟨rfl, hb2⟩)))
        all_goals
          have X2 := hid (box8_below pl false sh sp true wid prec verb X1.out (w2 := w2) ⟨hb2.os, hb2.tape, hb2.output, hb2.size, hb2.block⟩ hlt)
          have hbw2 : Below w.heap.size w w2 := hbw1.trans (Below.mono (B := w1.heap.size) ⟨hb2.os, hb2.tape, hb2.output, hb2.size, hb2.block⟩ (by omega))
          have hlt2 : w.heap.size < w2.heap.size := Nat.lt_of_lt_of_le hlt hb2.size
          clear hb2
          go_wp2_with fail
          refine (HC.out _).mono ?_
          rintro e w3 ⟨rfl, hb3⟩
          have X3 := hid (box8_below pl false sh sp true wid prec verb X2.out hb3 hlt2)
          have hbw3 := hbw2.trans (hb3.mono hbw2.size)
          clear hb3
          have c1 := X3.out.2.1
          have c4 := X3.out.2.2.2.2.1
          go_wp2_with fail
          clear e1 e2 c1 c4 hx5 hpz
          go_loop [9] (fun i => ∃ q : Nat, q ≤ f.size ∧ i = .int .i64 q) (fun i => f.size - (intOf i).toNat)
          case atStart => exact ⟨0, Nat.zero_le _, rfl⟩
          case round =>
            obtain ⟨q, hq, rfl⟩ := hrel
            by_cases hl : q < f.size
            · have hfk : ∀ h : q < f.size, ((f[q]'h).toNat : Int) = 48 := fun h => hA2.out q h
              go_wp2_with fail
              go_round
              case rel => exact ⟨q + 1, by omega, by go_num⟩
              case measure => simp [intOf]; omega
            · go_wp2_with fail
              refine (lives_any _ (HT.out.below hbw3)).mono ?_
              rintro e w5 ⟨rfl, hb5⟩
              go_wp2_with fail
              go_ret
              exact ⟨rfl, hbw3.trans (hb5.mono hbw3.size)⟩
    · obtain ⟨e1, e2⟩ := hA0.out rfl
      clear hA0 hA1
      cases ze
      · go_enter Tryd.func7, Tryd.ntmps7
        go_wp2_with fail
        refine (HA.out _).mono ?_
        rintro e w1 ⟨rfl, hb1⟩
        have X1 := hid (box8_plain pl true sh sp false wid prec verb hb1 (by simp))
        have hlt : w.heap.size < w1.heap.size := by
          have := hb1.size
          simp at this
          omega
        have hbw1 : Below w.heap.size w w1 := ((Below.refl w.heap.size w).alloc (Nat.le_refl _) _).trans (hb1.mono (by simp))
        clear hb1
        have hx5 : w1.cell? ⟨w.heap.size, 5, none⟩ = some (.int .i64 wid) := X1.out.2.2.2.2.2.1
        go_wp2_with fail
        go_region_held3 (fun w' => w'.cell? ⟨w.heap.size, 5, none⟩ = some (.int .i64 wid)) (first | exact hx5 | exact (hb2.cell (p := ⟨w.heap.size, 5, none⟩) hlt).trans hx5) ((first | (go_at_call 22; refine (HB.out _).mono ?_; rintro e w2 ⟨rfl, hb2⟩)))
        all_goals
          have X2 := hid (box8_below pl true sh sp false wid prec verb X1.out (w2 := w2) ⟨hb2.os, hb2.tape, hb2.output, hb2.size, hb2.block⟩ hlt)
          have hbw2 : Below w.heap.size w w2 := hbw1.trans (Below.mono (B := w1.heap.size) ⟨hb2.os, hb2.tape, hb2.output, hb2.size, hb2.block⟩ (by omega))
          have hlt2 : w.heap.size < w2.heap.size := Nat.lt_of_lt_of_le hlt hb2.size
          clear hb2
          go_wp2_with fail
          refine (HC.out _).mono ?_
          rintro e w3 ⟨rfl, hb3⟩
          have X3 := hid (box8_below pl true sh sp false wid prec verb X2.out hb3 hlt2)
          have hbw3 := hbw2.trans (hb3.mono hbw2.size)
          clear hb3
          have c1 := X3.out.2.1
          have c4 := X3.out.2.2.2.2.1
          go_wp2_with fail
          clear e1 e2 c1 c4 hx5 hpz
          go_loop [9] (fun i => ∃ q : Nat, q ≤ f.size ∧ i = .int .i64 q) (fun i => f.size - (intOf i).toNat)
          case atStart => exact ⟨0, Nat.zero_le _, rfl⟩
          case round =>
            obtain ⟨q, hq, rfl⟩ := hrel
            by_cases hl : q < f.size
            · have hfk : ∀ h : q < f.size, ((f[q]'h).toNat : Int) = 32 := fun h => hA2.out q h
              go_wp2_with fail
              go_round
              case rel => exact ⟨q + 1, by omega, by go_num⟩
              case measure => simp [intOf]; omega
            · go_wp2_with fail
              refine (lives_any _ (HT.out.below hbw3)).mono ?_
              rintro e w5 ⟨rfl, hb5⟩
              go_wp2_with fail
              go_ret
              exact ⟨rfl, hbw3.trans (hb5.mono hbw3.size)⟩
      · go_enter Tryd.func7, Tryd.ntmps7
        go_wp2_with fail
        refine (HA.out _).mono ?_
        rintro e w1 ⟨rfl, hb1⟩
        have X1 := hid (box8_plain pl true sh sp true wid prec verb hb1 (by simp))
        have hlt : w.heap.size < w1.heap.size := by
          have := hb1.size
          simp at this
          omega
        have hbw1 : Below w.heap.size w w1 := ((Below.refl w.heap.size w).alloc (Nat.le_refl _) _).trans (hb1.mono (by simp))
        clear hb1
        have hx5 : w1.cell? ⟨w.heap.size, 5, none⟩ = some (.int .i64 wid) := X1.out.2.2.2.2.2.1
        go_wp2_with fail
        go_region_held3 (fun w' => w'.cell? ⟨w.heap.size, 5, none⟩ = some (.int .i64 wid)) (first | exact hx5 | exact (hb2.cell (p := ⟨w.heap.size, 5, none⟩) hlt).trans hx5) ((first | (go_at_call 22; refine (HB.out _).mono ?_; rintro e w2 ⟨rfl, hb2⟩)))
        all_goals
          have X2 := hid (box8_below pl true sh sp true wid prec verb X1.out (w2 := w2) ⟨hb2.os, hb2.tape, hb2.output, hb2.size, hb2.block⟩ hlt)
          have hbw2 : Below w.heap.size w w2 := hbw1.trans (Below.mono (B := w1.heap.size) ⟨hb2.os, hb2.tape, hb2.output, hb2.size, hb2.block⟩ (by omega))
          have hlt2 : w.heap.size < w2.heap.size := Nat.lt_of_lt_of_le hlt hb2.size
          clear hb2
          go_wp2_with fail
          refine (HC.out _).mono ?_
          rintro e w3 ⟨rfl, hb3⟩
          have X3 := hid (box8_below pl true sh sp true wid prec verb X2.out hb3 hlt2)
          have hbw3 := hbw2.trans (hb3.mono hbw2.size)
          clear hb3
          have c1 := X3.out.2.1
          have c4 := X3.out.2.2.2.2.1
          go_wp2_with fail
          clear e1 e2 c1 c4 hx5 hpz
          go_loop [9] (fun i => ∃ q : Nat, q ≤ f.size ∧ i = .int .i64 q) (fun i => f.size - (intOf i).toNat)
          case atStart => exact ⟨0, Nat.zero_le _, rfl⟩
          case round =>
            obtain ⟨q, hq, rfl⟩ := hrel
            by_cases hl : q < f.size
            · have hfk : ∀ h : q < f.size, ((f[q]'h).toNat : Int) = 32 := fun h => hA2.out q h
              go_wp2_with fail
              go_round
              case rel => exact ⟨q + 1, by omega, by go_num⟩
              case measure => simp [intOf]; omega
            · go_wp2_with fail
              refine (lives_any _ (HT.out.below hbw3)).mono ?_
              rintro e w5 ⟨rfl, hb5⟩
              go_wp2_with fail
              go_ret
              exact ⟨rfl, hbw3.trans (hb5.mono hbw3.size)⟩
  · have hr : t = s := by rw [HE.out, if_neg h]
    clear HE
    subst hr
    cases mi
    · obtain ⟨e1, e2⟩ := hA1.out rfl
      clear hA0 hA1
      cases ze
      · go_enter Tryd.func7, Tryd.ntmps7
        go_wp2_with fail
        refine (HA.out _).mono ?_
        rintro e w1 ⟨rfl, hb1⟩
        have X1 := hid (box8_plain pl false sh sp false wid prec verb hb1 (by simp))
        have hlt : w.heap.size < w1.heap.size := by
          have := hb1.size
          simp at this
          omega
        have hbw1 : Below w.heap.size w w1 := ((Below.refl w.heap.size w).alloc (Nat.le_refl _) _).trans (hb1.mono (by simp))
        clear hb1
        have hx5 : w1.cell? ⟨w.heap.size, 5, none⟩ = some (.int .i64 wid) := X1.out.2.2.2.2.2.1
        go_wp2_with fail
        go_region_held3 (fun w' => w'.cell? ⟨w.heap.size, 5, none⟩ = some (.int .i64 wid)) (first | exact hx5 | exact (hb2.cell (p := ⟨w.heap.size, 5, none⟩) hlt).trans hx5) ((first | (go_at_call 22; refine (HB.out _).mono ?_; rintro e w2 ⟨rfl, hb2⟩)))
        all_goals
          have X2 := hid (box8_below pl false sh sp false wid prec verb X1.out (w2 := w2) ⟨hb2.os, hb2.tape, hb2.output, hb2.size, hb2.block⟩ hlt)
          have hbw2 : Below w.heap.size w w2 := hbw1.trans (Below.mono (B := w1.heap.size) ⟨hb2.os, hb2.tape, hb2.output, hb2.size, hb2.block⟩ (by omega))
          have hlt2 : w.heap.size < w2.heap.size := Nat.lt_of_lt_of_le hlt hb2.size
          clear hb2
          go_wp2_with fail
          refine (HC.out _).mono ?_
          rintro e w3 ⟨rfl, hb3⟩
          have X3 := hid (box8_below pl false sh sp false wid prec verb X2.out hb3 hlt2)
          have hbw3 := hbw2.trans (hb3.mono hbw2.size)
          clear hb3
          have c1 := X3.out.2.1
          have c4 := X3.out.2.2.2.2.1
          go_wp2_with fail
          clear e1 e2 c1 c4 hx5 hpz
          go_loop [9] (fun i => ∃ q : Nat, q ≤ f.size ∧ i = .int .i64 q) (fun i => f.size - (intOf i).toNat)
          case atStart => exact ⟨0, Nat.zero_le _, rfl⟩
          case round =>
            obtain ⟨q, hq, rfl⟩ := hrel
            by_cases hl : q < f.size
            · have hfk : ∀ h : q < f.size, ((f[q]'h).toNat : Int) = 32 := fun h => hA2.out q h
              go_wp2_with fail
              go_round
              case rel => exact ⟨q + 1, by omega, by go_num⟩
              case measure => simp [intOf]; omega
            · go_wp2_with fail
              refine (lives_any _ (HT.out.below hbw3)).mono ?_
              rintro e w5 ⟨rfl, hb5⟩
              go_wp2_with fail
              go_ret
              exact ⟨rfl, hbw3.trans (hb5.mono hbw3.size)⟩
      · go_enter Tryd.func7, Tryd.ntmps7
        go_wp2_with fail
        refine (HA.out _).mono ?_
        rintro e w1 ⟨rfl, hb1⟩
        have X1 := hid (box8_plain pl false sh sp true wid prec verb hb1 (by simp))
        have hlt : w.heap.size < w1.heap.size := by
          have := hb1.size
          simp at this
          omega
        have hbw1 : Below w.heap.size w w1 := ((Below.refl w.heap.size w).alloc (Nat.le_refl _) _).trans (hb1.mono (by simp))
        clear hb1
        have hx5 : w1.cell? ⟨w.heap.size, 5, none⟩ = some (.int .i64 wid) := X1.out.2.2.2.2.2.1
        go_wp2_with fail
        go_region_held3 (fun w' => w'.cell? ⟨w.heap.size, 5, none⟩ = some (.int .i64 wid)) (first | exact hx5 | exact (hb2.cell (p := ⟨w.heap.size, 5, none⟩) hlt).trans hx5) ((first | (go_at_call 22; refine (HB.out _).mono ?_; rintro e w2 ⟨rfl, hb2⟩)))
        all_goals
          have X2 := hid (box8_below pl false sh sp true wid prec verb X1.out (w2 := w2) ⟨hb2.os, hb2.tape, hb2.output, hb2.size, hb2.block⟩ hlt)
          have hbw2 : Below w.heap.size w w2 := hbw1.trans (Below.mono (B := w1.heap.size) ⟨hb2.os, hb2.tape, hb2.output, hb2.size, hb2.block⟩ (by omega))
          have hlt2 : w.heap.size < w2.heap.size := Nat.lt_of_lt_of_le hlt hb2.size
          clear hb2
          go_wp2_with fail
          refine (HC.out _).mono ?_
          rintro e w3 ⟨rfl, hb3⟩
          have X3 := hid (box8_below pl false sh sp true wid prec verb X2.out hb3 hlt2)
          have hbw3 := hbw2.trans (hb3.mono hbw2.size)
          clear hb3
          have c1 := X3.out.2.1
          have c4 := X3.out.2.2.2.2.1
          go_wp2_with fail
          clear e1 e2 c1 c4 hx5 hpz
          go_loop [9] (fun i => ∃ q : Nat, q ≤ f.size ∧ i = .int .i64 q) (fun i => f.size - (intOf i).toNat)
          case atStart => exact ⟨0, Nat.zero_le _, rfl⟩
          case round =>
            obtain ⟨q, hq, rfl⟩ := hrel
            by_cases hl : q < f.size
            · have hfk : ∀ h : q < f.size, ((f[q]'h).toNat : Int) = 48 := fun h => hA2.out q h
              go_wp2_with fail
              go_round
              case rel => exact ⟨q + 1, by omega, by go_num⟩
              case measure => simp [intOf]; omega
            · go_wp2_with fail
              refine (lives_any _ (HT.out.below hbw3)).mono ?_
              rintro e w5 ⟨rfl, hb5⟩
              go_wp2_with fail
              go_ret
              exact ⟨rfl, hbw3.trans (hb5.mono hbw3.size)⟩
    · obtain ⟨e1, e2⟩ := hA0.out rfl
      clear hA0 hA1
      cases ze
      · go_enter Tryd.func7, Tryd.ntmps7
        go_wp2_with fail
        refine (HA.out _).mono ?_
        rintro e w1 ⟨rfl, hb1⟩
        have X1 := hid (box8_plain pl true sh sp false wid prec verb hb1 (by simp))
        have hlt : w.heap.size < w1.heap.size := by
          have := hb1.size
          simp at this
          omega
        have hbw1 : Below w.heap.size w w1 := ((Below.refl w.heap.size w).alloc (Nat.le_refl _) _).trans (hb1.mono (by simp))
        clear hb1
        have hx5 : w1.cell? ⟨w.heap.size, 5, none⟩ = some (.int .i64 wid) := X1.out.2.2.2.2.2.1
        go_wp2_with fail
        go_region_held3 (fun w' => w'.cell? ⟨w.heap.size, 5, none⟩ = some (.int .i64 wid)) (first | exact hx5 | exact (hb2.cell (p := ⟨w.heap.size, 5, none⟩) hlt).trans hx5) ((first | (go_at_call 22; refine (HB.out _).mono ?_; rintro e w2 ⟨rfl, hb2⟩)))
        all_goals
          have X2 := hid (box8_below pl true sh sp false wid prec verb X1.out (w2 := w2) ⟨hb2.os, hb2.tape, hb2.output, hb2.size, hb2.block⟩ hlt)
          have hbw2 : Below w.heap.size w w2 := hbw1.trans (Below.mono (B := w1.heap.size) ⟨hb2.os, hb2.tape, hb2.output, hb2.size, hb2.block⟩ (by omega))
          have hlt2 : w.heap.size < w2.heap.size := Nat.lt_of_lt_of_le hlt hb2.size
          clear hb2
          go_wp2_with fail
          refine (HC.out _).mono ?_
          rintro e w3 ⟨rfl, hb3⟩
          have X3 := hid (box8_below pl true sh sp false wid prec verb X2.out hb3 hlt2)
          have hbw3 := hbw2.trans (hb3.mono hbw2.size)
          clear hb3
          have c1 := X3.out.2.1
          have c4 := X3.out.2.2.2.2.1
          go_wp2_with fail
          clear e1 e2 c1 c4 hx5 hpz
          go_loop [9] (fun i => ∃ q : Nat, q ≤ f.size ∧ i = .int .i64 q) (fun i => f.size - (intOf i).toNat)
          case atStart => exact ⟨0, Nat.zero_le _, rfl⟩
          case round =>
            obtain ⟨q, hq, rfl⟩ := hrel
            by_cases hl : q < f.size
            · have hfk : ∀ h : q < f.size, ((f[q]'h).toNat : Int) = 32 := fun h => hA2.out q h
              go_wp2_with fail
              go_round
              case rel => exact ⟨q + 1, by omega, by go_num⟩
              case measure => simp [intOf]; omega
            · go_wp2_with fail
              refine (lives_any _ (HT.out.below hbw3)).mono ?_
              rintro e w5 ⟨rfl, hb5⟩
              go_wp2_with fail
              go_ret
              exact ⟨rfl, hbw3.trans (hb5.mono hbw3.size)⟩
      · go_enter Tryd.func7, Tryd.ntmps7
        go_wp2_with fail
        refine (HA.out _).mono ?_
        rintro e w1 ⟨rfl, hb1⟩
        have X1 := hid (box8_plain pl true sh sp true wid prec verb hb1 (by simp))
        have hlt : w.heap.size < w1.heap.size := by
          have := hb1.size
          simp at this
          omega
        have hbw1 : Below w.heap.size w w1 := ((Below.refl w.heap.size w).alloc (Nat.le_refl _) _).trans (hb1.mono (by simp))
        clear hb1
        have hx5 : w1.cell? ⟨w.heap.size, 5, none⟩ = some (.int .i64 wid) := X1.out.2.2.2.2.2.1
        go_wp2_with fail
        go_region_held3 (fun w' => w'.cell? ⟨w.heap.size, 5, none⟩ = some (.int .i64 wid)) (first | exact hx5 | exact (hb2.cell (p := ⟨w.heap.size, 5, none⟩) hlt).trans hx5) ((first | (go_at_call 22; refine (HB.out _).mono ?_; rintro e w2 ⟨rfl, hb2⟩)))
        all_goals
          have X2 := hid (box8_below pl true sh sp true wid prec verb X1.out (w2 := w2) ⟨hb2.os, hb2.tape, hb2.output, hb2.size, hb2.block⟩ hlt)
          have hbw2 : Below w.heap.size w w2 := hbw1.trans (Below.mono (B := w1.heap.size) ⟨hb2.os, hb2.tape, hb2.output, hb2.size, hb2.block⟩ (by omega))
          have hlt2 : w.heap.size < w2.heap.size := Nat.lt_of_lt_of_le hlt hb2.size
          clear hb2
          go_wp2_with fail
          refine (HC.out _).mono ?_
          rintro e w3 ⟨rfl, hb3⟩
          have X3 := hid (box8_below pl true sh sp true wid prec verb X2.out hb3 hlt2)
          have hbw3 := hbw2.trans (hb3.mono hbw2.size)
          clear hb3
          have c1 := X3.out.2.1
          have c4 := X3.out.2.2.2.2.1
          go_wp2_with fail
          clear e1 e2 c1 c4 hx5 hpz
          go_loop [9] (fun i => ∃ q : Nat, q ≤ f.size ∧ i = .int .i64 q) (fun i => f.size - (intOf i).toNat)
          case atStart => exact ⟨0, Nat.zero_le _, rfl⟩
          case round =>
            obtain ⟨q, hq, rfl⟩ := hrel
            by_cases hl : q < f.size
            · have hfk : ∀ h : q < f.size, ((f[q]'h).toNat : Int) = 32 := fun h => hA2.out q h
              go_wp2_with fail
              go_round
              case rel => exact ⟨q + 1, by omega, by go_num⟩
              case measure => simp [intOf]; omega
            · go_wp2_with fail
              refine (lives_any _ (HT.out.below hbw3)).mono ?_
              rintro e w5 ⟨rfl, hb5⟩
              go_wp2_with fail
              go_ret
              exact ⟨rfl, hbw3.trans (hb5.mono hbw3.size)⟩
end Go.Proofs.YtohlodhkmkhhbaaDoor
