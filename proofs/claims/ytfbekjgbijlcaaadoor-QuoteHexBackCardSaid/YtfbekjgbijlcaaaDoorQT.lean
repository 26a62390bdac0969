/-
  Walks of layer 2: what stands at the front of a quoted text.
-/
import Derived.Test.YtfbekjgbijlcaaaDoorQM
namespace Go.Proofs.YtfbekjgbijlcaaaDoor
open Go.RowKit Go.Proofs

set_option maxRecDepth 100000 in
theorem small_ix : ∀ k : Fin 256, Lib.indexByte [48, 49, 50, 51, 52, 53, 54, 55, 56, 57, 97, 98, 99, 100, 101, 102] (UInt8.ofNat k.val) = IP.hv (UInt8.ofNat k.val) := by decide +kernel
set_option maxRecDepth 100000 in
theorem letter_ix : ∀ k : Fin 256, Lib.indexByte [97, 98, 116, 110, 118, 102, 114] (UInt8.ofNat k.val) = IP.ltrI (UInt8.ofNat k.val) := by decide +kernel
theorem small_at (a : UInt8) : Lib.indexByte [48, 49, 50, 51, 52, 53, 54, 55, 56, 57, 97, 98, 99, 100, 101, 102] a = IP.hv a := by
  have := small_ix ⟨a.toNat, UInt8.toNat_lt a⟩
  simpa using this
theorem letter_at (a : UInt8) : Lib.indexByte [97, 98, 116, 110, 118, 102, 114] a = IP.ltrI a := by
  have := letter_ix ⟨a.toNat, UInt8.toNat_lt a⟩
  simpa using this
theorem list_front {s : ByteArray} (h : 0 < s.size) : ∃ a t, s.data.toList = a :: t := by
  cases e : s.data.toList with
  | nil => rw [Utf.size_eq, e] at h; exact absurd h (Nat.lt_irrefl 0)
  | cons a t => exact ⟨a, t, rfl⟩
theorem u8_back (a : UInt8) : ((a.toNat : Int)).toNat.toUInt8 = a := by
  rw [Int.toNat_natCast]
  exact UInt8.ofNat_toNat
theorem qdigit_any (a : UInt8) (x : Int) (hx : (a.toNat : Int) = x) (w : World) : Calls Tryd.prog 46 #[.int .u8 x] w fun e w' => e = .returned (.int .i32 (IP.hv a)) ∧ w = w' := by
  have IB := hid (Tryd.strings_IndexByte ⟨#[48, 49, 50, 51, 52, 53, 54, 55, 56, 57, 97, 98, 99, 100, 101, 102]⟩ x w)
  rw [← hx, u8_back] at IB
  simp only [small_at] at IB
  have hb := IP.hv_bound a
  rw [hx] at IB
  obtain ⟨v, hv⟩ : ∃ v, IP.hv a = v := ⟨_, rfl⟩
  rw [hv] at IB hb ⊢
  obtain ⟨hb0, hb1⟩ := hb
  clear hv hx
  go_enter Tryd.func46, Tryd.ntmps46
  go_wp2_with fail
  refine IB.out.mono ?_
  rintro e w' ⟨rfl, rfl⟩
  go_wp2_with fail
  go_ret
  exact ⟨rfl, rfl⟩

/-- A digit put behind a number, as the program does it. -/
def c4 (c d : Int) : Int := bits .or .i32 (wrap32 (c * 16)) d
theorem c4_small (c d : Int) (h0 : 0 ≤ c) (h1 : c < 134217728) (h2 : 0 ≤ d) (h3 : d < 16) : c4 c d = 16 * c + d := by
  have hw : wrap32 (c * 16) = c * 16 := by unfold wrap32; omega
  unfold c4
  rw [hw]
  obtain ⟨C, rfl⟩ := Int.eq_ofNat_of_zero_le h0
  obtain ⟨D, rfl⟩ := Int.eq_ofNat_of_zero_le h2
  have e : ((C : Int) * 16) = ((C * 16 : Nat) : Int) := by omega
  have hor : C * 16 ||| D = C * 16 + D := by
    have := Nat.two_pow_add_eq_or_of_lt (i := 4) (b := D) (by omega) C
    rw [show (2 : Nat) ^ 4 * C = C * 16 by omega] at this
    exact this.symm
  rw [e, (bits_nat .i32 31 (by decide) wraps_i32 (C * 16) D (by omega) (by omega)).2, hor]
  omega
/-- What 'one' answers. -/
def oneT (r : Option (List UInt8 × Nat)) : Value := match r with
  | none => .tuple #[.string ⟨#[]⟩, .int .i64 0]
  | some (t, n) => .tuple #[.string ⟨t.toArray⟩, .int .i64 n]
theorem ret_two {a b : ByteArray} {m n : Int} (h : a = b) (hn : m = n) : Ending.returned (.tuple #[.string a, .int .i64 m]) = .returned (.tuple #[.string b, .int .i64 n]) := by rw [h, hn]
attribute [local go_sem] conv1
theorem nums1 (a : Int) : strOfNums [a] = ⟨[UInt8.ofNat a.toNat].toArray⟩ := by
  unfold strOfNums
  simp
theorem take_ext (s : ByteArray) (n : Nat) : (⟨(s.data.toList.take n).toArray⟩ : ByteArray) = s.extract 0 n := by
  apply bytes_ext
  rw [Lib.extract_data]
  simp

set_option maxRecDepth 100000 in
set_option maxHeartbeats 2000000 in
theorem one_plain (s : ByteArray) (w : World) (hT : Tabs w) (h0 : 0 < s.size) (_hs : s.size ≤ 100000) (h92 : ¬ bt s 0 = 92) :
    Calls Tryd.prog 26 #[.string s] w fun e w' => e = .returned (oneT (IP.oneP c4 s.data.toList)) ∧ Below w.heap.size w w' := by
  have DS := hid (decstr_any s w h0 hT)
  have E0 := bt_at s 0 h0
  have hw := Utf.dec_width s.data.toList
  obtain ⟨a, t, hat⟩ := list_front h0
  have hle := Utf.dec_le s.data.toList (by rw [hat]; simp)
  rw [← Utf.size_eq] at hle
  have ha : a.toNat ≠ 92 := by
    intro q
    apply h92
    unfold bt
    rw [hat]
    simp [q]
  have hone : IP.oneP c4 s.data.toList = if Utf.Broken s.data.toList ∨ (Utf.decL s.data.toList).1 = 34 then none else some (s.data.toList.take (Utf.decL s.data.toList).2, (Utf.decL s.data.toList).2) := by
    rw [hat]
    simp only [IP.oneP]
    rw [if_pos ha]
  rw [hone]
  obtain ⟨x, hx⟩ : ∃ x, bt s 0 = x := ⟨_, rfl⟩
  rw [hx] at E0 h92
  have hx92 : (x != 92) = true := by simpa using h92
  obtain ⟨K, hK⟩ : ∃ K : Nat, (Utf.decL s.data.toList).2 = K := ⟨_, rfl⟩
  obtain ⟨R, hR⟩ : ∃ R : Nat, (Utf.decL s.data.toList).1 = R := ⟨_, rfl⟩
  have hb : Utf.Broken s.data.toList ↔ (R = 65533 ∧ K = 1) := by
    unfold Utf.Broken
    rw [← hK, ← hR]
    constructor
    · intro h
      rw [h]
      exact ⟨rfl, rfl⟩
    · intro h
      exact Prod.ext h.1 h.2
  rw [hK] at DS hle hw ⊢
  rw [hR] at DS ⊢
  obtain ⟨hw1, hw2⟩ := hw
  obtain ⟨c, hc⟩ : ∃ c : Int, (R : Int) = c := ⟨_, rfl⟩
  have hrb : R ≤ 1114111 := by rw [← hR]; exact Utf.dec_rune _
  have hc1 : c ≤ 1114111 := by omega
  have hc0 : 0 ≤ c := by omega
  rw [hc] at DS
  have HX := hid hx
  by_cases h34 : c = 34
  · rw [if_pos (Or.inr (by omega))]
    subst h34
    clear hb hK hR hc hx hat ha hone hT
    go_enter Tryd.func26, Tryd.ntmps26
    go_wp2_with fail
    refine DS.out.mono ?_
    rintro e w' ⟨rfl, hb⟩
    have HB := hid hb
    clear hb
    go_wp2_with fail
    all_goals (go_ret2; exact ⟨rfl, HB.out⟩)
  · have h34b : (c == 34) = false := beq_eq_false_iff_ne.2 h34
    by_cases h65 : c = 65533
    · by_cases hk1 : K = 1
      · rw [if_pos (Or.inl (hb.2 ⟨by omega, hk1⟩))]
        subst h65 hk1
        clear hb hK hR hc hx hat ha hone hT
        have DS : Hid (Calls Tryd.prog 39 #[.string s] w fun e w' => e = .returned (.tuple #[.int .i32 65533, .int .i64 1]) ∧ Below w.heap.size w w') := DS
        go_enter Tryd.func26, Tryd.ntmps26
        go_wp2_with fail
        refine DS.out.mono ?_
        rintro e w' ⟨rfl, hb⟩
        have HB := hid hb
        clear hb
        go_wp2_with fail
        all_goals (go_ret2; exact ⟨rfl, HB.out⟩)
      · rw [if_neg (by
          rintro (q | q)
          · exact hk1 (hb.1 q).2
          · exact h34 (by omega))]
        have hk2 : ((K : Int) == 1) = false := beq_eq_false_iff_ne.2 (by omega)
        subst h65
        clear hb hK hR hc hx hat ha hone hT
        unfold oneT
        simp only [take_ext]
        obtain ⟨T, hTT⟩ : ∃ T, s.extract 0 K = T := ⟨_, rfl⟩
        rw [hTT]
        go_enter Tryd.func26, Tryd.ntmps26
        go_wp2_with fail
        refine DS.out.mono ?_
        rintro e w' ⟨rfl, hb⟩
        have HB := hid hb
        clear hb
        go_wp2_with fail
        all_goals (go_ret2; exact ⟨rfl, HB.out⟩)
    · have h65b : (c == 65533) = false := beq_eq_false_iff_ne.2 h65
      rw [if_neg (by
        rintro (q | q)
        · exact h65 (by have := (hb.1 q).1; omega)
        · exact h34 (by omega))]
      clear hb hK hR hc hx hat ha hone hT
      unfold oneT
      simp only [take_ext]
      obtain ⟨T, hTT⟩ : ∃ T, s.extract 0 K = T := ⟨_, rfl⟩
      rw [hTT]
      go_enter Tryd.func26, Tryd.ntmps26
      go_wp2_with fail
      refine DS.out.mono ?_
      rintro e w' ⟨rfl, hb⟩
      have HB := hid hb
      clear hb
      go_wp2_with fail
      all_goals (go_ret2; exact ⟨rfl, HB.out⟩)
theorem list_two {s : ByteArray} {a b : UInt8} {u : List UInt8} (h : s.data.toList = a :: b :: u) : s.size = u.length + 2 ∧ bt s 0 = (a.toNat : Int) ∧ bt s 1 = (b.toNat : Int) := by
  refine ⟨by rw [Utf.size_eq, h]; rfl, ?_, ?_⟩
  · unfold bt; rw [h]; rfl
  · unfold bt; rw [h]; rfl
set_option maxRecDepth 100000 in
set_option maxHeartbeats 2000000 in
theorem one_short (s : ByteArray) (w : World) (h0 : 0 < s.size) (h92 : bt s 0 = 92) (h1 : ¬ 1 < s.size) :
    Calls Tryd.prog 26 #[.string s] w fun e w' => e = .returned (oneT none) ∧ Below w.heap.size w w' := by
  have E0 := bt_at s 0 h0
  rw [h92] at E0
  have hs : (s.size : Int) < 2 := by omega
  go_enter Tryd.func26, Tryd.ntmps26
  go_wp2_with fail
  go_ret2
  exact ⟨rfl, Below.refl _ _⟩
set_option maxRecDepth 100000 in
set_option maxHeartbeats 2000000 in
theorem one_quote (s : ByteArray) (y : Int) (w : World) (h0 : 0 < s.size) (h92 : bt s 0 = 92) (h1 : 1 < s.size) (hs : s.size ≤ 100000) (hy : bt s 1 = y) (hq : y = 34 ∨ y = 92) :
    Calls Tryd.prog 26 #[.string s] w fun e w' => e = .returned (.tuple #[.string (s.extract 1 2), .int .i64 2]) ∧ Below w.heap.size w w' := by
  have E0 := bt_at s 0 h0
  rw [h92] at E0
  have E1 := bt_at s 1 h1
  rw [hy] at E1
  have hs : (2 : Int) ≤ s.size := by omega
  clear hy h92
  obtain ⟨T, hTT⟩ : ∃ T, s.extract 1 2 = T := ⟨_, rfl⟩
  rw [hTT]
  rcases hq with rfl | rfl
  all_goals
    go_enter Tryd.func26, Tryd.ntmps26
    go_wp2_with fail
    go_ret2
    exact ⟨rfl, Below.refl _ _⟩
set_option maxRecDepth 100000 in
set_option maxHeartbeats 2000000 in
theorem one_letter (s : ByteArray) (b : UInt8) (y : Int) (w : World) (h0 : 0 < s.size) (h92 : bt s 0 = 92) (h1 : 1 < s.size) (hs : s.size ≤ 100000) (hy : bt s 1 = y) (hby : (b.toNat : Int) = y) (hq : ¬ y = 34) (hq2 : ¬ y = 92) (hl : 0 ≤ IP.ltrI b) :
    Calls Tryd.prog 26 #[.string s] w fun e w' => e = .returned (oneT (some ([UInt8.ofNat (7 + IP.ltrI b).toNat], 2))) ∧ Below w.heap.size w w' := by
  have E0 := bt_at s 0 h0
  rw [h92] at E0
  have E1 := bt_at s 1 h1
  rw [hy] at E1
  have hs : (2 : Int) ≤ s.size := by omega
  have hq3 : (y == 34) = false := beq_eq_false_iff_ne.2 hq
  have hq4 : (y == 92) = false := beq_eq_false_iff_ne.2 hq2
  have IB := hid (fun W => Tryd.strings_IndexByte ⟨#[97, 98, 116, 110, 118, 102, 114]⟩ y W)
  rw [← hby, u8_back] at IB
  simp only [letter_at] at IB
  rw [hby] at IB
  have hlb := IP.ltrI_bound b
  obtain ⟨k, hk⟩ : ∃ k, IP.ltrI b = k := ⟨_, rfl⟩
  rw [hk] at IB hl hlb ⊢
  obtain ⟨hlb0, hlb1⟩ := hlb
  clear hy h92 hk hby
  go_enter Tryd.func26, Tryd.ntmps26
  go_wp2_with fail
  refine (IB.out _).mono ?_
  rintro e w' ⟨rfl, rfl⟩
  go_wp2_with fail
  go_ret2
  exact ⟨ret_two (nums1 _) rfl, (Below.refl _ _).alloc (Nat.le_refl _) _⟩
set_option maxRecDepth 100000 in
set_option maxHeartbeats 2000000 in
theorem one_no (s : ByteArray) (b : UInt8) (y : Int) (w : World) (h0 : 0 < s.size) (h92 : bt s 0 = 92) (h1 : 1 < s.size) (hs : s.size ≤ 100000) (hy : bt s 1 = y) (hby : (b.toNat : Int) = y) (hq : ¬ y = 34) (hq2 : ¬ y = 92) (hl : ¬ 0 ≤ IP.ltrI b)
    (g1 : ¬ y = 120) (g2 : ¬ y = 117) (g3 : ¬ y = 85) :
    Calls Tryd.prog 26 #[.string s] w fun e w' => e = .returned (oneT none) ∧ Below w.heap.size w w' := by
  have E0 := bt_at s 0 h0
  rw [h92] at E0
  have E1 := bt_at s 1 h1
  rw [hy] at E1
  have hs : (2 : Int) ≤ s.size := by omega
  have hq3 : (y == 34) = false := beq_eq_false_iff_ne.2 hq
  have hq4 : (y == 92) = false := beq_eq_false_iff_ne.2 hq2
  have IB := hid (fun W => Tryd.strings_IndexByte ⟨#[97, 98, 116, 110, 118, 102, 114]⟩ y W)
  rw [← hby, u8_back] at IB
  simp only [letter_at] at IB
  rw [hby] at IB
  obtain ⟨k, hk⟩ : ∃ k, IP.ltrI b = k := ⟨_, rfl⟩
  rw [hk] at IB hl
  have mk := @run_makeMap Tryd.prog
  have i1 := ins1
  have i2 := ins2
  have i3 := ins3
  have i4 := fun W => lookno W y g1 g2 g3
  clear hy h92 hk hby g1 g2 g3
  go_enter Tryd.func26, Tryd.ntmps26
  go_wp2_with fail
  refine (IB.out _).mono ?_
  rintro e w' ⟨rfl, rfl⟩
  go_wp2_with fail
  go_ret2
  exact ⟨rfl, (Below.refl _ _).alloc (Nat.le_refl _) _⟩
end Go.Proofs.YtfbekjgbijlcaaaDoor
