/-
  Walks of layer 3: the document's quotes.
-/
import Derived.Test.YtfbekjgbijlcaaaDoorQ4
import Derived.Deep.RegionWith
namespace Go.Proofs.YtfbekjgbijlcaaaDoor
open Go.RowKit Go.Proofs
theorem conv2d (w : World) (a b : Int) : (convert 44 9 (.slice (some ⟨w.heap.size, 0, none⟩) 2 2)).run Tryd.prog (w.alloc (.cells #[.int .u8 a, .int .u8 b] 5)).drew = .ok (.string (strOfNums [a, b])) (w.alloc (.cells #[.int .u8 a, .int .u8 b] 5)).drew :=
  run_convert_bytes_arg (w.alloc (.cells #[.int .u8 a, .int .u8 b] 5)).drew 44 5 Tryd.underlying44 Tryd.underlying5 w.heap.size 0 2 2 [a, b] rfl (fun i hi => by
    show (w.alloc (.cells #[.int .u8 a, .int .u8 b] 5)).cell? ⟨w.heap.size, 0 + i, none⟩ = _
    match i, hi with
    | 0, _ => rw [World.cell?_alloc_mark]; rfl
    | 1, _ => rw [World.cell?_alloc_mark]; rfl) 9 Tryd.underlying9
attribute [local go_sem] conv2 conv2d

theorem refdigit_any (d : Int) (g : Bool) (w : World) (h0 : 0 ≤ d) (h1 : d < 16) : Calls Tryd.prog 33 #[.int .i64 d, .bool g] w fun e w' => e = .returned (.string ⟨#[IP.hexd g d.toNat]⟩) ∧ w = w' := by
  rcases (show d = 0 ∨ d = 1 ∨ d = 2 ∨ d = 3 ∨ d = 4 ∨ d = 5 ∨ d = 6 ∨ d = 7 ∨ d = 8 ∨ d = 9 ∨ d = 10 ∨ d = 11 ∨ d = 12 ∨ d = 13 ∨ d = 14 ∨ d = 15 by omega) with rfl | rfl | rfl | rfl | rfl | rfl | rfl | rfl | rfl | rfl | rfl | rfl | rfl | rfl | rfl | rfl
  all_goals
    cases g
    all_goals
      go_enter Tryd.func33, Tryd.ntmps33
      go_wp2_with fail
      go_ret
      exact ⟨ret_str (bytes_ext (by rfl)), rfl⟩
theorem hexW_front (n : Nat) : ∀ i : Nat, IP.hexW n (i + 1) = IP.hexd false (n / 16 ^ i % 16) :: IP.hexW n i := by
  intro i
  induction i generalizing n with
  | zero => simp [IP.hexW]
  | succ i ih =>
    rw [IP.hexW, ih (n / 16)]
    conv => rhs; rw [IP.hexW]
    rw [Nat.div_div_eq_div_mul, Nat.pow_succ, Nat.mul_comm 16, List.cons_append]

set_option maxRecDepth 100000 in
theorem refdigits_any (n : Int) (N : Nat) (w : World) (h0 : 0 ≤ n) (h1 : n ≤ 9223372036854775807) (hN : N ≤ 8) :
    Calls Tryd.prog 49 #[.int .i64 n, .int .i64 N] w fun e w' => e = .returned (.string ⟨(IP.hexW n.toNat N).toArray⟩) ∧ w = w' := by
  go_enter Tryd.func49, Tryd.ntmps49
  go_wp2_with fail
  go_loopw [0, 5, 6] (fun nv sv iv wr => ∃ (x : Int) (t : ByteArray) (i : Nat), nv = .int .i64 x ∧ 0 ≤ x ∧ x ≤ 9223372036854775807 ∧ sv = .string t ∧ t.size = i ∧ iv = .int .i64 i ∧ i ≤ N ∧ Hid (t.data.toList = IP.hexW n.toNat i ∧ x.toNat = n.toNat / 16 ^ i) ∧ wr = w) (fun _ _ iv _ => N - (intOf iv).toNat)
  case atStart => exact ⟨n, ⟨#[]⟩, 0, rfl, h0, h1, rfl, rfl, rfl, Nat.zero_le _, ⟨rfl, by rw [Nat.pow_zero, Nat.div_one]⟩, rfl⟩
  case round =>
    obtain ⟨x, t, i, rfl, hx0, hx1, rfl, hts, rfl, hi, ht, rfl⟩ := hrel
    by_cases hlt : i < N
    · have hts' : t.size ≤ 8 := by omega
      have HTS := hid hts
      clear hts
      have DG := hid (fun W => refdigit_any (x % 16) false W (by omega) (by omega))
      obtain ⟨d, hd⟩ : ∃ d : ByteArray, ⟨#[IP.hexd false (x % 16).toNat]⟩ = d := ⟨_, rfl⟩
      rw [hd] at DG
      have hds : d.size = 1 := by rw [← hd]; rfl
      have HD := hid hd
      clear hd
      go_wp2_with fail
      refine (DG.out _).mono ?_
      rintro e w' ⟨rfl, rfl⟩
      go_wp2_with fail
      go_roundw
      case rel =>
        refine ⟨x / 16, d ++ t, i + 1, rfl, by omega, by omega, rfl, by rw [ByteArray.size_append, HTS.out]; omega, by go_num, by omega, ⟨?_, ?_⟩, by first | trivial | rfl⟩
        · rw [ByteArray.data_append, Array.toList_append, ht.out.1, hexW_front, ← HD.out, ← ht.out.2]
          rw [show (x % 16).toNat = x.toNat % 16 by omega]
          rfl
        · rw [Nat.pow_succ, ← Nat.div_div_eq_div_mul, ← ht.out.2]; omega
      case measure => simp [intOf]; omega
    · have hi' : i = N := by omega
      subst hi'
      go_wp2_with fail
      go_ret
      exact ⟨ret_str (bytes_ext (by rw [ht.out.1])), rfl⟩
theorem refdigits_lit (n : Int) (N : Nat) (M : Int) (hM : (N : Int) = M) (w : World) (h0 : 0 ≤ n) (h1 : n ≤ 9223372036854775807) (hN : N ≤ 8) :
    Calls Tryd.prog 49 #[.int .i64 n, .int .i64 M] w fun e w' => e = .returned (.string ⟨(IP.hexW n.toNat N).toArray⟩) ∧ w = w' := by
  subst hM
  exact refdigits_any n N w h0 h1 hN
theorem conv2_after {w w1 : World} {a b : Int} (hb : Below (w.alloc (.cells #[.int .u8 a, .int .u8 b] 5)).heap.size (w.alloc (.cells #[.int .u8 a, .int .u8 b] 5)) w1) :
    (convert 44 9 (.slice (some ⟨w.heap.size, 0, none⟩) 2 2)).run Tryd.prog w1 = .ok (.string (strOfNums [a, b])) w1 :=
  run_convert_bytes_arg w1 44 5 Tryd.underlying44 Tryd.underlying5 w.heap.size 0 2 2 [a, b] rfl (fun i hi => by
    rw [hb.cell (p := ⟨w.heap.size, 0 + i, none⟩) (by simp)]
    match i, hi with
    | 0, _ => rw [World.cell?_alloc_mark]; rfl
    | 1, _ => rw [World.cell?_alloc_mark]; rfl) 9 Tryd.underlying9

theorem nums2 (a b : Int) : (strOfNums [a, b]).data.toList = [UInt8.ofNat a.toNat, UInt8.ofNat b.toNat] := by
  unfold strOfNums
  simp
set_option maxRecDepth 100000 in
set_option maxHeartbeats 2000000 in
theorem refin_any (c q : Int) (ascii : Bool) (w : World) (hc0 : 0 ≤ c) (hc1 : c ≤ 1114111) (hq0 : 0 ≤ q) (hq1 : q ≤ 127) :
    Calls Tryd.prog 44 #[.int .i32 c, .int .u8 q, .bool ascii] w fun e w' => e = .returned (.string ⟨(IP.inL c q ascii).toArray⟩) ∧ Below w.heap.size w w' := by
  by_cases h1 : c = q ∨ c = 92
  · have hi : IP.inL c q ascii = [92, UInt8.ofNat c.toNat] := by unfold IP.inL; rw [if_pos h1]
    have hcb : c ≤ 127 := by omega
    rw [hi]
    have hdec : (c = q) ∨ (¬ c = q ∧ c = 92) := by omega
    clear h1 hi
    rcases hdec with rfl | ⟨hd, rfl⟩
    all_goals
      go_enter Tryd.func44, Tryd.ntmps44
      go_wp2_with fail
      go_ret
      exact ⟨ret_str (bytes_ext (by rw [nums2]; rfl)), (Below.refl _ _).alloc (Nat.le_refl _) _⟩
  · have h1a : ¬ c = q := fun h => h1 (Or.inl h)
    have h1b : ¬ c = 92 := fun h => h1 (Or.inr h)
    have h1c : (c == q) = false := beq_eq_false_iff_ne.2 h1a
    have h1d : (c == 92) = false := beq_eq_false_iff_ne.2 h1b
    by_cases h2 : 7 ≤ c ∧ c ≤ 13
    · have hi : IP.inL c q ascii = [92, IP.letter (c - 7).toNat] := by unfold IP.inL; rw [if_neg h1, if_pos h2]
      rw [hi]
      clear hi h1
      rcases (show c = 7 ∨ c = 8 ∨ c = 9 ∨ c = 10 ∨ c = 11 ∨ c = 12 ∨ c = 13 by omega) with rfl | rfl | rfl | rfl | rfl | rfl | rfl
      all_goals
        clear h2
        go_enter Tryd.func44, Tryd.ntmps44
        go_wp2_with fail
        go_ret
        exact ⟨ret_str (bytes_ext (by rw [nums2]; rfl)), (Below.refl _ _).alloc (Nat.le_refl _) _⟩
    · have PL := hid (fun W => rplain_any c W)
      have RU := hid (fun W => refrune_any c (by omega) (by omega) W)
      by_cases h3 : (32 ≤ c ∧ c ≤ 126) ∨ (ascii = false ∧ IP.plainB c = true)
      · have hi : IP.inL c q ascii = Utf.encL c := by unfold IP.inL; rw [if_neg h1, if_neg h2, if_pos h3]
        rw [hi, show (⟨(Utf.encL c).toArray⟩ : ByteArray) = Utf8.encode c from bytes_ext (by simp [Utf.encL])]
        have hp : IP.plainB c = true := by
          rcases h3 with h | h
          · unfold IP.plainB; simp; omega
          · exact h.2
        rw [hp] at PL
        have hor : ascii = false ∨ (ascii = true ∧ c ≤ 126) := by
          cases ascii
          · exact Or.inl rfl
          · refine Or.inr ⟨rfl, ?_⟩
            rcases h3 with h | h
            · exact h.2
            · cases h.1
        have h713 : c < 7 ∨ 13 < c := by omega
        clear hi h1 hp h3 h2
        rcases hor with rfl | ⟨rfl, h126⟩ <;> rcases h713 with h7 | h7
        all_goals
          go_enter Tryd.func44, Tryd.ntmps44
          go_wp2_with fail
          refine (PL.out _).mono ?_
          rintro e w' ⟨rfl, rfl⟩
          go_wp2_with fail
          refine (RU.out _).mono ?_
          rintro e w' ⟨rfl, hb⟩
          go_wp2_with fail
          go_ret
          exact ⟨rfl, hb⟩
      · have h32 : ¬ (32 ≤ c ∧ c ≤ 126) := fun h => h3 (Or.inl h)
        have hpa : IP.plainB c = false ∨ (IP.plainB c = true ∧ ascii = true) := by
          cases hb : IP.plainB c
          · exact Or.inl rfl
          · refine Or.inr ⟨rfl, ?_⟩
            cases ascii
            · exact absurd (Or.inr ⟨rfl, hb⟩) h3
            · rfl
        have hgt : c < 127 → c < 32 := by omega
        have e128 : c < 128 → IP.inL c q ascii = 92 :: 120 :: IP.hexW c.toNat 2 := fun h => by
          unfold IP.inL; rw [if_neg h1, if_neg h2, if_neg h3, if_pos h]
        have e65 : ¬ c < 128 → c ≤ 65535 → IP.inL c q ascii = 92 :: 117 :: IP.hexW c.toNat 4 := fun h h' => by
          unfold IP.inL; rw [if_neg h1, if_neg h2, if_neg h3, if_neg h, if_pos h']
        have e99 : ¬ c < 128 → ¬ c ≤ 65535 → IP.inL c q ascii = 92 :: 85 :: IP.hexW c.toNat 8 := fun h h' => by
          unfold IP.inL; rw [if_neg h1, if_neg h2, if_neg h3, if_neg h, if_neg h']
        have hnp : 13 < c → c < 32 → IP.plainB c = false := fun a b => by unfold IP.plainB; simp; omega
        have hnp2 : c < 7 → IP.plainB c = false := fun a => by unfold IP.plainB; simp; omega
        clear h3 h1
        rcases (show (c < 7 ∧ c < 128) ∨ (13 < c ∧ c < 32 ∧ c < 128) ∨ (126 < c ∧ c < 128) ∨ (¬ c < 128 ∧ c ≤ 65535) ∨ (¬ c < 128 ∧ ¬ c ≤ 65535) by omega) with ⟨h5, h6⟩ | ⟨h5, h5', h6⟩ | ⟨h5, h6⟩ | ⟨h5, h6⟩ | ⟨h5, h6⟩
        · rw [e128 h6]
          have DG := hid (fun W => refdigits_lit c 2 2 rfl W hc0 (by omega) (by decide))
          obtain ⟨D, hD⟩ : ∃ D : ByteArray, (⟨(IP.hexW c.toNat 2).toArray⟩ : ByteArray) = D := ⟨_, rfl⟩
          rw [hD] at DG
          have hDs : D.size = 2 := by rw [← hD]; simp [ByteArray.size, IP.hexW_len]
          have HD := hid hD
          rcases hpa with hp | ⟨hp, ha⟩
          · rw [hp] at PL
            clear e128 e65 e99 h2 h32 hgt hnp hnp2 hp hD
            go_enter Tryd.func44, Tryd.ntmps44
            go_wp2_with fail
            refine (PL.out _).mono ?_
            rintro e w' ⟨rfl, rfl⟩
            go_wp2_with fail
            go_region_with (((with_reducible refine (DG.out _).mono ?_); rintro e w1 ⟨rfl, rfl⟩))
            all_goals
              go_wp2_with fail
              go_ret
              exact ⟨ret_str (bytes_ext (by rw [ByteArray.data_append, Array.toList_append, ← HD.out]; rfl)), by first | exact (((Below.refl _ _).alloc (Nat.le_refl _) _).drew) | exact (((Below.refl _ _).drew).alloc (by simp) _) | exact ((Below.refl _ _).alloc (Nat.le_refl _) _)⟩
          · exact absurd (hnp2 h5) (by rw [hp]; decide)
        · rw [e128 h6]
          have DG := hid (fun W => refdigits_lit c 2 2 rfl W hc0 (by omega) (by decide))
          obtain ⟨D, hD⟩ : ∃ D : ByteArray, (⟨(IP.hexW c.toNat 2).toArray⟩ : ByteArray) = D := ⟨_, rfl⟩
          rw [hD] at DG
          have hDs : D.size = 2 := by rw [← hD]; simp [ByteArray.size, IP.hexW_len]
          have HD := hid hD
          rcases hpa with hp | ⟨hp, ha⟩
          · rw [hp] at PL
            clear e128 e65 e99 h2 h32 hgt hnp hnp2 hp hD
            go_enter Tryd.func44, Tryd.ntmps44
            go_wp2_with fail
            refine (PL.out _).mono ?_
            rintro e w' ⟨rfl, rfl⟩
            go_wp2_with fail
            go_region_with (((with_reducible refine (DG.out _).mono ?_); rintro e w1 ⟨rfl, rfl⟩))
            all_goals
              go_wp2_with fail
              go_ret
              exact ⟨ret_str (bytes_ext (by rw [ByteArray.data_append, Array.toList_append, ← HD.out]; rfl)), by first | exact (((Below.refl _ _).alloc (Nat.le_refl _) _).drew) | exact (((Below.refl _ _).drew).alloc (by simp) _) | exact ((Below.refl _ _).alloc (Nat.le_refl _) _)⟩
          · exact absurd (hnp h5 h5') (by rw [hp]; decide)
        · rw [e128 h6]
          have DG := hid (fun W => refdigits_lit c 2 2 rfl W hc0 (by omega) (by decide))
          obtain ⟨D, hD⟩ : ∃ D : ByteArray, (⟨(IP.hexW c.toNat 2).toArray⟩ : ByteArray) = D := ⟨_, rfl⟩
          rw [hD] at DG
          have hDs : D.size = 2 := by rw [← hD]; simp [ByteArray.size, IP.hexW_len]
          have HD := hid hD
          rcases hpa with hp | ⟨hp, ha⟩
          · rw [hp] at PL
            clear e128 e65 e99 h2 h32 hgt hnp hnp2 hp hD
            go_enter Tryd.func44, Tryd.ntmps44
            go_wp2_with fail
            refine (PL.out _).mono ?_
            rintro e w' ⟨rfl, rfl⟩
            go_wp2_with fail
            go_region_with (((with_reducible refine (DG.out _).mono ?_); rintro e w1 ⟨rfl, rfl⟩))
            all_goals
              go_wp2_with fail
              go_ret
              exact ⟨ret_str (bytes_ext (by rw [ByteArray.data_append, Array.toList_append, ← HD.out]; rfl)), by first | exact (((Below.refl _ _).alloc (Nat.le_refl _) _).drew) | exact (((Below.refl _ _).drew).alloc (by simp) _) | exact ((Below.refl _ _).alloc (Nat.le_refl _) _)⟩
          · rw [hp] at PL
            subst ha
            have h126 : 126 < c := by omega
            clear e128 e65 e99 h2 h32 hgt hnp hnp2 hp hD
            go_enter Tryd.func44, Tryd.ntmps44
            go_wp2_with fail
            refine (PL.out _).mono ?_
            rintro e w' ⟨rfl, rfl⟩
            go_wp2_with fail
            go_region_with (((with_reducible refine (DG.out _).mono ?_); rintro e w1 ⟨rfl, rfl⟩))
            all_goals
              go_wp2_with fail
              go_ret
              exact ⟨ret_str (bytes_ext (by rw [ByteArray.data_append, Array.toList_append, ← HD.out]; rfl)), by first | exact (((Below.refl _ _).alloc (Nat.le_refl _) _).drew) | exact (((Below.refl _ _).drew).alloc (by simp) _) | exact ((Below.refl _ _).alloc (Nat.le_refl _) _)⟩
        · rw [e65 h5 h6]
          have DG := hid (fun W => refdigits_lit c 4 4 rfl W hc0 (by omega) (by decide))
          obtain ⟨D, hD⟩ : ∃ D : ByteArray, (⟨(IP.hexW c.toNat 4).toArray⟩ : ByteArray) = D := ⟨_, rfl⟩
          rw [hD] at DG
          have hDs : D.size = 4 := by rw [← hD]; simp [ByteArray.size, IP.hexW_len]
          have HD := hid hD
          rcases hpa with hp | ⟨hp, ha⟩
          · rw [hp] at PL
            clear e128 e65 e99 h2 h32 hgt hnp hnp2 hp hD
            go_enter Tryd.func44, Tryd.ntmps44
            go_wp2_with fail
            refine (PL.out _).mono ?_
            rintro e w' ⟨rfl, rfl⟩
            go_wp2_with fail
            go_region_with (((with_reducible refine (DG.out _).mono ?_); rintro e w1 ⟨rfl, rfl⟩))
            all_goals
              go_wp2_with fail
              go_ret
              exact ⟨ret_str (bytes_ext (by rw [ByteArray.data_append, Array.toList_append, ← HD.out]; rfl)), by first | exact (((Below.refl _ _).alloc (Nat.le_refl _) _).drew) | exact (((Below.refl _ _).drew).alloc (by simp) _) | exact ((Below.refl _ _).alloc (Nat.le_refl _) _)⟩
          · rw [hp] at PL
            subst ha
            have h126 : 126 < c := by omega
            clear e128 e65 e99 h2 h32 hgt hnp hnp2 hp hD
            go_enter Tryd.func44, Tryd.ntmps44
            go_wp2_with fail
            refine (PL.out _).mono ?_
            rintro e w' ⟨rfl, rfl⟩
            go_wp2_with fail
            go_region_with (((with_reducible refine (DG.out _).mono ?_); rintro e w1 ⟨rfl, rfl⟩))
            all_goals
              go_wp2_with fail
              go_ret
              exact ⟨ret_str (bytes_ext (by rw [ByteArray.data_append, Array.toList_append, ← HD.out]; rfl)), by first | exact (((Below.refl _ _).alloc (Nat.le_refl _) _).drew) | exact (((Below.refl _ _).drew).alloc (by simp) _) | exact ((Below.refl _ _).alloc (Nat.le_refl _) _)⟩
        · rw [e99 h5 h6]
          have DG := hid (fun W => refdigits_lit c 8 8 rfl W hc0 (by omega) (by decide))
          obtain ⟨D, hD⟩ : ∃ D : ByteArray, (⟨(IP.hexW c.toNat 8).toArray⟩ : ByteArray) = D := ⟨_, rfl⟩
          rw [hD] at DG
          have hDs : D.size = 8 := by rw [← hD]; simp [ByteArray.size, IP.hexW_len]
          have HD := hid hD
          rcases hpa with hp | ⟨hp, ha⟩
          · rw [hp] at PL
            clear e128 e65 e99 h2 h32 hgt hnp hnp2 hp hD
            go_enter Tryd.func44, Tryd.ntmps44
            go_wp2_with fail
            refine (PL.out _).mono ?_
            rintro e w' ⟨rfl, rfl⟩
            go_wp2_with fail
            go_region_with (((with_reducible refine (DG.out _).mono ?_); rintro e w1 ⟨rfl, rfl⟩))
            all_goals
              go_wp2_with fail
              go_ret
              exact ⟨ret_str (bytes_ext (by rw [ByteArray.data_append, Array.toList_append, ← HD.out]; rfl)), by first | exact (((Below.refl _ _).alloc (Nat.le_refl _) _).drew) | exact (((Below.refl _ _).drew).alloc (by simp) _) | exact ((Below.refl _ _).alloc (Nat.le_refl _) _)⟩
          · rw [hp] at PL
            subst ha
            have h126 : 126 < c := by omega
            clear e128 e65 e99 h2 h32 hgt hnp hnp2 hp hD
            go_enter Tryd.func44, Tryd.ntmps44
            go_wp2_with fail
            refine (PL.out _).mono ?_
            rintro e w' ⟨rfl, rfl⟩
            go_wp2_with fail
            go_region_with (((with_reducible refine (DG.out _).mono ?_); rintro e w1 ⟨rfl, rfl⟩))
            all_goals
              go_wp2_with fail
              go_ret
              exact ⟨ret_str (bytes_ext (by rw [ByteArray.data_append, Array.toList_append, ← HD.out]; rfl)), by first | exact (((Below.refl _ _).alloc (Nat.le_refl _) _).drew) | exact (((Below.refl _ _).drew).alloc (by simp) _) | exact ((Below.refl _ _).alloc (Nat.le_refl _) _)⟩
end Go.Proofs.YtfbekjgbijlcaaaDoor
