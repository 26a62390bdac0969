/-
  Walks of layer 11: is a rune one of the verbs v, s, x, X, q? (The library's search of a constant text for any rune.)
-/
import Derived.Test.YtaniahkagmjkoaaDoorH1
import Derived.BigQuiet
import Derived.Deep.QuietTactic
import Derived.Scope
namespace Go.Proofs.YtaniahkagmjkoaaDoor
open Go.RowKit Go.Proofs

def VQ : ByteArray := ⟨#[118, 115, 120, 88, 113]⟩
theorem ib_none : ∀ (l : List UInt8) (x : UInt8), (∀ y ∈ l, y ≠ x) → Lib.indexByte l x = -1
  | [], _, _ => rfl
  | a :: l, x, h => by
    have h1 : (a == x) = false := by simpa using h a List.mem_cons_self
    have h2 := ib_none l x (fun y hy => h y (List.mem_cons_of_mem _ hy))
    unfold Lib.indexByte
    rw [if_neg (by simp [h1]), h2]
    rfl
theorem low_all : ∀ y ∈ VQ.data.toList, y.toNat < 128 := by decide
theorem ib_high (t : ByteArray) (x : UInt8) (ht : ∀ y ∈ t.data.toList, y.toNat < 128) (hx : 128 ≤ x.toNat) : Lib.indexByte t.data.toList x = -1 :=
  ib_none _ _ fun y hy e => by have := ht y hy; rw [e] at this; omega
theorem ib_low : ∀ v : Fin 128, decide (0 ≤ Lib.indexByte VQ.data.toList (v.val.toUInt8)) = namedB v.val := by decide
/-- The last byte of what a rune is written as. -/
theorem enc_last (v : Int) (h0 : 128 ≤ v) (hv : Utf8.valid v = true) : ∃ l : Nat, (l = 1 ∨ l = 2 ∨ l = 3) ∧ (Utf8.encode v).size = l + 1 ∧ 128 ≤ bt (Utf8.encode v) l ∧ bt (Utf8.encode v) l < 256 := by
  have hb : ∀ n : Nat, n < 64 → ((UInt8.ofNat (128 + n)).toNat : Int) = 128 + n := by
    intro n hn
    have : (UInt8.ofNat (128 + n)).toNat = 128 + n := by
      show (128 + n) % 256 = _
      omega
    rw [this]; omega
  unfold Utf8.encode
  rw [if_pos hv]
  simp only []
  by_cases h1 : v.toNat < 128
  · omega
  rw [if_neg h1]
  by_cases h2 : v.toNat < 2048
  · rw [if_pos h2]
    refine ⟨1, Or.inl rfl, rfl, ?_, ?_⟩
    · show (128 : Int) ≤ ((UInt8.ofNat (128 + v.toNat % 64)).toNat : Int)
      rw [hb _ (Nat.mod_lt _ (by decide))]; omega
    · show ((UInt8.ofNat (128 + v.toNat % 64)).toNat : Int) < 256
      rw [hb _ (Nat.mod_lt _ (by decide))]; omega
  rw [if_neg h2]
  by_cases h3 : v.toNat < 65536
  · rw [if_pos h3]
    refine ⟨2, Or.inr (Or.inl rfl), rfl, ?_, ?_⟩
    · show (128 : Int) ≤ ((UInt8.ofNat (128 + v.toNat % 64)).toNat : Int)
      rw [hb _ (Nat.mod_lt _ (by decide))]; omega
    · show ((UInt8.ofNat (128 + v.toNat % 64)).toNat : Int) < 256
      rw [hb _ (Nat.mod_lt _ (by decide))]; omega
  rw [if_neg h3]
  refine ⟨3, Or.inr (Or.inr rfl), rfl, ?_, ?_⟩
  · show (128 : Int) ≤ ((UInt8.ofNat (128 + v.toNat % 64)).toNat : Int)
    rw [hb _ (Nat.mod_lt _ (by decide))]; omega
  · show ((UInt8.ofNat (128 + v.toNat % 64)).toNat : Int) < 256
    rw [hb _ (Nat.mod_lt _ (by decide))]; omega

theorem byte_high (x : Int) (h0 : 128 ≤ x) (h1 : x < 256) : 128 ≤ (x.toNat.toUInt8).toNat := by
  show 128 ≤ x.toNat % 256
  omega
set_option maxRecDepth 100000 in
set_option maxHeartbeats 1000000 in
/-- A rune that is none. -/
theorem index_bad (v : Int) (w : World) (h : ¬ (0 ≤ v ∧ v < 128)) (h2 : ¬ v = 65533) (hv : Lib.validRune v = false) : Calls Tryd.prog 36 #[.string VQ, .int .i32 v] w fun e w' => e = .returned (.int .i64 (-1)) ∧ Below w.heap.size w w' := by
  have VR := hid (fun W => Tryd.utf8_ValidRune v W)
  rw [hv] at VR
  have g2 : (v == 65533) = false := by simpa using h2
  clear h2 hv
  by_cases h0 : 0 ≤ v
  · have g1 : decide (v < 128) = false := decide_eq_false (by omega)
    clear h
    go_enter Tryd.func36, Tryd.ntmps36
    go_wp2_with fail
    refine (VR.out _).mono ?_
    rintro e w1 ⟨rfl, rfl⟩
    go_wp2_with fail
    go_ret
    exact ⟨rfl, Below.refl _ _⟩
  · have g1 : decide (0 ≤ v) = false := decide_eq_false h0
    clear h
    go_enter Tryd.func36, Tryd.ntmps36
    go_wp2_with fail
    refine (VR.out _).mono ?_
    rintro e w1 ⟨rfl, rfl⟩
    go_wp2_with fail
    go_ret
    exact ⟨rfl, Below.refl _ _⟩
set_option maxRecDepth 100000 in
set_option maxHeartbeats 1000000 in
/-- The rune that stands for broken ones. -/
theorem index_err (w : World) : Calls Tryd.prog 36 #[.string VQ, .int .i32 65533] w fun e w' => e = .returned (.int .i64 (-1)) ∧ Below w.heap.size w w' := by
  go_enter Tryd.func36, Tryd.ntmps36
  go_wp2_with fail
  go_loopw [4] (fun v wr => ∃ pos : Nat, v = .int .i64 0 ∧ pos ≤ 5 ∧ wr = w.iter VQ pos) (fun _ wr => 5 - wr.iterPos w.heap.size)
  case atStart => exact ⟨0, rfl, by decide, rfl⟩
  case round =>
    obtain ⟨pos, rfl, hpos, rfl⟩ := hrel
    by_cases hp : pos < 5
    · have hp2 : pos < VQ.size := hp
      have hd : (Utf8.decode VQ pos).2 = 1 ∧ (Utf8.decode VQ pos).1 < 128 := by
        have : ∀ p : Fin 5, (Utf8.decode VQ p.val).2 = 1 ∧ (Utf8.decode VQ p.val).1 < 128 := by decide
        exact this ⟨pos, hp⟩
      have hnx : ∀ ty, (Instr.next (.pointer (some ⟨w.heap.size, 0, none⟩)) true ty).run Tryd.prog (w.iter VQ pos) = _ := fun ty => run_next_any w VQ pos ty hp2
      rw [hd.1] at hnx
      have hc : (((Utf8.decode VQ pos).1 : Int) == 65533) = false := by rw [beq_eq_false_iff_ne]; have := hd.2; omega
      clear hd
      go_wp2_with fail
      go_roundw
      case rel => exact ⟨pos + 1, rfl, by omega, rfl⟩
      case measure => simp; omega
    · have hp2 : ¬ pos < VQ.size := hp
      have hnx : ∀ ty, (Instr.next (.pointer (some ⟨w.heap.size, 0, none⟩)) true ty).run Tryd.prog (w.iter VQ pos) = _ := fun ty => run_next_end w VQ pos ty hp2
      go_wp2_with fail
      go_ret
      exact ⟨rfl, (Below.refl _ _).alloc (Nat.le_refl _) _⟩
set_option maxRecDepth 100000 in
set_option maxHeartbeats 1000000 in
/-- Any other. -/
theorem index_high (v : Int) (w : World) (h : 128 ≤ v) (h2 : ¬ v = 65533) (hv : Lib.validRune v = true) : Calls Tryd.prog 36 #[.string VQ, .int .i32 v] w fun e w' => e = .returned (.int .i64 (-1)) ∧ Below w.heap.size w w' := by
  have VR := hid (fun W => Tryd.utf8_ValidRune v W)
  rw [hv] at VR
  have g2 : (v == 65533) = false := by simpa using h2
  have hvu : Utf8.valid v = true := by
    have hv := of_decide_eq_true hv
    unfold Utf8.valid
    simp only [Bool.or_eq_true, Bool.and_eq_true, decide_eq_true_eq]
    omega
  obtain ⟨l, hl, hz, hlo, hhi⟩ := enc_last v h hvu
  obtain ⟨E, hE⟩ : ∃ E, Utf8.encode v = E := ⟨_, rfl⟩
  rw [hE] at hz hlo hhi
  have g1 : decide (v < 128) = false := decide_eq_false (by omega)
  have h0 : 0 ≤ v := by omega
  have HE := hid hE
  have hlt : l < E.size := by omega
  have E0 := bt_at E l hlt
  obtain ⟨x, hx⟩ : ∃ x, bt E l = x := ⟨_, rfl⟩
  rw [hx] at E0 hlo hhi
  clear h2 hv hvu hE h hx
  have HZ := hid hz
  clear hz
  have hlo0 : 0 ≤ x := by omega
  rcases hl with rfl | rfl | rfl
  · have hz := HZ.out
    obtain ⟨T, hT⟩ : ∃ T, VQ.extract 2 5 = T := ⟨_, rfl⟩
    have IB := hid (fun W => Tryd.strings_IndexByte T x W)
    have hib : Lib.indexByte T.data.toList x.toNat.toUInt8 = -1 := ib_high T _ (by rw [← hT]; exact fun y hy => low_all y (by rw [Lib.extract_data] at hy; exact List.mem_of_mem_drop (List.mem_of_mem_take hy))) (byte_high x hlo hhi)
    rw [hib] at IB
    have W1 : IntKind.i64.wrap 2 = 2 := rfl
    have V0 : ((VQ[1]'(by decide)).toNat : Int) = 115 := rfl
    have V1 : 1 < VQ.size := by decide
    have V2 : 2 ≤ VQ.size := by decide
    have VZ : VQ.size = 5 := rfl
    have V3 : ((115 : Int) != x) = true := by rw [bne_iff_ne]; omega
    have VE := hid VZ
    go_enter Tryd.func36, Tryd.ntmps36
    go_wp2_with fail
    refine (VR.out _).mono ?_
    rintro e w1 ⟨rfl, rfl⟩
    go_wp2_with fail
    go_step3
    have hE := HE.out
    go_wp2_with fail
    clear hE
    refine wp_loop_rounds 1 ?_
    rw [rounds_succ]
    go_wp2_with fail
    go_step3
    go_wp2_with fail
    go_quiet (fail)
    generalize hw2 : World.drewN w1 _ = w2
    have HB2 := hid (show Below w1.heap.size w1 w2 from hw2 ▸ below_drewN (Below.refl _ _) _)
    clear hw2
    go_wp2_with fail
    go_quiet ((go_at_call 47; exact Calls.quiet_of_same (IB.out _)))
    go_wp2_with fail

    rw [Exit.noGoto_ret]
    go_wp2_with fail
    try rw [Exit.noGoto_ret]
    go_wp2_with fail
    go_ret
    exact ⟨rfl, below_drewN HB2.out _⟩
  · have hz := HZ.out
    obtain ⟨T, hT⟩ : ∃ T, VQ.extract 3 5 = T := ⟨_, rfl⟩
    have IB := hid (fun W => Tryd.strings_IndexByte T x W)
    have hib : Lib.indexByte T.data.toList x.toNat.toUInt8 = -1 := ib_high T _ (by rw [← hT]; exact fun y hy => low_all y (by rw [Lib.extract_data] at hy; exact List.mem_of_mem_drop (List.mem_of_mem_take hy))) (byte_high x hlo hhi)
    rw [hib] at IB
    have W1 : IntKind.i64.wrap 3 = 3 := rfl
    have V0 : ((VQ[2]'(by decide)).toNat : Int) = 120 := rfl
    have V1 : 2 < VQ.size := by decide
    have V2 : 3 ≤ VQ.size := by decide
    have VZ : VQ.size = 5 := rfl
    have V3 : ((120 : Int) != x) = true := by rw [bne_iff_ne]; omega
    have VE := hid VZ
    go_enter Tryd.func36, Tryd.ntmps36
    go_wp2_with fail
    refine (VR.out _).mono ?_
    rintro e w1 ⟨rfl, rfl⟩
    go_wp2_with fail
    go_step3
    have hE := HE.out
    go_wp2_with fail
    clear hE
    refine wp_loop_rounds 1 ?_
    rw [rounds_succ]
    go_wp2_with fail
    go_step3
    go_wp2_with fail
    go_quiet (fail)
    generalize hw2 : World.drewN w1 _ = w2
    have HB2 := hid (show Below w1.heap.size w1 w2 from hw2 ▸ below_drewN (Below.refl _ _) _)
    clear hw2
    go_wp2_with fail
    go_quiet ((go_at_call 47; exact Calls.quiet_of_same (IB.out _)))
    go_wp2_with fail
    rw [Exit.noGoto_ret]
    go_wp2_with fail
    try rw [Exit.noGoto_ret]
    go_wp2_with fail
    go_ret
    exact ⟨rfl, below_drewN HB2.out _⟩
  · have hz := HZ.out
    obtain ⟨T, hT⟩ : ∃ T, VQ.extract 4 5 = T := ⟨_, rfl⟩
    have IB := hid (fun W => Tryd.strings_IndexByte T x W)
    have hib : Lib.indexByte T.data.toList x.toNat.toUInt8 = -1 := ib_high T _ (by rw [← hT]; exact fun y hy => low_all y (by rw [Lib.extract_data] at hy; exact List.mem_of_mem_drop (List.mem_of_mem_take hy))) (byte_high x hlo hhi)
    rw [hib] at IB
    have W1 : IntKind.i64.wrap 4 = 4 := rfl
    have V0 : ((VQ[3]'(by decide)).toNat : Int) = 88 := rfl
    have V1 : 3 < VQ.size := by decide
    have V2 : 4 ≤ VQ.size := by decide
    have VZ : VQ.size = 5 := rfl
    have V3 : ((88 : Int) != x) = true := by rw [bne_iff_ne]; omega
    have VE := hid VZ
    go_enter Tryd.func36, Tryd.ntmps36
    go_wp2_with fail
    refine (VR.out _).mono ?_
    rintro e w1 ⟨rfl, rfl⟩
    go_wp2_with fail
    go_step3
    have hE := HE.out
    go_wp2_with fail
    clear hE
    refine wp_loop_rounds 1 ?_
    rw [rounds_succ]
    go_wp2_with fail
    go_step3
    go_wp2_with fail
    go_quiet (fail)
    generalize hw2 : World.drewN w1 _ = w2
    have HB2 := hid (show Below w1.heap.size w1 w2 from hw2 ▸ below_drewN (Below.refl _ _) _)
    clear hw2
    go_wp2_with fail
    go_quiet ((go_at_call 47; exact Calls.quiet_of_same (IB.out _)))
    go_wp2_with fail
    rw [Exit.noGoto_ret]
    go_wp2_with fail
    try rw [Exit.noGoto_ret]
    go_wp2_with fail
    go_ret
    exact ⟨rfl, below_drewN HB2.out _⟩
set_option maxHeartbeats 1000000 in
/-- Is a rune one of those five? -/
theorem contains_any (v : Int) (w : World) : Calls Tryd.prog 26 #[.string VQ, .int .i32 v] w fun e w' => e = .returned (.bool (namedB v)) ∧ Below w.heap.size w w' := by
  by_cases h : 0 ≤ v ∧ v < 128
  · obtain ⟨n, rfl⟩ := Int.eq_ofNat_of_zero_le h.1
    have hl := ib_low ⟨n, by omega⟩
    refine (Tryd.strings_ContainsRune_ascii VQ n w h.1 h.2).mono ?_
    rintro e w' ⟨rfl, rfl⟩
    refine ⟨?_, Below.refl _ _⟩
    rw [← hl]
    rfl
  · have e : namedB v = false := decide_eq_false (by omega)
    rw [e]
    have IR : Hid (∀ W : World, Calls Tryd.prog 36 #[.string VQ, .int .i32 v] W fun e w' => e = .returned (.int .i64 (-1)) ∧ Below W.heap.size W w') := by
      intro W
      by_cases h2 : v = 65533
      · subst h2; exact index_err W
      · cases hv : Lib.validRune v
        · exact index_bad v W h h2 hv
        · have := of_decide_eq_true hv
          exact index_high v W (by omega) h2 hv
    clear e h
    go_enter Tryd.func26, Tryd.ntmps26
    go_wp2_with fail
    refine (IR.out _).mono ?_
    rintro e w1 ⟨rfl, hb⟩
    have HB := hid hb
    clear hb
    go_wp2_with fail
    go_ret
    exact ⟨rfl, HB.out⟩
end Go.Proofs.YtaniahkagmjkoaaDoor
