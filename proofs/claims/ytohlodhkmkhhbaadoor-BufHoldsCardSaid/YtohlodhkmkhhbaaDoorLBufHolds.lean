/-
  The law BufHolds, walked.
-/
import Derived.Test.YtohlodhkmkhhbaaDoorBA
namespace Go.Proofs.YtohlodhkmkhhbaaDoor
open Go.RowKit Go.Proofs

theorem few_any (A : Option Addr) (len cap : Nat) (w : World) (hlc : len ≤ cap) (hcap : cap ≤ 9223372036854775807) : Calls Tryd.prog 30 #[.slice A len cap] w fun e w' => e = .returned (.slice A (min len 60) cap) ∧ w = w' := by
  by_cases h : 60 < len
  · have e : min len 60 = 60 := by omega
    rw [e]
    clear e
    go_enter Tryd.func30, Tryd.ntmps30
    go_wp2_with fail
    go_ret
    exact ⟨rfl, rfl⟩
  · have e : min len 60 = len := by omega
    rw [e]
    clear e
    go_enter Tryd.func30, Tryd.ntmps30
    go_wp2_with fail
    go_ret
    exact ⟨rfl, rfl⟩

theorem append_toList (a b : ByteArray) : (a ++ b).data.toList = a.data.toList ++ b.data.toList := by simp
theorem BufAt.kept {w w' : World} {B b : Nat} {all : List UInt8} (h : BufAt w B b all) (hb : Below w.heap.size w w') : BufAt w' B b all := h.same fun k hk _ => hb.block k hk
theorem lenX (t : ByteArray) (B b : Nat) (W : World) (h : BufAt W B b t.data.toList) : Calls Tryd.prog 29 #[.pointer (some ⟨b, 0, none⟩)] W fun e w' => e = .returned (.int .i64 t.size) ∧ W = w' := by
  have := len_any B b _ W h
  rw [← Utf.size_eq] at this
  exact this
theorem overX (t : ByteArray) (B b : Nat) (W : World) (h : BufAt W B b t.data.toList) : Calls Tryd.prog 33 #[.pointer (some ⟨b, 0, none⟩)] W fun e w' => e = .returned (.bool (decide ((4096 : Int) < (t.size : Int)))) ∧ W = w' := by
  have := over_any B b _ W h
  rw [← Utf.size_eq, show decide (4096 < t.size) = decide ((4096 : Int) < (t.size : Int)) from by congr 1; apply propext; omega] at this
  exact this

/-- What is put: one of a list. -/
structure AddL where
  S : ByteArray
  C : Int
  R : Bool
  Z : Bool
  T : Int

set_option maxRecDepth 100000 in
set_option maxHeartbeats 4000000 in
theorem bufHolds_law (A : Option Addr) (len cap : Nat) (z : Nat → AddL) (w : World) (hT : Tabs w) (hlc : len ≤ cap) (hcap : cap ≤ 9223372036854775807)
    (hc : 0 < len → ∃ cb off, A = some ⟨cb, off, none⟩ ∧ cb < w.heap.size ∧ ∀ j, j < len → w.cell? ⟨cb, off + j * 5, none⟩ = some (.string (z j).S) ∧ w.cell? ⟨cb, off + j * 5 + 1, none⟩ = some (.int .i32 (z j).C) ∧
      w.cell? ⟨cb, off + j * 5 + 2, none⟩ = some (.bool (z j).R) ∧ w.cell? ⟨cb, off + j * 5 + 3, none⟩ = some (.bool (z j).Z) ∧ w.cell? ⟨cb, off + j * 5 + 4, none⟩ = some (.int .i64 (z j).T))
    (hz : ∀ j, j < len → (z j).S.size ≤ 9223372036854775807 ∧ -2147483648 ≤ (z j).C ∧ (z j).C ≤ 2147483647 ∧ -9223372036854775808 ≤ (z j).T ∧ (z j).T ≤ 9223372036854775807) :
    Calls Tryd.prog 12 #[.slice A len cap] w fun e w' => e = .returned (.bool true) ∧ Below w.heap.size w w' := by
  have HT := hid hT
  have HC := hid hc
  have HZ := hid hz
  clear hT hc hz
  have hF := few_any A len cap
  obtain ⟨n, hn⟩ : ∃ n, min len 60 = n := ⟨_, rfl⟩
  have hn1 : n ≤ len := by omega
  have hn2 : n ≤ 60 := by omega
  rw [hn] at hF
  have HF := hid hF
  clear hF hn
  obtain ⟨W1, hW1⟩ : ∃ W1, W1 = w.alloc (.cells #[.slice none 0 0, .int .i64 0] 44) := ⟨_, rfl⟩
  have hz1 : W1.heap.size = w.heap.size + 1 := by rw [hW1]; simp
  have hbw1 : Below w.heap.size w W1 := by rw [hW1]; exact (Below.refl w.heap.size w).alloc (Nat.le_refl _) _
  have hb1 : BufAt W1 (w.heap.size + 1) w.heap.size [] := bufAt_new _ (by rw [hW1]; exact Blk.new w _ _)
  have HB1 := hid hb1
  have HW1 := hid hW1
  clear hb1 hW1
  go_enter Tryd.func12, Tryd.ntmps12
  go_wp2_with fail
  rw [← HW1.out]
  refine (HF.out _ hlc hcap).mono ?_
  rintro e w2 ⟨rfl, rfl⟩
  clear HF
  go_wp2_with fail
  go_loopw [4, 6, 7, 11] (fun v _ _ i wr => ∃ (t : ByteArray) (q : Nat), v = .string t ∧ i = .int .i64 q ∧ q ≤ n ∧ t.size ≤ q * 10000 ∧ Hid (BufAt wr (w.heap.size + 1) w.heap.size t.data.toList) ∧ Below w.heap.size w wr ∧ W1.heap.size ≤ wr.heap.size) (fun _ _ _ i _ => 60 - (intOf i).toNat)
  case atStart => exact ⟨⟨#[]⟩, 0, rfl, rfl, Nat.zero_le _, by decide, HB1.out, hbw1, Nat.le_refl _⟩
  case round =>
    obtain ⟨t, q, rfl, rfl, hq, htz, hbt, hbw, hsz⟩ := hrel
    by_cases hin : q < n
    · obtain ⟨cb, off, hA, hcb, hcell⟩ := HC.out (by omega)
      subst hA
      obtain ⟨g0, g1, g2, g3, g4⟩ := hcell q (by omega)
      have hzq := HZ.out q (by omega)
      have f0 : wr.cell? ⟨cb, off + q * 5, none⟩ = some (.string (z q).S) := (hbw.cell (p := ⟨cb, off + q * 5, none⟩) hcb).trans g0
      have f1 : wr.cell? ⟨cb, off + q * 5 + 1, none⟩ = some (.int .i32 (z q).C) := (hbw.cell (p := ⟨cb, off + q * 5 + 1, none⟩) hcb).trans g1
      have f2 : wr.cell? ⟨cb, off + q * 5 + 2, none⟩ = some (.bool (z q).R) := (hbw.cell (p := ⟨cb, off + q * 5 + 2, none⟩) hcb).trans g2
      have f3 : wr.cell? ⟨cb, off + q * 5 + 3, none⟩ = some (.bool (z q).Z) := (hbw.cell (p := ⟨cb, off + q * 5 + 3, none⟩) hcb).trans g3
      have f4 : wr.cell? ⟨cb, off + q * 5 + 4, none⟩ = some (.int .i64 (z q).T) := (hbw.cell (p := ⟨cb, off + q * 5 + 4, none⟩) hcb).trans g4
      generalize z q = x at *
      obtain ⟨S, C, R, Z, T⟩ := x
      dsimp only at *
      clear hcell g0 g1 g2 g3 g4 HC HZ
      cases Z
      · obtain ⟨wo, rfl⟩ : ∃ wo : World, wo = wr := ⟨_, rfl⟩
        obtain ⟨m, hm⟩ : ∃ m : Int, m = max 1 (min T 10) := ⟨_, rfl⟩
        have hmm : max 1 (min T 10) = m := hm.symm
        have hm1 : 1 ≤ m := by omega
        have hm2 : m ≤ 10 := by omega
        clear hm
        have hS := fun W => cutB_any S W hzq.1
        have hSz := cutB_size S
        obtain ⟨c, hcc⟩ : ∃ c, cutB S = c := ⟨_, rfl⟩
        rw [hcc] at hS hSz
        have HS := hid hS
        have hRr := fun W => refrune_any C hzq.2.1 hzq.2.2.1 W
        have hez : (Utf8.encode C).size ≤ 4 := by
          rw [Utf.size_eq]
          exact (Utf.encL_pos C).2
        have hPr := fun B b all W h1 h2 h3 h4 => putrune_any B b all C W h1 h2 h3 h4
        obtain ⟨x, hx⟩ : ∃ x, Utf8.encode C = x := ⟨_, rfl⟩
        rw [hx] at hRr hez
        simp only [hx] at hPr
        have HRr := hid hRr
        have HPr := hid hPr
        clear hS hcc hRr hPr hx hzq
        obtain ⟨W2, hW2⟩ : ∃ W2, W2 = wo.alloc (.cells #[.string S, .int .i32 C, .bool R, .bool false, .int .i64 T] 52) := ⟨_, rfl⟩
        have hbx : Blk W2 wo.heap.size #[.string S, .int .i32 C, .bool R, .bool false, .int .i64 T] 52 := by rw [hW2]; exact Blk.new wo _ _
        have hb2 : Below wo.heap.size wo W2 := by rw [hW2]; exact (Below.refl _ _).alloc (Nat.le_refl _) _
        have HW2 := hid hW2
        have HB2 := hid (hbt.out.kept hb2)
        have hbw2 := hbw.trans (hb2.mono hbw.size)
        have hsz2 : wo.heap.size < W2.heap.size := hbx.lt
        have HX2 := hid hbx
        clear hW2 hbx hb2 hbt
        go_wp2_with fail
        rw [← HW2.out]
        clear HW2 f0 f1 f2 f3 f4
        go_loopw [4, 7] (fun v i wr => ∃ (t2 : ByteArray) (p : Int), v = .string t2 ∧ i = .int .i64 p ∧ 0 ≤ p ∧ p ≤ 10 ∧ (t2.size : Int) ≤ q * 10000 + p * 1000 ∧ Hid (BufAt wr (w.heap.size + 1) w.heap.size t2.data.toList ∧ Blk wr wo.heap.size #[.string S, .int .i32 C, .bool R, .bool false, .int .i64 T] 52) ∧ Below w.heap.size w wr ∧ W2.heap.size ≤ wr.heap.size) (fun _ i _ => 10 - (intOf i).toNat)
        case atStart => exact ⟨t, 0, rfl, rfl, by omega, by omega, by omega, ⟨HB2.out, HX2.out⟩, hbw2, Nat.le_refl _⟩
        case round =>
          obtain ⟨t2, p, rfl, rfl, hp0, hp1, hpz, hbi, hbwi, hszi⟩ := hrel
          have b0 : wr.cell? ⟨wo.heap.size, 0, none⟩ = some (.string S) := hbi.out.2.cell 0
          have b1 : wr.cell? ⟨wo.heap.size, 1, none⟩ = some (.int .i32 C) := hbi.out.2.cell 1
          have b2 : wr.cell? ⟨wo.heap.size, 2, none⟩ = some (.bool R) := hbi.out.2.cell 2
          have b4 : wr.cell? ⟨wo.heap.size, 4, none⟩ = some (.int .i64 T) := hbi.out.2.cell 4
          by_cases hpm : p < m
          · cases R
            · have hsum : (t2 ++ c).size ≤ 700000 := by rw [ByteArray.size_append]; omega
              have hsum2 : ((t2 ++ c).size : Int) ≤ q * 10000 + (p + 1) * 1000 := by rw [ByteArray.size_append]; omega
              have hP := put_any (w.heap.size + 1) w.heap.size t2.data.toList c wr hbi.out.1 (by omega) (by omega) (by rw [← Utf.size_eq]; omega) (by omega)
              rw [← append_toList] at hP
              have HP := hid hP
              clear hP
              go_wp2_with fail
              refine (HS.out _).mono ?_
              rintro e w3 ⟨rfl, rfl⟩
              go_wp2_with fail
              refine HP.out.mono ?_
              rintro e w3 ⟨rfl, hb3, ho3⟩
              have hx3 := ho3.kept _ _ _ (by omega) (by decide) hbi.out.2
              have hbw3 := hbwi.trans (ho3.below (by omega) (Nat.le_refl _))
              have hs3 := ho3.size
              have HB3 := hid hb3
              have HX3 := hid hx3
              have d0 : w3.cell? ⟨wo.heap.size, 0, none⟩ = some (.string S) := hx3.cell 0
              clear hb3 hx3 ho3 b0 b1 b2 b4
              go_wp2_with fail
              refine (HS.out _).mono ?_
              rintro e w4 ⟨rfl, rfl⟩
              clear d0
              go_wp2_with fail
              go_roundw
              case rel => exact ⟨t2 ++ c, p + 1, rfl, rfl, by omega, by omega, hsum2, ⟨HB3.out, HX3.out⟩, hbw3, by omega⟩
              case measure => simp [intOf]; omega
            · have hsum : (t2 ++ x).size ≤ 700000 := by rw [ByteArray.size_append]; omega
              have hsum2 : ((t2 ++ x).size : Int) ≤ q * 10000 + (p + 1) * 1000 := by rw [ByteArray.size_append]; omega
              have hP := HPr.out (w.heap.size + 1) w.heap.size t2.data.toList wr hbi.out.1 (by omega) (by omega) (by rw [← Utf.size_eq]; omega)
              rw [← append_toList] at hP
              have HP := hid hP
              clear hP
              go_wp2_with fail
              refine HP.out.mono ?_
              rintro e w3 ⟨rfl, hb3, ho3⟩
              have hx3 := ho3.kept _ _ _ (by omega) (by decide) hbi.out.2
              have hbw3 := hbwi.trans (ho3.below (by omega) (Nat.le_refl _))
              have hs3 := ho3.size
              have HB3 := hid hb3
              have HX3 := hid hx3
              have d1 : w3.cell? ⟨wo.heap.size, 1, none⟩ = some (.int .i32 C) := hx3.cell 1
              clear hb3 hx3 ho3 b0 b1 b2 b4
              go_wp2_with fail
              refine (HRr.out _).mono ?_
              rintro e w4 ⟨rfl, hb4⟩
              have hbw4 := hbw3.trans (hb4.mono hbw3.size)
              have HB4 := hid (HB3.out.kept hb4)
              have HX4 := hid (HX3.out.same (hb4.block _ (Blk.lt HX3.out)))
              have hs4 := hb4.size
              clear hb4 d1 HB3 HX3
              go_wp2_with fail
              go_roundw
              case rel => exact ⟨t2 ++ x, p + 1, rfl, rfl, by omega, by omega, hsum2, ⟨HB4.out, HX4.out⟩, hbw4, by omega⟩
              case measure => simp [intOf]; omega
          · have hLX := lenX t2 _ _ wr hbi.out.1
            have hOX := overX t2 _ _ wr hbi.out.1
            have hTX := text_any _ _ _ wr hbi.out.1
            have hRX := fun W => reftext_any t2 W (by omega)
            obtain ⟨r, hr⟩ : ∃ r : ByteArray, (⟨(textL t2.data.toList).toArray⟩ : ByteArray) = r := ⟨_, rfl⟩
            rw [hr] at hTX hRX
            have HLX := hid hLX
            have HOX := hid hOX
            have HTX := hid hTX
            have HRX := hid hRX
            clear hLX hOX hTX hRX hr
            go_wp2_with fail
            refine HLX.out.mono ?_
            rintro e w3 ⟨rfl, rfl⟩
            go_wp2_with fail
            refine HOX.out.mono ?_
            rintro e w3 ⟨rfl, rfl⟩
            go_wp2_with fail
            refine HTX.out.mono ?_
            rintro e w3 ⟨rfl, rfl⟩
            go_wp2_with fail
            refine (HRX.out _).mono ?_
            rintro e w3 ⟨rfl, rfl⟩
            clear b0 b1 b2 b4
            go_wp2_with fail
            go_roundw
            case rel => exact ⟨t2, q + 1, rfl, by go_num, by omega, by omega, hbi.out.1, hbwi, by omega⟩
            case measure => simp [intOf]; omega
      · obtain ⟨W2, hW2⟩ : ∃ W2, W2 = wr.alloc (.cells #[.string S, .int .i32 C, .bool R, .bool true, .int .i64 T] 52) := ⟨_, rfl⟩
        have hb2 : Below wr.heap.size wr W2 := by rw [hW2]; exact (Below.refl _ _).alloc (Nat.le_refl _) _
        have hR := reset_any _ _ _ _ (hbt.out.kept hb2) (by omega)
        have hbw2 := hbw.trans (hb2.mono hbw.size)
        have hs2 := hb2.size
        have HW2 := hid hW2
        have HR := hid hR
        clear hW2 hb2 hR hbt hzq
        go_wp2_with fail
        rw [← HW2.out]
        refine HR.out.mono ?_
        rintro e w3 ⟨rfl, hb3, ho3⟩
        have hbw3 := hbw2.trans (ho3.below (by omega) (Nat.le_refl _))
        have hs3 := ho3.size
        have HB3 := hid hb3
        clear hb3 ho3 HW2 HR f0 f1 f2 f3 f4
        go_wp2_with fail
        go_roundw
        case rel => exact ⟨⟨#[]⟩, q + 1, rfl, by go_num, by omega, Nat.zero_le _, HB3.out, hbw3, by omega⟩
        case measure => simp [intOf]; omega
    · have hqn : q = n := by omega
      subst hqn
      have hTX := text_any _ _ _ wr hbt.out
      have hRX := fun W => reftext_any t W (by omega)
      obtain ⟨r, hr⟩ : ∃ r : ByteArray, (⟨(textL t.data.toList).toArray⟩ : ByteArray) = r := ⟨_, rfl⟩
      rw [hr] at hTX hRX
      have HTX := hid hTX
      have HRX := hid hRX
      clear hTX hRX hr
      go_wp2_with fail
      refine HTX.out.mono ?_
      rintro e w3 ⟨rfl, rfl⟩
      go_wp2_with fail
      refine (HRX.out _).mono ?_
      rintro e w3 ⟨rfl, rfl⟩
      go_wp2_with fail
      refine (lives_any _ (HT.out.below hbw)).mono ?_
      rintro e w5 ⟨rfl, hb5⟩
      go_wp2_with fail
      go_ret
      exact ⟨rfl, hbw.trans (hb5.mono hbw.size)⟩
end Go.Proofs.YtohlodhkmkhhbaaDoor
