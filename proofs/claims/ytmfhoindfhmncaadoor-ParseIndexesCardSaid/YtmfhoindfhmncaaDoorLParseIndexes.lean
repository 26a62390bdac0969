/-
  The law ParseIndexes, walked.
-/
import Derived.Test.YtmfhoindfhmncaaDoorPS
import Derived.Test.YtmfhoindfhmncaaDoorPG
import Derived.Test.YtmfhoindfhmncaaDoorPD
import Derived.Deep.CutBlock
namespace Go.Proofs.YtmfhoindfhmncaaDoor
open Go.RowKit Go.Proofs

/-- A text that is one directive, parsed. -/
theorem parse1 {s : ByteArray} {p : PP.Pc} (hs : s.size ≤ 100000) (hp : PP.parseL s.data.toList = [p]) (W : World) (hT : Tabs W) :
    Calls Tryd.prog 11 #[.string s] W fun e W' => ∃ g c, e = .returned (.slice (some ⟨g, 0, none⟩) 1 c) ∧ 1 ≤ c ∧ c ≤ 9223372036854775807 ∧ Hid (Below W.heap.size W W' ∧ Tabs W' ∧ ∀ (j : Nat) v, (pcV p (txt p.text))[j]? = some v → W'.cell? ⟨g, j, none⟩ = some v) := by
  refine (parse_any s W hs hT).mono ?_
  rintro e W' ⟨v, rfl, ho, hb⟩
  rw [hp, cellsL_one] at ho
  obtain ⟨g, cap, rfl, q1, q2, q3, q4, q5⟩ := own_open ho (Nat.succ_pos _)
  exact ⟨g, cap, rfl, q3, q4, hb, hT.below hb, fun j v hv => q5 j v (by simpa using hv)⟩
theorem brk (n : Int) (D : ByteArray) (hD : ⟨(PP.dgs n.toNat).toArray⟩ = D) : ((⟨#[91]⟩ : ByteArray) ++ D ++ ⟨#[93]⟩).data.toList = 91 :: (PP.dgs n.toNat ++ [93]) := by
  rw [← hD]
  simp only [ByteArray.data_append, Array.toList_append]
  rfl

set_option maxRecDepth 100000 in
set_option maxHeartbeats 4000000 in
theorem parseIndexes_law (x0 x1 x2 : Int) (w : World) (hT : Tabs w) (_h00 : -9223372036854775808 ≤ x0) (_h01 : x0 ≤ 9223372036854775807) (_h10 : -9223372036854775808 ≤ x1) (_h11 : x1 ≤ 9223372036854775807) (_h20 : -9223372036854775808 ≤ x2) (_h21 : x2 ≤ 9223372036854775807) :
    Calls Tryd.prog 7 #[.int .i64 x0, .int .i64 x1, .int .i64 x2] w fun e w' => e = .returned (.bool true) ∧ Below w.heap.size w w' := by
  have LV := hid (fun W hT => lives_any W hT)
  obtain ⟨i, hi⟩ : ∃ i : Int, max 1 (min x0 999999999) = i := ⟨_, rfl⟩
  obtain ⟨j, hj⟩ : ∃ j : Int, max 1 (min x1 999999999) = j := ⟨_, rfl⟩
  obtain ⟨k, hk⟩ : ∃ k : Int, max 1 (min x2 999999999) = k := ⟨_, rfl⟩
  have hib : 1 ≤ i ∧ i ≤ 999999999 := by omega
  have hjb : 1 ≤ j ∧ j ≤ 999999999 := by omega
  have hkb : 1 ≤ k ∧ k ≤ 999999999 := by omega
  obtain ⟨hi1, hi2⟩ := hib
  obtain ⟨hj1, hj2⟩ := hjb
  obtain ⟨hk1, hk2⟩ := hkb
  have DI := hid (fun W => ldigits_any i W (by omega) (by omega))
  have DJ := hid (fun W => ldigits_any j W (by omega) (by omega))
  have DK := hid (fun W => ldigits_any k W (by omega) (by omega))
  have ei : (i.toNat : Int) = i := by omega
  have ej : (j.toNat : Int) = j := by omega
  have ek : (k.toNat : Int) = k := by omega
  have M1 := PP.ix1_pieces i.toNat j.toNat k.toNat (by omega) (by omega) (by omega) (by omega) (by omega) (by omega) _ rfl
  have M2 := PP.ix2_pieces i.toNat (by omega) (by omega) _ rfl
  have M3 := PP.ix3_pieces i.toNat (by omega) (by omega) _ rfl
  have M4 := PP.ix4_pieces i.toNat (by omega) (by omega) _ rfl
  have M5 := PP.ix5_pieces i.toNat j.toNat (by omega) (by omega) (by omega) (by omega) _ rfl
  have M7 := PP.ix7_pieces k.toNat (by omega) (by omega) _ rfl
  rw [ei, ej, ek] at M1
  rw [ek] at M7
  have hl1 := PP.dgs_len i.toNat 10 (by omega) (by omega)
  have hl2 := PP.dgs_len j.toNat 10 (by omega) (by omega)
  have hl3 := PP.dgs_len k.toNat 10 (by omega) (by omega)
  obtain ⟨D1, hD1⟩ : ∃ D1 : ByteArray, ⟨(PP.dgs i.toNat).toArray⟩ = D1 := ⟨_, rfl⟩
  obtain ⟨D2, hD2⟩ : ∃ D2 : ByteArray, ⟨(PP.dgs j.toNat).toArray⟩ = D2 := ⟨_, rfl⟩
  obtain ⟨D3, hD3⟩ : ∃ D3 : ByteArray, ⟨(PP.dgs k.toNat).toArray⟩ = D3 := ⟨_, rfl⟩
  rw [hD1] at DI
  rw [hD2] at DJ
  rw [hD3] at DK
  have hsD1 : D1.size ≤ 10 := by rw [← hD1]; simpa [ByteArray.size] using hl1
  have hsD2 : D2.size ≤ 10 := by rw [← hD2]; simpa [ByteArray.size] using hl2
  have hsD3 : D3.size ≤ 10 := by rw [← hD3]; simpa [ByteArray.size] using hl3
  have B1 := brk i D1 hD1
  have B2 := brk j D2 hD2
  have B3 := brk k D3 hD3
  obtain ⟨a, ha⟩ : ∃ a, (⟨#[91]⟩ : ByteArray) ++ D1 ++ ⟨#[93]⟩ = a := ⟨_, rfl⟩
  obtain ⟨b, hb⟩ : ∃ b, (⟨#[91]⟩ : ByteArray) ++ D2 ++ ⟨#[93]⟩ = b := ⟨_, rfl⟩
  obtain ⟨c, hc⟩ : ∃ c, (⟨#[91]⟩ : ByteArray) ++ D3 ++ ⟨#[93]⟩ = c := ⟨_, rfl⟩
  rw [ha] at B1
  rw [hb] at B2
  rw [hc] at B3
  have hsa : a.size ≤ 12 := by rw [Utf.size_eq, B1]; simp; omega
  have hsb : b.size ≤ 12 := by rw [Utf.size_eq, B2]; simp; omega
  have hsc : c.size ≤ 12 := by rw [Utf.size_eq, B3]; simp; omega
  have E1 : ((((((⟨#[37]⟩ : ByteArray) ++ a) ++ ⟨#[42, 46]⟩) ++ b) ++ ⟨#[42]⟩) ++ c ++ ⟨#[100]⟩).data.toList = 37 :: (91 :: (PP.dgs i.toNat ++ 93 :: 42 :: 46 :: 91 :: (PP.dgs j.toNat ++ 93 :: 42 :: 91 :: (PP.dgs k.toNat ++ [93, 100])))) := by
      simp only [ByteArray.data_append, Array.toList_append, B1, B2, B3, List.append_assoc, List.cons_append, List.nil_append]
  have N1 := M1
  rw [← E1] at N1
  have E2 : ((⟨#[37]⟩ : ByteArray) ++ a ++ ⟨#[53, 100]⟩).data.toList = 37 :: (91 :: (PP.dgs i.toNat ++ [93, 53, 100])) := by
      simp only [ByteArray.data_append, Array.toList_append, B1, List.append_assoc, List.cons_append, List.nil_append]
  have N2 := M2
  rw [← E2] at N2
  have E3 : ((⟨#[37]⟩ : ByteArray) ++ a ++ ⟨#[46, 51, 100]⟩).data.toList = 37 :: (91 :: (PP.dgs i.toNat ++ [93, 46, 51, 100])) := by
      simp only [ByteArray.data_append, Array.toList_append, B1, List.append_assoc, List.cons_append, List.nil_append]
  have N3 := M3
  rw [← E3] at N3
  have E4 : ((⟨#[37, 46]⟩ : ByteArray) ++ a ++ ⟨#[51, 100]⟩).data.toList = 37 :: (46 :: 91 :: (PP.dgs i.toNat ++ [93, 51, 100])) := by
      simp only [ByteArray.data_append, Array.toList_append, B1, List.append_assoc, List.cons_append, List.nil_append]
  have N4 := M4
  rw [← E4] at N4
  have E5 : ((⟨#[37]⟩ : ByteArray) ++ a ++ b ++ ⟨#[100]⟩).data.toList = 37 :: (91 :: (PP.dgs i.toNat ++ 93 :: 91 :: (PP.dgs j.toNat ++ [93, 100]))) := by
      simp only [ByteArray.data_append, Array.toList_append, B1, B2, List.append_assoc, List.cons_append, List.nil_append]
  have N5 := M5
  rw [← E5] at N5
  have E7 : ((⟨#[37, 42, 46]⟩ : ByteArray) ++ c ++ ⟨#[42, 100]⟩).data.toList = 37 :: (42 :: 46 :: 91 :: (PP.dgs k.toNat ++ [93, 42, 100])) := by
      simp only [ByteArray.data_append, Array.toList_append, B3, List.append_assoc, List.cons_append, List.nil_append]
  have N7 := M7
  rw [← E7] at N7
  have sz : ∀ l : List UInt8, (⟨l.toArray⟩ : ByteArray).size = l.length := fun l => by simp [ByteArray.size]
  have s1 : (⟨#[37]⟩ : ByteArray).size = 1 := rfl
  have s2 : (⟨#[42, 46]⟩ : ByteArray).size = 2 := rfl
  have s3 : (⟨#[42]⟩ : ByteArray).size = 1 := rfl
  have s4 : (⟨#[100]⟩ : ByteArray).size = 1 := rfl
  have s5 : (⟨#[53, 100]⟩ : ByteArray).size = 2 := rfl
  have s6 : (⟨#[46, 51, 100]⟩ : ByteArray).size = 3 := rfl
  have s7 : (⟨#[37, 46]⟩ : ByteArray).size = 2 := rfl
  have s8 : (⟨#[51, 100]⟩ : ByteArray).size = 2 := rfl
  have s9 : (⟨#[37, 42, 46]⟩ : ByteArray).size = 3 := rfl
  have s10 : (⟨#[42, 100]⟩ : ByteArray).size = 2 := rfl
  have Q1 := hid (parse1 (by simp only [ByteArray.size_append]; omega) N1)
  have Q2 := hid (parse1 (by simp only [ByteArray.size_append]; omega) N2)
  have Q3 := hid (parse1 (by simp only [ByteArray.size_append]; omega) N3)
  have Q4 := hid (parse1 (by simp only [ByteArray.size_append]; omega) N4)
  have Q5 := hid (parse1 (by simp only [ByteArray.size_append]; omega) N5)
  have Q6 := hid (parse1 (s := ⟨#[37, 91, 48, 93, 100]⟩) (by decide) PP.ix6_pieces)
  have Q7 := hid (parse1 (by simp only [ByteArray.size_append]; omega) N7)
  have HA := hid (And.intro ha (And.intro hb hc))
  have HI := hid (And.intro hi (And.intro hj hk))
  clear s1 s2 s3 s4 s5 s6 s7 s8 s9 s10 sz N1 N2 N3 N4 N5 N7 E1 E2 E3 E4 E5 E7 M1 M2 M3 M4 M5 M7 B1 B2 B3 hD1 hD2 hD3 ha hb hc hi hj hk ei ej ek hl1 hl2 hl3
  go_enter Tryd.func7, Tryd.ntmps7
  go_upto_region 2 with fail
  rw [HI.out.1, HI.out.2.1, HI.out.2.2]
  go_wp2_with fail
  refine (DI.out _).mono ?_
  rintro e w1 ⟨rfl, b1⟩
  go_wp2_with fail
  refine (DJ.out _).mono ?_
  rintro e w2 ⟨rfl, b2⟩
  go_wp2_with fail
  refine (DK.out _).mono ?_
  rintro e w3 ⟨rfl, b3⟩
  have BB := hid ((b1.trans (b2.mono b1.size)).trans (b3.mono (b1.trans (b2.mono b1.size)).size))
  have HT3 := hid (hT.below BB.out)
  clear b1 b2 b3
  go_upto_region 3 with fail
  rw [HA.out.1, HA.out.2.1, HA.out.2.2]
  go_wp2_with fail
  refine (Q1.out _ HT3.out).mono ?_
  rintro e w4 ⟨g1, c1, rfl, r1, r2, r3⟩
  have f10 : w4.cell? ⟨g1, 10, none⟩ = some (.int .i64 2) := r3.out.2.2 10 _ rfl
  have f11 : w4.cell? ⟨g1, 11, none⟩ = some (.int .i64 0) := r3.out.2.2 11 _ rfl
  have f12 : w4.cell? ⟨g1, 12, none⟩ = some (.int .i64 1) := r3.out.2.2 12 _ rfl
  have f13 : w4.cell? ⟨g1, 13, none⟩ = some (.int .i64 i) := r3.out.2.2 13 _ rfl
  have f14 : w4.cell? ⟨g1, 14, none⟩ = some (.int .i64 2) := r3.out.2.2 14 _ rfl
  have f15 : w4.cell? ⟨g1, 15, none⟩ = some (.int .i64 0) := r3.out.2.2 15 _ rfl
  have f16 : w4.cell? ⟨g1, 16, none⟩ = some (.int .i64 1) := r3.out.2.2 16 _ rfl
  have f17 : w4.cell? ⟨g1, 17, none⟩ = some (.int .i64 j) := r3.out.2.2 17 _ rfl
  have f18 : w4.cell? ⟨g1, 18, none⟩ = some (.int .i64 1) := r3.out.2.2 18 _ rfl
  have f19 : w4.cell? ⟨g1, 19, none⟩ = some (.int .i64 k) := r3.out.2.2 19 _ rfl
  have RR : Hid (Below w.heap.size w w4 ∧ Tabs w4) := ⟨BB.out.trans (r3.out.1.mono BB.out.size), r3.out.2.1⟩
  go_upto_region 6 with fail
  clear f10 f11 f12 f13 f14 f15 f16 f17 f18 f19
  go_wp2_with fail
  go_loopw [12, 13, 93] (fun _ _ kv wr => ∃ n : Nat, kv = .int .i64 n ∧ n ≤ 5 ∧ Hid (Below w.heap.size w wr ∧ Tabs wr)) (fun _ _ kv _ => 5 - (intOf kv).toNat)
  case atStart => exact ⟨0, rfl, by omega, RR.out⟩
  case round =>
    obtain ⟨n, rfl, hn, hrel⟩ := hrel
    by_cases hn5 : n < 5
    · rcases (show n = 0 ∨ n = 1 ∨ n = 2 ∨ n = 3 ∨ n = 4 by omega) with rfl | rfl | rfl | rfl | rfl
      · have ix : ∀ W : World, (Instr.index 47 (.agg #[.string ((⟨#[37]⟩ : ByteArray) ++ a ++ ⟨#[53, 100]⟩), .string ((⟨#[37]⟩ : ByteArray) ++ a ++ ⟨#[46, 51, 100]⟩), .string ((⟨#[37, 46]⟩ : ByteArray) ++ a ++ ⟨#[51, 100]⟩), .string ((⟨#[37]⟩ : ByteArray) ++ a ++ b ++ ⟨#[100]⟩), .string (⟨#[37, 91, 48, 93, 100]⟩)]) (.int .i64 0)).run Tryd.prog W = .ok (.string ((⟨#[37]⟩ : ByteArray) ++ a ++ ⟨#[53, 100]⟩)) W := fun _ => by kernel_rfl
        go_wp2_with fail
        refine (Q2.out _ hrel.out.2).mono ?_
        rintro e w5 ⟨g2, c2, rfl, u1, u2, u3⟩
        have v9 : w5.cell? ⟨g2, 9, none⟩ = some (.int .i32 100) := u3.out.2.2 9 _ rfl
        have v18 : w5.cell? ⟨g2, 18, none⟩ = some (.int .i64 2) := u3.out.2.2 18 _ rfl
        have v19 : w5.cell? ⟨g2, 19, none⟩ = some (.int .i64 0) := u3.out.2.2 19 _ rfl
        have R2 : Hid (Below w.heap.size w w5 ∧ Tabs w5) := ⟨hrel.out.1.trans (u3.out.1.mono hrel.out.1.size), u3.out.2.1⟩
        go_wp2_with fail
        go_roundw
        case rel => exact ⟨1, rfl, by omega, R2.out⟩
        case measure => simp [intOf]
      · have ix : ∀ W : World, (Instr.index 47 (.agg #[.string ((⟨#[37]⟩ : ByteArray) ++ a ++ ⟨#[53, 100]⟩), .string ((⟨#[37]⟩ : ByteArray) ++ a ++ ⟨#[46, 51, 100]⟩), .string ((⟨#[37, 46]⟩ : ByteArray) ++ a ++ ⟨#[51, 100]⟩), .string ((⟨#[37]⟩ : ByteArray) ++ a ++ b ++ ⟨#[100]⟩), .string (⟨#[37, 91, 48, 93, 100]⟩)]) (.int .i64 1)).run Tryd.prog W = .ok (.string ((⟨#[37]⟩ : ByteArray) ++ a ++ ⟨#[46, 51, 100]⟩)) W := fun _ => by kernel_rfl
        go_wp2_with fail
        refine (Q3.out _ hrel.out.2).mono ?_
        rintro e w5 ⟨g2, c2, rfl, u1, u2, u3⟩
        have v9 : w5.cell? ⟨g2, 9, none⟩ = some (.int .i32 100) := u3.out.2.2 9 _ rfl
        have v18 : w5.cell? ⟨g2, 18, none⟩ = some (.int .i64 2) := u3.out.2.2 18 _ rfl
        have v19 : w5.cell? ⟨g2, 19, none⟩ = some (.int .i64 0) := u3.out.2.2 19 _ rfl
        have R2 : Hid (Below w.heap.size w w5 ∧ Tabs w5) := ⟨hrel.out.1.trans (u3.out.1.mono hrel.out.1.size), u3.out.2.1⟩
        go_wp2_with fail
        go_roundw
        case rel => exact ⟨2, rfl, by omega, R2.out⟩
        case measure => simp [intOf]
      · have ix : ∀ W : World, (Instr.index 47 (.agg #[.string ((⟨#[37]⟩ : ByteArray) ++ a ++ ⟨#[53, 100]⟩), .string ((⟨#[37]⟩ : ByteArray) ++ a ++ ⟨#[46, 51, 100]⟩), .string ((⟨#[37, 46]⟩ : ByteArray) ++ a ++ ⟨#[51, 100]⟩), .string ((⟨#[37]⟩ : ByteArray) ++ a ++ b ++ ⟨#[100]⟩), .string (⟨#[37, 91, 48, 93, 100]⟩)]) (.int .i64 2)).run Tryd.prog W = .ok (.string ((⟨#[37, 46]⟩ : ByteArray) ++ a ++ ⟨#[51, 100]⟩)) W := fun _ => by kernel_rfl
        go_wp2_with fail
        refine (Q4.out _ hrel.out.2).mono ?_
        rintro e w5 ⟨g2, c2, rfl, u1, u2, u3⟩
        have v9 : w5.cell? ⟨g2, 9, none⟩ = some (.int .i32 100) := u3.out.2.2 9 _ rfl
        have v18 : w5.cell? ⟨g2, 18, none⟩ = some (.int .i64 2) := u3.out.2.2 18 _ rfl
        have v19 : w5.cell? ⟨g2, 19, none⟩ = some (.int .i64 0) := u3.out.2.2 19 _ rfl
        have R2 : Hid (Below w.heap.size w w5 ∧ Tabs w5) := ⟨hrel.out.1.trans (u3.out.1.mono hrel.out.1.size), u3.out.2.1⟩
        go_wp2_with fail
        go_roundw
        case rel => exact ⟨3, rfl, by omega, R2.out⟩
        case measure => simp [intOf]
      · have ix : ∀ W : World, (Instr.index 47 (.agg #[.string ((⟨#[37]⟩ : ByteArray) ++ a ++ ⟨#[53, 100]⟩), .string ((⟨#[37]⟩ : ByteArray) ++ a ++ ⟨#[46, 51, 100]⟩), .string ((⟨#[37, 46]⟩ : ByteArray) ++ a ++ ⟨#[51, 100]⟩), .string ((⟨#[37]⟩ : ByteArray) ++ a ++ b ++ ⟨#[100]⟩), .string (⟨#[37, 91, 48, 93, 100]⟩)]) (.int .i64 3)).run Tryd.prog W = .ok (.string ((⟨#[37]⟩ : ByteArray) ++ a ++ b ++ ⟨#[100]⟩)) W := fun _ => by kernel_rfl
        go_wp2_with fail
        refine (Q5.out _ hrel.out.2).mono ?_
        rintro e w5 ⟨g2, c2, rfl, u1, u2, u3⟩
        have v9 : w5.cell? ⟨g2, 9, none⟩ = some (.int .i32 100) := u3.out.2.2 9 _ rfl
        have v18 : w5.cell? ⟨g2, 18, none⟩ = some (.int .i64 2) := u3.out.2.2 18 _ rfl
        have v19 : w5.cell? ⟨g2, 19, none⟩ = some (.int .i64 0) := u3.out.2.2 19 _ rfl
        have R2 : Hid (Below w.heap.size w w5 ∧ Tabs w5) := ⟨hrel.out.1.trans (u3.out.1.mono hrel.out.1.size), u3.out.2.1⟩
        go_wp2_with fail
        go_roundw
        case rel => exact ⟨4, rfl, by omega, R2.out⟩
        case measure => simp [intOf]
      · have ix : ∀ W : World, (Instr.index 47 (.agg #[.string ((⟨#[37]⟩ : ByteArray) ++ a ++ ⟨#[53, 100]⟩), .string ((⟨#[37]⟩ : ByteArray) ++ a ++ ⟨#[46, 51, 100]⟩), .string ((⟨#[37, 46]⟩ : ByteArray) ++ a ++ ⟨#[51, 100]⟩), .string ((⟨#[37]⟩ : ByteArray) ++ a ++ b ++ ⟨#[100]⟩), .string (⟨#[37, 91, 48, 93, 100]⟩)]) (.int .i64 4)).run Tryd.prog W = .ok (.string (⟨#[37, 91, 48, 93, 100]⟩)) W := fun _ => by kernel_rfl
        go_wp2_with fail
        refine (Q6.out _ hrel.out.2).mono ?_
        rintro e w5 ⟨g2, c2, rfl, u1, u2, u3⟩
        have v9 : w5.cell? ⟨g2, 9, none⟩ = some (.int .i32 100) := u3.out.2.2 9 _ rfl
        have v18 : w5.cell? ⟨g2, 18, none⟩ = some (.int .i64 2) := u3.out.2.2 18 _ rfl
        have v19 : w5.cell? ⟨g2, 19, none⟩ = some (.int .i64 0) := u3.out.2.2 19 _ rfl
        have R2 : Hid (Below w.heap.size w w5 ∧ Tabs w5) := ⟨hrel.out.1.trans (u3.out.1.mono hrel.out.1.size), u3.out.2.1⟩
        go_wp2_with fail
        go_roundw
        case rel => exact ⟨5, rfl, by omega, R2.out⟩
        case measure => simp [intOf]
    · have hn' : n = 5 := by omega
      subst hn'
      go_wp2_with fail
      refine (Q7.out _ hrel.out.2).mono ?_
      rintro e w5 ⟨g2, c2, rfl, u1, u2, u3⟩
      have v12 : w5.cell? ⟨g2, 12, none⟩ = some (.int .i64 0) := u3.out.2.2 12 _ rfl
      have v13 : w5.cell? ⟨g2, 13, none⟩ = some (.int .i64 0) := u3.out.2.2 13 _ rfl
      have v17 : w5.cell? ⟨g2, 17, none⟩ = some (.int .i64 k) := u3.out.2.2 17 _ rfl
      have v18 : w5.cell? ⟨g2, 18, none⟩ = some (.int .i64 0) := u3.out.2.2 18 _ rfl
      have v19 : w5.cell? ⟨g2, 19, none⟩ = some (.int .i64 0) := u3.out.2.2 19 _ rfl
      have R2 : Hid (Below w.heap.size w w5 ∧ Tabs w5) := ⟨hrel.out.1.trans (u3.out.1.mono hrel.out.1.size), u3.out.2.1⟩
      go_wp2_with fail
      refine (LV.out _ R2.out.2).mono ?_
      rintro e w6 ⟨rfl, b6⟩
      go_wp2_with fail
      go_ret
      exact ⟨rfl, R2.out.1.trans (b6.mono R2.out.1.size)⟩
end Go.Proofs.YtmfhoindfhmncaaDoor
