/-
  Walks of layer 9: the document's index.
-/
import Derived.Test.YtmfhoindfhmncaaDoorS1
import Derived.Test.YtmfhoindfhmncaaDoorP4
namespace Go.Proofs.YtmfhoindfhmncaaDoor
open Go.RowKit Go.Proofs

theorem sdrop_at (s : ByteArray) (i : Nat) (h : i < s.size) : ∃ a, s.data.toList.drop i = a :: s.data.toList.drop (i + 1) ∧ (a.toNat : Int) = bt s i := by
  have hl : i < s.data.toList.length := by rw [← Utf.size_eq]; exact h
  exact ⟨s.data.toList[i], List.drop_eq_getElem_cons hl, by unfold bt; rw [List.getElem?_eq_getElem hl]; rfl⟩
theorem dg_le (s : ByteArray) (i : Nat) (h : i ≤ s.size) : i + (PP.dg (s.data.toList.drop i)).length ≤ s.size := by
  have h1 := congrArg List.length (PP.dg_rs (s.data.toList.drop i))
  rw [List.length_append, List.length_drop, ← Utf.size_eq] at h1
  omega
theorem rs_at (s : ByteArray) (i : Nat) : PP.rs (s.data.toList.drop i) = s.data.toList.drop (i + (PP.dg (s.data.toList.drop i)).length) := by
  rw [PP.rs_drop, List.drop_drop]
/-- The index at a place. -/
theorem ixL_no (s : ByteArray) (i : Nat) (h : isAt s i 91 = false) : PP.ixL (s.data.toList.drop i) = (⟨0, 0⟩, s.data.toList.drop i) := by
  have h := of_decide_eq_false h
  by_cases hl : i < s.size
  · obtain ⟨a, e, ha⟩ := sdrop_at s i hl
    rw [e]
    unfold PP.ixL
    simp only []
    rw [if_neg (by omega)]
  · rw [List.drop_eq_nil_of_le (by rw [← Utf.size_eq]; omega)]
    rfl
theorem ixL_bad (s : ByteArray) (i N : Nat) (h : isAt s i 91 = true) (hN : i + 1 + (PP.dg (s.data.toList.drop (i + 1))).length = N) (hb : N = i + 1 ∨ isAt s N 93 = false) : PP.ixL (s.data.toList.drop i) = (⟨2, 0⟩, s.data.toList.drop (i + 1)) := by
  have h := of_decide_eq_true h
  obtain ⟨a, e, ha⟩ := sdrop_at s i h.1
  rw [e]
  unfold PP.ixL
  simp only []
  rw [if_pos (by omega)]
  by_cases hd : PP.dg (s.data.toList.drop (i + 1)) = []
  · rw [if_pos hd]
  · rw [if_neg hd, rs_at, hN]
    have hb : isAt s N 93 = false := by
      rcases hb with q | q
      · exact absurd (List.eq_nil_of_length_eq_zero (by omega)) hd
      · exact q
    have hb := of_decide_eq_false hb
    by_cases hl : N < s.size
    · obtain ⟨b, e2, hbb⟩ := sdrop_at s N hl
      rw [e2]
      simp only []
      rw [if_neg (by omega)]
    · rw [List.drop_eq_nil_of_le (by rw [← Utf.size_eq]; omega)]
theorem ixL_good (s : ByteArray) (i N : Nat) (v : Int) (h : isAt s i 91 = true) (hN : i + 1 + (PP.dg (s.data.toList.drop (i + 1))).length = N) (h1 : ¬ N = i + 1) (h2 : isAt s N 93 = true) (hv : PP.valL 999999999 0 (PP.dg (s.data.toList.drop (i + 1))) = v) :
    PP.ixL (s.data.toList.drop i) = (if 0 < v ∧ N - i - 1 ≤ 9 then ⟨1, v⟩ else ⟨2, 0⟩, s.data.toList.drop (N + 1)) := by
  have h := of_decide_eq_true h
  have h2 := of_decide_eq_true h2
  obtain ⟨a, e, ha⟩ := sdrop_at s i h.1
  rw [e]
  unfold PP.ixL
  simp only []
  rw [if_pos (by omega)]
  have hd : ¬ PP.dg (s.data.toList.drop (i + 1)) = [] := by
    intro q
    rw [q] at hN
    exact h1 hN.symm
  rw [if_neg hd, rs_at, hN]
  obtain ⟨b, e2, hbb⟩ := sdrop_at s N h2.1
  rw [e2]
  simp only []
  rw [if_pos (by omega), hv, show (PP.dg (s.data.toList.drop (i + 1))).length = N - i - 1 by omega]
  split <;> rfl
theorem dg_is (s : ByteArray) (i N : Nat) (hN : i + (PP.dg (s.data.toList.drop i)).length = N) : (s.extract i N).data.toList = PP.dg (s.data.toList.drop i) := by
  rw [Lib.extract_data]
  have h := PP.dg_rs (s.data.toList.drop i)
  conv => lhs; rw [← h]
  rw [show N - i = (PP.dg (s.data.toList.drop i)).length by omega, List.take_left]
theorem dg_bytes (l : List UInt8) (D : ByteArray) (h : D.data.toList = PP.dg l) : ∀ k, k < D.size → 48 ≤ bt D k ∧ bt D k ≤ 57 := by
  intro k hk
  have hl : k < D.data.toList.length := by rw [← Utf.size_eq]; exact hk
  have e : bt D k = ((D.data.toList[k]).toNat : Int) := by unfold bt; rw [List.getElem?_eq_getElem hl]; rfl
  have hm : D.data.toList[k] ∈ PP.dg l := by rw [← h]; exact List.getElem_mem hl
  have key : ∀ (l : List UInt8) (a : UInt8), a ∈ PP.dg l → PP.isD a = true := by
    intro l
    induction l with
    | nil => intro a ha; simp [PP.dg] at ha
    | cons x l ih =>
      intro a ha
      unfold PP.dg at ha ih
      rw [List.takeWhile_cons] at ha
      split at ha
      · rename_i hx
        rcases List.mem_cons.1 ha with rfl | ha
        · exact hx
        · exact ih a ha
      · simp at ha
  have hd := key l _ hm
  unfold PP.isD at hd
  rw [Bool.and_eq_true, decide_eq_true_iff, decide_eq_true_iff] at hd
  omega

set_option maxRecDepth 100000 in
set_option maxHeartbeats 2000000 in
theorem sindex_any (s : ByteArray) (i : Nat) (w : World) (hs : s.size ≤ 140737488355328) (hi : i ≤ s.size) : Calls Tryd.prog 32 #[.string s, .int .i64 i] w fun e w' =>
    ∃ (x : PP.Ix) (j : Nat), e = .returned (.tuple #[ixV x, .int .i64 j, .bool (decide (x.k ≠ 0))]) ∧ PP.ixL (s.data.toList.drop i) = (x, s.data.toList.drop j) ∧ i ≤ j ∧ j ≤ s.size ∧ Below w.heap.size w w' := by
  have IA := hid (fun W => sis_any s i 91 W hs hi)
  cases h : isAt s i 91
  · rw [h] at IA
    have hx := hid (ixL_no s i h)
    clear h
    go_enter Tryd.func32, Tryd.ntmps32
    go_wp2_with fail
    refine (IA.out _).mono ?_
    rintro e w1 ⟨rfl, rfl⟩
    go_wp2_with fail
    refine bodyPost_ret (v := .tuple #[ixV ⟨0, 0⟩, .int .i64 i, .bool false]) (by simp [results, Tryd.results32, go_sem]) rfl ⟨⟨0, 0⟩, i, rfl, hx.out, Nat.le_refl _, hi, ?_⟩
    exact (Below.refl _ _).alloc (Nat.le_refl _) _
  · rw [h] at IA
    have hi1 : i < s.size := (of_decide_eq_true h).1
    obtain ⟨N, hN⟩ : ∃ N, i + 1 + (PP.dg (s.data.toList.drop (i + 1))).length = N := ⟨_, rfl⟩
    have RU := hid (fun W => srun_any s (i + 1) W hs hi1)
    rw [hN] at RU
    have hNs : N ≤ s.size := by rw [← hN]; exact dg_le s (i + 1) hi1
    have IB := hid (fun W => sis_any s N 93 W hs hNs)
    have hiN : i + 1 ≤ N := by omega
    have hcast : ((i + 1 : Nat) : Int) = (i : Int) + 1 := by omega
    rw [hcast] at RU
    by_cases hb : N = i + 1
    · have hx := hid (ixL_bad s i N h hN (Or.inl hb))
      rw [hb, hcast] at RU
      clear hN hb IB hNs hiN h
      go_enter Tryd.func32, Tryd.ntmps32
      go_wp2_with fail
      refine (IA.out _).mono ?_
      rintro e w1 ⟨rfl, rfl⟩
      go_wp2_with fail
      refine (RU.out _).mono ?_
      rintro e w2 ⟨rfl, rfl⟩
      go_wp2_with fail
      refine bodyPost_ret (v := .tuple #[ixV ⟨2, 0⟩, .int .i64 ((i : Int) + 1), .bool true]) (by simp [results, Tryd.results32, go_sem]) rfl ⟨⟨2, 0⟩, i + 1, by rw [hcast]; rfl, hx.out, Nat.le_succ _, hi1, ?_⟩
      exact (Below.refl _ _).alloc (Nat.le_refl _) _
    have hbf : ((N : Int) == (i : Int) + 1) = false := beq_eq_false_iff_ne.2 (by omega)
    cases h2 : isAt s N 93
    · rw [h2] at IB
      have hx := hid (ixL_bad s i N h hN (Or.inr h2))
      clear hN hb hNs hiN h h2
      go_enter Tryd.func32, Tryd.ntmps32
      go_wp2_with fail
      refine (IA.out _).mono ?_
      rintro e w1 ⟨rfl, rfl⟩
      go_wp2_with fail
      refine (RU.out _).mono ?_
      rintro e w2 ⟨rfl, rfl⟩
      go_wp2_with fail
      refine (IB.out _).mono ?_
      rintro e w3 ⟨rfl, rfl⟩
      go_wp2_with fail
      refine bodyPost_ret (v := .tuple #[ixV ⟨2, 0⟩, .int .i64 ((i : Int) + 1), .bool true]) (by simp [results, Tryd.results32, go_sem]) rfl ⟨⟨2, 0⟩, i + 1, by rw [hcast]; rfl, hx.out, Nat.le_succ _, hi1, ?_⟩
      exact (Below.refl _ _).alloc (Nat.le_refl _) _
    · rw [h2] at IB
      have hN1 : N < s.size := (of_decide_eq_true h2).1
      obtain ⟨v, hv⟩ : ∃ v, PP.valL 999999999 0 (PP.dg (s.data.toList.drop (i + 1))) = v := ⟨_, rfl⟩
      have hx := ixL_good s i N v h hN hb h2 hv
      have hDl := dg_is s (i + 1) N hN
      obtain ⟨D, hD⟩ : ∃ D, s.extract (i + 1) N = D := ⟨_, rfl⟩
      rw [hD] at hDl
      have hDs : D.size ≤ 140737488355328 := by rw [← hD, ByteArray.size_extract]; omega
      have VA := hid (fun W => svalue_any D 999999999 W hDs (by decide) (by decide) (dg_bytes _ D hDl))
      rw [hDl, hv] at VA
      have hcast2 : ((N + 1 : Nat) : Int) = (N : Int) + 1 := by omega
      clear hv hDl hDs hN h h2
      by_cases g : 0 < v ∧ N - i - 1 ≤ 9
      · rw [if_pos g] at hx
        have HX := hid hx
        obtain ⟨g1, g2⟩ := g
        have g3 : (N : Int) - i - 1 ≤ 9 := by omega
        clear hx g2 hb
        go_enter Tryd.func32, Tryd.ntmps32
        go_wp2_with fail
        refine (IA.out _).mono ?_
        rintro e w1 ⟨rfl, rfl⟩
        go_wp2_with fail
        refine (RU.out _).mono ?_
        rintro e w2 ⟨rfl, rfl⟩
        go_wp2_with fail
        refine (IB.out _).mono ?_
        rintro e w3 ⟨rfl, rfl⟩
        go_wp2_with fail
        refine (VA.out _).mono ?_
        rintro e w4 ⟨rfl, rfl⟩
        go_wp2_with fail
        refine bodyPost_ret (v := .tuple #[ixV ⟨1, v⟩, .int .i64 ((N : Int) + 1), .bool true]) (by simp [results, Tryd.results32, go_sem]) rfl ⟨⟨1, v⟩, N + 1, by rw [hcast2]; rfl, HX.out, by omega, hN1, ?_⟩
        exact (Below.refl _ _).alloc (Nat.le_refl _) _
      · rw [if_neg g] at hx
        have HX := hid hx
        rcases (show v < 1 ∨ (¬ v < 1 ∧ 9 < (N : Int) - i - 1) by omega) with g1 | ⟨g1, g2⟩
        · clear hx g hb
          go_enter Tryd.func32, Tryd.ntmps32
          go_wp2_with fail
          refine (IA.out _).mono ?_
          rintro e w1 ⟨rfl, rfl⟩
          go_wp2_with fail
          refine (RU.out _).mono ?_
          rintro e w2 ⟨rfl, rfl⟩
          go_wp2_with fail
          refine (IB.out _).mono ?_
          rintro e w3 ⟨rfl, rfl⟩
          go_wp2_with fail
          refine (VA.out _).mono ?_
          rintro e w4 ⟨rfl, rfl⟩
          go_wp2_with fail
          refine bodyPost_ret (v := .tuple #[ixV ⟨2, 0⟩, .int .i64 ((N : Int) + 1), .bool true]) (by simp [results, Tryd.results32, go_sem]) rfl ⟨⟨2, 0⟩, N + 1, by rw [hcast2]; rfl, HX.out, by omega, hN1, ?_⟩
          exact (Below.refl _ _).alloc (Nat.le_refl _) _
        · clear hx g hb
          go_enter Tryd.func32, Tryd.ntmps32
          go_wp2_with fail
          refine (IA.out _).mono ?_
          rintro e w1 ⟨rfl, rfl⟩
          go_wp2_with fail
          refine (RU.out _).mono ?_
          rintro e w2 ⟨rfl, rfl⟩
          go_wp2_with fail
          refine (IB.out _).mono ?_
          rintro e w3 ⟨rfl, rfl⟩
          go_wp2_with fail
          refine (VA.out _).mono ?_
          rintro e w4 ⟨rfl, rfl⟩
          go_wp2_with fail
          refine bodyPost_ret (v := .tuple #[ixV ⟨2, 0⟩, .int .i64 ((N : Int) + 1), .bool true]) (by simp [results, Tryd.results32, go_sem]) rfl ⟨⟨2, 0⟩, N + 1, by rw [hcast2]; rfl, HX.out, by omega, hN1, ?_⟩
          exact (Below.refl _ _).alloc (Nat.le_refl _) _
end Go.Proofs.YtmfhoindfhmncaaDoor
