/-
  Walks of layer 10: the document's text of arguments that are too many; the document's examples.
-/
import Derived.Test.YteifnddblnaepaaDoorD4
namespace Go.Proofs.YteifnddblnaepaaDoor
open Go.RowKit Go.Proofs

theorem joinS_snoc (l : List ByteArray) (t : ByteArray) (sep : ByteArray) (hl : l ≠ []) : joinS (l ++ [t]) sep.data.toList = (joinS l sep.data.toList ++ sep) ++ t := by
  refine dbytes_ext ?_
  cases l with
  | nil => exact absurd rfl hl
  | cons x r =>
    simp only [joinS, List.cons_append, List.map_cons, List.map_append, List.map_nil, Lib.join_cons, ByteArray.data_append, Array.toList_append, List.toList_toArray]
    simp [Lib.joinTail]
theorem joinS_one (t : ByteArray) (sep : List UInt8) : joinS [t] sep = t := by
  refine dbytes_ext ?_
  simp [joinS, Lib.join_one]
/-- The document's text as its loop builds it. -/
def refE (L : List ByteArray) : ByteArray := (⟨#[37, 33, 40, 69, 88, 84, 82, 65, 32]⟩ : ByteArray) ++ joinS L [44, 32]
theorem refE_nil : refE [] = ⟨#[37, 33, 40, 69, 88, 84, 82, 65, 32]⟩ := by
  refine dbytes_ext ?_
  simp [refE, joinS, Lib.join_nil]
theorem refE_first (t : ByteArray) : refE [t] = refE [] ++ t := by
  rw [refE_nil]
  unfold refE
  rw [joinS_one]
theorem refE_snoc (l : List ByteArray) (t : ByteArray) (hl : l ≠ []) : refE (l ++ [t]) = (refE l ++ (⟨#[44, 32]⟩ : ByteArray)) ++ t := by
  unfold refE
  rw [show ([44, 32] : List UInt8) = (⟨#[44, 32]⟩ : ByteArray).data.toList from rfl, joinS_snoc l t _ hl]
  refine dbytes_ext ?_
  simp
theorem refE_end (xs ys : List ByteArray) : refE (pairL xs ys) ++ (⟨#[41]⟩ : ByteArray) = insS ⟨#[]⟩ (extraJ xs ys) := by
  refine dbytes_ext ?_
  simp [refE, insS, extraJ]
theorem refE_size {l : List ByteArray} (hl : l.length ≤ 40) (hz : ∀ t ∈ l, t.size ≤ 2001) : (refE l).size ≤ 80129 := by
  have h1 := joins_size hl hz [44, 32] (by decide)
  have h2 : (⟨#[37, 33, 40, 69, 88, 84, 82, 65, 32]⟩ : ByteArray).size = 9 := rfl
  unfold refE
  rw [ByteArray.size_append]
  omega

set_option maxRecDepth 100000 in
set_option maxHeartbeats 2000000 in
theorem refextra_any (xs ys : List ByteArray) (va vb : Value) (w : World) (hA : SL w va xs) (hB : SL w vb ys) (lx : xs.length ≤ 40) (ly : ys.length ≤ 40) (zx : ∀ x ∈ xs, x.size ≤ 1000) (zy : ∀ y ∈ ys, y.size ≤ 1000) :
    Calls Tryd.prog 11 #[va, vb] w fun e w' => e = .returned (.string (insS ⟨#[]⟩ (extraJ xs ys))) ∧ Below w.heap.size w w' := by
  obtain ⟨pa, ca, rfl, hca, hcella⟩ := hA
  obtain ⟨pb, cb, rfl, hcb, hcellb⟩ := hB
  have HA := hid hcella
  have HB := hid hcellb
  have HZ := hid (And.intro zx zy)
  have hpl : (pairL xs ys).length = min xs.length ys.length := by unfold pairL; rw [List.length_zipWith]
  have hps := pairs_size zx zy
  have HS := hid (fun i => refE_size (l := (pairL xs ys).take i) (by rw [List.length_take, hpl]; omega) (fun t ht => hps t (List.mem_of_mem_take ht)))
  obtain ⟨nx, hnx⟩ : ∃ n, xs.length = n := ⟨_, rfl⟩
  obtain ⟨ny, hny⟩ : ∃ n, ys.length = n := ⟨_, rfl⟩
  rw [hnx] at hca lx hpl ⊢
  rw [hny] at hcb ly hpl ⊢
  have HL := hid (And.intro hpl (And.intro hnx hny))
  have HE := hid (refE_end xs ys)
  obtain ⟨R, hR⟩ : ∃ R, insS ⟨#[]⟩ (extraJ xs ys) = R := ⟨_, rfl⟩
  rw [hR] at HE ⊢
  have H0 := hid (And.intro (show refE ((pairL xs ys).take 0) = ⟨#[37, 33, 40, 69, 88, 84, 82, 65, 32]⟩ from refE_nil) (Below.refl w.heap.size w))
  clear hcella hcellb zx zy hps hR hnx hny hpl
  go_enter Tryd.func11, Tryd.ntmps11
  go_wp2_with fail
  go_loopw [5, 6] (fun sv iv wr => ∃ (i : Nat) (S : ByteArray), iv = .int .i64 i ∧ sv = .string S ∧ i ≤ nx ∧ i ≤ ny ∧ Hid (refE ((pairL xs ys).take i) = S ∧ Below w.heap.size w wr)) (fun _ iv _ => nx - (intOf iv).toNat)
  case atStart => exact ⟨0, _, rfl, rfl, Nat.zero_le _, Nat.zero_le _, H0.out⟩
  case round =>
    obtain ⟨i, S, rfl, rfl, hi1, hi2, hI⟩ := hrel
    have hS : S.size ≤ 80129 := by rw [← hI.out.1]; exact HS.out i
    by_cases h1 : i < nx
    · by_cases h2 : i < ny
      · obtain ⟨x, hx⟩ : ∃ x, xs[i]? = some x := ⟨_, List.getElem?_eq_getElem (by rw [HL.out.2.1]; exact h1)⟩
        obtain ⟨y, hy⟩ : ∃ y, ys[i]? = some y := ⟨_, List.getElem?_eq_getElem (by rw [HL.out.2.2]; exact h2)⟩
        obtain ⟨g, rfl, hg, hcc⟩ := HA.out i x hx
        obtain ⟨g', rfl, hg', hcc'⟩ := HB.out i y hy
        have hc1 := (hI.out.2.cell (p := ⟨g, i, none⟩) hg).trans hcc
        have hc2 := (hI.out.2.cell (p := ⟨g', i, none⟩) hg').trans hcc'
        have sx := HZ.out.1 x (List.mem_of_getElem? hx)
        have sy := HZ.out.2 y (List.mem_of_getElem? hy)
        have q1 : ¬ 9223372036854775807 < x.size + 1 := by omega
        have q2 : ¬ 9223372036854775807 < x.size + 1 + y.size := by omega
        have hst := pairL_at hx hy
        by_cases h0 : i = 0
        · subst h0
          have hn : refE ((pairL xs ys).take 1) = S ++ ((x ++ (⟨#[61]⟩ : ByteArray)) ++ y) := by
            have e := hI.out.1
            rw [List.take_zero] at e
            rw [hst, List.take_zero, List.nil_append, refE_first, e]
          have HNX := hid hn
          have q3 : ¬ 9223372036854775807 < S.size + (x.size + 1 + y.size) := by omega
          clear hx hcc hy hcc' hg hg' hn hst
          go_upto_region 7 with fail
          go_region
          all_goals
            clear hc1 hc2 q1 q2 q3
            have N := hid (And.intro HNX.out (hI.out.2.drew))
            go_wp2_with fail
            go_roundw
            case rel => exact ⟨1, _, by go_num, rfl, by omega, by omega, N.out⟩
            case measure => simp [intOf]; omega
        · have h0i : 0 < (i : Int) := by omega
          have hn : refE ((pairL xs ys).take (i + 1)) = (S ++ (⟨#[44, 32]⟩ : ByteArray)) ++ ((x ++ (⟨#[61]⟩ : ByteArray)) ++ y) := by
            rw [hst, refE_snoc, hI.out.1]
            intro e
            have := congrArg List.length e
            rw [List.length_take, HL.out.1, List.length_nil] at this
            omega
          have HNX := hid hn
          have q3 : ¬ 9223372036854775807 < S.size + 2 + (x.size + 1 + y.size) := by omega
          clear hx hcc hy hcc' hg hg' hn hst
          go_upto_region 7 with fail
          go_region
          all_goals
            clear hc1 hc2 q1 q2 q3
            have N := hid (And.intro HNX.out (hI.out.2.drew))
            go_wp2_with fail
            go_roundw
            case rel => exact ⟨i + 1, _, by go_num, rfl, by omega, by omega, N.out⟩
            case measure => simp [intOf]; omega
      · have hl : (pairL xs ys).take i = pairL xs ys := List.take_of_length_le (by rw [HL.out.1]; omega)
        have hE : S ++ (⟨#[41]⟩ : ByteArray) = R := by rw [← HE.out, ← hI.out.1, hl]
        have HE2 := hid hE
        clear hl hE
        go_wp2_with fail
        go_ret
        exact ⟨congrArg (fun t => Ending.returned (Value.string t)) HE2.out, hI.out.2⟩
    · have hl : (pairL xs ys).take i = pairL xs ys := List.take_of_length_le (by rw [HL.out.1]; omega)
      have hE : S ++ (⟨#[41]⟩ : ByteArray) = R := by rw [← HE.out, ← hI.out.1, hl]
      have HE2 := hid hE
      clear hl hE
      go_wp2_with fail
      go_ret
      exact ⟨congrArg (fun t => Ending.returned (Value.string t)) HE2.out, hI.out.2⟩

theorem SL_new (w : World) (cs : Array Value) (T : TypeId) (xs : List ByteArray) (n : Nat) (h : cs = (xs.map Value.string).toArray) (hn : xs.length = n) : SL (w.alloc (.cells cs T)) (.slice (some ⟨w.heap.size, 0, none⟩) n n) xs := by
  subst hn
  refine ⟨_, _, rfl, Nat.le_refl _, fun j x hx => ⟨_, rfl, alloc_lt _ _, ?_⟩⟩
  have := row_strs w cs T xs h j x hx
  rw [Nat.zero_add] at this
  exact this
end Go.Proofs.YteifnddblnaepaaDoor
