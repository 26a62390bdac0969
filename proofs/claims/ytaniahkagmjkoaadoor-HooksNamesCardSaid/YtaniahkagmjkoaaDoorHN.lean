/-
  A table of rows of methods, opened; walks of layer 11: Get.
-/
import Derived.Test.YtaniahkagmjkoaaDoorHO
import Derived.Test.YtaniahkagmjkoaaDoorHP
namespace Go.Proofs.YtaniahkagmjkoaaDoor
open Go.ChangeShapes Go.WideShapes Go.ChangeAt Go.RowKit Go.Lib Go.Deep Go.Proofs

/-- A list of rows, as it is handed. -/
def HksAt (W : World) (sl : Sl) (hs : List Hk) : Prop := sl.n = hs.length ∧ (hs ≠ [] → ∃ g o, sl.a = some ⟨g, o, none⟩ ∧ g < W.heap.size ∧
  ∀ (k : Nat) h, hs[k]? = some h → ∀ (j : Nat) v, (hkV h)[j]? = some v → W.cell? ⟨g, o + k * 48 + j, none⟩ = some v)
theorem HksAt.below {W W' : World} {sl : Sl} {hs : List Hk} (h : HksAt W sl hs) (hb : Below W.heap.size W W') : HksAt W' sl hs :=
  ⟨h.1, fun hn => by
    obtain ⟨g, o, h1, h2, h3⟩ := h.2 hn
    exact ⟨g, o, h1, Nat.lt_of_lt_of_le h2 hb.size, fun k d hd j v hv => (hb.cell (p := ⟨g, o + k * 48 + j, none⟩) h2).trans (h3 k d hd j v hv)⟩⟩
theorem HksAt.take {W : World} {A : Option Addr} {n cap : Nat} {hs : List Hk} (h : HksAt W ⟨A, n, cap⟩ hs) (m : Nat) (hm : m ≤ n) (cap' : Nat) : HksAt W ⟨A, m, cap'⟩ (hs.take m) := by
  have h0 : n = hs.length := h.1
  refine ⟨by rw [List.length_take]; show m = _; omega, fun hne => ?_⟩
  obtain ⟨g, o, h1, h2, h3⟩ := h.2 (by intro e; rw [e] at hne; simp at hne)
  refine ⟨g, o, h1, h2, fun k d hd j v hv => h3 k d ?_ j v hv⟩
  rw [List.getElem?_take] at hd
  split at hd
  · exact hd
  · cases hd
abbrev hkZ0 : Hk := ⟨acZ, acZ, acZ, acZ⟩
/-- What is known of a table that was handed. -/
def HksOk (w : World) (sl : Sl) (hs : List Hk) : Prop := HksAt w sl hs ∧ sl.n ≤ sl.cap ∧ sl.cap ≤ 9223372036854775807
set_option maxRecDepth 100000 in
theorem open_hooks {H : Type} {enc : TypeId × Value → H} {w : World} {base : Nat} {spare : Nat → Bool} {held : Bool} {r : Reach} {b0 : Nat} {v : Value} {d : DataW H} {p : List MemPlace}
    (hv : Value.okWide Tryd.prog w r b0 55 v) (h : DataW.Trod enc Tryd.prog w base spare held 55 v d p) : ∃ (s : Sl) (hs : List Hk), v = slV s ∧ HksOk w s hs := by
  obtain ⟨A, len, cap, rfl⟩ := okWide_slice Tryd.underlying55 hv
  obtain ⟨fuel, hf⟩ := h
  rcases open_slice Tryd.underlying55 hf with ⟨hc, _⟩ | ⟨a, len', cap', m, n, D, Pl, hc, _, hl, hm, hmm, _, hi⟩
  · simp [Value.cells] at hc
    obtain ⟨rfl, rfl, rfl⟩ := hc
    exact ⟨⟨none, 0, 0⟩, [], rfl, ⟨rfl, fun h => absurd rfl h⟩, Nat.le_refl _, by decide⟩
  · simp [Value.cells] at hc
    obtain ⟨rfl, rfl, rfl⟩ := hc
    have hlm : len ≤ m := by rw [hmm]; split <;> omega
    unfold maxLen at hm
    have each : ∀ j, j < len → ∃ y : Hk, ∀ (k : Nat) v, (hkV y)[k]? = some v → w.cell? (a.add (j * 48 + k)) = some v := by
      intro j hj
      obtain ⟨cs', hc, ht'⟩ := hi j (by omega)
      rw [hkC] at hc
      obtain ⟨y, hy, _⟩ := open_hk ht'
      obtain ⟨_, hcl, hat⟩ := World.cells?_some hc
      refine ⟨y, fun k v hk => ?_⟩
      have hkl : k < 48 := by
        rcases Nat.lt_or_ge k 48 with q | q
        · exact q
        · rw [Array.getElem?_eq_none (by rw [hkV_size]; exact q)] at hk; cases hk
      have := hat k hkl
      rw [← Go.Deep.add_add, this, hy, Array.getElem?_toList, hk]
    have hch := fun j (hj : j < len) => Classical.choose_spec (each j hj)
    obtain ⟨hs, hhs⟩ : ∃ hs : List Hk, hs = (List.range len).map (fun j => if hj : j < len then Classical.choose (each j hj) else hkZ0) := ⟨_, rfl⟩
    have hlen : hs.length = len := by rw [hhs]; simp
    refine ⟨⟨some a, len, cap⟩, hs, rfl, ⟨hlen.symm, fun hne => ?_⟩, hl, by show cap ≤ _; omega⟩
    have hp : 0 < len := by rw [← hlen]; exact List.length_pos_iff.2 hne
    obtain ⟨b, off, spot⟩ := a
    have h0 := hch 0 hp 0 _ rfl
    have hspot : spot = none := by simpa [Addr.add] using World.cell?_spot h0
    subst hspot
    refine ⟨b, off, rfl, World.block_lt_of_cell? w _ (by rw [Go.WideShapes.add_plain] at h0; exact h0), fun k d hd j v hv => ?_⟩
    have hk : k < len := by
      rcases Nat.lt_or_ge k len with q | q
      · exact q
      · rw [List.getElem?_eq_none (by omega)] at hd; cases hd
    rw [hhs, List.getElem?_map, List.getElem?_range hk, Option.map_some, Option.some.injEq, dif_pos hk] at hd
    have := hch k hk j v (by rw [hd]; exact hv)
    rw [Go.WideShapes.add_plain] at this
    rw [Nat.add_assoc]
    exact this

set_option maxRecDepth 100000 in
set_option maxHeartbeats 1000000 in
theorem get_no (A : Option Addr) (N cap : Nat) (n : Int) (W : World) (_hN : N ≤ 40) (hn0 : -9223372036854775808 ≤ n) (hn1 : n ≤ 9223372036854775807) (h : ¬ (1 ≤ n ∧ n ≤ N ∧ n ≤ 16)) :
    Calls Tryd.prog 24 #[.slice A N cap, .int .i64 n] W fun e w' => e = .returned (.tuple #[.agg (hkV hkZ0), .bool false]) ∧ Below W.heap.size W w' := by
  have B0 := (Below.refl W.heap.size W).alloc (Nat.le_refl _) (.cells hk0 30)
  have A0 := Blk.new W hk0 30
  obtain ⟨R, hR⟩ : ∃ R, W.heap.size = R := ⟨_, rfl⟩
  have H := hid h
  clear h
  by_cases h1 : n < 1
  · have d1 : decide (n < 1) = true := decide_eq_true h1
    go_enter Tryd.func24, Tryd.ntmps24
    go_upto_region 2 with fail
    obtain ⟨W0, hW0⟩ : ∃ W0, W.alloc (.cells hk0 30) = W0 := ⟨_, rfl⟩
    rw [hW0] at B0 A0 ⊢
    rw [hR] at A0
    have BL := hid B0
    have HR := hid hR
    clear hW0 hR B0
    refine wp_region_list ?_
    refine wpList_buildTo rfl 30 _ rfl (some 15) rfl (hkV hkZ0) (by kernel_rfl) ?_
    refine wpList_store_rowTo rfl 30 _ _ rfl rfl R (hkV hkZ0) rfl rfl 30 hk0 A0 hook_size rfl (hkV_one _) ?_
    have hG2 := A0.setRow (hkV hkZ0)
    have b3 := below_setRow BL.out R (by have := HR.out; omega) (hkV hkZ0)
    obtain ⟨W2, hW2⟩ : ∃ W2, W0.setRow R (hkV hkZ0) = W2 := ⟨_, rfl⟩
    rw [hW2] at hG2 b3 ⊢
    have RL := hid hG2
    have BL := hid b3
    clear hG2 b3 hW2 A0
    refine wpList_plain rfl fun K hK => ?_
    have HK := hid hK
    clear hK
    go_wp2_with fail
    refine HK.out _ _ ?_
    clear HK
    refine wpList_nil ?_
    go_wp2_with fail
    have HL := run_loadVar_mid (P := Tryd.prog) W2 R 0 30 (hkV hkZ0).toList _ (fun j v hv => by rw [Nat.zero_add, RL.out.cell]; simpa using hv) Tryd.underlying30 rfl hook_size
    refine bodyPost_ret (v := .tuple #[.agg (hkV hkZ0), .bool false]) ?_ rfl ⟨rfl, BL.out⟩
    simp [results, Tryd.results24, asAddr, HL]
  · have d1 : decide (n < 1) = false := decide_eq_false h1
    have d2 : decide (min (N : Int) 16 < n) = true := decide_eq_true (by have := H.out; omega)
    go_enter Tryd.func24, Tryd.ntmps24
    go_upto_region 2 with fail
    obtain ⟨W0, hW0⟩ : ∃ W0, W.alloc (.cells hk0 30) = W0 := ⟨_, rfl⟩
    rw [hW0] at B0 A0 ⊢
    rw [hR] at A0
    have BL := hid B0
    have HR := hid hR
    clear hW0 hR B0
    refine wp_region_list ?_
    refine wpList_buildTo rfl 30 _ rfl (some 15) rfl (hkV hkZ0) (by kernel_rfl) ?_
    refine wpList_store_rowTo rfl 30 _ _ rfl rfl R (hkV hkZ0) rfl rfl 30 hk0 A0 hook_size rfl (hkV_one _) ?_
    have hG2 := A0.setRow (hkV hkZ0)
    have b3 := below_setRow BL.out R (by have := HR.out; omega) (hkV hkZ0)
    obtain ⟨W2, hW2⟩ : ∃ W2, W0.setRow R (hkV hkZ0) = W2 := ⟨_, rfl⟩
    rw [hW2] at hG2 b3 ⊢
    have RL := hid hG2
    have BL := hid b3
    clear hG2 b3 hW2 A0
    refine wpList_plain rfl fun K hK => ?_
    have HK := hid hK
    clear hK
    go_wp2_with fail
    refine HK.out _ _ ?_
    clear HK
    refine wpList_nil ?_
    go_wp2_with fail
    have HL := run_loadVar_mid (P := Tryd.prog) W2 R 0 30 (hkV hkZ0).toList _ (fun j v hv => by rw [Nat.zero_add, RL.out.cell]; simpa using hv) Tryd.underlying30 rfl hook_size
    refine bodyPost_ret (v := .tuple #[.agg (hkV hkZ0), .bool false]) ?_ rfl ⟨rfl, BL.out⟩
    simp [results, Tryd.results24, asAddr, HL]
set_option maxRecDepth 100000 in
set_option maxHeartbeats 1000000 in
theorem get_yes (A : Option Addr) (N cap : Nat) (hs : List Hk) (i : Nat) (h : Hk) (W : World) (_hN : N ≤ 40) (hA : HksAt W ⟨A, N, cap⟩ hs) (hi : hs[i]? = some h) (h16 : i < 16) :
    Calls Tryd.prog 24 #[.slice A N cap, .int .i64 ((i : Int) + 1)] W fun e w' => e = .returned (.tuple #[.agg (hkV h), .bool true]) ∧ Below W.heap.size W w' := by
  have hne : hs ≠ [] := by intro e; rw [e] at hi; simp at hi
  have hiN : i < N := by
    have h0 : N = hs.length := hA.1
    rcases Nat.lt_or_ge i hs.length with q | q
    · omega
    · rw [List.getElem?_eq_none q] at hi; cases hi
  obtain ⟨g, o, h1, hg, hc⟩ := hA.2 hne
  obtain rfl : A = some ⟨g, o, none⟩ := h1
  have B0 := (Below.refl W.heap.size W).alloc (Nat.le_refl _) (.cells hk0 30)
  have A0 := Blk.new W hk0 30
  have HC := hid (fun (j : Nat) v (hv : (hkV h)[j]? = some v) => (B0.cell (p := ⟨g, o + i * 48 + j, none⟩) hg).trans (hc i h hi j v hv))
  obtain ⟨R, hR⟩ : ∃ R, W.heap.size = R := ⟨_, rfl⟩
  have d1 : decide ((i : Int) + 1 < 1) = false := decide_eq_false (by omega)
  have d2 : decide (min (N : Int) 16 < (i : Int) + 1) = false := decide_eq_false (by omega)
  clear hc hi hne hA hg
  go_enter Tryd.func24, Tryd.ntmps24
  go_upto_region 3 with fail
  obtain ⟨W0, hW0⟩ : ∃ W0, W.alloc (.cells hk0 30) = W0 := ⟨_, rfl⟩
  rw [hW0] at B0 A0 HC ⊢
  rw [hR] at A0
  have BL := hid B0
  have HR := hid hR
  clear hW0 hR B0
  refine wp_region_list ?_
  refine wpList_plain rfl fun K hK => ?_
  have HK := hid hK
  clear hK
  go_wp2_with fail
  refine HK.out _ _ ?_
  clear HK
  refine wpList_plain rfl fun K hK => ?_
  have HK := hid hK
  clear hK
  go_wp2_with fail
  refine HK.out _ _ ?_
  clear HK
  refine wpList_plain rfl fun K hK => ?_
  have HK := hid hK
  clear hK
  go_wp2_with fail
  refine HK.out _ _ ?_
  clear HK
  refine wpList_plain rfl fun K hK => ?_
  have HK := hid hK
  clear hK
  go_wp2_with fail
  refine HK.out _ _ ?_
  clear HK
  refine wpList_load_mid rfl 30 (.tmp 19) rfl g (o + i * 48) rfl (hkV h).toList _ (fun j v hv => HC.out j v (by simpa using hv)) Tryd.underlying30 rfl hook_size ?_
  refine wpList_store_rowTo rfl 30 _ _ rfl rfl R (hkV h) rfl rfl 30 hk0 A0 hook_size rfl (hkV_one _) ?_
  have hG2 := A0.setRow (hkV h)
  have b3 := below_setRow BL.out R (by have := HR.out; omega) (hkV h)
  obtain ⟨W2, hW2⟩ : ∃ W2, W0.setRow R (hkV h) = W2 := ⟨_, rfl⟩
  rw [hW2] at hG2 b3 ⊢
  have RL := hid hG2
  have BL := hid b3
  clear hG2 b3 hW2 A0
  refine wpList_plain rfl fun K hK => ?_
  have HK := hid hK
  clear hK
  go_wp2_with fail
  refine HK.out _ _ ?_
  clear HK
  refine wpList_nil ?_
  go_wp2_with fail
  have HL := run_loadVar_mid (P := Tryd.prog) W2 R 0 30 (hkV h).toList _ (fun j v hv => by rw [Nat.zero_add, RL.out.cell]; simpa using hv) Tryd.underlying30 rfl hook_size
  refine bodyPost_ret (v := .tuple #[.agg (hkV h), .bool true]) ?_ rfl ⟨rfl, BL.out⟩
  simp [results, Tryd.results24, asAddr, HL]
set_option maxRecDepth 100000 in
set_option maxHeartbeats 1000000 in
theorem rget_no (A : Option Addr) (N cap : Nat) (n : Int) (W : World) (_hN : N ≤ 40) (hn0 : -9223372036854775808 ≤ n) (hn1 : n ≤ 9223372036854775807) (h : ¬ (1 ≤ n ∧ n ≤ N ∧ n ≤ 16)) :
    Calls Tryd.prog 25 #[.slice A N cap, .int .i64 n] W fun e w' => e = .returned (.tuple #[.agg (hkV hkZ0), .bool false]) ∧ Below W.heap.size W w' := by
  have B0 := (Below.refl W.heap.size W).alloc (Nat.le_refl _) (.cells hk0 30)
  have A0 := Blk.new W hk0 30
  obtain ⟨R, hR⟩ : ∃ R, W.heap.size = R := ⟨_, rfl⟩
  have H := hid h
  clear h
  by_cases h1 : n < 1
  · have d1 : decide (n < 1) = true := decide_eq_true h1
    go_enter Tryd.func25, Tryd.ntmps25
    go_upto_region 2 with fail
    obtain ⟨W0, hW0⟩ : ∃ W0, W.alloc (.cells hk0 30) = W0 := ⟨_, rfl⟩
    rw [hW0] at B0 A0 ⊢
    rw [hR] at A0
    have BL := hid B0
    have HR := hid hR
    clear hW0 hR B0
    refine wp_region_list ?_
    refine wpList_buildTo rfl 30 _ rfl (some 18) rfl (hkV hkZ0) (by kernel_rfl) ?_
    refine wpList_store_rowTo rfl 30 _ _ rfl rfl R (hkV hkZ0) rfl rfl 30 hk0 A0 hook_size rfl (hkV_one _) ?_
    have hG2 := A0.setRow (hkV hkZ0)
    have b3 := below_setRow BL.out R (by have := HR.out; omega) (hkV hkZ0)
    obtain ⟨W2, hW2⟩ : ∃ W2, W0.setRow R (hkV hkZ0) = W2 := ⟨_, rfl⟩
    rw [hW2] at hG2 b3 ⊢
    have RL := hid hG2
    have BL := hid b3
    clear hG2 b3 hW2 A0
    refine wpList_plain rfl fun K hK => ?_
    have HK := hid hK
    clear hK
    go_wp2_with fail
    refine HK.out _ _ ?_
    clear HK
    refine wpList_nil ?_
    go_wp2_with fail
    have HL := run_loadVar_mid (P := Tryd.prog) W2 R 0 30 (hkV hkZ0).toList _ (fun j v hv => by rw [Nat.zero_add, RL.out.cell]; simpa using hv) Tryd.underlying30 rfl hook_size
    refine bodyPost_ret (v := .tuple #[.agg (hkV hkZ0), .bool false]) ?_ rfl ⟨rfl, BL.out⟩
    simp [results, Tryd.results25, asAddr, HL]
  · have d1 : decide (n < 1) = false := decide_eq_false h1
    by_cases h2 : (N : Int) < n
    · have d2 : decide ((N : Int) < n) = true := decide_eq_true h2
      go_enter Tryd.func25, Tryd.ntmps25
      go_upto_region 2 with fail
      obtain ⟨W0, hW0⟩ : ∃ W0, W.alloc (.cells hk0 30) = W0 := ⟨_, rfl⟩
      rw [hW0] at B0 A0 ⊢
      rw [hR] at A0
      have BL := hid B0
      have HR := hid hR
      clear hW0 hR B0
      refine wp_region_list ?_
      refine wpList_buildTo rfl 30 _ rfl (some 18) rfl (hkV hkZ0) (by kernel_rfl) ?_
      refine wpList_store_rowTo rfl 30 _ _ rfl rfl R (hkV hkZ0) rfl rfl 30 hk0 A0 hook_size rfl (hkV_one _) ?_
      have hG2 := A0.setRow (hkV hkZ0)
      have b3 := below_setRow BL.out R (by have := HR.out; omega) (hkV hkZ0)
      obtain ⟨W2, hW2⟩ : ∃ W2, W0.setRow R (hkV hkZ0) = W2 := ⟨_, rfl⟩
      rw [hW2] at hG2 b3 ⊢
      have RL := hid hG2
      have BL := hid b3
      clear hG2 b3 hW2 A0
      refine wpList_plain rfl fun K hK => ?_
      have HK := hid hK
      clear hK
      go_wp2_with fail
      refine HK.out _ _ ?_
      clear HK
      refine wpList_nil ?_
      go_wp2_with fail
      have HL := run_loadVar_mid (P := Tryd.prog) W2 R 0 30 (hkV hkZ0).toList _ (fun j v hv => by rw [Nat.zero_add, RL.out.cell]; simpa using hv) Tryd.underlying30 rfl hook_size
      refine bodyPost_ret (v := .tuple #[.agg (hkV hkZ0), .bool false]) ?_ rfl ⟨rfl, BL.out⟩
      simp [results, Tryd.results25, asAddr, HL]
    · have d2 : decide ((N : Int) < n) = false := decide_eq_false h2
      have d3 : decide (16 < n) = true := decide_eq_true (by have := H.out; omega)
      go_enter Tryd.func25, Tryd.ntmps25
      go_upto_region 2 with fail
      obtain ⟨W0, hW0⟩ : ∃ W0, W.alloc (.cells hk0 30) = W0 := ⟨_, rfl⟩
      rw [hW0] at B0 A0 ⊢
      rw [hR] at A0
      have BL := hid B0
      have HR := hid hR
      clear hW0 hR B0
      refine wp_region_list ?_
      refine wpList_buildTo rfl 30 _ rfl (some 18) rfl (hkV hkZ0) (by kernel_rfl) ?_
      refine wpList_store_rowTo rfl 30 _ _ rfl rfl R (hkV hkZ0) rfl rfl 30 hk0 A0 hook_size rfl (hkV_one _) ?_
      have hG2 := A0.setRow (hkV hkZ0)
      have b3 := below_setRow BL.out R (by have := HR.out; omega) (hkV hkZ0)
      obtain ⟨W2, hW2⟩ : ∃ W2, W0.setRow R (hkV hkZ0) = W2 := ⟨_, rfl⟩
      rw [hW2] at hG2 b3 ⊢
      have RL := hid hG2
      have BL := hid b3
      clear hG2 b3 hW2 A0
      refine wpList_plain rfl fun K hK => ?_
      have HK := hid hK
      clear hK
      go_wp2_with fail
      refine HK.out _ _ ?_
      clear HK
      refine wpList_nil ?_
      go_wp2_with fail
      have HL := run_loadVar_mid (P := Tryd.prog) W2 R 0 30 (hkV hkZ0).toList _ (fun j v hv => by rw [Nat.zero_add, RL.out.cell]; simpa using hv) Tryd.underlying30 rfl hook_size
      refine bodyPost_ret (v := .tuple #[.agg (hkV hkZ0), .bool false]) ?_ rfl ⟨rfl, BL.out⟩
      simp [results, Tryd.results25, asAddr, HL]
set_option maxRecDepth 100000 in
set_option maxHeartbeats 1000000 in
theorem rget_yes (A : Option Addr) (N cap : Nat) (hs : List Hk) (i : Nat) (h : Hk) (W : World) (_hN : N ≤ 40) (hA : HksAt W ⟨A, N, cap⟩ hs) (hi : hs[i]? = some h) (h16 : i < 16) :
    Calls Tryd.prog 25 #[.slice A N cap, .int .i64 ((i : Int) + 1)] W fun e w' => e = .returned (.tuple #[.agg (hkV h), .bool true]) ∧ Below W.heap.size W w' := by
  have hne : hs ≠ [] := by intro e; rw [e] at hi; simp at hi
  have hiN : i < N := by
    have h0 : N = hs.length := hA.1
    rcases Nat.lt_or_ge i hs.length with q | q
    · omega
    · rw [List.getElem?_eq_none q] at hi; cases hi
  obtain ⟨g, o, h1, hg, hc⟩ := hA.2 hne
  obtain rfl : A = some ⟨g, o, none⟩ := h1
  have B0 := (Below.refl W.heap.size W).alloc (Nat.le_refl _) (.cells hk0 30)
  have A0 := Blk.new W hk0 30
  have HC := hid (fun (j : Nat) v (hv : (hkV h)[j]? = some v) => (B0.cell (p := ⟨g, o + i * 48 + j, none⟩) hg).trans (hc i h hi j v hv))
  obtain ⟨R, hR⟩ : ∃ R, W.heap.size = R := ⟨_, rfl⟩
  have d1 : decide ((i : Int) + 1 < 1) = false := decide_eq_false (by omega)
  have d2 : decide ((N : Int) < (i : Int) + 1) = false := decide_eq_false (by omega)
  have d3 : decide (16 < (i : Int) + 1) = false := decide_eq_false (by omega)
  clear hc hi hne hA hg
  go_enter Tryd.func25, Tryd.ntmps25
  go_upto_region 3 with fail
  obtain ⟨W0, hW0⟩ : ∃ W0, W.alloc (.cells hk0 30) = W0 := ⟨_, rfl⟩
  rw [hW0] at B0 A0 HC ⊢
  rw [hR] at A0
  have BL := hid B0
  have HR := hid hR
  clear hW0 hR B0
  refine wp_region_list ?_
  refine wpList_plain rfl fun K hK => ?_
  have HK := hid hK
  clear hK
  go_wp2_with fail
  refine HK.out _ _ ?_
  clear HK
  refine wpList_plain rfl fun K hK => ?_
  have HK := hid hK
  clear hK
  go_wp2_with fail
  refine HK.out _ _ ?_
  clear HK
  refine wpList_plain rfl fun K hK => ?_
  have HK := hid hK
  clear hK
  go_wp2_with fail
  refine HK.out _ _ ?_
  clear HK
  refine wpList_plain rfl fun K hK => ?_
  have HK := hid hK
  clear hK
  go_wp2_with fail
  refine HK.out _ _ ?_
  clear HK
  refine wpList_load_mid rfl 30 (.tmp 22) rfl g (o + i * 48) rfl (hkV h).toList _ (fun j v hv => HC.out j v (by simpa using hv)) Tryd.underlying30 rfl hook_size ?_
  refine wpList_store_rowTo rfl 30 _ _ rfl rfl R (hkV h) rfl rfl 30 hk0 A0 hook_size rfl (hkV_one _) ?_
  have hG2 := A0.setRow (hkV h)
  have b3 := below_setRow BL.out R (by have := HR.out; omega) (hkV h)
  obtain ⟨W2, hW2⟩ : ∃ W2, W0.setRow R (hkV h) = W2 := ⟨_, rfl⟩
  rw [hW2] at hG2 b3 ⊢
  have RL := hid hG2
  have BL := hid b3
  clear hG2 b3 hW2 A0
  refine wpList_plain rfl fun K hK => ?_
  have HK := hid hK
  clear hK
  go_wp2_with fail
  refine HK.out _ _ ?_
  clear HK
  refine wpList_nil ?_
  go_wp2_with fail
  have HL := run_loadVar_mid (P := Tryd.prog) W2 R 0 30 (hkV h).toList _ (fun j v hv => by rw [Nat.zero_add, RL.out.cell]; simpa using hv) Tryd.underlying30 rfl hook_size
  refine bodyPost_ret (v := .tuple #[.agg (hkV h), .bool true]) ?_ rfl ⟨rfl, BL.out⟩
  simp [results, Tryd.results25, asAddr, HL]
end Go.Proofs.YtaniahkagmjkoaaDoor
