/-
  Walks of layer 10: lists of texts; the text of arguments that are too many.
-/
import Derived.Test.YteifnddblnaepaaDoorD3
import Derived.Laws.AppendOwn
import Derived.Deep.RegionLaw
import Derived.Great.BuildSlice
import Derived.Deep.CutBlock
namespace Go.Proofs.YteifnddblnaepaaDoor
open Go.RowKit Go.Proofs

theorem info_str : (Tryd.prog.info? 9).map (fun i => (i.zero, i.size, i.bytes)) = some (some (.string ⟨#[]⟩), 1, 16) := by kernel_rfl
theorem info_partsS {e : TypeId} {z : Value} {s b : Nat} (h : (Tryd.prog.info? e).map (fun i => (i.zero, i.size, i.bytes)) = some (some z, s, b)) : ∃ i, Tryd.prog.info? e = some i ∧ i.zero = some z ∧ i.size = s ∧ i.bytes = b := by
  cases hi : Tryd.prog.info? e with
  | none => rw [hi] at h; cases h
  | some i =>
    rw [hi] at h
    simp only [Option.map_some, Option.some.injEq, Prod.mk.injEq] at h
    exact ⟨i, rfl, h.1, h.2.1, h.2.2⟩
theorem sown_grown {w w1 W : World} {B n : Nat} {e : TypeId} {v : Value} {xs : List Value} (hown : w.ownsRow B e 1 v n xs) (hb : Below B w W) (hB : B ≤ W.heap.size) (hg : W.grownBy w1 v.ownBlock) : Below B w w1 := by
  refine Below.grown hb hg hB ?_
  intro k hk
  rcases hown.2 with ⟨rfl, _⟩ | ⟨g', cap, cur, rfl, h2, _⟩
  · cases hk
  · simp only [Value.ownBlock, Option.some.injEq] at hk
    omega
/-- A list of texts, as a slice of the memory. -/
def SL (w : World) (v : Value) (xs : List ByteArray) : Prop :=
  ∃ p c, v = .slice p xs.length c ∧ xs.length ≤ c ∧ (∀ (j : Nat) (x : ByteArray), xs[j]? = some x → ∃ g, p = some ⟨g, 0, none⟩ ∧ g < w.heap.size ∧ w.cell? ⟨g, j, none⟩ = some (.string x))
theorem SL.below {w w' : World} {v : Value} {xs : List ByteArray} (h : SL w v xs) (hb : Below w.heap.size w w') : SL w' v xs := by
  obtain ⟨p, c, h1, h2, h3⟩ := h
  refine ⟨p, c, h1, h2, fun j x hx => ?_⟩
  obtain ⟨g, e1, e2, e3⟩ := h3 j x hx
  exact ⟨g, e1, Nat.lt_of_lt_of_le e2 hb.size, (hb.cell (p := ⟨g, j, none⟩) e2).trans e3⟩
theorem own_SL {w : World} {B n : Nat} {v : Value} {xs : List ByteArray} (h : w.ownsRow B 9 1 v n (xs.map Value.string)) : SL w v xs := by
  have hl : n = xs.length := by have := h.1; simp at this; omega
  rcases h.2 with ⟨h0, h1⟩ | ⟨g, cap, cur, e1, e2, e3, e4, e5⟩
  · have hx : xs = [] := List.eq_nil_of_length_eq_zero (by omega)
    subst hx
    exact ⟨none, 0, h0, Nat.le_refl _, fun j x hx => by simp at hx⟩
  · refine ⟨some ⟨g, 0, none⟩, cap, by rw [e1, hl], by omega, fun j x hx => ⟨g, rfl, ?_, ?_⟩⟩
    · rcases Nat.lt_or_ge g w.heap.size with q | q
      · exact q
      · rw [Array.getElem?_eq_none q] at e3; cases e3
    · have hc := h.cells (g := g) (by rw [e1]; rfl) j (.string x) (by rw [List.getElem?_map, hx]; rfl)
      rw [Addr.add_mid, Nat.zero_add] at hc
      exact hc
theorem one_cell (W : World) (y : ByteArray) : (W.alloc (.cells #[.string y] 9)).cell? ⟨W.heap.size, 0, none⟩ = some (.string y) := by
  rw [(Blk.new W #[.string y] 9).cell]
  rfl
/-- append of one text that was just laid, as one step of a region that draws. -/
theorem step_puts {ops : Array Oper} {o : Oper} {a : Act} {w : World} {K : Act → World → Prop} {Q : Exit → Act → World → Prop} {E : Prop} (hgd : o.guard = none) (s x : Operand)
    (hop : o.op = .call { callee := .builtin .append, args := #[s, x], argTypes := #[22, 22] }) (B : Nat) (v : Value) (n : Nat) (xs : List Value) (hs : a.eval s = v) (hown : w.ownsRow B 9 1 v n xs)
    (g : Nat) (y : ByteArray) (hx : a.eval x = .slice (some ⟨g, 0, none⟩) 1 1) (hc : w.cell? ⟨g, 0, none⟩ = some (.string y)) (hB : B ≤ w.heap.size) (hn : n ≤ 100000)
    (h : ∀ v' w', w'.ownsRow B 9 1 v' (n + 1) (xs ++ [.string y]) → Below B w w' → K (a.put o.dst v') w') :
    if Region.wanted o (yielded ops a.tmps) = true then Oper.wp Tryd.prog o a w K Q else E := by
  have hw : Region.wanted o (yielded ops a.tmps) = true := by simp [Region.wanted, hgd]
  rw [if_pos hw]
  obtain ⟨i0, hi, hz0, hz1, hz2⟩ := info_partsS info_str
  refine wp_append_own (P := Tryd.prog) w s x 22 hop B 9 i0 (.string ⟨#[]⟩) 1 16 Tryd.underlying22 hi hz0 hz1 hz2 rfl (by decide) v n xs hs hown ⟨g, 0, none⟩ 1 1 [.string y] hx rfl ?_ ?_ (by unfold maxLen; omega) (by omega) hB ?_
  · intro j u hu
    rw [Addr.add_mid, Nat.zero_add]
    cases j with
    | zero => simp only [List.getElem?_cons_zero, Option.some.injEq] at hu; rw [← hu]; exact hc
    | succ j => simp at hu
  · intro u hu
    simp only [List.mem_singleton] at hu
    rw [hu]; rfl
  · intro v' w' h2 h3 _
    exact h v' w' h2 (sown_grown hown (Below.refl B w) hB h3)
/-- The same, in a region of one order. -/
theorem wpList_puts {ops : Array Oper} {rest : List Oper} {ob oa : Oper} {a : Act} {w : World} {Q : Exit → Act → World → Prop} (hgb : ob.guard = none) (hga : oa.guard = none) (x y : Operand) (b : Tmp)
    (hob : ob.op = .buildSlice 22 1 #[(0, x)]) (hdb : ob.dst = some b) (hoa : oa.op = .call { callee := .builtin .append, args := #[y, .tmp b], argTypes := #[22, 22] })
    (t : ByteArray) (hx : a.eval x = .string t)
    (B : Nat) (v : Value) (n : Nat) (xs : List Value) (sl : Value) (hsl : sl = .slice (some ⟨w.heap.size, 0, none⟩) 1 1) (hy : (a.put (some b) sl).eval y = v) (hbt : (a.put (some b) sl).eval (.tmp b) = sl) (hown : w.ownsRow B 9 1 v n xs) (hB : B ≤ w.heap.size) (hn : n ≤ 100000)
    (h : ∀ v' w', w'.ownsRow B 9 1 v' (n + 1) (xs ++ [.string t]) → Below B w w' → wpList Tryd.prog ops Q rest ((a.put (some b) sl).put oa.dst v') w') : wpList Tryd.prog ops Q (ob :: oa :: rest) a w := by
  obtain ⟨i0, hi, hz0, hz1, hz2⟩ := info_partsS info_str
  refine wpList_buildSlice hgb 22 9 1 #[(0, x)] hob #[.string t] i0 (.string ⟨#[]⟩) Tryd.underlying22 hi hz0 (by rw [hz1]; decide) (by rw [hz1]; decide) ?_ ?_
  · rw [hz1]
    simp only [List.map_toArray, List.map_cons, List.map_nil, hx]
    kernel_rfl
  · rw [hdb, ← hsl]
    have hown1 : (w.alloc (.cells #[.string t] 9)).ownsRow B 9 1 v n xs := hown.alloc _
    refine wpList_append_own (P := Tryd.prog) (w := w.alloc (.cells #[.string t] 9)) hga y (.tmp b) 22 hoa B 9 i0 (.string ⟨#[]⟩) 1 16 Tryd.underlying22 hi hz0 hz1 hz2 rfl (by decide) v n xs hy hown1 ⟨w.heap.size, 0, none⟩ 1 1 [.string t] (by rw [hbt, hsl]) rfl ?_ ?_ (by unfold maxLen; omega) (by omega) (by simp; omega) ?_
    · intro j u hu
      rw [Addr.add_mid, Nat.zero_add, (Blk.new w #[.string t] 9).cell]
      cases j with
      | zero => simpa using hu
      | succ j => simp at hu
    · intro u hu
      simp only [List.mem_singleton] at hu
      rw [hu]; rfl
    · intro v' w' h2 h3 _
      exact h v' w' h2 (sown_grown hown ((Below.refl B w).alloc hB _) (by simp; omega) h3)

/-- The law's cut: at most 1000 bytes. -/
theorem lcut_any (s : ByteArray) (w : World) : Calls Tryd.prog 13 #[.string s] w fun e w' => e = .returned (.string (s.extract 0 1000)) ∧ w = w' := by
  by_cases h : 1000 < s.size
  · obtain ⟨d, hd⟩ : ∃ d, s.extract 0 1000 = d := ⟨_, rfl⟩
    rw [hd]
    go_enter Tryd.func13, Tryd.ntmps13
    go_wp2_with fail
    go_ret
    exact ⟨rfl, rfl⟩
  · have hd : s.extract 0 1000 = s := dbytes_ext (by rw [Lib.extract_data, List.drop_zero, List.take_of_length_le (by rw [← Utf.size_eq]; omega)])
    rw [hd]
    go_enter Tryd.func13, Tryd.ntmps13
    go_wp2_with fail
    go_ret
    exact ⟨rfl, rfl⟩
theorem lcut_size (s : ByteArray) : (s.extract 0 1000).size ≤ 1000 := by rw [ByteArray.size_extract]; omega

/-- At most 40 texts, each cut. -/
def fewL (xs : List ByteArray) : List ByteArray := (xs.take 40).map fun x => x.extract 0 1000
structure FwI (w : World) (xs : List ByteArray) (wr : World) (v : Value) (i : Nat) : Prop where
  own : wr.ownsRow w.heap.size 9 1 v i (((xs.take i).map fun x => x.extract 0 1000).map Value.string)
  below : Below w.heap.size w wr
theorem FwI.step {w wr W : World} {xs : List ByteArray} {v v' : Value} {i : Nat} {x : ByteArray} (h : FwI w xs wr v i) (hx : xs[i]? = some x)
    (ho : W.ownsRow w.heap.size 9 1 v' (i + 1) ((((xs.take i).map fun x => x.extract 0 1000).map Value.string) ++ [.string (x.extract 0 1000)])) (hb : Below w.heap.size wr W) : FwI w xs W v' (i + 1) := by
  refine ⟨?_, h.below.trans hb⟩
  rw [List.take_add_one, hx]
  simpa using ho
set_option maxRecDepth 100000 in
set_option maxHeartbeats 1000000 in
theorem few_any (xs : List ByteArray) (v : Value) (w : World) (hv : SL w v xs) (hl : xs.length ≤ 140737488355328) :
    Calls Tryd.prog 10 #[v] w fun e w' => ∃ v', e = .returned v' ∧ SL w' v' (fewL xs) ∧ Below w.heap.size w w' := by
  obtain ⟨p, c, rfl, hc, hcell⟩ := hv
  have HC := hid hcell
  obtain ⟨n, hn⟩ : ∃ n, xs.length = n := ⟨_, rfl⟩
  rw [hn] at hc hl ⊢
  have HN := hid hn
  have LC := hid (fun s W => lcut_any s W)
  have H0 := hid (show FwI w xs w (.slice none 0 0) 0 from ⟨World.ownsRow_nil _ _ _ _, Below.refl _ _⟩)
  clear hcell hn
  go_enter Tryd.func10, Tryd.ntmps10
  go_wp2_with fail
  go_loopw [3, 4] (fun ov iv wr => ∃ i : Nat, iv = .int .i64 i ∧ i ≤ n ∧ i ≤ 40 ∧ Hid (FwI w xs wr ov i)) (fun _ iv _ => 40 - (intOf iv).toNat)
  case atStart => exact ⟨0, rfl, Nat.zero_le _, by decide, H0.out⟩
  case round =>
    obtain ⟨i, rfl, hi, hi4, hI⟩ := hrel
    by_cases hlt : i < n
    · by_cases h4 : i < 40
      · obtain ⟨x, hx⟩ : ∃ x, xs[i]? = some x := ⟨_, List.getElem?_eq_getElem (by rw [HN.out]; exact hlt)⟩
        obtain ⟨g, rfl, hg, hcc⟩ := HC.out i x hx
        have hcr := (hI.out.below.cell (p := ⟨g, i, none⟩) hg).trans hcc
        have HX := hid hx
        clear hx hcc
        go_upto_region 5 with fail
        refine wp_region_list ?_
        iterate 6
          refine wpList_plain rfl fun K hK => ?_
          have HK := hid hK
          clear hK
          go_wp2_with ((refine (LC.out _ _).mono ?_); rintro e w' ⟨rfl, rfl⟩)
          refine HK.out _ _ ?_
          clear HK
        refine wpList_puts rfl rfl (.tmp 20) (.tmp 15) 21 rfl rfl rfl _ rfl w.heap.size _ _ _ _ rfl rfl rfl hI.out.own hI.out.below.size (by omega) ?_
        intro v1 w1 ho1 hb1
        have N := hid (hI.out.step HX.out ho1 hb1)
        clear ho1 hb1 hcr
        go_wp2_with fail
        go_roundw
        case rel => exact ⟨i + 1, by go_num, by omega, by omega, N.out⟩
        case measure => simp [intOf]; omega
      · have hi40 : i = 40 := by omega
        have hr : (xs.take i).map (fun x => x.extract 0 1000) = fewL xs := by rw [hi40]; rfl
        have own := hI.out.own
        rw [hr] at own
        have R := hid (own_SL own)
        clear own hr
        go_wp2_with fail
        go_ret
        exact ⟨_, rfl, R.out, hI.out.below⟩
    · have hr : (xs.take i).map (fun x => x.extract 0 1000) = fewL xs := by
        unfold fewL
        rw [List.take_of_length_le (by rw [HN.out]; omega), List.take_of_length_le (by rw [HN.out]; omega)]
      have own := hI.out.own
      rw [hr] at own
      have R := hid (own_SL own)
      clear own hr
      go_wp2_with fail
      go_ret
      exact ⟨_, rfl, R.out, hI.out.below⟩

/-- The pieces 'type=value'. -/
def pairL (xs ys : List ByteArray) : List ByteArray := List.zipWith (fun x y => (x ++ (⟨#[61]⟩ : ByteArray)) ++ y) xs ys
def extraJ (xs ys : List ByteArray) : ByteArray := (⟨#[69, 88, 84, 82, 65, 32]⟩ : ByteArray) ++ joinS (pairL xs ys) [44, 32]
theorem pairL_at {xs ys : List ByteArray} {i : Nat} {x y : ByteArray} (hx : xs[i]? = some x) (hy : ys[i]? = some y) : (pairL xs ys).take (i + 1) = (pairL xs ys).take i ++ [(x ++ (⟨#[61]⟩ : ByteArray)) ++ y] := by
  rw [List.take_add_one]
  congr 1
  unfold pairL
  rw [List.getElem?_zipWith, hx, hy]
  rfl
theorem joinTail_len (sep : List UInt8) (M : Nat) : ∀ r : List (List UInt8), (∀ x ∈ r, x.length ≤ M) → (Lib.joinTail sep r).length ≤ r.length * (sep.length + M)
  | [], _ => by simp [Lib.joinTail]
  | x :: r, h => by
    have ih := joinTail_len sep M r (fun y hy => h y (List.mem_cons_of_mem _ hy))
    have hx := h x (List.mem_cons_self ..)
    have e : Lib.joinTail sep (x :: r) = (sep ++ x) ++ Lib.joinTail sep r := rfl
    rw [e, List.length_append, List.length_append, List.length_cons, Nat.add_mul, Nat.one_mul]
    omega
theorem join_le (sep : List UInt8) (M : Nat) (r : List (List UInt8)) (h : ∀ x ∈ r, x.length ≤ M) : (Lib.join r sep).length ≤ r.length * (sep.length + M) := by
  cases r with
  | nil => simp [Lib.join, List.intercalate]
  | cons x r =>
    rw [Lib.join_cons, List.length_append, List.length_cons, Nat.add_mul, Nat.one_mul]
    have := joinTail_len sep M r (fun y hy => h y (List.mem_cons_of_mem _ hy))
    have hx := h x (List.mem_cons_self ..)
    omega
theorem pairs_size {xs ys : List ByteArray} (zx : ∀ x ∈ xs, x.size ≤ 1000) (zy : ∀ y ∈ ys, y.size ≤ 1000) : ∀ t ∈ pairL xs ys, t.size ≤ 2001 := by
  intro t ht
  unfold pairL at ht
  obtain ⟨i, hi, rfl⟩ := List.getElem_of_mem ht
  rw [List.getElem_zipWith, ByteArray.size_append, ByteArray.size_append]
  rw [List.length_zipWith] at hi
  have h1 := zx _ (List.getElem_mem (l := xs) (n := i) (by omega))
  have h2 := zy _ (List.getElem_mem (l := ys) (n := i) (by omega))
  have h3 : (⟨#[61]⟩ : ByteArray).size = 1 := rfl
  omega
theorem joins_size {l : List ByteArray} (hl : l.length ≤ 40) (hz : ∀ t ∈ l, t.size ≤ 2001) (sep : List UInt8) (hs : sep.length ≤ 2) : (joinS l sep).size ≤ 80120 := by
  rw [Utf.size_eq]
  show (Lib.join (l.map (·.data.toList)) sep).length ≤ _
  have := join_le sep 2001 (l.map (·.data.toList)) (by
    intro x hx
    obtain ⟨t, ht, rfl⟩ := List.mem_map.1 hx
    rw [← Utf.size_eq]
    exact hz t ht)
  rw [List.length_map] at this
  have h2 : l.length * (sep.length + 2001) ≤ 40 * 2003 := Nat.mul_le_mul hl (by omega)
  omega

structure ExI (w : World) (L : List ByteArray) (wr : World) (v : Value) (i : Nat) : Prop where
  own : wr.ownsRow w.heap.size 9 1 v i ((L.take i).map Value.string)
  below : Below w.heap.size w wr
theorem ExI.step {w wr W : World} {xs ys : List ByteArray} {v v' : Value} {i : Nat} {x y : ByteArray} (h : ExI w (pairL xs ys) wr v i) (hx : xs[i]? = some x) (hy : ys[i]? = some y)
    (ho : W.ownsRow w.heap.size 9 1 v' (i + 1) (((pairL xs ys).take i).map Value.string ++ [.string ((x ++ (⟨#[61]⟩ : ByteArray)) ++ y)])) (hb : Below w.heap.size wr W) : ExI w (pairL xs ys) W v' (i + 1) := by
  refine ⟨?_, h.below.trans hb⟩
  rw [pairL_at hx hy, List.map_append]
  exact ho
/-- Join at a list of texts. -/
theorem join_any {w : World} {v : Value} {xs : List ByteArray} (h : SL w v xs) (sep : ByteArray) (hl : xs.length ≤ 1000) (J : ByteArray) (hJ : joinS xs sep.data.toList = J) (hz : J.size ≤ 1000000) :
    Calls Tryd.prog 31 #[v, .string sep] w fun e w' => e = .returned (.string J) ∧ Below w.heap.size w w' := by
  obtain ⟨p, c, rfl, hc, hcell⟩ := h
  cases xs with
  | nil =>
    refine (Tryd.strings_Join_none p c sep w).mono ?_
    rintro e w' ⟨rfl, hw⟩
    rw [hw]
    exact ⟨by rw [← hJ]; rfl, Below.refl _ _⟩
  | cons x r =>
    obtain ⟨g, rfl, hg, _⟩ := hcell 0 x rfl
    have hh : ∀ (j : Nat) y, (x :: r)[j]? = some y → w.cell? ⟨g, 0 + j, none⟩ = some (.string y) := by
      intro j y hy
      obtain ⟨g', e1, _, e3⟩ := hcell j y hy
      simp only [Option.some.injEq, Addr.mk.injEq, and_true] at e1
      rw [Nat.zero_add, e1]
      exact e3
    refine (Tryd.strings_Join g 0 c (x :: r) sep w hh hg (by omega) hc ?_).mono ?_
    · have : (joinS (x :: r) sep.data.toList).size ≤ 1000000 := by rw [hJ]; exact hz
      rw [Utf.size_eq] at this
      refine Nat.le_trans this (by decide)
    · rintro e w' ⟨rfl, hb⟩
      exact ⟨by rw [← hJ]; rfl, hb⟩

set_option maxRecDepth 100000 in
set_option maxHeartbeats 2000000 in
theorem extra_any (xs ys : List ByteArray) (va vb : Value) (w : World) (hA : SL w va xs) (hB : SL w vb ys) (lx : xs.length ≤ 40) (ly : ys.length ≤ 40) (zx : ∀ x ∈ xs, x.size ≤ 1000) (zy : ∀ y ∈ ys, y.size ≤ 1000) :
    Calls Tryd.prog 9 #[va, vb] w fun e w' => e = .returned (.string (insS ⟨#[]⟩ (extraJ xs ys))) ∧ Below w.heap.size w w' := by
  obtain ⟨pa, ca, rfl, hca, hcella⟩ := hA
  obtain ⟨pb, cb, rfl, hcb, hcellb⟩ := hB
  have HA := hid hcella
  have HB := hid hcellb
  have HZ := hid (And.intro zx zy)
  have hpl : (pairL xs ys).length = min xs.length ys.length := by unfold pairL; rw [List.length_zipWith]
  have hps := pairs_size zx zy
  have hjs := joins_size (by rw [hpl]; omega) hps [44, 32] (by decide)
  obtain ⟨J, hJ⟩ : ∃ J, joinS (pairL xs ys) [44, 32] = J := ⟨_, rfl⟩
  rw [hJ] at hjs
  have hez : (⟨#[69, 88, 84, 82, 65, 32]⟩ : ByteArray).size = 6 := rfl
  have hEX : joinS [⟨#[69, 88, 84, 82, 65, 32]⟩, J] [] = (⟨#[69, 88, 84, 82, 65, 32]⟩ : ByteArray) ++ J := by
    refine dbytes_ext ?_
    simp [joinS, Lib.join, List.intercalate]
  have HI := hid (fun (W : World) (g : Nat) (h1 : _) (h2 : _) => inside_any ⟨#[]⟩ g 0 2 [⟨#[69, 88, 84, 82, 65, 32]⟩, J] ((⟨#[69, 88, 84, 82, 65, 32]⟩ : ByteArray) ++ J) W h1 h2 (by simp) (by simp) hEX (by decide) (by rw [ByteArray.size_append]; omega))
  obtain ⟨R, hR⟩ : ∃ R, insS ⟨#[]⟩ (extraJ xs ys) = R := ⟨_, rfl⟩
  have hR2 : insS ⟨#[]⟩ ((⟨#[69, 88, 84, 82, 65, 32]⟩ : ByteArray) ++ J) = R := by rw [← hR, ← hJ]; rfl
  rw [hR]
  rw [hR2] at HI
  obtain ⟨nx, hnx⟩ : ∃ n, xs.length = n := ⟨_, rfl⟩
  obtain ⟨ny, hny⟩ : ∃ n, ys.length = n := ⟨_, rfl⟩
  obtain ⟨N, hN⟩ : ∃ N, min nx ny = N := ⟨_, rfl⟩
  rw [hnx] at hca lx hpl ⊢
  rw [hny] at hcb ly hpl ⊢
  rw [hN] at hpl
  have hmin : min (nx : Int) ny = N := by omega
  have HL := hid (And.intro hpl (And.intro hnx hny))
  have HJ := hid hJ
  have N1 := hid (show N ≤ nx ∧ N ≤ ny by omega)
  have H0 := hid (show ExI w (pairL xs ys) w (.slice none 0 0) 0 from ⟨World.ownsRow_nil _ _ _ _, Below.refl _ _⟩)
  clear hcella hcellb zx zy hps hez hEX hR hR2 hnx hny hpl hJ hN
  go_enter Tryd.func9, Tryd.ntmps9
  go_wp2_with fail
  go_loopw [5, 12] (fun ov iv wr => ∃ i : Nat, iv = .int .i64 i ∧ i ≤ N ∧ Hid (ExI w (pairL xs ys) wr ov i)) (fun _ iv _ => N - (intOf iv).toNat)
  case atStart => exact ⟨0, rfl, Nat.zero_le _, H0.out⟩
  case round =>
    obtain ⟨i, rfl, hi, hI⟩ := hrel
    by_cases hlt : i < N
    · obtain ⟨n1, n2⟩ := N1.out
      have i1 : i < nx := by omega
      have i2 : i < ny := by omega
      obtain ⟨x, hx⟩ : ∃ x, xs[i]? = some x := ⟨_, List.getElem?_eq_getElem (by rw [HL.out.2.1]; exact i1)⟩
      obtain ⟨y, hy⟩ : ∃ y, ys[i]? = some y := ⟨_, List.getElem?_eq_getElem (by rw [HL.out.2.2]; exact i2)⟩
      obtain ⟨g, rfl, hg, hcc⟩ := HA.out i x hx
      obtain ⟨g', rfl, hg', hcc'⟩ := HB.out i y hy
      have hc1 := (hI.out.below.cell (p := ⟨g, i, none⟩) hg).trans hcc
      have hc2 := (hI.out.below.cell (p := ⟨g', i, none⟩) hg').trans hcc'
      have sx := HZ.out.1 x (List.mem_of_getElem? hx)
      have sy := HZ.out.2 y (List.mem_of_getElem? hy)
      have HX := hid (And.intro hx hy)
      clear hx hcc hy hcc' hg hg' n1 n2
      have q1 : ¬ 9223372036854775807 < x.size + 1 := by omega
      have q2 : ¬ 9223372036854775807 < x.size + 1 + y.size := by omega
      have OW := hid hI.out.own
      have WZ := hid hI.out.below.size
      go_upto_region 5 with fail
      go_region_law ((refine step_puts rfl (.tmp 15) (.tmp 26) rfl w.heap.size _ _ _ rfl (World.ownsRow.alloc (World.ownsRow.drew OW.out) _) _ _ rfl (one_cell _ _) (by have := WZ.out; simp; omega) (by omega) ?_; intro v3 w3 ho3 hk3))
      all_goals
        have N := hid (hI.out.step HX.out.1 HX.out.2 ho3 (((Below.refl _ _).drew.alloc WZ.out _).trans hk3))
        clear ho3 hk3 hc1 hc2
        go_wp2_with fail
        go_roundw
        case rel => exact ⟨i + 1, by go_num, by omega, N.out⟩
        case measure => simp [intOf]; omega
    · have hiN : i = N := by omega
      have own := hI.out.own
      rw [List.take_of_length_le (by rw [HL.out.1]; omega)] at own
      have JN := hid (join_any (own_SL own) ⟨#[44, 32]⟩ (by rw [HL.out.1]; omega) J HJ.out (by omega))
      clear own
      go_wp2_with fail
      refine JN.out.mono ?_
      rintro e w1 ⟨rfl, b1⟩
      have B1 := hid (hI.out.below.trans (b1.mono hI.out.below.size))
      clear b1
      go_wp2_with fail
      refine (HI.out _ _ (row_strs _ _ _ [⟨#[69, 88, 84, 82, 65, 32]⟩, J] rfl) (alloc_lt _ _)).mono ?_
      rintro e w2 ⟨rfl, b2⟩
      have B2 := hid ((B1.out.alloc B1.out.size _).trans (b2.mono (Nat.le_trans B1.out.size (Nat.le_of_lt (alloc_lt _ _)))))
      clear b2
      go_wp2_with fail
      go_ret
      exact ⟨rfl, B2.out⟩
end Go.Proofs.YteifnddblnaepaaDoor
