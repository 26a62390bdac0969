/-
  Texts of this claim, joined: VN, VB, VA.
-/
import Derived.Deep.MidRow
import Derived.Shelf.SlSortCmp.InsertionK
import Derived.BigQuiet
import Derived.Test.YtdjhmanccoekjaaGreatDoorN9
import Derived.Test.YtdjhmanccoekjaaGreatDoorN7
import Derived.Test.YtdjhmanccoekjaaGreatDoorN6

section
namespace Go.Proofs.YtdjhmanccoekjaaGreatDoor
open Go.RowKit Go.Proofs

theorem writer_size : (Tryz.prog.info? 142).map (·.size) = some 9 := by kernel_rfl
theorem map_size : (Tryz.prog.info? 198).map (·.size) = some 4 := by kernel_rfl
set_option maxRecDepth 100000 in
set_option maxHeartbeats 2000000 in
theorem entries_any (pl mi sh sp ze : Bool) (wid prec verb : Int) (A : Value) (k : Int) (ty : ByteArray) (hk : Int) (sl : Value) (dp : Int) (w : World) :
    Calls Tryz.prog 149 #[.agg (wrC pl mi sh sp ze wid prec verb A), .agg #[.int .i64 k, .string ty, .int .i64 hk, sl], .int .i64 dp] w fun e w' =>
      e = .returned (.func (.func 174) #[] #[.pointer (some ⟨w.heap.size + 1, 0, none⟩), .pointer (some ⟨w.heap.size, 0, none⟩), .pointer (some ⟨w.heap.size + 1 + 1, 0, none⟩)]) ∧
      w' = ((w.alloc (.cells (wrC pl mi sh sp ze wid prec verb A) 142)).alloc (.cells #[.int .i64 k, .string ty, .int .i64 hk, sl] 198)).alloc (.cells #[.int .i64 dp] 3) := by
  go_enter Tryz.func149, Tryz.ntmps149
  go_wp2_with fail
  go_ret
  exact ⟨rfl, rfl⟩
theorem Shows.mono {wn W : World} {pl mi sh sp ze : Bool} {wid prec verb : Int} {A : Value} {dp : Int} {u : Value} {t : ByteArray} (h : Shows wn pl mi sh sp ze wid prec verb A dp u t) (hb : Below wn.heap.size wn W) : Shows W pl mi sh sp ze wid prec verb A dp u t :=
  fun W2 hW2 => h W2 (hb.trans (hW2.mono hb.size))
/-- What a map's items are. -/
def ItemsM (w : World) (pl mi sh sp ze : Bool) (wid prec verb : Int) (A : Value) (dp : Int) (us : List Value) (ts : List Tx6) : Prop :=
  ∀ (i : Nat) t, ts[i]? = some t → ∃ u1 u2 a b, us[i * 2]? = some u1 ∧ us[i * 2 + 1]? = some u2 ∧ (∃ T y, u1 = .iface T y) ∧ (∃ T y, u2 = .iface T y) ∧ t.1 = (a ++ (⟨#[58]⟩ : ByteArray)) ++ b ∧ a.size ≤ 1000000 ∧ b.size ≤ 1000000 ∧ Shows w pl mi sh sp ze wid prec verb A dp u1 a ∧ Shows w pl mi sh sp ze wid prec verb A dp u2 b
theorem ItemsM.mono {w W : World} {pl mi sh sp ze : Bool} {wid prec verb : Int} {A : Value} {dp : Int} {us : List Value} {ts : List Tx6} (h : ItemsM w pl mi sh sp ze wid prec verb A dp us ts) (hb : Below w.heap.size w W) : ItemsM W pl mi sh sp ze wid prec verb A dp us ts := fun i t ht => by
  obtain ⟨u1, u2, a, b, h1, h2, h3, h4, h5, h6, h7, h8, h9⟩ := h i t ht
  exact ⟨u1, u2, a, b, h1, h2, h3, h4, h5, h6, h7, h8.mono hb, h9.mono hb⟩
def mapS (ts : List Tx6) : ByteArray := ⟨((⟨#[109, 97, 112, 91]⟩ : ByteArray).data.toList ++ joinT ts ++ (⟨#[93]⟩ : ByteArray).data.toList).toArray⟩
set_option maxRecDepth 100000 in
set_option maxHeartbeats 4000000 in
theorem kind_map (pl mi sp ze : Bool) (wid prec verb : Int) (A : Value) (dp : Int) (k : Int) (ty : ByteArray) (hk : Int) (eA : Option Addr) (ec : Nat) (us : List Value) (ts : List Tx6) (w : World) (hdp : 0 ≤ dp) (hdp1 : dp ≤ 1000) (hN : ts.length ≤ 100)
    (hE : ts ≠ [] → ∃ g, eA = some ⟨g, 0, none⟩ ∧ g < w.heap.size ∧ ∀ (j : Nat) v, us[j]? = some v → w.cell? ⟨g, j, none⟩ = some v) (TS : ItemsM w pl mi false sp ze wid prec verb A (dp + 1) us ts) :
    Calls Tryz.prog 113 #[.agg (wrC pl mi false sp ze wid prec verb A), .iface 198 (.agg #[.int .i64 k, .string ty, .int .i64 hk, .slice eA ts.length ec]), .int .i64 dp] w fun e w' => e = .returned (.tuple #[.string (mapS ts), .bool true]) ∧ Below w.heap.size w w' := by
  have ta0 := ta_Map_Bool
  have ta1 := ta_Map_Int
  have ta2 := ta_Map_Uint
  have ta3 := ta_Map_Float
  have ta4 := ta_Map_Complex
  have ta5 := ta_Map_Text
  have ta6 := ta_Map_Bytes
  have ta7 := ta_Map_Struct
  have ta8 := ta_Map_List
  have ta9 := ta_Map_Map
  have hA := (Blk.new w (wrC pl mi false sp ze wid prec verb A) 142).alloc (.cells #[.int .i64 k, .string ty, .int .i64 hk, .slice eA ts.length ec] 198)
  have hC := Blk.new (w.alloc (.cells (wrC pl mi false sp ze wid prec verb A) 142)) #[.int .i64 k, .string ty, .int .i64 hk, .slice eA ts.length ec] 198
  rw [World.size_alloc] at hC
  have lp : Below w.heap.size w ((w.alloc (.cells (wrC pl mi false sp ze wid prec verb A) 142)).alloc (.cells #[.int .i64 k, .string ty, .int .i64 hk, .slice eA ts.length ec] 198)) := below_n (below_n (Below.refl _ _) _ _) _ _
  have HA := hid hA
  have HC := hid hC
  have LP := hid lp
  have HE := hid hE
  have TS := hid TS
  have HDP := hid (And.intro hdp (And.intro hdp1 hN))
  obtain ⟨r, hr⟩ : ∃ r, mapS ts = r := ⟨_, rfl⟩
  rw [hr]
  have HRR := hid hr
  clear hA hC lp hE hdp hdp1 hN hr
  go_enter Tryz.func113, Tryz.ntmps113
  go_upto_region 35 with fail
  obtain ⟨W1, hW1⟩ : ∃ W1, ((w.alloc (.cells (wrC pl mi false sp ze wid prec verb A) 142)).alloc (.cells #[.int .i64 k, .string ty, .int .i64 hk, .slice eA ts.length ec] 198)) = W1 := ⟨_, rfl⟩
  obtain ⟨B, hB⟩ : ∃ B, w.heap.size = B := ⟨_, rfl⟩
  rw [hW1, hB] at HA HC
  rw [hW1] at LP ⊢
  have HB := hid hB
  rw [hB]
  clear hW1 hB
  refine wp_region_held_drew (S := fun w1 => Below W1.heap.size W1 w1) (by kernel_rfl) ((Below.refl _ _).drew) (fun h0 => ?_)
  generalize World.drew W1 = W2 at h0 ⊢
  refine wpAnyH_take (i := 0) (fuel := 8) (v := (.agg (wrC pl mi false sp ze wid prec verb A))) rfl (by kernel_rfl) (by kernel_rfl) (by kernel_rfl) (fun _ _ _ h => h) (yieldsIf_load_mid (by rfl) 142 (.tmp 3) rfl B 0 rfl (wrC pl mi false sp ze wid prec verb A).toList _ (fun w1 h1 => fun j v hv => by rw [Nat.zero_add, cell_same (h1.block B HA.out.lt), HA.out.cell]; simpa using hv) Tryz.underlying142 rfl writer_size) h0 ?_
  try simp only [Act.put, List.getElem_toArray, List.getElem_cons_zero, List.setIfInBounds_toArray, List.set_cons_zero, List.set_cons_succ]
  refine wpAnyH_take (i := 1) (fuel := 7) (v := (.iface 198 (.agg #[.int .i64 k, .string ty, .int .i64 hk, .slice eA ts.length ec]))) rfl (by kernel_rfl) (by kernel_rfl) (by kernel_rfl) (fun _ _ _ h => h) (Or.inl ⟨by rfl, by intro w1 hw1; go_simp⟩) h0 ?_
  try simp only [Act.put, List.getElem_toArray, List.getElem_cons_zero, List.getElem_cons_succ, List.setIfInBounds_toArray, List.set_cons_zero, List.set_cons_succ]
  refine wpAnyH_take (i := 2) (fuel := 6) (v := (.agg (wrC pl mi false sp ze wid prec verb A))) rfl (by kernel_rfl) (by kernel_rfl) (by kernel_rfl) (fun _ _ _ h => h) (yieldsIf_load_mid (by rfl) 142 (.tmp 3) rfl B 0 rfl (wrC pl mi false sp ze wid prec verb A).toList _ (fun w1 h1 => fun j v hv => by rw [Nat.zero_add, cell_same (h1.block B HA.out.lt), HA.out.cell]; simpa using hv) Tryz.underlying142 rfl writer_size) h0 ?_
  try simp only [Act.put, List.getElem_toArray, List.getElem_cons_zero, List.getElem_cons_succ, List.setIfInBounds_toArray, List.set_cons_zero, List.set_cons_succ]
  refine wpAnyH_take (i := 3) (fuel := 5) (v := (.agg #[.int .i64 k, .string ty, .int .i64 hk, .slice eA ts.length ec])) rfl (by kernel_rfl) (by kernel_rfl) (by kernel_rfl) (fun _ _ _ h => h) (yieldsIf_load_mid (by rfl) 198 (.tmp 17) rfl (B + 1) 0 rfl (#[.int .i64 k, .string ty, .int .i64 hk, .slice eA ts.length ec] : Array Value).toList _ (fun w1 h1 => fun j v hv => by rw [Nat.zero_add, cell_same (h1.block (B + 1) HC.out.lt), HC.out.cell]; simpa using hv) Tryz.underlying198 rfl map_size) h0 ?_
  try simp only [Act.put, List.getElem_toArray, List.getElem_cons_zero, List.getElem_cons_succ, List.setIfInBounds_toArray, List.set_cons_zero, List.set_cons_succ]
  refine wpAnyH_take (i := 4) (fuel := 4) (v := (.int .i64 dp)) rfl (by kernel_rfl) (by kernel_rfl) (by kernel_rfl) (fun _ _ _ h => h) (Or.inl ⟨by rfl, by intro w1 hw1; go_simp⟩) h0 ?_
  try simp only [Act.put, List.getElem_toArray, List.getElem_cons_zero, List.getElem_cons_succ, List.setIfInBounds_toArray, List.set_cons_zero, List.set_cons_succ]
  refine wpAnyH_ready (fuel := 3) (rs := [5]) (by kernel_rfl) (by simp) ?_
  refine AllReadyH.cons rfl (fun K hK => ?_) AllReadyH.nil
  rw [if_pos (by rfl)]
  go_wp2_with fail
  refine (entries_any pl mi false sp ze wid prec verb A k ty hk (.slice eA ts.length ec) dp W2).mono ?_
  rintro e W3 ⟨rfl, hw3⟩
  have b23 : Below W2.heap.size W2 W3 := by rw [hw3]; exact (((Below.refl _ _).alloc (Nat.le_refl _) _).alloc (by simp) _).alloc (by simp; omega) _
  have h3 := h0.trans (b23.mono h0.size)
  have x1 : Blk W3 W2.heap.size (wrC pl mi false sp ze wid prec verb A) 142 := by rw [hw3]; exact ((Blk.new _ _ _).alloc _).alloc _
  have x2 : Blk W3 (W2.heap.size + 1) #[.int .i64 k, .string ty, .int .i64 hk, .slice eA ts.length ec] 198 := by
    rw [hw3]
    have := Blk.new (W2.alloc (.cells (wrC pl mi false sp ze wid prec verb A) 142)) #[.int .i64 k, .string ty, .int .i64 hk, .slice eA ts.length ec] 198
    rw [World.size_alloc] at this
    exact this.alloc _
  have x3 : Blk W3 (W2.heap.size + 1 + 1) #[.int .i64 dp] 3 := by
    rw [hw3]
    have := Blk.new ((W2.alloc (.cells (wrC pl mi false sp ze wid prec verb A) 142)).alloc (.cells #[.int .i64 k, .string ty, .int .i64 hk, .slice eA ts.length ec] 198)) #[.int .i64 dp] 3
    rw [World.size_alloc, World.size_alloc] at this
    exact this
  have lw3 : Below w.heap.size w W3 := LP.out.trans (h3.mono LP.out.size)
  have GR0 := (group_any pl mi sp ze wid prec verb A (.iface 198 (.agg #[.int .i64 k, .string ty, .int .i64 hk, .slice eA ts.length ec])) ⟨#[109, 97, 112, 91]⟩ ⟨#[93]⟩ 174 #[.pointer (some ⟨W2.heap.size + 1, 0, none⟩), .pointer (some ⟨W2.heap.size, 0, none⟩), .pointer (some ⟨W2.heap.size + 1 + 1, 0, none⟩)] ts W3
    (enters_of Tryz.func174 (by kernel_rfl) rfl)
    (fun W hW => entries_seq pl mi false sp ze wid prec verb A dp k ty hk eA ec us ts (W2.heap.size + 1) W2.heap.size (W2.heap.size + 1 + 1) W3 W HDP.out.1 HDP.out.2.1 x2 x1 x3 HDP.out.2.2
      (fun hne => by
        obtain ⟨g, e1, e2, e3⟩ := HE.out hne
        exact ⟨g, e1, Nat.lt_of_lt_of_le e2 lw3.size, fun j v hv => (lw3.cell (p := ⟨g, j, none⟩) e2).trans (e3 j v hv)⟩)
      (TS.out.mono lw3) hW) HDP.out.2.2 (by decide) (by decide))
  rw [show ((⟨((⟨#[109, 97, 112, 91]⟩ : ByteArray).data.toList ++ joinT ts ++ (⟨#[93]⟩ : ByteArray).data.toList).toArray⟩ : ByteArray)) = r from HRR.out] at GR0
  have GR := hid GR0
  clear GR0
  have LW := hid lw3
  refine hK.out _ _ h3 (fun _ => ?_)
  clear hK h0 b23 x1 x2 x3 lw3 hw3
  have h0 := h3
  try simp only [Act.put, List.getElem_toArray, List.getElem_cons_zero, List.getElem_cons_succ, List.setIfInBounds_toArray, List.set_cons_zero, List.set_cons_succ]
  refine wpAnyH_ready (fuel := 2) (rs := [6]) (by kernel_rfl) (by simp) ?_
  refine AllReadyH.cons rfl (fun K hK => ?_) AllReadyH.nil
  rw [if_pos (by rfl)]
  go_wp2_with fail
  refine GR.out.mono ?_
  rintro e W4 ⟨rfl, hb4⟩
  have h4 := h0.trans (hb4.mono h0.size)
  have L4 := hid (LW.out.trans (hb4.mono LW.out.size))
  refine hK.out _ _ h4 (fun _ => ?_)
  clear hK h0 h3 hb4 GR
  have h0 := h4
  try simp only [Act.put, List.getElem_toArray, List.getElem_cons_zero, List.getElem_cons_succ, List.setIfInBounds_toArray, List.set_cons_zero, List.set_cons_succ]
  refine wpAnyH_take (i := 7) (fuel := 1) (v := (.string r)) rfl (by kernel_rfl) (by kernel_rfl) (by kernel_rfl) (fun _ _ _ h => h) (Or.inl ⟨by rfl, by intro w1 hw1; go_simp⟩) h0 ?_
  try simp only [Act.put, List.getElem_toArray, List.getElem_cons_zero, List.getElem_cons_succ, List.setIfInBounds_toArray, List.set_cons_zero, List.set_cons_succ]
  refine wpAnyH_take (i := 8) (fuel := 0) (v := (.bool true)) rfl (by kernel_rfl) (by kernel_rfl) (by kernel_rfl) (fun _ _ _ h => h) (Or.inl ⟨by rfl, by intro w1 hw1; go_simp⟩) h0 ?_
  try simp only [Act.put, List.getElem_toArray, List.getElem_cons_zero, List.getElem_cons_succ, List.setIfInBounds_toArray, List.set_cons_zero, List.set_cons_succ]
  refine wpAnyH_done (by kernel_rfl) ?_ _
  clear h0 h4
  go_wp2_with fail
  go_ret2
  exact ⟨rfl, L4.out⟩
end Go.Proofs.YtdjhmanccoekjaaGreatDoor
end

section
namespace Go.Proofs.YtdjhmanccoekjaaGreatDoor
open Go.Shelf Go.RowKit Go.Lib Go.Sort Go.Proofs

/-- Nothing but draws and new blocks is behind. -/
def Grown (w w' : World) : Prop := ∃ q os, w' = grow (w.drewN q) os
theorem Grown.refl (w : World) : Grown w w := ⟨0, #[], by rw [grow_empty]; rfl⟩
theorem Grown.alloc {w w' : World} (h : Grown w w') (o : Obj) : Grown w (w'.alloc o) := by
  obtain ⟨q, os, rfl⟩ := h
  exact ⟨q, os ++ #[o], by rw [alloc_eq_grow, grow_grow]⟩
theorem Grown.drewN {w w' : World} (h : Grown w w') (n : Nat) : Grown w (w'.drewN n) := by
  obtain ⟨q, os, rfl⟩ := h
  exact ⟨q + n, os, by show grow ((w.drewN q).drewN n) os = _; rw [World.drewN_drewN]⟩
theorem Grown.drew {w w' : World} (h : Grown w w') : Grown w w'.drew := h.drewN 1
theorem Grown.trans {a b c : World} (h : Grown a b) (k : Grown b c) : Grown a c := by
  obtain ⟨q, os, rfl⟩ := h
  obtain ⟨p, os', rfl⟩ := k
  exact ⟨q + p, os ++ os', by show grow (grow ((a.drewN q).drewN p) os) os' = _; rw [World.drewN_drewN, grow_grow]⟩
theorem Grown.below {w w' : World} (h : Grown w w') : Below w.heap.size w w' := by
  obtain ⟨q, os, rfl⟩ := h
  refine ⟨rfl, rfl, rfl, ?_, fun k hk => ?_⟩
  · show w.heap.size ≤ (w.heap ++ os).size
    rw [Array.size_append]; exact Nat.le_add_right _ _
  · show (w.heap ++ os)[k]? = w.heap[k]?
    rw [Array.getElem?_append_left hk]
/-- What base answers of a value, and nothing but new blocks is behind. -/
def BaseGr (v : Value) (b : Value) (ok : Bool) : Prop := ∀ w, Calls Tryz.prog 76 #[v] w fun e w' => e = .returned (.tuple #[b, .bool ok]) ∧ Grown w w'

set_option maxRecDepth 100000 in
set_option maxHeartbeats 2000000 in
theorem bgr_Bool (k : Int) (ty : ByteArray) (hk : Int) (x : Bool) : BaseGr (.iface 179 (.agg #[.int .i64 k, .string ty, .int .i64 hk, .bool x])) (base3 k ty hk) true := by
  intro w
  have h0 := ta_Bool_Bool
  go_enter Tryz.func76, Tryz.ntmps76
  go_wp2_with fail
  refine bodyPost_ret (v := .tuple #[base3 k ty hk, .bool true]) (by simp [results, Tryz.results76, go_sem]) rfl ⟨rfl, ?_⟩
  exact ((Grown.refl _).alloc _).alloc _
set_option maxRecDepth 100000 in
set_option maxHeartbeats 2000000 in
theorem bgr_Int (k : Int) (ty : ByteArray) (hk : Int) (x : Int) : BaseGr (.iface 181 (.agg #[.int .i64 k, .string ty, .int .i64 hk, .int .i64 x])) (base3 k ty hk) true := by
  intro w
  have h0 := ta_Int_Bool
  have h1 := ta_Int_Int
  go_enter Tryz.func76, Tryz.ntmps76
  go_wp2_with fail
  refine bodyPost_ret (v := .tuple #[base3 k ty hk, .bool true]) (by simp [results, Tryz.results76, go_sem]) rfl ⟨rfl, ?_⟩
  exact ((Grown.refl _).alloc _).alloc _
set_option maxRecDepth 100000 in
set_option maxHeartbeats 2000000 in
theorem bgr_Uint (k : Int) (ty : ByteArray) (hk : Int) (x : Int) : BaseGr (.iface 183 (.agg #[.int .i64 k, .string ty, .int .i64 hk, .int .u64 x])) (base3 k ty hk) true := by
  intro w
  have h0 := ta_Uint_Bool
  have h1 := ta_Uint_Int
  have h2 := ta_Uint_Uint
  go_enter Tryz.func76, Tryz.ntmps76
  go_wp2_with fail
  refine bodyPost_ret (v := .tuple #[base3 k ty hk, .bool true]) (by simp [results, Tryz.results76, go_sem]) rfl ⟨rfl, ?_⟩
  exact ((Grown.refl _).alloc _).alloc _
set_option maxRecDepth 100000 in
set_option maxHeartbeats 2000000 in
theorem bgr_Text (k : Int) (ty : ByteArray) (hk : Int) (x : ByteArray) : BaseGr (.iface 189 (.agg #[.int .i64 k, .string ty, .int .i64 hk, .string x])) (base3 k ty hk) true := by
  intro w
  have h0 := ta_Text_Bool
  have h1 := ta_Text_Int
  have h2 := ta_Text_Uint
  have h3 := ta_Text_Float
  have h4 := ta_Text_Complex
  have h5 := ta_Text_Text
  go_enter Tryz.func76, Tryz.ntmps76
  go_wp2_with fail
  refine bodyPost_ret (v := .tuple #[base3 k ty hk, .bool true]) (by simp [results, Tryz.results76, go_sem]) rfl ⟨rfl, ?_⟩
  exact ((Grown.refl _).alloc _).alloc _

/-- A key: its kind, its type's name, its hook, what it is. -/
inductive KX where
  | b (x : Bool)
  | i (x : Int)
  | u (x : Int)
  | t (x : ByteArray)
structure KV where
  k : Int
  ty : ByteArray
  hk : Int
  x : KX
def kvV (a : KV) : Value :=
  match a.x with
  | .b x => .iface 179 (.agg #[.int .i64 a.k, .string a.ty, .int .i64 a.hk, .bool x])
  | .i x => .iface 181 (.agg #[.int .i64 a.k, .string a.ty, .int .i64 a.hk, .int .i64 x])
  | .u x => .iface 183 (.agg #[.int .i64 a.k, .string a.ty, .int .i64 a.hk, .int .u64 x])
  | .t x => .iface 189 (.agg #[.int .i64 a.k, .string a.ty, .int .i64 a.hk, .string x])
/-- What a key is goes with its kind. -/
def KV.ok (a : KV) : Prop :=
  match a.x with
  | .b _ => a.k = 1
  | .i _ => 2 ≤ a.k ∧ a.k ≤ 6
  | .u _ => 7 ≤ a.k ∧ a.k ≤ 11
  | .t _ => a.k = 16
def cmpB (x y : Bool) : Int := if x = y then 0 else if y then -1 else 1
def cmpX : KX → KX → Int
  | .b x, .b y => cmpB x y
  | .i x, .i y => Lib.compareInt x y
  | .u x, .u y => Lib.compareInt x y
  | .t x, .t y => Lib.compareBytes x.data.toList y.data.toList
  | _, _ => 0
/-- Which of two keys comes first. -/
def cmpK (a b : KV) : Int :=
  if a.k = b.k then (if cmpX a.x b.x = 0 then Lib.compareBytes a.ty.data.toList b.ty.data.toList else cmpX a.x b.x) else Lib.compareInt a.k b.k
theorem kv_base (a : KV) : BaseGr (kvV a) (base3 a.k a.ty a.hk) true := by
  obtain ⟨k, ty, hk, x⟩ := a
  cases x
  · exact bgr_Bool _ _ _ _
  · exact bgr_Int _ _ _ _
  · exact bgr_Uint _ _ _ _
  · exact bgr_Text _ _ _ _
set_option maxHeartbeats 1000000 in
theorem nan64_any (x : Int) (w : World) : Calls Tryz.prog 204 #[.int .i64 x] w fun e w' => e = .returned (.bool false) ∧ w' = w := by
  go_enter Tryz.func204, Tryz.ntmps204
  go_wp2
  go_ret
  exact ⟨by simp, rfl⟩
set_option maxHeartbeats 1000000 in
theorem nanu_any (x : Int) (w : World) : Calls Tryz.prog 205 #[.int .u64 x] w fun e w' => e = .returned (.bool false) ∧ w' = w := by
  go_enter Tryz.func205, Tryz.ntmps205
  go_wp2
  go_ret
  exact ⟨by simp, rfl⟩
set_option maxHeartbeats 1000000 in
theorem cmp64_any (x y : Int) (w : World) : Calls Tryz.prog 179 #[.int .i64 x, .int .i64 y] w fun e w' => e = .returned (.int .i64 (Lib.compareInt x y)) ∧ w' = w := by
  go_enter Tryz.func179, Tryz.ntmps179
  go_wp2_with (go_at_call 204; refine (nan64_any _ _).mono ?_; rintro e w' ⟨rfl, hw⟩; rw [hw])
  all_goals (go_ret; refine ⟨?_, rfl⟩; unfold Lib.compareInt; (repeat' split) <;> first | rfl | (exfalso; omega))
set_option maxHeartbeats 1000000 in
theorem cmpu_any (x y : Int) (w : World) : Calls Tryz.prog 180 #[.int .u64 x, .int .u64 y] w fun e w' => e = .returned (.int .i64 (Lib.compareInt x y)) ∧ w' = w := by
  go_enter Tryz.func180, Tryz.ntmps180
  go_wp2_with (go_at_call 205; refine (nanu_any _ _).mono ?_; rintro e w' ⟨rfl, hw⟩; rw [hw])
  all_goals (go_ret; refine ⟨?_, rfl⟩; unfold Lib.compareInt; (repeat' split) <;> first | rfl | (exfalso; omega))
theorem tf_Bool (cs : Array Value) (w : World) : (Instr.typeAssert (.iface 179 (.agg cs)) 103 179 false).run Tryz.prog w = .ok (.agg cs) w := by kernel_rfl
theorem tf_Int (cs : Array Value) (w : World) : (Instr.typeAssert (.iface 181 (.agg cs)) 103 181 false).run Tryz.prog w = .ok (.agg cs) w := by kernel_rfl
theorem tf_Uint (cs : Array Value) (w : World) : (Instr.typeAssert (.iface 183 (.agg cs)) 103 183 false).run Tryz.prog w = .ok (.agg cs) w := by kernel_rfl
theorem tf_Text (cs : Array Value) (w : World) : (Instr.typeAssert (.iface 189 (.agg cs)) 103 189 false).run Tryz.prog w = .ok (.agg cs) w := by kernel_rfl

set_option maxRecDepth 100000 in
set_option maxHeartbeats 4000000 in
/-- Two keys of two kinds. -/
theorem order_kinds (u v : Value) (k1 k2 : Int) (t1 t2 : ByteArray) (h1 h2 : Int) (w : World) (B1 : BaseGr u (base3 k1 t1 h1) true) (B2 : BaseGr v (base3 k2 t2 h2) true) (hne : k1 ≠ k2) :
    Calls Tryz.prog 160 #[u, v] w fun e w' => e = .returned (.int .i64 (Lib.compareInt k1 k2)) ∧ Grown w w' := by
  have B1 := hid B1
  have B2 := hid B2
  have hn : (k1 != k2) = true := by simpa using hne
  have CM := hid (fun W => Tryz.cmp_Compare_int k1 k2 W)
  obtain ⟨r, hr⟩ : ∃ r, Lib.compareInt k1 k2 = r := ⟨_, rfl⟩
  rw [hr] at CM ⊢
  clear hr hne
  go_enter Tryz.func160, Tryz.ntmps160
  go_wp2_with fail
  refine (B1.out _).mono ?_
  rintro e w1 ⟨rfl, g1⟩
  have G1 := hid g1
  clear g1
  go_wp2_with fail
  refine (B2.out _).mono ?_
  rintro e w2 ⟨rfl, g2⟩
  have G2 := hid ((G1.out.alloc _).trans g2)
  have c0 := (Blk.new w1 #[.int .i64 k1, .string t1, .int .i64 h1] 135).below g2.below (by simp)
  have c00 : w2.cell? ⟨w1.heap.size, 0, none⟩ = some (.int .i64 k1) := c0.cell 0
  have hlt : w1.heap.size < w2.heap.size := c0.lt
  have hne1 : w1.heap.size ≠ w2.heap.size := by omega
  have hne2 : w2.heap.size ≠ w1.heap.size := by omega
  have hne3 : w1.heap.size ≠ w2.heap.size + 1 := by omega
  have hne4 : w1.heap.size ≠ w2.heap.size + 1 + 1 := by omega
  have hne5 : w1.heap.size ≠ w2.heap.size + 2 := by omega
  clear g2 c0
  go_wp2_with fail
  refine (CM.out _).mono ?_
  rintro e w3 ⟨rfl, rfl⟩
  go_wp2_with fail
  go_ret
  exact ⟨rfl, G2.out.alloc _⟩

set_option maxRecDepth 100000 in
set_option maxHeartbeats 4000000 in
theorem order_Int (k : Int) (t1 t2 : ByteArray) (h1 h2 : Int) (x y : Int) (w : World) :
    Calls Tryz.prog 160 #[.iface 181 (.agg #[.int .i64 k, .string t1, .int .i64 h1, .int .i64 x]), .iface 181 (.agg #[.int .i64 k, .string t2, .int .i64 h2, .int .i64 y])] w fun e w' => e = .returned (.int .i64 (if Lib.compareInt x y = 0 then Lib.compareBytes t1.data.toList t2.data.toList else Lib.compareInt x y)) ∧ Grown w w' := by
  have B1 := hid (bgr_Int k t1 h1 x)
  have B2 := hid (bgr_Int k t2 h2 y)
  have hq0 := ta_Int_Bool
  have hq1 := ta_Int_Int
  have hf := tf_Int
  have hfd : ∀ W : World, (Instr.field 181 (.agg #[.int .i64 k, .string t2, .int .i64 h2, .int .i64 y]) 1).run Tryz.prog W = .ok (.int .i64 y) W := fun _ => by kernel_rfl
  have CM := hid (fun W => cmp64_any x y W)
  have CS := hid (fun W => Tryz.strings_Compare t1 t2 W)
  obtain ⟨r, hr⟩ : ∃ r, Lib.compareInt x y = r := ⟨_, rfl⟩
  obtain ⟨q, hq⟩ : ∃ q, Lib.compareBytes t1.data.toList t2.data.toList = q := ⟨_, rfl⟩
  rw [hr] at CM ⊢
  rw [hq] at CS ⊢
  clear hr hq
  go_enter Tryz.func160, Tryz.ntmps160
  go_wp2_with fail
  refine (B1.out _).mono ?_
  rintro e w1 ⟨rfl, g1⟩
  have G1 := hid g1
  clear g1
  go_wp2_with fail
  refine (B2.out _).mono ?_
  rintro e w2 ⟨rfl, g2⟩
  have G2 := hid ((G1.out.alloc (.cells #[.int .i64 k, .string t1, .int .i64 h1] 135)).trans g2)
  have c0 := (Blk.new w1 #[.int .i64 k, .string t1, .int .i64 h1] 135).below g2.below (by simp)
  have c00 : w2.cell? ⟨w1.heap.size, 0, none⟩ = some (.int .i64 k) := c0.cell 0
  have c01 : w2.cell? ⟨w1.heap.size, 1, none⟩ = some (.string t1) := c0.cell 1
  have hlt : w1.heap.size < w2.heap.size := c0.lt
  have hne1 : w1.heap.size ≠ w2.heap.size := by omega
  have hne2 : w2.heap.size ≠ w1.heap.size := by omega
  have hne3 : w1.heap.size ≠ w2.heap.size + 1 := by omega
  have hne4 : w1.heap.size ≠ w2.heap.size + 1 + 1 := by omega
  have hne5 : w1.heap.size ≠ w2.heap.size + 2 := by omega
  clear g2 c0
  go_wp2_with fail
  go_wp2_with fail
  go_quiet ((go_at_call 179; exact Calls.quiet_of_same ((CM.out _).mono fun _ _ h => ⟨h.1, h.2⟩)))
  by_cases hr : r = 0
  · subst hr
    go_wp2_with fail
    refine (CS.out _).mono ?_
    rintro e w3 ⟨rfl, rfl⟩
    go_wp2_with fail
    go_ret
    exact ⟨rfl, ((G2.out.alloc _).alloc _).drewN _⟩
  · have hb : (r == 0) = false := by simpa using hr
    go_wp2_with fail
    go_ret
    exact ⟨rfl, ((G2.out.alloc _).alloc _).drewN _⟩
set_option maxRecDepth 100000 in
set_option maxHeartbeats 4000000 in
theorem order_Uint (k : Int) (t1 t2 : ByteArray) (h1 h2 : Int) (x y : Int) (w : World) :
    Calls Tryz.prog 160 #[.iface 183 (.agg #[.int .i64 k, .string t1, .int .i64 h1, .int .u64 x]), .iface 183 (.agg #[.int .i64 k, .string t2, .int .i64 h2, .int .u64 y])] w fun e w' => e = .returned (.int .i64 (if Lib.compareInt x y = 0 then Lib.compareBytes t1.data.toList t2.data.toList else Lib.compareInt x y)) ∧ Grown w w' := by
  have B1 := hid (bgr_Uint k t1 h1 x)
  have B2 := hid (bgr_Uint k t2 h2 y)
  have hq0 := ta_Uint_Bool
  have hq1 := ta_Uint_Int
  have hq2 := ta_Uint_Uint
  have hf := tf_Uint
  have hfd : ∀ W : World, (Instr.field 183 (.agg #[.int .i64 k, .string t2, .int .i64 h2, .int .u64 y]) 1).run Tryz.prog W = .ok (.int .u64 y) W := fun _ => by kernel_rfl
  have CM := hid (fun W => cmpu_any x y W)
  have CS := hid (fun W => Tryz.strings_Compare t1 t2 W)
  obtain ⟨r, hr⟩ : ∃ r, Lib.compareInt x y = r := ⟨_, rfl⟩
  obtain ⟨q, hq⟩ : ∃ q, Lib.compareBytes t1.data.toList t2.data.toList = q := ⟨_, rfl⟩
  rw [hr] at CM ⊢
  rw [hq] at CS ⊢
  clear hr hq
  go_enter Tryz.func160, Tryz.ntmps160
  go_wp2_with fail
  refine (B1.out _).mono ?_
  rintro e w1 ⟨rfl, g1⟩
  have G1 := hid g1
  clear g1
  go_wp2_with fail
  refine (B2.out _).mono ?_
  rintro e w2 ⟨rfl, g2⟩
  have G2 := hid ((G1.out.alloc (.cells #[.int .i64 k, .string t1, .int .i64 h1] 135)).trans g2)
  have c0 := (Blk.new w1 #[.int .i64 k, .string t1, .int .i64 h1] 135).below g2.below (by simp)
  have c00 : w2.cell? ⟨w1.heap.size, 0, none⟩ = some (.int .i64 k) := c0.cell 0
  have c01 : w2.cell? ⟨w1.heap.size, 1, none⟩ = some (.string t1) := c0.cell 1
  have hlt : w1.heap.size < w2.heap.size := c0.lt
  have hne1 : w1.heap.size ≠ w2.heap.size := by omega
  have hne2 : w2.heap.size ≠ w1.heap.size := by omega
  have hne3 : w1.heap.size ≠ w2.heap.size + 1 := by omega
  have hne4 : w1.heap.size ≠ w2.heap.size + 1 + 1 := by omega
  have hne5 : w1.heap.size ≠ w2.heap.size + 2 := by omega
  clear g2 c0
  go_wp2_with fail
  go_wp2_with fail
  go_quiet ((go_at_call 180; exact Calls.quiet_of_same ((CM.out _).mono fun _ _ h => ⟨h.1, h.2⟩)))
  by_cases hr : r = 0
  · subst hr
    go_wp2_with fail
    refine (CS.out _).mono ?_
    rintro e w3 ⟨rfl, rfl⟩
    go_wp2_with fail
    go_ret
    exact ⟨rfl, ((G2.out.alloc _).alloc _).drewN _⟩
  · have hb : (r == 0) = false := by simpa using hr
    go_wp2_with fail
    go_ret
    exact ⟨rfl, ((G2.out.alloc _).alloc _).drewN _⟩
set_option maxRecDepth 100000 in
set_option maxHeartbeats 4000000 in
theorem order_Text (k : Int) (t1 t2 : ByteArray) (h1 h2 : Int) (x y : ByteArray) (w : World) :
    Calls Tryz.prog 160 #[.iface 189 (.agg #[.int .i64 k, .string t1, .int .i64 h1, .string x]), .iface 189 (.agg #[.int .i64 k, .string t2, .int .i64 h2, .string y])] w fun e w' => e = .returned (.int .i64 (if Lib.compareBytes x.data.toList y.data.toList = 0 then Lib.compareBytes t1.data.toList t2.data.toList else Lib.compareBytes x.data.toList y.data.toList)) ∧ Grown w w' := by
  have B1 := hid (bgr_Text k t1 h1 x)
  have B2 := hid (bgr_Text k t2 h2 y)
  have hq0 := ta_Text_Bool
  have hq1 := ta_Text_Int
  have hq2 := ta_Text_Uint
  have hq3 := ta_Text_Text
  have hf := tf_Text
  have hfd : ∀ W : World, (Instr.field 189 (.agg #[.int .i64 k, .string t2, .int .i64 h2, .string y]) 1).run Tryz.prog W = .ok (.string y) W := fun _ => by kernel_rfl
  have CM := hid (fun W => Tryz.strings_Compare x y W)
  have CS := hid (fun W => Tryz.strings_Compare t1 t2 W)
  obtain ⟨r, hr⟩ : ∃ r, Lib.compareBytes x.data.toList y.data.toList = r := ⟨_, rfl⟩
  obtain ⟨q, hq⟩ : ∃ q, Lib.compareBytes t1.data.toList t2.data.toList = q := ⟨_, rfl⟩
  rw [hr] at CM ⊢
  rw [hq] at CS ⊢
  clear hr hq
  go_enter Tryz.func160, Tryz.ntmps160
  go_wp2_with fail
  refine (B1.out _).mono ?_
  rintro e w1 ⟨rfl, g1⟩
  have G1 := hid g1
  clear g1
  go_wp2_with fail
  refine (B2.out _).mono ?_
  rintro e w2 ⟨rfl, g2⟩
  have G2 := hid ((G1.out.alloc (.cells #[.int .i64 k, .string t1, .int .i64 h1] 135)).trans g2)
  have c0 := (Blk.new w1 #[.int .i64 k, .string t1, .int .i64 h1] 135).below g2.below (by simp)
  have c00 : w2.cell? ⟨w1.heap.size, 0, none⟩ = some (.int .i64 k) := c0.cell 0
  have c01 : w2.cell? ⟨w1.heap.size, 1, none⟩ = some (.string t1) := c0.cell 1
  have hlt : w1.heap.size < w2.heap.size := c0.lt
  have hne1 : w1.heap.size ≠ w2.heap.size := by omega
  have hne2 : w2.heap.size ≠ w1.heap.size := by omega
  have hne3 : w1.heap.size ≠ w2.heap.size + 1 := by omega
  have hne4 : w1.heap.size ≠ w2.heap.size + 1 + 1 := by omega
  have hne5 : w1.heap.size ≠ w2.heap.size + 2 := by omega
  clear g2 c0
  go_wp2_with fail
  go_wp2_with fail
  go_quiet ((go_at_call 181; exact Calls.quiet_of_same ((CM.out _).mono fun _ _ h => ⟨h.1, h.2⟩)))
  by_cases hr : r = 0
  · subst hr
    go_wp2_with fail
    refine (CS.out _).mono ?_
    rintro e w3 ⟨rfl, rfl⟩
    go_wp2_with fail
    go_ret
    exact ⟨rfl, ((G2.out.alloc _).alloc _).drewN _⟩
  · have hb : (r == 0) = false := by simpa using hr
    go_wp2_with fail
    go_ret
    exact ⟨rfl, ((G2.out.alloc _).alloc _).drewN _⟩
set_option maxRecDepth 100000 in
set_option maxHeartbeats 4000000 in
theorem order_Bool (k : Int) (t1 t2 : ByteArray) (h1 h2 : Int) (x y : Bool) (w : World) :
    Calls Tryz.prog 160 #[.iface 179 (.agg #[.int .i64 k, .string t1, .int .i64 h1, .bool x]), .iface 179 (.agg #[.int .i64 k, .string t2, .int .i64 h2, .bool y])] w fun e w' => e = .returned (.int .i64 (if cmpB x y = 0 then Lib.compareBytes t1.data.toList t2.data.toList else cmpB x y)) ∧ Grown w w' := by
  have B1 := hid (bgr_Bool k t1 h1 x)
  have B2 := hid (bgr_Bool k t2 h2 y)
  have h0 := ta_Bool_Bool
  have hf := tf_Bool
  have CS := hid (fun W => Tryz.strings_Compare t1 t2 W)
  obtain ⟨q, hq⟩ : ∃ q, Lib.compareBytes t1.data.toList t2.data.toList = q := ⟨_, rfl⟩
  rw [hq] at CS ⊢
  clear hq
  go_enter Tryz.func160, Tryz.ntmps160
  go_wp2_with fail
  refine (B1.out _).mono ?_
  rintro e w1 ⟨rfl, g1⟩
  have G1 := hid g1
  clear g1
  go_wp2_with fail
  refine (B2.out _).mono ?_
  rintro e w2 ⟨rfl, g2⟩
  have G2 := hid ((G1.out.alloc (.cells #[.int .i64 k, .string t1, .int .i64 h1] 135)).trans g2)
  have c0 := (Blk.new w1 #[.int .i64 k, .string t1, .int .i64 h1] 135).below g2.below (by simp)
  have c00 : w2.cell? ⟨w1.heap.size, 0, none⟩ = some (.int .i64 k) := c0.cell 0
  have c01 : w2.cell? ⟨w1.heap.size, 1, none⟩ = some (.string t1) := c0.cell 1
  have hlt : w1.heap.size < w2.heap.size := c0.lt
  have cc : ∀ A B C : Obj, (((w2.alloc A).alloc B).alloc C).cell? ⟨w1.heap.size, 1, none⟩ = some (.string t1) := fun A B C => (((c0.alloc A).alloc B).alloc C).cell 1
  have hne1 : w1.heap.size ≠ w2.heap.size := by omega
  have hne2 : w2.heap.size ≠ w1.heap.size := by omega
  have hne3 : w1.heap.size ≠ w2.heap.size + 1 := by omega
  have hne4 : w1.heap.size ≠ w2.heap.size + 1 + 1 := by omega
  have hne5 : w1.heap.size ≠ w2.heap.size + 2 := by omega
  clear g2 c0
  cases x <;> cases y
  · go_wp2_with fail
    refine (CS.out _).mono ?_
    rintro e w3 ⟨rfl, rfl⟩
    go_wp2_with fail
    go_ret
    exact ⟨rfl, ((G2.out.alloc _).alloc _).alloc _⟩
  · go_wp2_with fail
    go_ret
    exact ⟨rfl, ((G2.out.alloc _).alloc _).alloc _⟩
  · go_wp2_with fail
    go_ret
    exact ⟨rfl, ((G2.out.alloc _).alloc _).alloc _⟩
  · go_wp2_with fail
    refine (CS.out _).mono ?_
    rintro e w3 ⟨rfl, rfl⟩
    go_wp2_with fail
    go_ret
    exact ⟨rfl, ((G2.out.alloc _).alloc _).alloc _⟩
theorem order_any (a b : KV) (w : World) (ha : a.ok) (hb : b.ok) : Calls Tryz.prog 160 #[kvV a, kvV b] w fun e w' => e = .returned (.int .i64 (cmpK a b)) ∧ Grown w w' := by
  unfold cmpK
  by_cases hk : a.k = b.k
  · rw [if_pos hk]
    obtain ⟨k, t1, h1, x⟩ := a
    obtain ⟨k2, t2, h2, y⟩ := b
    simp only at hk
    subst hk
    cases x <;> cases y <;> simp only [KV.ok] at ha hb <;> first | (exfalso; omega) | skip
    · exact order_Bool k t1 t2 h1 h2 _ _ w
    · exact order_Int k t1 t2 h1 h2 _ _ w
    · exact order_Uint k t1 t2 h1 h2 _ _ w
    · exact order_Text k t1 t2 h1 h2 _ _ w
  · rw [if_neg hk]
    exact order_kinds _ _ _ _ _ _ _ _ w (kv_base a) (kv_base b) hk
end Go.Proofs.YtdjhmanccoekjaaGreatDoor
end

section
namespace Go.Proofs.YtdjhmanccoekjaaGreatDoor
open Go.RowKit Go.Proofs

/-- A descriptor with its names and its parts. -/
inductive DT where
  | mk (d : De) (nm : List ByteArray) (pa : List DT)
def DT.de : DT → De
  | .mk d _ _ => d
def DT.nm : DT → List ByteArray
  | .mk _ n _ => n
def DT.pa : DT → List DT
  | .mk _ _ p => p
theorem DT.ind {P : DT → Prop} (h : ∀ d nm pa, (∀ x ∈ pa, P x) → P (.mk d nm pa)) : ∀ T, P T
  | .mk d nm pa => h d nm pa fun x _ => DT.ind h x
/-- One stands in the other, or is it. -/
inductive Sub : DT → DT → Prop
  | refl (x : DT) : Sub x x
  | step {x y : DT} {d : De} {nm : List ByteArray} {pa : List DT} (h : Sub x y) (hy : y ∈ pa) : Sub x (.mk d nm pa)
/-- A list of texts, as it is handed. -/
def StrsAt (W : World) (sl : Sl) (ss : List ByteArray) : Prop := sl.n = ss.length ∧ (ss ≠ [] → ∃ g o, sl.a = some ⟨g, o, none⟩ ∧ g < W.heap.size ∧
  ∀ (k : Nat) s, ss[k]? = some s → W.cell? ⟨g, o + k, none⟩ = some (.string s))
theorem StrsAt.below {W W' : World} {sl : Sl} {ss : List ByteArray} (h : StrsAt W sl ss) (hb : Below W.heap.size W W') : StrsAt W' sl ss :=
  ⟨h.1, fun hn => by
    obtain ⟨g, o, h1, h2, h3⟩ := h.2 hn
    exact ⟨g, o, h1, Nat.lt_of_lt_of_le h2 hb.size, fun k s hk => (hb.cell (p := ⟨g, o + k, none⟩) h2).trans (h3 k s hk)⟩⟩
/-- It has parts that are looked at. -/
def great (k : Int) : Bool := decide (18 ≤ k ∧ k ≤ 22)
theorem great_iff {k : Int} : great k = true ↔ 18 ≤ k ∧ k ≤ 22 := by unfold great; simp
theorem great_no {k : Int} (h : great k = false) : ¬ (18 ≤ k ∧ k ≤ 22) := by unfold great at h; simpa using h
/-- A tree in memory. -/
inductive DtAt (w : World) : DT → Prop
  | mk (d : De) (nm : List ByteArray) (pa : List DT) (h1 : StrsAt w d.nm nm) (h2 : ArgsAt w d.pa (pa.map DT.de)) (h3 : pa.length ≤ 140737488355328) (h4 : ∀ x ∈ pa, DtAt w x) : DtAt w (.mk d nm pa)
theorem DtAt.nms {w : World} {d : De} {nm : List ByteArray} {pa : List DT} (h : DtAt w (.mk d nm pa)) : StrsAt w d.nm nm := by cases h; assumption
theorem DtAt.args {w : World} {d : De} {nm : List ByteArray} {pa : List DT} (h : DtAt w (.mk d nm pa)) : ArgsAt w d.pa (pa.map DT.de) := by cases h; assumption
theorem DtAt.len {w : World} {d : De} {nm : List ByteArray} {pa : List DT} (h : DtAt w (.mk d nm pa)) : pa.length ≤ 140737488355328 := by cases h; assumption
theorem DtAt.each {w : World} {d : De} {nm : List ByteArray} {pa : List DT} (h : DtAt w (.mk d nm pa)) : ∀ x ∈ pa, DtAt w x := by cases h; assumption
theorem DtAt.keep {w w' : World} (hb : Below w.heap.size w w') : ∀ {T : DT}, DtAt w T → DtAt w' T := by
  intro T
  refine DT.ind (P := fun T => DtAt w T → DtAt w' T) (fun d nm pa ih h => ?_) T
  exact .mk d nm pa (h.nms.below hb) (h.args.below hb) h.len fun x hx => ih x hx (h.each x hx)
/-- The bytes of a text that are counted. -/
def txtN (d : De) : Int := if d.k = 16 ∨ d.k = 17 then d.t.size else 0
mutual
/-- How much of a budget is left; the longest text. -/
def countT : DT → Int → Int × Int
  | .mk d _ pa, left => if great d.k then countL pa (left - 1) (txtN d) else (left - 1, txtN d)
def countL : List DT → Int → Int → Int × Int
  | [], left, t => (left, t)
  | x :: r, left, t => if left < 0 then (left, t) else countL r (countT x left).1 (max t (countT x left).2)
end
mutual
/-- How deep they stand in one another. -/
def depthT : DT → Int
  | .mk d _ pa => (if great d.k then depthL pa 0 else 0) + 1
def depthL : List DT → Int → Int
  | [], n => n
  | x :: r, n => depthL r (max n (depthT x))
end
mutual
/-- All that are looked at are right. -/
def allT (p : DT → Bool) : DT → Bool
  | .mk d nm pa => p (.mk d nm pa) && (!great d.k || allL p pa)
def allL (p : DT → Bool) : List DT → Bool
  | [] => true
  | x :: r => allT p x && allL p r
end
theorem allL_all (p : DT → Bool) : ∀ l, allL p l = l.all (allT p)
  | [] => by rw [allL]; rfl
  | x :: r => by rw [allL, allL_all p r]; rfl
theorem depthL_ge : ∀ (l : List DT) (n : Int), n ≤ depthL l n
  | [], n => by rw [depthL]; exact Int.le_refl _
  | x :: r, n => by
    rw [depthL]
    have := depthL_ge r (max n (depthT x))
    omega


theorem drop_cons {α : Type} {l : List α} {i : Nat} {x : α} (h : l[i]? = some x) : l.drop i = x :: l.drop (i + 1) := by
  obtain ⟨hi, he⟩ := List.getElem?_eq_some_iff.1 h
  rw [List.drop_eq_getElem_cons hi, he]
mutual
theorem countT_le : ∀ (T : DT) (left : Int), 0 ≤ left → -1 ≤ (countT T left).1 ∧ (countT T left).1 < left
  | .mk d nm pa, left, h => by
    rw [countT]
    split
    · have := countL_le pa (left - 1) (txtN d) (by omega)
      omega
    · exact ⟨by show -1 ≤ left - 1; omega, by show left - 1 < left; omega⟩
theorem countL_le : ∀ (l : List DT) (left t : Int), -1 ≤ left → -1 ≤ (countL l left t).1 ∧ (countL l left t).1 ≤ left
  | [], left, t, h => by rw [countL]; exact ⟨h, Int.le_refl _⟩
  | x :: r, left, t, h => by
    rw [countL]
    split
    · exact ⟨h, Int.le_refl _⟩
    · have h1 := countT_le x left (by omega)
      have h2 := countL_le r (countT x left).1 (max t (countT x left).2) (by omega)
      omega
end
set_option maxRecDepth 100000 in
set_option maxHeartbeats 4000000 in
theorem vcount_any : ∀ (T : DT) (left : Int) (w : World), DtAt w T → 0 ≤ left → left ≤ 1000000 → Calls Tryz.prog 90 #[.agg (deV T.de), .int .i64 left] w fun e w' => e = .returned (.tuple #[.int .i64 (countT T left).1, .int .i64 (countT T left).2]) ∧ Below w.heap.size w w' := by
  refine DT.ind fun d nm pa ih => ?_
  intro left w hD hl0 hl1
  by_cases hg : great d.k = true
  case neg =>
    have hg' : great d.k = false := by simpa using hg
    have := count_leaf d left w (great_no hg') (by omega) (by omega)
    rw [countT, hg', if_neg (by decide)]
    exact this
  have h18 := great_iff.1 hg
  have PA := hid (fun W => parts_great d W h18)
  have HT : Hid (countT (.mk d nm pa) left = countL pa (left - 1) 0) := hid (by rw [countT, hg, if_pos rfl, show txtN d = 0 by unfold txtN; rw [if_neg (by omega)]])
  have g1 : (d.k == 16) = false := by simp; omega
  have g2 : (d.k == 17) = false := by simp; omega
  obtain ⟨hAn, hA⟩ := hD.args
  have HA := hid hA
  have HD := hid hD.each
  have HL := hid hD.len
  obtain ⟨m, hm⟩ : ∃ m, pa.length = m := ⟨_, rfl⟩
  have HM := hid hm
  have hAm : d.pa.n = m := by rw [hAn, List.length_map, hm]
  have hmz : m ≤ 140737488355328 := by rw [← hm]; exact HL.out
  have IH := hid ih
  obtain ⟨k, ty, b, im, t, nms, ⟨Aa, na, capa⟩, hk⟩ := d
  simp only at *
  subst hAm
  have PA := hid (show ∀ W, Calls Tryz.prog 121 #[.agg (deV ⟨k, ty, b, im, t, nms, ⟨Aa, na, capa⟩, hk⟩)] W fun e w' => e = .returned (.slice Aa na capa) ∧ Below W.heap.size W w' from PA.out)
  obtain ⟨R, hR⟩ : ∃ R, countL pa (left - 1) 0 = R := ⟨_, rfl⟩
  rw [HT.out, hR]
  have HR0 := hid hR
  have wd0 : -1000000 ≤ left - 1 := by omega
  clear hg hD hA hAn ih hm hR HL h18
  show Calls Tryz.prog _ #[.agg (deV ⟨k, ty, b, im, t, nms, ⟨Aa, na, capa⟩, hk⟩), .int .i64 left] w _
  go_enter Tryz.func90, Tryz.ntmps90
  go_wp2_with ((refine (PA.out _).mono ?_); rintro e w1 ⟨rfl, hb⟩)
  have B0 := hid (box_below hb).1
  clear hb
  go_loopw [1, 6, 27] (fun lv tv iv wr => ∃ (i : Nat) (L t : Int), iv = .int .i64 i ∧ i ≤ na ∧ lv = .int .i64 L ∧ tv = .int .i64 t ∧ -1 ≤ L ∧ L ≤ 1000000 ∧ Hid (countL (pa.drop i) L t = R) ∧ Hid (Below w.heap.size w wr)) (fun _ _ iv _ => na - (intOf iv).toNat)
  case atStart => exact ⟨0, left - 1, 0, rfl, Nat.zero_le _, rfl, rfl, by omega, by omega, HR0, B0⟩
  case round =>
    obtain ⟨i, L, t1, rfl, hi, rfl, rfl, hL0, hL1, hk1, BI⟩ := hrel
    by_cases him : i < na
    · obtain ⟨x, hx⟩ : ∃ x, pa[i]? = some x := ⟨_, List.getElem?_eq_getElem (by rw [HM.out]; exact him)⟩
      have hxm : x ∈ pa := List.mem_of_getElem? hx
      have hxd : (pa.map DT.de)[i]? = some x.de := by rw [List.getElem?_map, hx]; rfl
      have hne : pa.map DT.de ≠ [] := by intro e; rw [e] at hxd; simp at hxd
      obtain ⟨g, o, rfl, hg, hc⟩ := HA.out hne
      have HCL := hid (fun (j : Nat) v (hv : (deV x.de)[j]? = some v) => show wr.cell? ⟨g, o + i * 8 + j, none⟩ = some v from (BI.out.cell (p := ⟨g, o + i * 8 + j, none⟩) hg).trans (hc i x.de hxd j v hv))
      have IX := hid (IH.out x hxm)
      have DX := hid (HD.out x hxm)
      have HK1 := hid (show countL (x :: pa.drop (i + 1)) L t1 = R by rw [← drop_cons hx]; exact hk1.out)
      clear hx hxm hxd hc hg hne hk1
      go_upto_region 7 with fail
      refine wp_region_list ?_
      refine wpList_plain rfl fun K hK => ?_
      have HK := hid hK
      clear hK
      go_wp2_with fail
      refine HK.out _ _ ?_
      clear HK
      refine wpList_load_mid rfl 29 (.tmp 29) rfl g (o + i * 8) rfl (deV x.de).toList _ (fun j v hv => HCL.out j v (by simpa using hv)) Tryz.underlying29 rfl desc_size ?_
      refine wpList_plain rfl fun K hK => ?_
      have HK := hid hK
      clear hK
      go_wp2_with fail
      refine HK.out _ _ ?_
      clear HK
      have hG := Blk.new wr de0 29
      refine wpList_store_rowTo rfl 29 _ _ rfl rfl wr.heap.size (deV x.de) rfl rfl 29 de0 hG desc_size rfl (deV_one _) ?_
      have hG2 := hG.setRow (deV x.de)
      have b3 : Below wr.heap.size wr ((wr.alloc (.cells de0 29)).setRow wr.heap.size (deV x.de)) := below_setRow ((Below.refl _ _).alloc (Nat.le_refl _) _) wr.heap.size (Nat.le_refl _) _
      obtain ⟨W3, hW3⟩ : ∃ W3, (wr.alloc (.cells de0 29)).setRow wr.heap.size (deV x.de) = W3 := ⟨_, rfl⟩
      rw [hW3] at hG2 b3 ⊢
      obtain ⟨G, hGG⟩ : ∃ G, wr.heap.size = G := ⟨_, rfl⟩
      rw [hGG] at hG2 ⊢
      have B3 := hid (BI.out.trans (b3.mono BI.out.size))
      have e0 := hG2.cell 0
      have e1 := hG2.cell 1
      have e2 := hG2.cell 2
      have e3 := hG2.cell 3
      have e4 := hG2.cell 4
      have e5 := hG2.cell 5
      have e6 := hG2.cell 6
      have e7 := hG2.cell 7
      clear hG hG2 hW3 hGG b3 HCL BI
      refine wpList_nil ?_
      by_cases hneg : L < 0
      · go_wp2_with fail
        have hr := HK1.out
        rw [countL, if_pos hneg] at hr
        go_ret2
        rw [← hr]
        exact ⟨rfl, B3.out⟩
      · have hcx := countT_le x L (by omega)
        have hr := HK1.out
        rw [countL, if_neg hneg] at hr
        have C1 := hid (IX.out L W3 (DX.out.keep B3.out) (by omega) hL1)
        obtain ⟨⟨L2, t2⟩, hc2⟩ : ∃ c, countT x L = c := ⟨_, rfl⟩
        rw [hc2] at hcx hr C1
        simp only at hcx hr
        have HR2 := hid hr
        clear hr hc2
        go_wp2_with fail
        refine C1.out.mono ?_
        rintro e w4 ⟨rfl, hb4⟩
        have B4 := hid (B3.out.trans (hb4.mono B3.out.size))
        clear hb4 e0 e1 e2 e3 e4 e5 e6 e7
        go_wp2_with fail
        go_roundw
        case rel => exact ⟨i + 1, L2, max t1 t2, by go_num, by omega, rfl, rfl, by omega, by omega, HR2, B4⟩
        case measure => simp [intOf]; omega
    · obtain rfl : i = na := by omega
      have hr := hk1.out
      rw [List.drop_eq_nil_of_le (by rw [HM.out]; exact Nat.le_refl _), countL] at hr
      go_wp2_with fail
      go_ret2
      rw [← hr]
      exact ⟨rfl, BI.out⟩
set_option maxRecDepth 100000 in
set_option maxHeartbeats 4000000 in
theorem vdepth_any : ∀ (T : DT) (w : World), DtAt w T → depthT T ≤ 1000000 → Calls Tryz.prog 92 #[.agg (deV T.de)] w fun e w' => e = .returned (.int .i64 (depthT T)) ∧ Below w.heap.size w w' := by
  refine DT.ind fun d nm pa ih => ?_
  intro w hD hz
  by_cases hg : great d.k = true
  case neg =>
    have hg' : great d.k = false := by simpa using hg
    have := depth_leaf d w (great_no hg')
    rw [depthT, hg', if_neg (by decide)]
    exact this
  have h18 := great_iff.1 hg
  have PA := hid (fun W => parts_great d W h18)
  have HT : Hid (depthT (.mk d nm pa) = depthL pa 0 + 1) := hid (by rw [depthT, hg, if_pos rfl])
  obtain ⟨hAn, hA⟩ := hD.args
  have HA := hid hA
  have HD := hid hD.each
  have HL := hid hD.len
  obtain ⟨m, hm⟩ : ∃ m, pa.length = m := ⟨_, rfl⟩
  have HM := hid hm
  have hAm : d.pa.n = m := by rw [hAn, List.length_map, hm]
  have hmz : m ≤ 140737488355328 := by rw [← hm]; exact HL.out
  have IH := hid ih
  obtain ⟨k, ty, b, im, t, nms, ⟨Aa, na, capa⟩, hk⟩ := d
  simp only at *
  subst hAm
  have PA := hid (show ∀ W, Calls Tryz.prog 121 #[.agg (deV ⟨k, ty, b, im, t, nms, ⟨Aa, na, capa⟩, hk⟩)] W fun e w' => e = .returned (.slice Aa na capa) ∧ Below W.heap.size W w' from PA.out)
  obtain ⟨R, hR⟩ : ∃ R, depthL pa 0 = R := ⟨_, rfl⟩
  rw [HT.out, hR] at hz ⊢
  have HR0 := hid hR
  have HZ := hid hz
  clear hg hD hA hAn ih hm hR HL h18
  show Calls Tryz.prog _ #[.agg (deV ⟨k, ty, b, im, t, nms, ⟨Aa, na, capa⟩, hk⟩)] w _
  go_enter Tryz.func92, Tryz.ntmps92
  go_wp2_with ((refine (PA.out _).mono ?_); rintro e w1 ⟨rfl, hb⟩)
  have B0 := hid (box_below hb).1
  clear hb
  go_loopw [3, 9] (fun nv iv wr => ∃ (i : Nat) (n : Int), iv = .int .i64 i ∧ i ≤ na ∧ nv = .int .i64 n ∧ 0 ≤ n ∧ Hid (depthL (pa.drop i) n = R) ∧ Hid (Below w.heap.size w wr)) (fun _ iv _ => na - (intOf iv).toNat)
  case atStart => exact ⟨0, 0, rfl, Nat.zero_le _, rfl, Int.le_refl _, HR0, B0⟩
  case round =>
    obtain ⟨i, n, rfl, hi, rfl, hn0, hk1, BI⟩ := hrel
    by_cases him : i < na
    · obtain ⟨x, hx⟩ : ∃ x, pa[i]? = some x := ⟨_, List.getElem?_eq_getElem (by rw [HM.out]; exact him)⟩
      have hxm : x ∈ pa := List.mem_of_getElem? hx
      have hxd : (pa.map DT.de)[i]? = some x.de := by rw [List.getElem?_map, hx]; rfl
      have hne : pa.map DT.de ≠ [] := by intro e; rw [e] at hxd; simp at hxd
      obtain ⟨g, o, rfl, hg, hc⟩ := HA.out hne
      have HCL := hid (fun (j : Nat) v (hv : (deV x.de)[j]? = some v) => show wr.cell? ⟨g, o + i * 8 + j, none⟩ = some v from (BI.out.cell (p := ⟨g, o + i * 8 + j, none⟩) hg).trans (hc i x.de hxd j v hv))
      have IX := hid (IH.out x hxm)
      have DX := hid (HD.out x hxm)
      have HK1 := hid (show depthL (x :: pa.drop (i + 1)) n = R by rw [← drop_cons hx]; exact hk1.out)
      clear hx hxm hxd hc hg hne hk1
      go_upto_region 4 with fail
      refine wp_region_list ?_
      refine wpList_plain rfl fun K hK => ?_
      have HK := hid hK
      clear hK
      go_wp2_with fail
      refine HK.out _ _ ?_
      clear HK
      refine wpList_load_mid rfl 29 (.tmp 11) rfl g (o + i * 8) rfl (deV x.de).toList _ (fun j v hv => HCL.out j v (by simpa using hv)) Tryz.underlying29 rfl desc_size ?_
      refine wpList_plain rfl fun K hK => ?_
      have HK := hid hK
      clear hK
      go_wp2_with fail
      refine HK.out _ _ ?_
      clear HK
      have hG := Blk.new wr de0 29
      refine wpList_store_rowTo rfl 29 _ _ rfl rfl wr.heap.size (deV x.de) rfl rfl 29 de0 hG desc_size rfl (deV_one _) ?_
      have hG2 := hG.setRow (deV x.de)
      have b3 : Below wr.heap.size wr ((wr.alloc (.cells de0 29)).setRow wr.heap.size (deV x.de)) := below_setRow ((Below.refl _ _).alloc (Nat.le_refl _) _) wr.heap.size (Nat.le_refl _) _
      obtain ⟨W3, hW3⟩ : ∃ W3, (wr.alloc (.cells de0 29)).setRow wr.heap.size (deV x.de) = W3 := ⟨_, rfl⟩
      rw [hW3] at hG2 b3 ⊢
      obtain ⟨G, hGG⟩ : ∃ G, wr.heap.size = G := ⟨_, rfl⟩
      rw [hGG] at hG2 ⊢
      have B3 := hid (BI.out.trans (b3.mono BI.out.size))
      have e0 := hG2.cell 0
      have e1 := hG2.cell 1
      have e2 := hG2.cell 2
      have e3 := hG2.cell 3
      have e4 := hG2.cell 4
      have e5 := hG2.cell 5
      have e6 := hG2.cell 6
      have e7 := hG2.cell 7
      clear hG hG2 hW3 hGG b3 HCL BI
      refine wpList_nil ?_
      have hr := HK1.out
      rw [depthL] at hr
      have C1 := hid (IX.out W3 (DX.out.keep B3.out) (by have := depthL_ge (pa.drop (i + 1)) (max n (depthT x)); have := HZ.out; omega))
      obtain ⟨n2, hc2⟩ : ∃ c, depthT x = c := ⟨_, rfl⟩
      rw [hc2] at hr C1
      have HR2 := hid hr
      clear hr hc2
      go_wp2_with fail
      refine C1.out.mono ?_
      rintro e w4 ⟨rfl, hb4⟩
      have B4 := hid (B3.out.trans (hb4.mono B3.out.size))
      clear hb4 e0 e1 e2 e3 e4 e5 e6 e7
      go_wp2_with fail
      go_roundw
      case rel => exact ⟨i + 1, max n n2, by go_num, by omega, rfl, by omega, HR2, B4⟩
      case measure => simp [intOf]; omega
    · obtain rfl : i = na := by omega
      have hr := hk1.out
      rw [List.drop_eq_nil_of_le (by rw [HM.out]; exact Nat.le_refl _), depthL] at hr
      subst hr
      have hz1 := HZ.out
      go_wp2_with fail
      go_ret
      exact ⟨rfl, BI.out⟩


abbrev badE (e : Int) : Ending := .panicked [{ v := .iface 157 (.agg #[.int .i64 e]), recovered := false }]

set_option maxRecDepth 100000 in
set_option maxHeartbeats 4000000 in
theorem veach_any2 (p : DT → Bool) : ∀ (T : DT) (w0 w : World), DtAt w T → Below w0.heap.size w0 w → (∀ (x : DT), Sub x T → ∀ W, Below w0.heap.size w0 W → DtAt W x → Calls Tryz.prog 94 #[.agg (deV x.de)] W fun e w' => e = (if p x then .returned (.tuple #[]) else badE 3) ∧ Below W.heap.size W w') →
    Calls Tryz.prog 93 #[.agg (deV T.de), .func (.func 94) #[] #[]] w fun e w' => e = (if allT p T then .returned (.tuple #[]) else badE 3) ∧ Below w.heap.size w w' := by
  refine DT.ind fun d nm pa ih => ?_
  intro w0 w hD hw0 hAS
  have AS := hid (hAS (.mk d nm pa) (.refl _) w hw0 hD)
  have B00 := hid hw0
  have HD0 := hid hD
  have PA : Hid (∀ W, Calls Tryz.prog 121 #[.agg (deV d)] W fun e w' => e = .returned (if great d.k then slV d.pa else sliceN) ∧ Below W.heap.size W w') := hid fun W => by
    by_cases hg : great d.k = true
    · rw [if_pos hg]; exact parts_great d W (great_iff.1 hg)
    · rw [if_neg hg]; exact parts_leaf d W (great_no (by simpa using hg))
  have HT : Hid (allT p (.mk d nm pa) = (p (.mk d nm pa) && (!great d.k || allL p pa))) := hid (by rw [allT])
  obtain ⟨hAn, hA⟩ := hD.args
  have HA := hid hA
  have HD := hid hD.each
  have HL := hid hD.len
  obtain ⟨m, hm⟩ : ∃ m, pa.length = m := ⟨_, rfl⟩
  have HM := hid hm
  have hAm : d.pa.n = m := by rw [hAn, List.length_map, hm]
  have hmz : m ≤ 140737488355328 := by rw [← hm]; exact HL.out
  have IH := hid ih
  have AQ := hid hAS
  have B0 := hid ((Below.refl w.heap.size w).alloc (Nat.le_refl _) (.cells (deV d) 29))
  have A0 := hid (Blk.new w (deV d) 29)
  obtain ⟨k, ty, b, im, t, nms, ⟨Aa, na, capa⟩, hk⟩ := d
  simp only at *
  subst hAm
  have PA := hid (show ∀ W, Calls Tryz.prog 121 #[.agg (deV ⟨k, ty, b, im, t, nms, ⟨Aa, na, capa⟩, hk⟩)] W fun e w' => e = .returned (if great k then .slice Aa na capa else .slice none 0 0) ∧ Below W.heap.size W w' from PA.out)
  rw [HT.out]
  obtain ⟨q, hq⟩ : ∃ q, p (.mk ⟨k, ty, b, im, t, nms, ⟨Aa, na, capa⟩, hk⟩ nm pa) = q := ⟨_, rfl⟩
  rw [hq] at AS ⊢
  have AS0 := hid (hAS (.mk ⟨k, ty, b, im, t, nms, ⟨Aa, na, capa⟩, hk⟩ nm pa) (.refl _) (w.alloc (.cells (deV ⟨k, ty, b, im, t, nms, ⟨Aa, na, capa⟩, hk⟩) 29)) (hw0.trans (B0.out.mono hw0.size)) (HD0.out.keep B0.out))
  rw [hq] at AS0
  obtain ⟨gg, hgg⟩ : ∃ gg, great k = gg := ⟨_, rfl⟩
  rw [hgg] at PA ⊢
  obtain ⟨R, hR⟩ : ∃ R, allL p pa = R := ⟨_, rfl⟩
  have HR0 := hid hR
  rw [hR]
  clear hD hA hAn ih hm HL hq hAS AS HT hgg hw0 hR
  show Calls Tryz.prog _ #[.agg (deV ⟨k, ty, b, im, t, nms, ⟨Aa, na, capa⟩, hk⟩), _] w _
  go_enter Tryz.func93, Tryz.ntmps93
  go_wp2_with fail
  cases q
  · refine AS0.out.mono ?_
    rintro e w1 ⟨rfl, hb⟩
    have B1 := hid (B0.out.trans (hb.mono B0.out.size))
    go_wp2_with fail
    exact ⟨rfl, rfl, B1.out⟩
  · refine AS0.out.mono ?_
    rintro e w1 ⟨rfl, hb⟩
    have B1 := hid (B0.out.trans (hb.mono B0.out.size))
    have hA1 := A0.out.below hb A0.out.lt
    obtain ⟨B, hB⟩ : ∃ B, w.heap.size = B := ⟨_, rfl⟩
    rw [hB] at hA1 ⊢
    have e0 := hA1.cell 0
    have e1 := hA1.cell 1
    have e2 := hA1.cell 2
    have e3 := hA1.cell 3
    have e4 := hA1.cell 4
    have e5 := hA1.cell 5
    have e6 := hA1.cell 6
    have e7 := hA1.cell 7
    clear hb hA1 AS0 A0 B0 hB
    go_wp2_with fail
    cases gg
    · refine (PA.out _).mono ?_
      rintro e w2 ⟨rfl, hb⟩
      have B2 := hid (B1.out.trans (hb.mono B1.out.size))
      clear hb e0 e1 e2 e3 e4 e5 e6 e7
      go_wp2_with fail
      refine wp_loop_rounds 1 ?_
      repeat (rw [rounds_succ]; go_wp2_with fail)
      go_end0
      exact ⟨rfl, B2.out⟩
    · refine (PA.out _).mono ?_
      rintro e w2 ⟨rfl, hb⟩
      have B2 := hid (B1.out.trans (hb.mono B1.out.size))
      clear hb e0 e1 e2 e3 e4 e5 e6 e7 PA
      go_wp2_with fail
      go_loopw [12] (fun iv wr => ∃ (i : Nat), iv = .int .i64 i ∧ i ≤ na ∧ Hid (allL p (pa.drop i) = R) ∧ Hid (Below w.heap.size w wr)) (fun iv _ => na - (intOf iv).toNat)
      case atStart => exact ⟨0, rfl, Nat.zero_le _, HR0, B2⟩
      case round =>
        obtain ⟨i, rfl, hi, hk1, BI⟩ := hrel
        by_cases him : i < na
        · obtain ⟨x, hx⟩ : ∃ x, pa[i]? = some x := ⟨_, List.getElem?_eq_getElem (by rw [HM.out]; exact him)⟩
          have hxm : x ∈ pa := List.mem_of_getElem? hx
          have hxd : (pa.map DT.de)[i]? = some x.de := by rw [List.getElem?_map, hx]; rfl
          have hne : pa.map DT.de ≠ [] := by intro e; rw [e] at hxd; simp at hxd
          obtain ⟨g, o, rfl, hg, hc⟩ := HA.out hne
          have HCL := hid (fun (j : Nat) v (hv : (deV x.de)[j]? = some v) => show wr.cell? ⟨g, o + i * 8 + j, none⟩ = some v from (BI.out.cell (p := ⟨g, o + i * 8 + j, none⟩) hg).trans (hc i x.de hxd j v hv))
          have IX := hid (IH.out x hxm)
          have DX := hid (HD.out x hxm)
          have AX := hid (fun y (hy : Sub y x) => AQ.out y (.step hy hxm))
          have HK1 := hid (show allL p (x :: pa.drop (i + 1)) = R by rw [← drop_cons hx]; exact hk1.out)
          clear hx hxm hxd hc hg hne hk1
          go_upto_region 4 with fail
          refine wp_region_list ?_
          refine wpList_plain rfl fun K hK => ?_
          have HK := hid hK
          clear hK
          go_wp2_with fail
          refine HK.out _ _ ?_
          clear HK
          refine wpList_load_mid rfl 29 (.tmp 14) rfl g (o + i * 8) rfl (deV x.de).toList _ (fun j v hv => HCL.out j v (by simpa using hv)) Tryz.underlying29 rfl desc_size ?_
          refine wpList_plain rfl fun K hK => ?_
          have HK := hid hK
          clear hK
          go_wp2_with fail
          refine HK.out _ _ ?_
          clear HK
          have hG := Blk.new wr de0 29
          refine wpList_store_rowTo rfl 29 _ _ rfl rfl wr.heap.size (deV x.de) rfl rfl 29 de0 hG desc_size rfl (deV_one _) ?_
          have hG2 := hG.setRow (deV x.de)
          have b3 : Below wr.heap.size wr ((wr.alloc (.cells de0 29)).setRow wr.heap.size (deV x.de)) := below_setRow ((Below.refl _ _).alloc (Nat.le_refl _) _) wr.heap.size (Nat.le_refl _) _
          obtain ⟨W3, hW3⟩ : ∃ W3, (wr.alloc (.cells de0 29)).setRow wr.heap.size (deV x.de) = W3 := ⟨_, rfl⟩
          rw [hW3] at hG2 b3 ⊢
          obtain ⟨G, hGG⟩ : ∃ G, wr.heap.size = G := ⟨_, rfl⟩
          rw [hGG] at hG2 ⊢
          have B3 := hid (BI.out.trans (b3.mono BI.out.size))
          have e0 := hG2.cell 0
          have e1 := hG2.cell 1
          have e2 := hG2.cell 2
          have e3 := hG2.cell 3
          have e4 := hG2.cell 4
          have e5 := hG2.cell 5
          have e6 := hG2.cell 6
          have e7 := hG2.cell 7
          clear hG hG2 hW3 hGG b3 HCL BI
          refine wpList_nil ?_
          have hr := HK1.out
          rw [allL] at hr
          have C1 := hid (IX.out w0 W3 (DX.out.keep B3.out) (B00.out.trans (B3.out.mono B00.out.size)) AX.out)
          obtain ⟨n2, hc2⟩ : ∃ c, allT p x = c := ⟨_, rfl⟩
          rw [hc2] at hr C1
          have HR2 := hid hr
          clear hr hc2
          go_wp2_with fail
          cases n2
          · refine C1.out.mono ?_
            rintro e w4 ⟨rfl, hb4⟩
            have B4 := hid (B3.out.trans (hb4.mono B3.out.size))
            have := HR2.out
            rw [Bool.false_and] at this
            subst this
            go_wp2_with fail
            exact ⟨rfl, rfl, B4.out⟩
          · refine C1.out.mono ?_
            rintro e w4 ⟨rfl, hb4⟩
            have B4 := hid (B3.out.trans (hb4.mono B3.out.size))
            have HR3 := hid (show allL p (pa.drop (i + 1)) = R by rw [← HR2.out, Bool.true_and])
            clear hb4 e0 e1 e2 e3 e4 e5 e6 e7
            go_wp2_with fail
            go_roundw
            case rel => exact ⟨i + 1, by go_num, by omega, HR3, B4⟩
            case measure => simp [intOf]; omega
        · obtain rfl : i = na := by omega
          have hr := hk1.out
          rw [List.drop_eq_nil_of_le (by rw [HM.out]; exact Nat.le_refl _), allL] at hr
          subst hr
          go_wp2_with fail
          go_end0
          exact ⟨rfl, BI.out⟩


set_option maxRecDepth 100000 in
set_option maxHeartbeats 4000000 in
theorem veach_any3 (p : DT → Bool) : ∀ (T : DT) (w0 w : World), DtAt w T → Below w0.heap.size w0 w → (∀ (x : DT), Sub x T → ∀ W, Below w0.heap.size w0 W → DtAt W x → Calls Tryz.prog 95 #[.agg (deV x.de)] W fun e w' => e = (if p x then .returned (.tuple #[]) else badE 4) ∧ Below W.heap.size W w') →
    Calls Tryz.prog 93 #[.agg (deV T.de), .func (.func 95) #[] #[]] w fun e w' => e = (if allT p T then .returned (.tuple #[]) else badE 4) ∧ Below w.heap.size w w' := by
  refine DT.ind fun d nm pa ih => ?_
  intro w0 w hD hw0 hAS
  have AS := hid (hAS (.mk d nm pa) (.refl _) w hw0 hD)
  have B00 := hid hw0
  have HD0 := hid hD
  have PA : Hid (∀ W, Calls Tryz.prog 121 #[.agg (deV d)] W fun e w' => e = .returned (if great d.k then slV d.pa else sliceN) ∧ Below W.heap.size W w') := hid fun W => by
    by_cases hg : great d.k = true
    · rw [if_pos hg]; exact parts_great d W (great_iff.1 hg)
    · rw [if_neg hg]; exact parts_leaf d W (great_no (by simpa using hg))
  have HT : Hid (allT p (.mk d nm pa) = (p (.mk d nm pa) && (!great d.k || allL p pa))) := hid (by rw [allT])
  obtain ⟨hAn, hA⟩ := hD.args
  have HA := hid hA
  have HD := hid hD.each
  have HL := hid hD.len
  obtain ⟨m, hm⟩ : ∃ m, pa.length = m := ⟨_, rfl⟩
  have HM := hid hm
  have hAm : d.pa.n = m := by rw [hAn, List.length_map, hm]
  have hmz : m ≤ 140737488355328 := by rw [← hm]; exact HL.out
  have IH := hid ih
  have AQ := hid hAS
  have B0 := hid ((Below.refl w.heap.size w).alloc (Nat.le_refl _) (.cells (deV d) 29))
  have A0 := hid (Blk.new w (deV d) 29)
  obtain ⟨k, ty, b, im, t, nms, ⟨Aa, na, capa⟩, hk⟩ := d
  simp only at *
  subst hAm
  have PA := hid (show ∀ W, Calls Tryz.prog 121 #[.agg (deV ⟨k, ty, b, im, t, nms, ⟨Aa, na, capa⟩, hk⟩)] W fun e w' => e = .returned (if great k then .slice Aa na capa else .slice none 0 0) ∧ Below W.heap.size W w' from PA.out)
  rw [HT.out]
  obtain ⟨q, hq⟩ : ∃ q, p (.mk ⟨k, ty, b, im, t, nms, ⟨Aa, na, capa⟩, hk⟩ nm pa) = q := ⟨_, rfl⟩
  rw [hq] at AS ⊢
  have AS0 := hid (hAS (.mk ⟨k, ty, b, im, t, nms, ⟨Aa, na, capa⟩, hk⟩ nm pa) (.refl _) (w.alloc (.cells (deV ⟨k, ty, b, im, t, nms, ⟨Aa, na, capa⟩, hk⟩) 29)) (hw0.trans (B0.out.mono hw0.size)) (HD0.out.keep B0.out))
  rw [hq] at AS0
  obtain ⟨gg, hgg⟩ : ∃ gg, great k = gg := ⟨_, rfl⟩
  rw [hgg] at PA ⊢
  obtain ⟨R, hR⟩ : ∃ R, allL p pa = R := ⟨_, rfl⟩
  have HR0 := hid hR
  rw [hR]
  clear hD hA hAn ih hm HL hq hAS AS HT hgg hw0 hR
  show Calls Tryz.prog _ #[.agg (deV ⟨k, ty, b, im, t, nms, ⟨Aa, na, capa⟩, hk⟩), _] w _
  go_enter Tryz.func93, Tryz.ntmps93
  go_wp2_with fail
  cases q
  · refine AS0.out.mono ?_
    rintro e w1 ⟨rfl, hb⟩
    have B1 := hid (B0.out.trans (hb.mono B0.out.size))
    go_wp2_with fail
    exact ⟨rfl, rfl, B1.out⟩
  · refine AS0.out.mono ?_
    rintro e w1 ⟨rfl, hb⟩
    have B1 := hid (B0.out.trans (hb.mono B0.out.size))
    have hA1 := A0.out.below hb A0.out.lt
    obtain ⟨B, hB⟩ : ∃ B, w.heap.size = B := ⟨_, rfl⟩
    rw [hB] at hA1 ⊢
    have e0 := hA1.cell 0
    have e1 := hA1.cell 1
    have e2 := hA1.cell 2
    have e3 := hA1.cell 3
    have e4 := hA1.cell 4
    have e5 := hA1.cell 5
    have e6 := hA1.cell 6
    have e7 := hA1.cell 7
    clear hb hA1 AS0 A0 B0 hB
    go_wp2_with fail
    cases gg
    · refine (PA.out _).mono ?_
      rintro e w2 ⟨rfl, hb⟩
      have B2 := hid (B1.out.trans (hb.mono B1.out.size))
      clear hb e0 e1 e2 e3 e4 e5 e6 e7
      go_wp2_with fail
      refine wp_loop_rounds 1 ?_
      repeat (rw [rounds_succ]; go_wp2_with fail)
      go_end0
      exact ⟨rfl, B2.out⟩
    · refine (PA.out _).mono ?_
      rintro e w2 ⟨rfl, hb⟩
      have B2 := hid (B1.out.trans (hb.mono B1.out.size))
      clear hb e0 e1 e2 e3 e4 e5 e6 e7 PA
      go_wp2_with fail
      go_loopw [12] (fun iv wr => ∃ (i : Nat), iv = .int .i64 i ∧ i ≤ na ∧ Hid (allL p (pa.drop i) = R) ∧ Hid (Below w.heap.size w wr)) (fun iv _ => na - (intOf iv).toNat)
      case atStart => exact ⟨0, rfl, Nat.zero_le _, HR0, B2⟩
      case round =>
        obtain ⟨i, rfl, hi, hk1, BI⟩ := hrel
        by_cases him : i < na
        · obtain ⟨x, hx⟩ : ∃ x, pa[i]? = some x := ⟨_, List.getElem?_eq_getElem (by rw [HM.out]; exact him)⟩
          have hxm : x ∈ pa := List.mem_of_getElem? hx
          have hxd : (pa.map DT.de)[i]? = some x.de := by rw [List.getElem?_map, hx]; rfl
          have hne : pa.map DT.de ≠ [] := by intro e; rw [e] at hxd; simp at hxd
          obtain ⟨g, o, rfl, hg, hc⟩ := HA.out hne
          have HCL := hid (fun (j : Nat) v (hv : (deV x.de)[j]? = some v) => show wr.cell? ⟨g, o + i * 8 + j, none⟩ = some v from (BI.out.cell (p := ⟨g, o + i * 8 + j, none⟩) hg).trans (hc i x.de hxd j v hv))
          have IX := hid (IH.out x hxm)
          have DX := hid (HD.out x hxm)
          have AX := hid (fun y (hy : Sub y x) => AQ.out y (.step hy hxm))
          have HK1 := hid (show allL p (x :: pa.drop (i + 1)) = R by rw [← drop_cons hx]; exact hk1.out)
          clear hx hxm hxd hc hg hne hk1
          go_upto_region 4 with fail
          refine wp_region_list ?_
          refine wpList_plain rfl fun K hK => ?_
          have HK := hid hK
          clear hK
          go_wp2_with fail
          refine HK.out _ _ ?_
          clear HK
          refine wpList_load_mid rfl 29 (.tmp 14) rfl g (o + i * 8) rfl (deV x.de).toList _ (fun j v hv => HCL.out j v (by simpa using hv)) Tryz.underlying29 rfl desc_size ?_
          refine wpList_plain rfl fun K hK => ?_
          have HK := hid hK
          clear hK
          go_wp2_with fail
          refine HK.out _ _ ?_
          clear HK
          have hG := Blk.new wr de0 29
          refine wpList_store_rowTo rfl 29 _ _ rfl rfl wr.heap.size (deV x.de) rfl rfl 29 de0 hG desc_size rfl (deV_one _) ?_
          have hG2 := hG.setRow (deV x.de)
          have b3 : Below wr.heap.size wr ((wr.alloc (.cells de0 29)).setRow wr.heap.size (deV x.de)) := below_setRow ((Below.refl _ _).alloc (Nat.le_refl _) _) wr.heap.size (Nat.le_refl _) _
          obtain ⟨W3, hW3⟩ : ∃ W3, (wr.alloc (.cells de0 29)).setRow wr.heap.size (deV x.de) = W3 := ⟨_, rfl⟩
          rw [hW3] at hG2 b3 ⊢
          obtain ⟨G, hGG⟩ : ∃ G, wr.heap.size = G := ⟨_, rfl⟩
          rw [hGG] at hG2 ⊢
          have B3 := hid (BI.out.trans (b3.mono BI.out.size))
          have e0 := hG2.cell 0
          have e1 := hG2.cell 1
          have e2 := hG2.cell 2
          have e3 := hG2.cell 3
          have e4 := hG2.cell 4
          have e5 := hG2.cell 5
          have e6 := hG2.cell 6
          have e7 := hG2.cell 7
          clear hG hG2 hW3 hGG b3 HCL BI
          refine wpList_nil ?_
          have hr := HK1.out
          rw [allL] at hr
          have C1 := hid (IX.out w0 W3 (DX.out.keep B3.out) (B00.out.trans (B3.out.mono B00.out.size)) AX.out)
          obtain ⟨n2, hc2⟩ : ∃ c, allT p x = c := ⟨_, rfl⟩
          rw [hc2] at hr C1
          have HR2 := hid hr
          clear hr hc2
          go_wp2_with fail
          cases n2
          · refine C1.out.mono ?_
            rintro e w4 ⟨rfl, hb4⟩
            have B4 := hid (B3.out.trans (hb4.mono B3.out.size))
            have := HR2.out
            rw [Bool.false_and] at this
            subst this
            go_wp2_with fail
            exact ⟨rfl, rfl, B4.out⟩
          · refine C1.out.mono ?_
            rintro e w4 ⟨rfl, hb4⟩
            have B4 := hid (B3.out.trans (hb4.mono B3.out.size))
            have HR3 := hid (show allL p (pa.drop (i + 1)) = R by rw [← HR2.out, Bool.true_and])
            clear hb4 e0 e1 e2 e3 e4 e5 e6 e7
            go_wp2_with fail
            go_roundw
            case rel => exact ⟨i + 1, by go_num, by omega, HR3, B4⟩
            case measure => simp [intOf]; omega
        · obtain rfl : i = na := by omega
          have hr := hk1.out
          rw [List.drop_eq_nil_of_le (by rw [HM.out]; exact Nat.le_refl _), allL] at hr
          subst hr
          go_wp2_with fail
          go_end0
          exact ⟨rfl, BI.out⟩

end Go.Proofs.YtdjhmanccoekjaaGreatDoor
end
