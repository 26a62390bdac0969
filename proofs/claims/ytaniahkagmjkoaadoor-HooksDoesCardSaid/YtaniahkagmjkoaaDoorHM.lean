/-
  Walks of layer 11: what a method does, in all cases; the document's answers.
-/
import Derived.Test.YtaniahkagmjkoaaDoorHS
namespace Go.Proofs.YtaniahkagmjkoaaDoor
open Go.RowKit Go.Proofs

def actP (a : Ac) : Int := if a.k = 3 then 1 else 0
def actS (a : Ac) (nil : Bool) : Int := if a.k = 2 ∧ nil = false then 1 else 0
def nilS : ByteArray := ⟨#[60, 110, 105, 108, 62]⟩
def actT (a : Ac) (ds : List De) (nil : Bool) (v : Int) (name : ByteArray) : ByteArray :=
  if a.k = 1 then a.t else if a.k = 3 then printS a.f ds else if a.k = 2 then (if nil = true then nilS else panicS v name (showS a.p)) else ⟨#[]⟩
def actOk (a : Ac) : Bool := decide (a.k = 1 ∨ a.k = 3)
def askT (a : Ac) (ds : List De) (nil : Bool) : ByteArray := if a.k = 3 then printS a.f ds else if a.k = 2 ∧ nil = false then showS a.p else ⟨#[]⟩
/-- What is asked of a method that is looked at. -/
structure AcSm (W : World) (X : Nat) (a : Ac) (ds : List De) : Prop where
  f : a.f.size ≤ 4000
  pt : a.p.t.size ≤ 4000
  n : ds.length ≤ 100
  ar : ArgsAt W a.ar ds
  x : ∀ g o, a.ar.a = some ⟨g, o, none⟩ → ds ≠ [] → g ≠ X

theorem do_all (a : Ac) (ds : List De) (nil : Bool) (v : Int) (name : ByteArray) (X : Nat) (p s : Int) (W : World) (hX : AskB W X p s) (hp0 : 0 ≤ p) (hp1 : p ≤ 100) (hs0 : 0 ≤ s) (hs1 : s ≤ 100) (hn : name.size ≤ 1000) (ha : AcSm W X a ds) :
    Calls Tryd.prog 16 (doArgs a nil v name X) W fun e w' => e = .returned (.tuple #[.string (actT a ds nil v name), .bool (actOk a)]) ∧ AskB w' X (p + actP a) (s + actS a nil) ∧ Only X W w' := by
  by_cases h1 : a.k = 1
  · have e : actT a ds nil v name = a.t ∧ actOk a = true ∧ actP a = 0 ∧ actS a nil = 0 := by
      unfold actT actOk actP actS
      rw [h1]
      exact ⟨rfl, rfl, rfl, if_neg (by simp)⟩
    rw [e.1, e.2.1, e.2.2.1, e.2.2.2, Int.add_zero, Int.add_zero]
    exact do_tells a nil v name X p s W h1 hX
  by_cases h3 : a.k = 3
  · have e : actT a ds nil v name = printS a.f ds ∧ actOk a = true ∧ actP a = 1 ∧ actS a nil = 0 := by
      unfold actT actOk actP actS
      rw [h3]
      exact ⟨rfl, rfl, rfl, if_neg (by simp)⟩
    rw [e.1, e.2.1, e.2.2.1, e.2.2.2, Int.add_zero]
    exact do_prints a nil v name X p s ds W h3 hX hp0 (by omega) (by have := ha.f; omega) ha.ar (by have := ha.n; omega) ha.x
  have ep : actP a = 0 := if_neg h3
  have eo : actOk a = false := decide_eq_false (by omega)
  rw [ep, eo, Int.add_zero]
  by_cases h2 : a.k = 2
  · cases nil
    · have e : actT a ds false v name = panicS v name (showS a.p) ∧ actS a false = 1 := by
        unfold actT actS
        rw [h2]
        exact ⟨rfl, if_pos ⟨rfl, rfl⟩⟩
      rw [e.1, e.2]
      exact do_thr a v name X p s W h2 hX hs0 (by omega) (by have := ha.pt; omega) hn
    · have e : actT a ds true v name = nilS ∧ actS a true = 0 := by
        unfold actT actS
        rw [h2]
        exact ⟨rfl, if_neg (by simp)⟩
      rw [e.1, e.2, Int.add_zero]
      exact (do_nil a v name X W h2).mono fun _ _ ⟨he, hb⟩ => ⟨he, hX.below hb hX.lt, Only.of_below hb⟩
  · have e : actT a ds nil v name = ⟨#[]⟩ ∧ actS a nil = 0 := by
      unfold actT actS
      rw [if_neg h1, if_neg h3, if_neg h2, if_neg (fun e => h2 e.1)]
      exact ⟨rfl, rfl⟩
    rw [e.1, e.2, Int.add_zero]
    exact (do_lacks a nil v name X W (decide_eq_false (by omega))).mono fun _ _ ⟨he, hb⟩ => ⟨he, hX.below hb hX.lt, Only.of_below hb⟩

def needN (a : Ac) (nil : Bool) : Int := if a.k = 3 then 1 else if a.k = 2 ∧ nil = false then 2 else 0
set_option maxRecDepth 100000 in
set_option maxHeartbeats 1000000 in
theorem need_any (a : Ac) (nil : Bool) (w : World) : Calls Tryd.prog 34 #[.agg (acV a), .bool nil] w fun e w' => e = .returned (.int .i64 (needN a nil)) ∧ Below w.heap.size w w' := by
  have hc : (w.alloc (.cells (acV a) 28)).cell? ⟨w.heap.size, 0, none⟩ = some (.int .i64 a.k) := (Blk.new w (acV a) 28).cell 0
  obtain ⟨r, hr⟩ : ∃ r, needN a nil = r := ⟨_, rfl⟩
  rw [hr]
  unfold needN at hr
  obtain ⟨k, hk⟩ : ∃ k, a.k = k := ⟨_, rfl⟩
  obtain ⟨cs, hcs⟩ : ∃ cs, acV a = cs := ⟨_, rfl⟩
  rw [hcs, hk] at hc
  rw [hcs]
  rw [hk] at hr
  clear hcs hk
  by_cases h3 : k = 3
  · subst h3
    obtain rfl : (1 : Int) = r := hr
    go_enter Tryd.func34, Tryd.ntmps34
    go_wp2_with fail
    go_ret
    exact ⟨rfl, (Below.refl _ _).alloc (Nat.le_refl _) _⟩
  · rw [if_neg h3] at hr
    have g3 : (k == 3) = false := by simpa using h3
    by_cases h2 : k = 2
    · subst h2
      cases nil
      · obtain rfl : (2 : Int) = r := hr
        clear h3
        go_enter Tryd.func34, Tryd.ntmps34
        go_wp2_with fail
        go_ret
        exact ⟨rfl, (Below.refl _ _).alloc (Nat.le_refl _) _⟩
      · obtain rfl : (0 : Int) = r := by rw [← hr]; simp
        clear h3 hr
        go_enter Tryd.func34, Tryd.ntmps34
        go_wp2_with fail
        go_ret
        exact ⟨rfl, (Below.refl _ _).alloc (Nat.le_refl _) _⟩
    · rw [if_neg (fun e => h2 e.1)] at hr
      obtain rfl : (0 : Int) = r := hr
      have g2 : (k == 2) = false := by simpa using h2
      clear h3 h2
      go_enter Tryd.func34, Tryd.ntmps34
      go_wp2_with fail
      go_ret
      exact ⟨rfl, (Below.refl _ _).alloc (Nat.le_refl _) _⟩
theorem ac_mid (a : Ac) (j : Nat) (v : Value) (hv : (deV a.p)[j]? = some v) : (acV a)[4 + j]? = some v := by
  have hj : j < 8 := by
    rcases Nat.lt_or_ge j 8 with q | q
    · exact q
    · rw [Array.getElem?_eq_none (by exact q)] at hv; cases hv
  rw [← hv]
  match j, hj with
  | 0, _ | 1, _ | 2, _ | 3, _ | 4, _ | 5, _ | 6, _ | 7, _ => rfl
set_option maxRecDepth 100000 in
set_option maxHeartbeats 1000000 in
theorem doc_print (a : Ac) (ds : List De) (nil : Bool) (Y : Nat) (p s : Int) (W : World) (h3 : a.k = 3) (hX : AskB W Y p s) (hp0 : 0 ≤ p) (hp1 : p ≤ 100) (ha : AcSm W Y a ds) :
    Calls Tryd.prog 22 #[.pointer (some ⟨Y, 0, none⟩), .agg (acV a), .bool nil] W fun e w' => e = .returned (.string (printS a.f ds)) ∧ AskB w' Y (p + 1) s ∧ Only Y W w' := by
  have ND := hid (fun W => need_any a nil W)
  rw [show needN a nil = 1 from if_pos h3] at ND
  have PR := hid (fun W' (h : Below W.heap.size W W') => print_any Y p s a.f a.ar ds W' (hX.below h hX.lt) hp0 (by omega) (by have := ha.f; omega) (ha.ar.below h) (by have := ha.n; omega) ha.x)
  clear hX ha h3
  have B0 := (Below.refl W.heap.size W).alloc (Nat.le_refl _) (.cells (acV a) 28)
  have A0 := Blk.new W (acV a) 28
  obtain ⟨B, hB⟩ : ∃ B, W.heap.size = B := ⟨_, rfl⟩
  go_enter Tryd.func22, Tryd.ntmps22
  go_upto_region 1 with fail
  obtain ⟨W0, hW0⟩ : ∃ W0, W.alloc (.cells (acV a) 28) = W0 := ⟨_, rfl⟩
  rw [hW0] at B0 A0 ⊢
  rw [hB] at A0
  have BL := hid B0
  have AL := hid A0
  clear B0 A0 hW0 hB
  refine wp_region_list ?_
  refine wpList_load_mid rfl 28 (.tmp 4) rfl B 0 rfl (acV a).toList _ (fun j v hv => by rw [Nat.zero_add, AL.out.cell]; simpa using hv) Tryd.underlying28 rfl act_size ?_
  refine wpList_plain rfl fun K hK => ?_
  have HK := hid hK
  clear hK
  go_wp2_with fail
  refine HK.out _ _ ?_
  clear HK
  refine wpList_plain rfl fun K hK => ?_
  have HK := hid hK
  clear hK
  go_wp2_with fail
  refine (ND.out _).mono ?_
  rintro e W1 ⟨rfl, hb⟩
  have BL := hid (BL.out.trans (hb.mono BL.out.size))
  have AL := hid (AL.out.below hb AL.out.lt)
  clear hb
  refine HK.out _ _ ?_
  clear HK
  refine wpList_nil ?_
  have c2 : W1.cell? ⟨B, 2, none⟩ = some (.string a.f) := AL.out.cell 2
  have c3 : W1.cell? ⟨B, 3, none⟩ = some (slV a.ar) := AL.out.cell 3
  go_wp2_with fail
  refine (PR.out W1 BL.out).mono ?_
  rintro e W2 ⟨rfl, hx, ho⟩
  have N := hid (And.intro hx ((Only.of_below BL.out : Only Y W W1).trans ho))
  clear hx ho c2 c3
  go_wp2_with fail
  go_ret
  exact ⟨rfl, N.out⟩
set_option maxRecDepth 100000 in
set_option maxHeartbeats 1000000 in
theorem doc_show (a : Ac) (Y : Nat) (p s : Int) (W : World) (h2 : a.k = 2) (hX : AskB W Y p s) (hs0 : 0 ≤ s) (hs1 : s ≤ 100) (ht : a.p.t.size ≤ 4000) :
    Calls Tryd.prog 22 #[.pointer (some ⟨Y, 0, none⟩), .agg (acV a), .bool false] W fun e w' => e = .returned (.string (showS a.p)) ∧ AskB w' Y p (s + 1) ∧ Only Y W w' := by
  have ND := hid (fun W => need_any a false W)
  rw [show needN a false = 2 by unfold needN; rw [h2]; rfl] at ND
  have SH := hid (fun W' (h : Below W.heap.size W W') => show_any Y p s a.p W' (hX.below h hX.lt) hs0 (by omega) (by omega))
  clear hX h2
  have B0 := (Below.refl W.heap.size W).alloc (Nat.le_refl _) (.cells (acV a) 28)
  have A0 := Blk.new W (acV a) 28
  obtain ⟨B, hB⟩ : ∃ B, W.heap.size = B := ⟨_, rfl⟩
  go_enter Tryd.func22, Tryd.ntmps22
  go_upto_region 1 with fail
  obtain ⟨W0, hW0⟩ : ∃ W0, W.alloc (.cells (acV a) 28) = W0 := ⟨_, rfl⟩
  rw [hW0] at B0 A0 ⊢
  rw [hB] at A0
  have BL := hid B0
  have AL := hid A0
  clear B0 A0 hW0 hB
  refine wp_region_list ?_
  refine wpList_load_mid rfl 28 (.tmp 4) rfl B 0 rfl (acV a).toList _ (fun j v hv => by rw [Nat.zero_add, AL.out.cell]; simpa using hv) Tryd.underlying28 rfl act_size ?_
  refine wpList_plain rfl fun K hK => ?_
  have HK := hid hK
  clear hK
  go_wp2_with fail
  refine HK.out _ _ ?_
  clear HK
  refine wpList_plain rfl fun K hK => ?_
  have HK := hid hK
  clear hK
  go_wp2_with fail
  refine (ND.out _).mono ?_
  rintro e W1 ⟨rfl, hb⟩
  have BL := hid (BL.out.trans (hb.mono BL.out.size))
  have AL := hid (AL.out.below hb AL.out.lt)
  clear hb
  refine HK.out _ _ ?_
  clear HK
  refine wpList_nil ?_
  go_upto_region 5 with fail
  refine wp_region_list ?_
  refine wpList_plain rfl fun K hK => ?_
  have HK := hid hK
  clear hK
  go_wp2_with fail
  refine HK.out _ _ ?_
  clear HK
  refine wpList_plain rfl fun K hK => ?_
  have HK := hid hK
  clear hK
  go_wp2_with fail
  refine HK.out _ _ ?_
  clear HK
  refine wpList_load_mid rfl 26 (.tmp 21) rfl B 4 rfl (deV a.p).toList _ (fun j v hv => by rw [AL.out.cell]; exact ac_mid a j v (by simpa using hv)) Tryd.underlying26 rfl desc_size ?_
  refine wpList_plain rfl fun K hK => ?_
  have HK := hid hK
  clear hK
  go_wp2_with fail
  refine (SH.out W1 BL.out).mono ?_
  rintro e W2 ⟨rfl, hx, ho⟩
  have N := hid (And.intro hx ((Only.of_below BL.out : Only Y W W1).trans ho))
  clear hx ho
  refine HK.out _ _ ?_
  clear HK
  refine wpList_plain rfl fun K hK => ?_
  have HK := hid hK
  clear hK
  go_wp2_with fail
  refine HK.out _ _ ?_
  clear HK
  refine wpList_nil ?_
  go_wp2_with fail
  go_ret
  exact ⟨rfl, N.out⟩
set_option maxRecDepth 100000 in
set_option maxHeartbeats 1000000 in
theorem doc_none (a : Ac) (nil : Bool) (Y : Nat) (W : World) (hn : needN a nil = 0) :
    Calls Tryd.prog 22 #[.pointer (some ⟨Y, 0, none⟩), .agg (acV a), .bool nil] W fun e w' => e = .returned (.string ⟨#[]⟩) ∧ Below W.heap.size W w' := by
  have ND := hid (fun W => need_any a nil W)
  rw [hn] at ND
  clear hn
  have B0 := (Below.refl W.heap.size W).alloc (Nat.le_refl _) (.cells (acV a) 28)
  have A0 := Blk.new W (acV a) 28
  obtain ⟨B, hB⟩ : ∃ B, W.heap.size = B := ⟨_, rfl⟩
  go_enter Tryd.func22, Tryd.ntmps22
  go_upto_region 1 with fail
  obtain ⟨W0, hW0⟩ : ∃ W0, W.alloc (.cells (acV a) 28) = W0 := ⟨_, rfl⟩
  rw [hW0] at B0 A0 ⊢
  rw [hB] at A0
  have BL := hid B0
  have AL := hid A0
  clear B0 A0 hW0 hB
  refine wp_region_list ?_
  refine wpList_load_mid rfl 28 (.tmp 4) rfl B 0 rfl (acV a).toList _ (fun j v hv => by rw [Nat.zero_add, AL.out.cell]; simpa using hv) Tryd.underlying28 rfl act_size ?_
  refine wpList_plain rfl fun K hK => ?_
  have HK := hid hK
  clear hK
  go_wp2_with fail
  refine HK.out _ _ ?_
  clear HK
  refine wpList_plain rfl fun K hK => ?_
  have HK := hid hK
  clear hK
  go_wp2_with fail
  refine (ND.out _).mono ?_
  rintro e W1 ⟨rfl, hb⟩
  have BL := hid (BL.out.trans (hb.mono BL.out.size))
  have AL := hid (AL.out.below hb AL.out.lt)
  clear hb
  refine HK.out _ _ ?_
  clear HK
  refine wpList_nil ?_
  go_wp2_with fail
  go_ret
  exact ⟨rfl, BL.out⟩
theorem doc_all (a : Ac) (ds : List De) (nil : Bool) (Y : Nat) (p s : Int) (W : World) (hX : AskB W Y p s) (hp0 : 0 ≤ p) (hp1 : p ≤ 100) (hs0 : 0 ≤ s) (hs1 : s ≤ 100) (ha : AcSm W Y a ds) :
    Calls Tryd.prog 22 #[.pointer (some ⟨Y, 0, none⟩), .agg (acV a), .bool nil] W fun e w' => e = .returned (.string (askT a ds nil)) ∧ AskB w' Y (p + actP a) (s + actS a nil) ∧ Only Y W w' := by
  by_cases h3 : a.k = 3
  · have e : askT a ds nil = printS a.f ds ∧ actP a = 1 ∧ actS a nil = 0 := by
      unfold askT actP actS
      rw [h3]
      exact ⟨rfl, rfl, if_neg (by simp)⟩
    rw [e.1, e.2.1, e.2.2, Int.add_zero]
    exact doc_print a ds nil Y p s W h3 hX hp0 hp1 ha
  have ep : actP a = 0 := if_neg h3
  rw [ep, Int.add_zero]
  by_cases h2 : a.k = 2 ∧ nil = false
  · obtain ⟨h2, rfl⟩ := h2
    have e : askT a ds false = showS a.p ∧ actS a false = 1 := by
      unfold askT actS
      rw [h2]
      exact ⟨rfl, if_pos ⟨rfl, rfl⟩⟩
    rw [e.1, e.2]
    exact doc_show a Y p s W h2 hX hs0 hs1 ha.pt
  · have e : askT a ds nil = ⟨#[]⟩ ∧ actS a nil = 0 ∧ needN a nil = 0 := by
      unfold askT actS needN
      rw [if_neg h3, if_neg h2, if_neg h2, if_neg h3, if_neg h2]
      exact ⟨rfl, rfl, rfl⟩
    rw [e.1, e.2.1, Int.add_zero]
    exact (doc_none a nil Y W e.2.2).mono fun _ _ ⟨he, hb⟩ => ⟨he, hX.below hb hX.lt, Only.of_below hb⟩

set_option maxRecDepth 100000 in
set_option maxHeartbeats 1000000 in
theorem rdo_all (a : Ac) (ds : List De) (nil : Bool) (v : Int) (name : ByteArray) (W : World) (h0 : -2147483648 ≤ v) (h1 : v ≤ 2147483647) (hn : name.size ≤ 1000) (hpt : a.p.t.size ≤ 4000) :
    Calls Tryd.prog 20 #[.agg (acV a), .bool nil, .int .i32 v, .string name, .string (askT a ds nil)] W fun e w' => e = .returned (.tuple #[.string (actT a ds nil v name), .bool (actOk a)]) ∧ Below W.heap.size W w' := by
  have hc0 : (W.alloc (.cells (acV a) 28)).cell? ⟨W.heap.size, 0, none⟩ = some (.int .i64 a.k) := (Blk.new W (acV a) 28).cell 0
  have hc1 : (W.alloc (.cells (acV a) 28)).cell? ⟨W.heap.size, 1, none⟩ = some (.string a.t) := (Blk.new W (acV a) 28).cell 1
  have hsz := showS_size a.p
  have PN := hid (fun W' => refpanic_any v h0 h1 name (showS a.p) W' (by omega) (by omega))
  have BL := hid ((Below.refl W.heap.size W).alloc (Nat.le_refl _) (.cells (acV a) 28))
  obtain ⟨R, hR⟩ : ∃ R, actT a ds nil v name = R := ⟨_, rfl⟩
  obtain ⟨ok, hok⟩ : ∃ ok, actOk a = ok := ⟨_, rfl⟩
  obtain ⟨Q, hQ⟩ : ∃ Q, askT a ds nil = Q := ⟨_, rfl⟩
  rw [hR, hok, hQ]
  unfold actT panicS at hR
  unfold actOk at hok
  unfold askT at hQ
  obtain ⟨SV, hSV⟩ : ∃ SV, showS a.p = SV := ⟨_, rfl⟩
  rw [hSV] at PN hR hQ
  obtain ⟨PS, hPS⟩ : ∃ PS, printS a.f ds = PS := ⟨_, rfl⟩
  rw [hPS] at hR hQ
  obtain ⟨k, hk⟩ : ∃ k, a.k = k := ⟨_, rfl⟩
  obtain ⟨t, ht⟩ : ∃ t, a.t = t := ⟨_, rfl⟩
  obtain ⟨cs, hcs⟩ : ∃ cs, acV a = cs := ⟨_, rfl⟩
  rw [hcs, hk] at hc0
  rw [hcs, ht] at hc1
  rw [hcs] at BL ⊢
  rw [hk] at hR hQ hok
  rw [ht] at hR
  clear hcs hk ht hSV hPS hsz hpt hn h0 h1
  by_cases k1 : k = 1
  · subst k1
    obtain rfl : t = R := hR
    obtain rfl : true = ok := hok
    clear hQ
    go_enter Tryd.func20, Tryd.ntmps20
    go_wp2_with fail
    go_ret2
    exact ⟨rfl, BL.out⟩
  have g1 : (k == 1) = false := by simpa using k1
  rw [if_neg k1] at hR
  by_cases k3 : k = 3
  · subst k3
    obtain rfl : PS = R := hR
    obtain rfl : true = ok := hok
    obtain rfl : PS = Q := hQ
    clear k1
    go_enter Tryd.func20, Tryd.ntmps20
    go_wp2_with fail
    go_ret2
    exact ⟨rfl, BL.out⟩
  have g3 : (k == 3) = false := by simpa using k3
  rw [if_neg k3] at hR hQ
  obtain rfl : false = ok := by rw [← hok]; exact (decide_eq_false (by omega)).symm
  by_cases k2 : k = 2
  · subst k2
    rw [if_pos rfl] at hR
    cases nil
    · obtain rfl : SV = Q := by rw [← hQ]; rfl
      rw [if_neg (by decide)] at hR
      rw [hR] at PN
      clear k1 k3 hok hQ hR
      go_enter Tryd.func20, Tryd.ntmps20
      go_wp2_with fail
      refine (PN.out _).mono ?_
      rintro e W2 ⟨rfl, hb⟩
      have BL := hid (BL.out.trans (hb.mono BL.out.size))
      clear hb
      go_wp2_with fail
      go_ret2
      exact ⟨rfl, BL.out⟩
    · obtain rfl : nilS = R := hR
      clear k1 k3 hok hQ
      go_enter Tryd.func20, Tryd.ntmps20
      go_wp2_with fail
      go_ret2
      exact ⟨rfl, BL.out⟩
  · have g2 : (k == 2) = false := by simpa using k2
    rw [if_neg k2] at hR
    obtain rfl : (⟨#[]⟩ : ByteArray) = R := hR
    clear k1 k3 k2 hok hQ
    go_enter Tryd.func20, Tryd.ntmps20
    go_wp2_with fail
    go_ret2
    exact ⟨rfl, BL.out⟩
end Go.Proofs.YtaniahkagmjkoaaDoor
