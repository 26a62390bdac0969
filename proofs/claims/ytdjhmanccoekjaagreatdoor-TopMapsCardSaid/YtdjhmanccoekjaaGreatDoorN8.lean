/-
  Texts of this claim, joined: Q8, Q9, TH.
-/
import Derived.Deep.RegionHeld3
import Derived.Test.YtdjhmanccoekjaaGreatDoorN7

section
namespace Go.Proofs.YtdjhmanccoekjaaGreatDoor.IN
open Go.RowKit Go.Proofs

theorem Bs.cellsS {w W : World} {H1 H2 : Nat} {neg uns : Bool} {n bits : Int} {pl mi sh sp ze : Bool} {wid prec verb : Int} (h : Bs w H1 H2 (wh4 neg n bits uns) (sp8 pl mi sh sp ze wid prec verb) W) :
    (W.cell? ⟨H1, 0, none⟩ = some (.bool neg) ∧ W.cell? ⟨H1, 1, none⟩ = some (.int .u64 n) ∧ W.cell? ⟨H1, 2, none⟩ = some (.int .u64 bits) ∧ W.cell? ⟨H1, 3, none⟩ = some (.bool uns) ∧
    W.cell? ⟨H2, 0, none⟩ = some (.bool pl) ∧ W.cell? ⟨H2, 1, none⟩ = some (.bool mi) ∧ W.cell? ⟨H2, 2, none⟩ = some (.bool sh) ∧ W.cell? ⟨H2, 3, none⟩ = some (.bool sp) ∧ W.cell? ⟨H2, 4, none⟩ = some (.bool ze) ∧ W.cell? ⟨H2, 5, none⟩ = some (.int .i64 wid) ∧ W.cell? ⟨H2, 6, none⟩ = some (.int .i64 prec) ∧ W.cell? ⟨H2, 7, none⟩ = some (.int .i32 verb)) ∧ Bs w H1 H2 (wh4 neg n bits uns) (sp8 pl mi sh sp ze wid prec verb) W :=
  ⟨⟨h.b1.cell 0, h.b1.cell 1, h.b1.cell 2, h.b1.cell 3, h.b2.cell 0, h.b2.cell 1, h.b2.cell 2, h.b2.cell 3, h.b2.cell 4, h.b2.cell 5, h.b2.cell 6, h.b2.cell 7⟩, h⟩
theorem Bs.drew {w W : World} {H1 H2 : Nat} {C1 C2 : Array Value} (h : Bs w H1 H2 C1 C2 W) : Bs w H1 H2 C1 C2 W.drew := h.kept (Below.refl _ _).drew
theorem bsC {w : World} {H1 H2 : Nat} {C1 C2 : Array Value} {f : FuncId} {args : Array Value} {v : Value} (h : ∀ W, Calls Tryz.prog f args W fun e w' => e = .returned v ∧ Below W.heap.size W w') :
    ∀ W, Bs w H1 H2 C1 C2 W → Calls Tryz.prog f args W fun e W' => e = .returned v ∧ Bs w H1 H2 C1 C2 W' := fun W hW =>
  (h W).mono fun _ _ ⟨he, hb⟩ => ⟨he, hW.kept hb⟩
theorem bsQ {w : World} {H1 H2 : Nat} {C1 C2 : Array Value} {f : FuncId} {args : Array Value} {v : Value} (h : ∀ W, Calls Tryz.prog f args W fun e w' => e = .returned v ∧ W = w') :
    ∀ W, Bs w H1 H2 C1 C2 W → Calls Tryz.prog f args W fun e W' => e = .returned v ∧ Bs w H1 H2 C1 C2 W' := fun W hW =>
  (h W).mono fun _ _ ⟨he, hb⟩ => ⟨he, hb ▸ hW⟩
theorem mk_of (m : ByteArray) : m = ⟨#[48]⟩ ∨ ((m.toList == [48]) = false ∧ ¬ m.data.toList = [48]) := by
  by_cases h : m.data.toList = [48]
  · exact Or.inl (bytes_ext h)
  · refine Or.inr ⟨?_, h⟩
    rw [Lib.toList_data]
    exact beq_eq_false_iff_ne.2 h

set_option maxRecDepth 100000 in
set_option maxHeartbeats 2000000 in
theorem write_d (neg uns : Bool) (n bits : Int) (pl mi sh sp ze : Bool) (wid prec : Int) (w : World) (h0 : 0 ≤ n) (h1 : n ≤ 18446744073709551615) (_hb0 : 0 ≤ bits) (_hb1 : bits ≤ 18446744073709551615) (hw0 : -9223372036854775808 ≤ wid) (hw1 : wid ≤ 9223372036854775807) :
    Calls Tryz.prog 166 #[whole neg n bits uns, .agg #[.bool pl, .bool mi, .bool sh, .bool sp, .bool ze, .int .i64 wid, .int .i64 prec, .int .i32 (100)]] w fun e w' => e = .returned (tupS (writeS neg uns n.toNat bits.toNat pl mi sh sp ze wid prec 100)) ∧ Below w.heap.size w w' := by
  have BA := hid (fun W => based_any neg uns n bits pl mi sh sp ze wid prec 100 10 ⟨#[]⟩ W h0 h1 (by decide) (by decide) (by decide) (mk_of _) hw0 hw1)
  have hfin : some (padS ⟨(IP.bodyL neg n.toNat ((10 : Int).toNat) (decide ((100 : Int) = 88)) (⟨#[]⟩ : ByteArray).data.toList pl mi sp ze wid prec).toArray⟩ mi false wid) = writeS neg uns n.toNat bits.toNat pl mi sh sp ze wid prec 100 := by
    cases sh <;> rfl
  rw [← hfin]
  clear hfin
  have S0 := hid (bs_start w (wh4 neg n bits uns) (sp8 pl mi sh sp ze wid prec 100))
  go_enter Tryz.func166, Tryz.ntmps166
  go_upto_region 1 with fail
  obtain ⟨W0, hW0⟩ : ∃ W0, (w.alloc (.cells (wh4 neg n bits uns) 264)).alloc (.cells (sp8 pl mi sh sp ze wid prec 100) 94) = W0 := ⟨_, rfl⟩
  obtain ⟨H, hH⟩ : ∃ H, w.heap.size = H := ⟨_, rfl⟩
  have HH := hid hH
  rw [hW0] at S0 ⊢
  rw [hH] at S0 ⊢
  clear hW0 hH
  obtain ⟨c0, c1, c2, c3, s0, s1, s2, s3, s4, s5, s6, s7, sf⟩ := S0.out.cells
  go_wp2_with fail
  refine (bsC BA.out _ S0.out).mono ?_
  rintro e W' ⟨rfl, sW⟩
  go_wp2_with fail
  go_ret2
  exact ⟨rfl, sW.below⟩

set_option maxRecDepth 100000 in
set_option maxHeartbeats 2000000 in
theorem write_O (neg uns : Bool) (n bits : Int) (pl mi sh sp ze : Bool) (wid prec : Int) (w : World) (h0 : 0 ≤ n) (h1 : n ≤ 18446744073709551615) (_hb0 : 0 ≤ bits) (_hb1 : bits ≤ 18446744073709551615) (hw0 : -9223372036854775808 ≤ wid) (hw1 : wid ≤ 9223372036854775807) :
    Calls Tryz.prog 166 #[whole neg n bits uns, .agg #[.bool pl, .bool mi, .bool sh, .bool sp, .bool ze, .int .i64 wid, .int .i64 prec, .int .i32 (79)]] w fun e w' => e = .returned (tupS (writeS neg uns n.toNat bits.toNat pl mi sh sp ze wid prec 79)) ∧ Below w.heap.size w w' := by
  have BA := hid (fun W => based_any neg uns n bits pl mi sh sp ze wid prec 79 8 ⟨#[48, 111]⟩ W h0 h1 (by decide) (by decide) (by decide) (mk_of _) hw0 hw1)
  have hfin : some (padS ⟨(IP.bodyL neg n.toNat ((8 : Int).toNat) (decide ((79 : Int) = 88)) (⟨#[48, 111]⟩ : ByteArray).data.toList pl mi sp ze wid prec).toArray⟩ mi false wid) = writeS neg uns n.toNat bits.toNat pl mi sh sp ze wid prec 79 := by
    cases sh <;> rfl
  rw [← hfin]
  clear hfin
  have S0 := hid (bs_start w (wh4 neg n bits uns) (sp8 pl mi sh sp ze wid prec 79))
  go_enter Tryz.func166, Tryz.ntmps166
  go_upto_region 1 with fail
  obtain ⟨W0, hW0⟩ : ∃ W0, (w.alloc (.cells (wh4 neg n bits uns) 264)).alloc (.cells (sp8 pl mi sh sp ze wid prec 79) 94) = W0 := ⟨_, rfl⟩
  obtain ⟨H, hH⟩ : ∃ H, w.heap.size = H := ⟨_, rfl⟩
  have HH := hid hH
  rw [hW0] at S0 ⊢
  rw [hH] at S0 ⊢
  clear hW0 hH
  obtain ⟨c0, c1, c2, c3, s0, s1, s2, s3, s4, s5, s6, s7, sf⟩ := S0.out.cells
  go_wp2_with fail
  refine (bsC BA.out _ S0.out).mono ?_
  rintro e W' ⟨rfl, sW⟩
  go_wp2_with fail
  go_ret2
  exact ⟨rfl, sW.below⟩

set_option maxRecDepth 100000 in
set_option maxHeartbeats 2000000 in
theorem write_v1a (neg : Bool) (n bits : Int) (pl mi sh sp ze : Bool) (wid prec : Int) (w : World) (h0 : 0 ≤ n) (h1 : n ≤ 18446744073709551615) (_hb0 : 0 ≤ bits) (_hb1 : bits ≤ 18446744073709551615) (hw0 : -9223372036854775808 ≤ wid) (hw1 : wid ≤ 9223372036854775807) :
    Calls Tryz.prog 166 #[whole neg n bits false, .agg #[.bool pl, .bool mi, .bool sh, .bool sp, .bool ze, .int .i64 wid, .int .i64 prec, .int .i32 (118)]] w fun e w' => e = .returned (tupS (writeS neg false n.toNat bits.toNat pl mi sh sp ze wid prec 118)) ∧ Below w.heap.size w w' := by
  have BA := hid (fun W => based_any neg false n bits pl mi sh sp ze wid prec 118 10 ⟨#[]⟩ W h0 h1 (by decide) (by decide) (by decide) (mk_of _) hw0 hw1)
  have hfin : some (padS ⟨(IP.bodyL neg n.toNat ((10 : Int).toNat) (decide ((118 : Int) = 88)) (⟨#[]⟩ : ByteArray).data.toList pl mi sp ze wid prec).toArray⟩ mi false wid) = writeS neg false n.toNat bits.toNat pl mi sh sp ze wid prec 118 := by
    cases sh <;> rfl
  rw [← hfin]
  clear hfin
  have S0 := hid (bs_start w (wh4 neg n bits false) (sp8 pl mi sh sp ze wid prec 118))
  go_enter Tryz.func166, Tryz.ntmps166
  go_upto_region 1 with fail
  obtain ⟨W0, hW0⟩ : ∃ W0, (w.alloc (.cells (wh4 neg n bits false) 264)).alloc (.cells (sp8 pl mi sh sp ze wid prec 118) 94) = W0 := ⟨_, rfl⟩
  obtain ⟨H, hH⟩ : ∃ H, w.heap.size = H := ⟨_, rfl⟩
  have HH := hid hH
  rw [hW0] at S0 ⊢
  rw [hH] at S0 ⊢
  clear hW0 hH
  obtain ⟨c0, c1, c2, c3, s0, s1, s2, s3, s4, s5, s6, s7, sf⟩ := S0.out.cells
  go_wp2_with fail
  refine (bsC BA.out _ S0.out).mono ?_
  rintro e W' ⟨rfl, sW⟩
  go_wp2_with fail
  go_ret2
  exact ⟨rfl, sW.below⟩

set_option maxRecDepth 100000 in
set_option maxHeartbeats 2000000 in
theorem write_v1b (neg : Bool) (n bits : Int) (pl mi sp ze : Bool) (wid prec : Int) (w : World) (h0 : 0 ≤ n) (h1 : n ≤ 18446744073709551615) (_hb0 : 0 ≤ bits) (_hb1 : bits ≤ 18446744073709551615) (hw0 : -9223372036854775808 ≤ wid) (hw1 : wid ≤ 9223372036854775807) :
    Calls Tryz.prog 166 #[whole neg n bits true, .agg #[.bool pl, .bool mi, .bool false, .bool sp, .bool ze, .int .i64 wid, .int .i64 prec, .int .i32 (118)]] w fun e w' => e = .returned (tupS (writeS neg true n.toNat bits.toNat pl mi false sp ze wid prec 118)) ∧ Below w.heap.size w w' := by
  have BA := hid (fun W => based_any neg true n bits pl mi false sp ze wid prec 118 10 ⟨#[]⟩ W h0 h1 (by decide) (by decide) (by decide) (mk_of _) hw0 hw1)
  have hfin : some (padS ⟨(IP.bodyL neg n.toNat ((10 : Int).toNat) (decide ((118 : Int) = 88)) (⟨#[]⟩ : ByteArray).data.toList pl mi sp ze wid prec).toArray⟩ mi false wid) = writeS neg true n.toNat bits.toNat pl mi false sp ze wid prec 118 := by
    rfl
  rw [← hfin]
  clear hfin
  have S0 := hid (bs_start w (wh4 neg n bits true) (sp8 pl mi false sp ze wid prec 118))
  go_enter Tryz.func166, Tryz.ntmps166
  go_upto_region 1 with fail
  obtain ⟨W0, hW0⟩ : ∃ W0, (w.alloc (.cells (wh4 neg n bits true) 264)).alloc (.cells (sp8 pl mi false sp ze wid prec 118) 94) = W0 := ⟨_, rfl⟩
  obtain ⟨H, hH⟩ : ∃ H, w.heap.size = H := ⟨_, rfl⟩
  have HH := hid hH
  rw [hW0] at S0 ⊢
  rw [hH] at S0 ⊢
  clear hW0 hH
  obtain ⟨c0, c1, c2, c3, s0, s1, s2, s3, s4, s5, s6, s7, sf⟩ := S0.out.cells
  go_wp2_with fail
  refine (bsC BA.out _ S0.out).mono ?_
  rintro e W' ⟨rfl, sW⟩
  go_wp2_with fail
  go_ret2
  exact ⟨rfl, sW.below⟩

set_option maxRecDepth 100000 in
set_option maxHeartbeats 2000000 in
theorem write_U (neg uns : Bool) (n bits : Int) (pl mi sh sp ze : Bool) (wid prec : Int) (w : World) (_h0 : 0 ≤ n) (_h1 : n ≤ 18446744073709551615) (hb0 : 0 ≤ bits) (hb1 : bits ≤ 18446744073709551615) (hw0 : -9223372036854775808 ≤ wid) (hw1 : wid ≤ 9223372036854775807) :
    Calls Tryz.prog 166 #[whole neg n bits uns, .agg #[.bool pl, .bool mi, .bool sh, .bool sp, .bool ze, .int .i64 wid, .int .i64 prec, .int .i32 (85)]] w fun e w' => e = .returned (tupS (writeS neg uns n.toNat bits.toNat pl mi sh sp ze wid prec 85)) ∧ Below w.heap.size w w' := by
  have UA := hid (fun W => unicode_any neg uns n bits pl mi sh sp ze wid prec 85 W hb0 hb1 hw0 hw1)
  have S0 := hid (bs_start w (wh4 neg n bits uns) (sp8 pl mi sh sp ze wid prec 85))
  go_enter Tryz.func166, Tryz.ntmps166
  go_upto_region 1 with fail
  obtain ⟨W0, hW0⟩ : ∃ W0, (w.alloc (.cells (wh4 neg n bits uns) 264)).alloc (.cells (sp8 pl mi sh sp ze wid prec 85) 94) = W0 := ⟨_, rfl⟩
  obtain ⟨H, hH⟩ : ∃ H, w.heap.size = H := ⟨_, rfl⟩
  have HH := hid hH
  rw [hW0] at S0 ⊢
  rw [hH] at S0 ⊢
  clear hW0 hH
  obtain ⟨c0, c1, c2, c3, s0, s1, s2, s3, s4, s5, s6, s7, sf⟩ := S0.out.cells
  go_wp2_with fail
  refine (bsC UA.out _ S0.out).mono ?_
  rintro e W' ⟨rfl, sW⟩
  go_wp2_with fail
  go_ret2
  exact ⟨rfl, sW.below⟩

set_option maxRecDepth 100000 in
set_option maxHeartbeats 2000000 in
theorem write_v2 (neg : Bool) (n bits : Int) (pl mi sp ze : Bool) (wid prec : Int) (w : World) (h0 : 0 ≤ n) (h1 : n ≤ 18446744073709551615) (_hb0 : 0 ≤ bits) (_hb1 : bits ≤ 18446744073709551615) (hw0 : -9223372036854775808 ≤ wid) (hw1 : wid ≤ 9223372036854775807) :
    Calls Tryz.prog 166 #[whole neg n bits true, .agg #[.bool pl, .bool mi, .bool true, .bool sp, .bool ze, .int .i64 wid, .int .i64 prec, .int .i32 (118)]] w fun e w' => e = .returned (tupS (writeS neg true n.toNat bits.toNat pl mi true sp ze wid prec 118)) ∧ Below w.heap.size w w' := by
  have BA := hid (fun W => based_any neg true n bits pl mi true sp ze wid prec 120 16 ⟨#[48, 120]⟩ W h0 h1 (by decide) (by decide) (by decide) (mk_of _) hw0 hw1)
  have S0 := hid (bs_start w (wh4 neg n bits true) (sp8 pl mi true sp ze wid prec 118))
  go_enter Tryz.func166, Tryz.ntmps166
  go_upto_region 1 with fail
  obtain ⟨W0, hW0⟩ : ∃ W0, (w.alloc (.cells (wh4 neg n bits true) 264)).alloc (.cells (sp8 pl mi true sp ze wid prec 118) 94) = W0 := ⟨_, rfl⟩
  obtain ⟨H, hH⟩ : ∃ H, w.heap.size = H := ⟨_, rfl⟩
  have HH := hid hH
  rw [hW0] at S0 ⊢
  rw [hH] at S0 ⊢
  clear hW0 hH
  obtain ⟨c0, c1, c2, c3, s0, s1, s2, s3, s4, s5, s6, s7, sf⟩ := S0.out.cells
  have sg := S0.out.b2.frozen 7
  have S1 : Hid (Bs w H (H + 1) (wh4 neg n bits true) (sp8 pl mi true sp ze wid prec 120) (W0.setCell ⟨H + 1, 7, none⟩ (.int .i32 120))) :=
    ⟨S0.out.b1.far (p := ⟨H + 1, 7, none⟩) (Nat.ne_of_lt (Nat.lt_succ_self H)) _, S0.out.b2.set_ 7 _, S0.out.below.setCell (p := ⟨H + 1, 7, none⟩) (by rw [HH.out]; exact Nat.le_succ _) _⟩
  go_wp2_with fail
  refine (bsC BA.out _ S1.out).mono ?_
  rintro e W' ⟨rfl, sW⟩
  go_wp2_with fail
  go_ret2
  exact ⟨rfl, sW.below⟩

set_option maxRecDepth 100000 in
set_option maxHeartbeats 2000000 in
theorem write_b (neg uns : Bool) (n bits : Int) (pl mi sh sp ze : Bool) (wid prec : Int) (w : World) (h0 : 0 ≤ n) (h1 : n ≤ 18446744073709551615) (_hb0 : 0 ≤ bits) (_hb1 : bits ≤ 18446744073709551615) (hw0 : -9223372036854775808 ≤ wid) (hw1 : wid ≤ 9223372036854775807) :
    Calls Tryz.prog 166 #[whole neg n bits uns, .agg #[.bool pl, .bool mi, .bool sh, .bool sp, .bool ze, .int .i64 wid, .int .i64 prec, .int .i32 (98)]] w fun e w' => e = .returned (tupS (writeS neg uns n.toNat bits.toNat pl mi sh sp ze wid prec 98)) ∧ Below w.heap.size w w' := by
  have SH := hid (fun W => sharp_any pl mi sh sp ze wid prec 98 ⟨#[48, 98]⟩ W)
  obtain ⟨M, hM⟩ : ∃ M : ByteArray, (if sh then ⟨#[48, 98]⟩ else ⟨#[]⟩) = M := ⟨_, rfl⟩
  have hMs : M.size ≤ 10 := by rw [← hM]; cases sh <;> decide
  have BA := hid (fun W => based_any neg uns n bits pl mi sh sp ze wid prec 98 2 M W h0 h1 (by decide) (by decide) hMs (mk_of _) hw0 hw1)
  rw [hM] at SH
  have hfin : some (padS ⟨(IP.bodyL neg n.toNat ((2 : Int).toNat) (decide ((98 : Int) = 88)) M.data.toList pl mi sp ze wid prec).toArray⟩ mi false wid) = writeS neg uns n.toNat bits.toNat pl mi sh sp ze wid prec 98 := by
    rw [← hM]
    cases sh <;> rfl
  rw [← hfin]
  clear hfin hM
  have S0 := hid (bs_start w (wh4 neg n bits uns) (sp8 pl mi sh sp ze wid prec 98))
  go_enter Tryz.func166, Tryz.ntmps166
  go_upto_region 1 with fail
  obtain ⟨W0, hW0⟩ : ∃ W0, (w.alloc (.cells (wh4 neg n bits uns) 264)).alloc (.cells (sp8 pl mi sh sp ze wid prec 98) 94) = W0 := ⟨_, rfl⟩
  obtain ⟨H, hH⟩ : ∃ H, w.heap.size = H := ⟨_, rfl⟩
  have HH := hid hH
  rw [hW0] at S0 ⊢
  rw [hH] at S0 ⊢
  clear hW0 hH
  obtain ⟨c0, c1, c2, c3, s0, s1, s2, s3, s4, s5, s6, s7, sf⟩ := S0.out.cells
  have sd := S0.out.drew
  have SHC := hid (bsC (w := w) (H1 := H) (H2 := H + 1) (C1 := wh4 neg n bits uns) (C2 := sp8 pl mi sh sp ze wid prec 98) SH.out)
  have BAC := hid (bsC (w := w) (H1 := H) (H2 := H + 1) (C1 := wh4 neg n bits uns) (C2 := sp8 pl mi sh sp ze wid prec 98) BA.out)
  clear SH BA
  go_wp2_with fail
  go_region_held3 (fun w' => (w'.cell? ⟨H, 0, none⟩ = some (.bool neg) ∧ w'.cell? ⟨H, 1, none⟩ = some (.int .u64 n) ∧ w'.cell? ⟨H, 2, none⟩ = some (.int .u64 bits) ∧ w'.cell? ⟨H, 3, none⟩ = some (.bool uns) ∧ w'.cell? ⟨H + 1, 0, none⟩ = some (.bool pl) ∧ w'.cell? ⟨H + 1, 1, none⟩ = some (.bool mi) ∧ w'.cell? ⟨H + 1, 2, none⟩ = some (.bool sh) ∧ w'.cell? ⟨H + 1, 3, none⟩ = some (.bool sp) ∧ w'.cell? ⟨H + 1, 4, none⟩ = some (.bool ze) ∧ w'.cell? ⟨H + 1, 5, none⟩ = some (.int .i64 wid) ∧ w'.cell? ⟨H + 1, 6, none⟩ = some (.int .i64 prec) ∧ w'.cell? ⟨H + 1, 7, none⟩ = some (.int .i32 98)) ∧ Bs w H (H + 1) (wh4 neg n bits uns) (sp8 pl mi sh sp ze wid prec 98) w') (exact Bs.cellsS (by assumption))
    ((first
      | ((with_reducible refine (SHC.out _ (by assumption)).mono ?_); rintro e Wa ⟨rfl, sA⟩)
      | ((with_reducible refine (BAC.out _ (by assumption)).mono ?_); rintro e Wb ⟨rfl, sW⟩)))
  go_wp2_with fail
  go_ret2
  exact ⟨rfl, sW.below⟩

set_option maxRecDepth 100000 in
set_option maxHeartbeats 2000000 in
theorem write_o (neg uns : Bool) (n bits : Int) (pl mi sh sp ze : Bool) (wid prec : Int) (w : World) (h0 : 0 ≤ n) (h1 : n ≤ 18446744073709551615) (_hb0 : 0 ≤ bits) (_hb1 : bits ≤ 18446744073709551615) (hw0 : -9223372036854775808 ≤ wid) (hw1 : wid ≤ 9223372036854775807) :
    Calls Tryz.prog 166 #[whole neg n bits uns, .agg #[.bool pl, .bool mi, .bool sh, .bool sp, .bool ze, .int .i64 wid, .int .i64 prec, .int .i32 (111)]] w fun e w' => e = .returned (tupS (writeS neg uns n.toNat bits.toNat pl mi sh sp ze wid prec 111)) ∧ Below w.heap.size w w' := by
  have SH := hid (fun W => sharp_any pl mi sh sp ze wid prec 111 ⟨#[48]⟩ W)
  obtain ⟨M, hM⟩ : ∃ M : ByteArray, (if sh then ⟨#[48]⟩ else ⟨#[]⟩) = M := ⟨_, rfl⟩
  have hMs : M.size ≤ 10 := by rw [← hM]; cases sh <;> decide
  have BA := hid (fun W => based_any neg uns n bits pl mi sh sp ze wid prec 111 8 M W h0 h1 (by decide) (by decide) hMs (mk_of _) hw0 hw1)
  rw [hM] at SH
  have hfin : some (padS ⟨(IP.bodyL neg n.toNat ((8 : Int).toNat) (decide ((111 : Int) = 88)) M.data.toList pl mi sp ze wid prec).toArray⟩ mi false wid) = writeS neg uns n.toNat bits.toNat pl mi sh sp ze wid prec 111 := by
    rw [← hM]
    cases sh <;> rfl
  rw [← hfin]
  clear hfin hM
  have S0 := hid (bs_start w (wh4 neg n bits uns) (sp8 pl mi sh sp ze wid prec 111))
  go_enter Tryz.func166, Tryz.ntmps166
  go_upto_region 1 with fail
  obtain ⟨W0, hW0⟩ : ∃ W0, (w.alloc (.cells (wh4 neg n bits uns) 264)).alloc (.cells (sp8 pl mi sh sp ze wid prec 111) 94) = W0 := ⟨_, rfl⟩
  obtain ⟨H, hH⟩ : ∃ H, w.heap.size = H := ⟨_, rfl⟩
  have HH := hid hH
  rw [hW0] at S0 ⊢
  rw [hH] at S0 ⊢
  clear hW0 hH
  obtain ⟨c0, c1, c2, c3, s0, s1, s2, s3, s4, s5, s6, s7, sf⟩ := S0.out.cells
  have sd := S0.out.drew
  have SHC := hid (bsC (w := w) (H1 := H) (H2 := H + 1) (C1 := wh4 neg n bits uns) (C2 := sp8 pl mi sh sp ze wid prec 111) SH.out)
  have BAC := hid (bsC (w := w) (H1 := H) (H2 := H + 1) (C1 := wh4 neg n bits uns) (C2 := sp8 pl mi sh sp ze wid prec 111) BA.out)
  clear SH BA
  go_wp2_with fail
  go_region_held3 (fun w' => (w'.cell? ⟨H, 0, none⟩ = some (.bool neg) ∧ w'.cell? ⟨H, 1, none⟩ = some (.int .u64 n) ∧ w'.cell? ⟨H, 2, none⟩ = some (.int .u64 bits) ∧ w'.cell? ⟨H, 3, none⟩ = some (.bool uns) ∧ w'.cell? ⟨H + 1, 0, none⟩ = some (.bool pl) ∧ w'.cell? ⟨H + 1, 1, none⟩ = some (.bool mi) ∧ w'.cell? ⟨H + 1, 2, none⟩ = some (.bool sh) ∧ w'.cell? ⟨H + 1, 3, none⟩ = some (.bool sp) ∧ w'.cell? ⟨H + 1, 4, none⟩ = some (.bool ze) ∧ w'.cell? ⟨H + 1, 5, none⟩ = some (.int .i64 wid) ∧ w'.cell? ⟨H + 1, 6, none⟩ = some (.int .i64 prec) ∧ w'.cell? ⟨H + 1, 7, none⟩ = some (.int .i32 111)) ∧ Bs w H (H + 1) (wh4 neg n bits uns) (sp8 pl mi sh sp ze wid prec 111) w') (exact Bs.cellsS (by assumption))
    ((first
      | ((with_reducible refine (SHC.out _ (by assumption)).mono ?_); rintro e Wa ⟨rfl, sA⟩)
      | ((with_reducible refine (BAC.out _ (by assumption)).mono ?_); rintro e Wb ⟨rfl, sW⟩)))
  go_wp2_with fail
  go_ret2
  exact ⟨rfl, sW.below⟩

set_option maxRecDepth 100000 in
set_option maxHeartbeats 2000000 in
theorem write_x (neg uns : Bool) (n bits : Int) (pl mi sh sp ze : Bool) (wid prec : Int) (w : World) (h0 : 0 ≤ n) (h1 : n ≤ 18446744073709551615) (_hb0 : 0 ≤ bits) (_hb1 : bits ≤ 18446744073709551615) (hw0 : -9223372036854775808 ≤ wid) (hw1 : wid ≤ 9223372036854775807) :
    Calls Tryz.prog 166 #[whole neg n bits uns, .agg #[.bool pl, .bool mi, .bool sh, .bool sp, .bool ze, .int .i64 wid, .int .i64 prec, .int .i32 (120)]] w fun e w' => e = .returned (tupS (writeS neg uns n.toNat bits.toNat pl mi sh sp ze wid prec 120)) ∧ Below w.heap.size w w' := by
  have SH := hid (fun W => sharp_any pl mi sh sp ze wid prec 120 ⟨#[48, 120]⟩ W)
  obtain ⟨M, hM⟩ : ∃ M : ByteArray, (if sh then ⟨#[48, 120]⟩ else ⟨#[]⟩) = M := ⟨_, rfl⟩
  have hMs : M.size ≤ 10 := by rw [← hM]; cases sh <;> decide
  have BA := hid (fun W => based_any neg uns n bits pl mi sh sp ze wid prec 120 16 M W h0 h1 (by decide) (by decide) hMs (mk_of _) hw0 hw1)
  rw [hM] at SH
  have hfin : some (padS ⟨(IP.bodyL neg n.toNat ((16 : Int).toNat) (decide ((120 : Int) = 88)) M.data.toList pl mi sp ze wid prec).toArray⟩ mi false wid) = writeS neg uns n.toNat bits.toNat pl mi sh sp ze wid prec 120 := by
    rw [← hM]
    cases sh <;> rfl
  rw [← hfin]
  clear hfin hM
  have S0 := hid (bs_start w (wh4 neg n bits uns) (sp8 pl mi sh sp ze wid prec 120))
  go_enter Tryz.func166, Tryz.ntmps166
  go_upto_region 1 with fail
  obtain ⟨W0, hW0⟩ : ∃ W0, (w.alloc (.cells (wh4 neg n bits uns) 264)).alloc (.cells (sp8 pl mi sh sp ze wid prec 120) 94) = W0 := ⟨_, rfl⟩
  obtain ⟨H, hH⟩ : ∃ H, w.heap.size = H := ⟨_, rfl⟩
  have HH := hid hH
  rw [hW0] at S0 ⊢
  rw [hH] at S0 ⊢
  clear hW0 hH
  obtain ⟨c0, c1, c2, c3, s0, s1, s2, s3, s4, s5, s6, s7, sf⟩ := S0.out.cells
  have sd := S0.out.drew
  have SHC := hid (bsC (w := w) (H1 := H) (H2 := H + 1) (C1 := wh4 neg n bits uns) (C2 := sp8 pl mi sh sp ze wid prec 120) SH.out)
  have BAC := hid (bsC (w := w) (H1 := H) (H2 := H + 1) (C1 := wh4 neg n bits uns) (C2 := sp8 pl mi sh sp ze wid prec 120) BA.out)
  clear SH BA
  go_wp2_with fail
  go_region_held3 (fun w' => (w'.cell? ⟨H, 0, none⟩ = some (.bool neg) ∧ w'.cell? ⟨H, 1, none⟩ = some (.int .u64 n) ∧ w'.cell? ⟨H, 2, none⟩ = some (.int .u64 bits) ∧ w'.cell? ⟨H, 3, none⟩ = some (.bool uns) ∧ w'.cell? ⟨H + 1, 0, none⟩ = some (.bool pl) ∧ w'.cell? ⟨H + 1, 1, none⟩ = some (.bool mi) ∧ w'.cell? ⟨H + 1, 2, none⟩ = some (.bool sh) ∧ w'.cell? ⟨H + 1, 3, none⟩ = some (.bool sp) ∧ w'.cell? ⟨H + 1, 4, none⟩ = some (.bool ze) ∧ w'.cell? ⟨H + 1, 5, none⟩ = some (.int .i64 wid) ∧ w'.cell? ⟨H + 1, 6, none⟩ = some (.int .i64 prec) ∧ w'.cell? ⟨H + 1, 7, none⟩ = some (.int .i32 120)) ∧ Bs w H (H + 1) (wh4 neg n bits uns) (sp8 pl mi sh sp ze wid prec 120) w') (exact Bs.cellsS (by assumption))
    ((first
      | ((with_reducible refine (SHC.out _ (by assumption)).mono ?_); rintro e Wa ⟨rfl, sA⟩)
      | ((with_reducible refine (BAC.out _ (by assumption)).mono ?_); rintro e Wb ⟨rfl, sW⟩)))
  go_wp2_with fail
  go_ret2
  exact ⟨rfl, sW.below⟩

set_option maxRecDepth 100000 in
set_option maxHeartbeats 2000000 in
theorem write_X (neg uns : Bool) (n bits : Int) (pl mi sh sp ze : Bool) (wid prec : Int) (w : World) (h0 : 0 ≤ n) (h1 : n ≤ 18446744073709551615) (_hb0 : 0 ≤ bits) (_hb1 : bits ≤ 18446744073709551615) (hw0 : -9223372036854775808 ≤ wid) (hw1 : wid ≤ 9223372036854775807) :
    Calls Tryz.prog 166 #[whole neg n bits uns, .agg #[.bool pl, .bool mi, .bool sh, .bool sp, .bool ze, .int .i64 wid, .int .i64 prec, .int .i32 (88)]] w fun e w' => e = .returned (tupS (writeS neg uns n.toNat bits.toNat pl mi sh sp ze wid prec 88)) ∧ Below w.heap.size w w' := by
  have SH := hid (fun W => sharp_any pl mi sh sp ze wid prec 88 ⟨#[48, 88]⟩ W)
  obtain ⟨M, hM⟩ : ∃ M : ByteArray, (if sh then ⟨#[48, 88]⟩ else ⟨#[]⟩) = M := ⟨_, rfl⟩
  have hMs : M.size ≤ 10 := by rw [← hM]; cases sh <;> decide
  have BA := hid (fun W => based_any neg uns n bits pl mi sh sp ze wid prec 88 16 M W h0 h1 (by decide) (by decide) hMs (mk_of _) hw0 hw1)
  rw [hM] at SH
  have hfin : some (padS ⟨(IP.bodyL neg n.toNat ((16 : Int).toNat) (decide ((88 : Int) = 88)) M.data.toList pl mi sp ze wid prec).toArray⟩ mi false wid) = writeS neg uns n.toNat bits.toNat pl mi sh sp ze wid prec 88 := by
    rw [← hM]
    cases sh <;> rfl
  rw [← hfin]
  clear hfin hM
  have S0 := hid (bs_start w (wh4 neg n bits uns) (sp8 pl mi sh sp ze wid prec 88))
  go_enter Tryz.func166, Tryz.ntmps166
  go_upto_region 1 with fail
  obtain ⟨W0, hW0⟩ : ∃ W0, (w.alloc (.cells (wh4 neg n bits uns) 264)).alloc (.cells (sp8 pl mi sh sp ze wid prec 88) 94) = W0 := ⟨_, rfl⟩
  obtain ⟨H, hH⟩ : ∃ H, w.heap.size = H := ⟨_, rfl⟩
  have HH := hid hH
  rw [hW0] at S0 ⊢
  rw [hH] at S0 ⊢
  clear hW0 hH
  obtain ⟨c0, c1, c2, c3, s0, s1, s2, s3, s4, s5, s6, s7, sf⟩ := S0.out.cells
  have sd := S0.out.drew
  have SHC := hid (bsC (w := w) (H1 := H) (H2 := H + 1) (C1 := wh4 neg n bits uns) (C2 := sp8 pl mi sh sp ze wid prec 88) SH.out)
  have BAC := hid (bsC (w := w) (H1 := H) (H2 := H + 1) (C1 := wh4 neg n bits uns) (C2 := sp8 pl mi sh sp ze wid prec 88) BA.out)
  clear SH BA
  go_wp2_with fail
  go_region_held3 (fun w' => (w'.cell? ⟨H, 0, none⟩ = some (.bool neg) ∧ w'.cell? ⟨H, 1, none⟩ = some (.int .u64 n) ∧ w'.cell? ⟨H, 2, none⟩ = some (.int .u64 bits) ∧ w'.cell? ⟨H, 3, none⟩ = some (.bool uns) ∧ w'.cell? ⟨H + 1, 0, none⟩ = some (.bool pl) ∧ w'.cell? ⟨H + 1, 1, none⟩ = some (.bool mi) ∧ w'.cell? ⟨H + 1, 2, none⟩ = some (.bool sh) ∧ w'.cell? ⟨H + 1, 3, none⟩ = some (.bool sp) ∧ w'.cell? ⟨H + 1, 4, none⟩ = some (.bool ze) ∧ w'.cell? ⟨H + 1, 5, none⟩ = some (.int .i64 wid) ∧ w'.cell? ⟨H + 1, 6, none⟩ = some (.int .i64 prec) ∧ w'.cell? ⟨H + 1, 7, none⟩ = some (.int .i32 88)) ∧ Bs w H (H + 1) (wh4 neg n bits uns) (sp8 pl mi sh sp ze wid prec 88) w') (exact Bs.cellsS (by assumption))
    ((first
      | ((with_reducible refine (SHC.out _ (by assumption)).mono ?_); rintro e Wa ⟨rfl, sA⟩)
      | ((with_reducible refine (BAC.out _ (by assumption)).mono ?_); rintro e Wb ⟨rfl, sW⟩)))
  go_wp2_with fail
  go_ret2
  exact ⟨rfl, sW.below⟩

set_option maxRecDepth 100000 in
set_option maxHeartbeats 2000000 in
theorem write_c (neg uns : Bool) (n bits : Int) (pl mi sh sp ze : Bool) (wid prec : Int) (w : World) (_h0 : 0 ≤ n) (_h1 : n ≤ 18446744073709551615) (hb0 : 0 ≤ bits) (hb1 : bits ≤ 18446744073709551615) (hw0 : -9223372036854775808 ≤ wid) (hw1 : wid ≤ 9223372036854775807) :
    Calls Tryz.prog 166 #[whole neg n bits uns, .agg #[.bool pl, .bool mi, .bool sh, .bool sp, .bool ze, .int .i64 wid, .int .i64 prec, .int .i32 (99)]] w fun e w' => e = .returned (tupS (writeS neg uns n.toNat bits.toNat pl mi sh sp ze wid prec 99)) ∧ Below w.heap.size w w' := by
  have PO := hid (fun W => ipoint_any neg uns n bits W hb0 hb1)
  have RU := hid (fun W => rune_any (IP.pointI bits.toNat) W)
  have hes : (Utf8.encode (IP.pointI bits.toNat)).size ≤ 4 := by
    rw [Utf.size_eq]
    exact (Utf.encL_pos _).2
  have PD := hid (fun W => pad_any (Utf8.encode (IP.pointI bits.toNat)) pl mi sh sp ze wid prec 99 W (by omega) hw0 hw1)
  have hfin : some (padS (Utf8.encode (IP.pointI bits.toNat)) mi ze wid) = writeS neg uns n.toNat bits.toNat pl mi sh sp ze wid prec 99 := rfl
  rw [← hfin]
  obtain ⟨pt, hpt⟩ : ∃ pt, IP.pointI bits.toNat = pt := ⟨_, rfl⟩
  rw [hpt] at PO RU PD ⊢
  clear hfin hpt hes
  have S0 := hid (bs_start w (wh4 neg n bits uns) (sp8 pl mi sh sp ze wid prec 99))
  go_enter Tryz.func166, Tryz.ntmps166
  go_upto_region 1 with fail
  obtain ⟨W0, hW0⟩ : ∃ W0, (w.alloc (.cells (wh4 neg n bits uns) 264)).alloc (.cells (sp8 pl mi sh sp ze wid prec 99) 94) = W0 := ⟨_, rfl⟩
  obtain ⟨H, hH⟩ : ∃ H, w.heap.size = H := ⟨_, rfl⟩
  have HH := hid hH
  rw [hW0] at S0 ⊢
  rw [hH] at S0 ⊢
  clear hW0 hH
  obtain ⟨c0, c1, c2, c3, s0, s1, s2, s3, s4, s5, s6, s7, sf⟩ := S0.out.cells
  have sd := S0.out.drew
  have POC := hid (bsC (w := w) (H1 := H) (H2 := H + 1) (C1 := wh4 neg n bits uns) (C2 := sp8 pl mi sh sp ze wid prec 99) PO.out)
  have RUC := hid (bsQ (w := w) (H1 := H) (H2 := H + 1) (C1 := wh4 neg n bits uns) (C2 := sp8 pl mi sh sp ze wid prec 99) RU.out)
  have PDC := hid (bsC (w := w) (H1 := H) (H2 := H + 1) (C1 := wh4 neg n bits uns) (C2 := sp8 pl mi sh sp ze wid prec 99) PD.out)
  clear PO RU PD
  go_wp2_with fail
  go_region_held3 (fun w' => (w'.cell? ⟨H, 0, none⟩ = some (.bool neg) ∧ w'.cell? ⟨H, 1, none⟩ = some (.int .u64 n) ∧ w'.cell? ⟨H, 2, none⟩ = some (.int .u64 bits) ∧ w'.cell? ⟨H, 3, none⟩ = some (.bool uns) ∧ w'.cell? ⟨H + 1, 0, none⟩ = some (.bool pl) ∧ w'.cell? ⟨H + 1, 1, none⟩ = some (.bool mi) ∧ w'.cell? ⟨H + 1, 2, none⟩ = some (.bool sh) ∧ w'.cell? ⟨H + 1, 3, none⟩ = some (.bool sp) ∧ w'.cell? ⟨H + 1, 4, none⟩ = some (.bool ze) ∧ w'.cell? ⟨H + 1, 5, none⟩ = some (.int .i64 wid) ∧ w'.cell? ⟨H + 1, 6, none⟩ = some (.int .i64 prec) ∧ w'.cell? ⟨H + 1, 7, none⟩ = some (.int .i32 99)) ∧ Bs w H (H + 1) (wh4 neg n bits uns) (sp8 pl mi sh sp ze wid prec 99) w') (exact Bs.cellsS (by assumption))
    ((first
      | ((with_reducible refine (POC.out _ (by assumption)).mono ?_); rintro e Wa ⟨rfl, sA⟩)
      | ((with_reducible refine (RUC.out _ (by assumption)).mono ?_); rintro e Wb ⟨rfl, sB⟩)
      | ((with_reducible refine (PDC.out _ (by assumption)).mono ?_); rintro e Wc ⟨rfl, sW⟩)))
  go_wp2_with fail
  go_ret2
  exact ⟨rfl, sW.below⟩

set_option maxRecDepth 100000 in
set_option maxHeartbeats 2000000 in
theorem write_q (neg uns : Bool) (n bits : Int) (pl mi sh sp ze : Bool) (wid prec : Int) (w : World) (_h0 : 0 ≤ n) (_h1 : n ≤ 18446744073709551615) (hb0 : 0 ≤ bits) (hb1 : bits ≤ 18446744073709551615) (hw0 : -9223372036854775808 ≤ wid) (hw1 : wid ≤ 9223372036854775807) :
    Calls Tryz.prog 166 #[whole neg n bits uns, .agg #[.bool pl, .bool mi, .bool sh, .bool sp, .bool ze, .int .i64 wid, .int .i64 prec, .int .i32 (113)]] w fun e w' => e = .returned (tupS (writeS neg uns n.toNat bits.toNat pl mi sh sp ze wid prec 113)) ∧ Below w.heap.size w w' := by
  have hpi : -2147483648 ≤ IP.pointI bits.toNat ∧ IP.pointI bits.toNat ≤ 2147483647 := by
    unfold IP.pointI
    split <;> omega
  have PO := hid (fun W => ipoint_any neg uns n bits W hb0 hb1)
  have CH := hid (fun W => char_any (IP.pointI bits.toNat) pl W hpi.1 hpi.2)
  have hcl : (⟨(IP.charL (IP.pointI bits.toNat) pl).toArray⟩ : ByteArray).size ≤ 12 := by
    have := IP.inL_len (Utf.cp (IP.pointI bits.toNat) : Int) 39 pl
    simp [ByteArray.size, IP.charL]
    omega
  have PD := hid (fun W => pad_any ⟨(IP.charL (IP.pointI bits.toNat) pl).toArray⟩ pl mi sh sp ze wid prec 113 W (by omega) hw0 hw1)
  have hfin : some (padS ⟨(IP.charL (IP.pointI bits.toNat) pl).toArray⟩ mi ze wid) = writeS neg uns n.toNat bits.toNat pl mi sh sp ze wid prec 113 := rfl
  rw [← hfin]
  obtain ⟨Q, hQ⟩ : ∃ Q : ByteArray, (⟨(IP.charL (IP.pointI bits.toNat) pl).toArray⟩ : ByteArray) = Q := ⟨_, rfl⟩
  rw [hQ] at CH PD ⊢
  obtain ⟨pt, hpt⟩ : ∃ pt, IP.pointI bits.toNat = pt := ⟨_, rfl⟩
  rw [hpt] at PO CH
  clear hpi hfin hQ hpt hcl
  have S0 := hid (bs_start w (wh4 neg n bits uns) (sp8 pl mi sh sp ze wid prec 113))
  go_enter Tryz.func166, Tryz.ntmps166
  go_upto_region 1 with fail
  obtain ⟨W0, hW0⟩ : ∃ W0, (w.alloc (.cells (wh4 neg n bits uns) 264)).alloc (.cells (sp8 pl mi sh sp ze wid prec 113) 94) = W0 := ⟨_, rfl⟩
  obtain ⟨H, hH⟩ : ∃ H, w.heap.size = H := ⟨_, rfl⟩
  have HH := hid hH
  rw [hW0] at S0 ⊢
  rw [hH] at S0 ⊢
  clear hW0 hH
  obtain ⟨c0, c1, c2, c3, s0, s1, s2, s3, s4, s5, s6, s7, sf⟩ := S0.out.cells
  have sd := S0.out.drew
  have POC := hid (bsC (w := w) (H1 := H) (H2 := H + 1) (C1 := wh4 neg n bits uns) (C2 := sp8 pl mi sh sp ze wid prec 113) PO.out)
  have CHC := hid (bsC (w := w) (H1 := H) (H2 := H + 1) (C1 := wh4 neg n bits uns) (C2 := sp8 pl mi sh sp ze wid prec 113) CH.out)
  have PDC := hid (bsC (w := w) (H1 := H) (H2 := H + 1) (C1 := wh4 neg n bits uns) (C2 := sp8 pl mi sh sp ze wid prec 113) PD.out)
  clear PO CH PD
  go_wp2_with fail
  go_region_held3 (fun w' => (w'.cell? ⟨H, 0, none⟩ = some (.bool neg) ∧ w'.cell? ⟨H, 1, none⟩ = some (.int .u64 n) ∧ w'.cell? ⟨H, 2, none⟩ = some (.int .u64 bits) ∧ w'.cell? ⟨H, 3, none⟩ = some (.bool uns) ∧ w'.cell? ⟨H + 1, 0, none⟩ = some (.bool pl) ∧ w'.cell? ⟨H + 1, 1, none⟩ = some (.bool mi) ∧ w'.cell? ⟨H + 1, 2, none⟩ = some (.bool sh) ∧ w'.cell? ⟨H + 1, 3, none⟩ = some (.bool sp) ∧ w'.cell? ⟨H + 1, 4, none⟩ = some (.bool ze) ∧ w'.cell? ⟨H + 1, 5, none⟩ = some (.int .i64 wid) ∧ w'.cell? ⟨H + 1, 6, none⟩ = some (.int .i64 prec) ∧ w'.cell? ⟨H + 1, 7, none⟩ = some (.int .i32 113)) ∧ Bs w H (H + 1) (wh4 neg n bits uns) (sp8 pl mi sh sp ze wid prec 113) w') (exact Bs.cellsS (by assumption))
    ((first
      | ((with_reducible refine (POC.out _ (by assumption)).mono ?_); rintro e Wa ⟨rfl, sA⟩)
      | ((with_reducible refine (CHC.out _ (by assumption)).mono ?_); rintro e Wb ⟨rfl, sB⟩)
      | ((with_reducible refine (PDC.out _ (by assumption)).mono ?_); rintro e Wc ⟨rfl, sW⟩)))
  go_wp2_with fail
  go_ret2
  exact ⟨rfl, sW.below⟩

set_option maxRecDepth 100000 in
set_option maxHeartbeats 2000000 in
theorem write_no (neg uns : Bool) (n bits : Int) (pl mi sh sp ze : Bool) (wid prec verb : Int) (w : World) (hv : ¬ verb = 118 ∧ ¬ verb = 100 ∧ ¬ verb = 98 ∧ ¬ verb = 111 ∧ ¬ verb = 79 ∧ ¬ verb = 120 ∧ ¬ verb = 88 ∧ ¬ verb = 99 ∧ ¬ verb = 113 ∧ ¬ verb = 85) :
    Calls Tryz.prog 166 #[whole neg n bits uns, .agg #[.bool pl, .bool mi, .bool sh, .bool sp, .bool ze, .int .i64 wid, .int .i64 prec, .int .i32 (verb)]] w fun e w' => e = .returned (tupS (writeS neg uns n.toNat bits.toNat pl mi sh sp ze wid prec verb)) ∧ Below w.heap.size w w' := by
  obtain ⟨v0, v1, v2, v3, v4, v5, v6, v7, v8, v9⟩ := hv
  have hfin : writeS neg uns n.toNat bits.toNat pl mi sh sp ze wid prec verb = none := by
    unfold writeS IP.baseOf
    rw [if_neg v7, if_neg v8, if_neg v9, if_neg (fun h => v0 h.1), if_neg (fun h => h.elim v1 v0), if_neg v2, if_neg v3, if_neg v4, if_neg v5, if_neg v6]
  rw [hfin]
  clear hfin
  have b0 : (verb == 118) = false := beq_eq_false_iff_ne.2 v0
  have b1 : (verb == 100) = false := beq_eq_false_iff_ne.2 v1
  have b2 : (verb == 98) = false := beq_eq_false_iff_ne.2 v2
  have b3 : (verb == 111) = false := beq_eq_false_iff_ne.2 v3
  have b4 : (verb == 79) = false := beq_eq_false_iff_ne.2 v4
  have b5 : (verb == 120) = false := beq_eq_false_iff_ne.2 v5
  have b6 : (verb == 88) = false := beq_eq_false_iff_ne.2 v6
  have b7 : (verb == 99) = false := beq_eq_false_iff_ne.2 v7
  have b8 : (verb == 113) = false := beq_eq_false_iff_ne.2 v8
  have b9 : (verb == 85) = false := beq_eq_false_iff_ne.2 v9
  have S0 := hid (bs_start w (wh4 neg n bits uns) (sp8 pl mi sh sp ze wid prec verb))
  go_enter Tryz.func166, Tryz.ntmps166
  go_upto_region 1 with fail
  obtain ⟨W0, hW0⟩ : ∃ W0, (w.alloc (.cells (wh4 neg n bits uns) 264)).alloc (.cells (sp8 pl mi sh sp ze wid prec verb) 94) = W0 := ⟨_, rfl⟩
  obtain ⟨H, hH⟩ : ∃ H, w.heap.size = H := ⟨_, rfl⟩
  have HH := hid hH
  rw [hW0] at S0 ⊢
  rw [hH] at S0 ⊢
  clear hW0 hH
  obtain ⟨c0, c1, c2, c3, s0, s1, s2, s3, s4, s5, s6, s7, sf⟩ := S0.out.cells
  go_wp2_with fail
  go_ret2
  exact ⟨rfl, S0.out.below⟩

theorem write_any (neg uns : Bool) (n bits : Int) (pl mi sh sp ze : Bool) (wid prec verb : Int) (w : World) (h0 : 0 ≤ n) (h1 : n ≤ 18446744073709551615) (hb0 : 0 ≤ bits) (hb1 : bits ≤ 18446744073709551615) (hw0 : -9223372036854775808 ≤ wid) (hw1 : wid ≤ 9223372036854775807) :
    Calls Tryz.prog 166 #[whole neg n bits uns, .agg #[.bool pl, .bool mi, .bool sh, .bool sp, .bool ze, .int .i64 wid, .int .i64 prec, .int .i32 (verb)]] w fun e w' => e = .returned (tupS (writeS neg uns n.toNat bits.toNat pl mi sh sp ze wid prec verb)) ∧ Below w.heap.size w w' := by
  by_cases e100 : verb = 100
  · subst e100
    exact write_d neg uns n bits pl mi sh sp ze wid prec w h0 h1 hb0 hb1 hw0 hw1
  by_cases e98 : verb = 98
  · subst e98
    exact write_b neg uns n bits pl mi sh sp ze wid prec w h0 h1 hb0 hb1 hw0 hw1
  by_cases e111 : verb = 111
  · subst e111
    exact write_o neg uns n bits pl mi sh sp ze wid prec w h0 h1 hb0 hb1 hw0 hw1
  by_cases e79 : verb = 79
  · subst e79
    exact write_O neg uns n bits pl mi sh sp ze wid prec w h0 h1 hb0 hb1 hw0 hw1
  by_cases e120 : verb = 120
  · subst e120
    exact write_x neg uns n bits pl mi sh sp ze wid prec w h0 h1 hb0 hb1 hw0 hw1
  by_cases e88 : verb = 88
  · subst e88
    exact write_X neg uns n bits pl mi sh sp ze wid prec w h0 h1 hb0 hb1 hw0 hw1
  by_cases e99 : verb = 99
  · subst e99
    exact write_c neg uns n bits pl mi sh sp ze wid prec w h0 h1 hb0 hb1 hw0 hw1
  by_cases e113 : verb = 113
  · subst e113
    exact write_q neg uns n bits pl mi sh sp ze wid prec w h0 h1 hb0 hb1 hw0 hw1
  by_cases e85 : verb = 85
  · subst e85
    exact write_U neg uns n bits pl mi sh sp ze wid prec w h0 h1 hb0 hb1 hw0 hw1
  by_cases e118 : verb = 118
  · subst e118
    cases uns
    · exact write_v1a neg n bits pl mi sh sp ze wid prec w h0 h1 hb0 hb1 hw0 hw1
    · cases sh
      · exact write_v1b neg n bits pl mi sp ze wid prec w h0 h1 hb0 hb1 hw0 hw1
      · exact write_v2 neg n bits pl mi sp ze wid prec w h0 h1 hb0 hb1 hw0 hw1
  exact write_no neg uns n bits pl mi sh sp ze wid prec verb w ⟨e118, e100, e98, e111, e79, e120, e88, e99, e113, e85⟩
end Go.Proofs.YtdjhmanccoekjaaGreatDoor.IN
end

section
namespace Go.Proofs.YtdjhmanccoekjaaGreatDoor.IN
open Go.RowKit Go.Proofs

/-- The 64 bits of a number with a sign. -/
def bitsI (v : Int) : Nat := (v % 18446744073709551616).toNat
theorem bits_pos {v : Int} (h0 : 0 ≤ v) (h1 : v ≤ 9223372036854775807) : (bitsI v : Int) = v := by unfold bitsI; omega
theorem bits_neg {v : Int} (h0 : v < 0) (h1 : -9223372036854775808 ≤ v) : (bitsI v : Int) = v + 18446744073709551616 := by unfold bitsI; omega
theorem bits_lt (v : Int) : (bitsI v : Int) ≤ 18446744073709551615 := by unfold bitsI; omega
theorem wrapu (v : Int) : IntKind.u64.wrap v = (bitsI v : Int) := by
  rw [IntKind.wrap_u64]
  unfold bitsI
  omega
/-- What is written of a number with a sign. -/
def signedS (v : Int) (pl mi sh sp ze : Bool) (wid prec verb : Int) : Option ByteArray := writeS (decide (v < 0)) false v.natAbs (bitsI v) pl mi sh sp ze wid prec verb
def unsignedS (n : Nat) (pl mi sh sp ze : Bool) (wid prec verb : Int) : Option ByteArray := writeS false true n n pl mi sh sp ze wid prec verb

set_option maxRecDepth 100000 in
set_option maxHeartbeats 1000000 in
theorem signed_any (v : Int) (pl mi sh sp ze : Bool) (wid prec verb : Int) (w : World) (h0 : -9223372036854775808 ≤ v) (h1 : v ≤ 9223372036854775807) (hw0 : -9223372036854775808 ≤ wid) (hw1 : wid ≤ 9223372036854775807) :
    Calls Tryz.prog 140 #[.int .i64 v, .agg #[.bool pl, .bool mi, .bool sh, .bool sp, .bool ze, .int .i64 wid, .int .i64 prec, .int .i32 verb]] w fun e w' => e = .returned (tupS (signedS v pl mi sh sp ze wid prec verb)) ∧ Below w.heap.size w w' := by
  obtain ⟨u, hu⟩ : ∃ u : Int, (bitsI v : Int) = u := ⟨_, rfl⟩
  have hwr := wrapu v
  rw [hu] at hwr
  have hub := bits_lt v
  rw [hu] at hub
  have hu0 : 0 ≤ u := by omega
  by_cases hv : v < 0
  · have hb := bits_neg hv h0
    rw [hu] at hb
    obtain ⟨m, hm⟩ : ∃ m : Int, IntKind.u64.wrap (-u) = m := ⟨_, rfl⟩
    have hmv : m = -v := by
      rw [← hm, wrapu]
      unfold bitsI
      omega
    have hm0 : 0 ≤ m := by omega
    have hm1 : m ≤ 18446744073709551615 := by omega
    have WA := hid (fun W => write_any true false m u pl mi sh sp ze wid prec verb W hm0 hm1 hu0 hub hw0 hw1)
    have hfin : writeS true false m.toNat u.toNat pl mi sh sp ze wid prec verb = signedS v pl mi sh sp ze wid prec verb := by
      unfold signedS
      rw [decide_eq_true hv, show m.toNat = v.natAbs by omega, show u.toNat = bitsI v by omega]
    rw [hfin] at WA
    obtain ⟨R, hR⟩ : ∃ R, signedS v pl mi sh sp ze wid prec verb = R := ⟨_, rfl⟩
    rw [hR] at WA ⊢
    clear hfin hR hmv hb hu
    go_enter Tryz.func140, Tryz.ntmps140
    go_wp2_with fail
    refine (WA.out _).mono ?_
    rintro e w1 ⟨rfl, hb⟩
    have HB := hid ((((Below.refl w.heap.size w).alloc (Nat.le_refl _) _).alloc (by simp) _).trans (hb.mono (by simp; omega)))
    clear hb
    cases R
    all_goals
      simp only [tupS]
      go_wp2_with fail
      go_ret2
      exact ⟨rfl, HB.out⟩
  · have hv' : 0 ≤ v := by omega
    have hb := bits_pos hv' h1
    rw [hu] at hb
    have WA := hid (fun W => write_any false false u u pl mi sh sp ze wid prec verb W hu0 hub hu0 hub hw0 hw1)
    have hfin : writeS false false u.toNat u.toNat pl mi sh sp ze wid prec verb = signedS v pl mi sh sp ze wid prec verb := by
      unfold signedS
      rw [decide_eq_false hv, show u.toNat = bitsI v by omega, show v.natAbs = bitsI v by omega]
    rw [hfin] at WA
    obtain ⟨R, hR⟩ : ∃ R, signedS v pl mi sh sp ze wid prec verb = R := ⟨_, rfl⟩
    rw [hR] at WA ⊢
    clear hfin hR hb hu
    go_enter Tryz.func140, Tryz.ntmps140
    go_wp2_with fail
    refine (WA.out _).mono ?_
    rintro e w1 ⟨rfl, hb⟩
    have HB := hid ((((Below.refl w.heap.size w).alloc (Nat.le_refl _) _).alloc (by simp) _).trans (hb.mono (by simp; omega)))
    clear hb
    cases R
    all_goals
      simp only [tupS]
      go_wp2_with fail
      go_ret2
      exact ⟨rfl, HB.out⟩
theorem unsigned_any (n : Int) (pl mi sh sp ze : Bool) (wid prec verb : Int) (w : World) (h0 : 0 ≤ n) (h1 : n ≤ 18446744073709551615) (hw0 : -9223372036854775808 ≤ wid) (hw1 : wid ≤ 9223372036854775807) :
    Calls Tryz.prog 142 #[.int .u64 n, .agg #[.bool pl, .bool mi, .bool sh, .bool sp, .bool ze, .int .i64 wid, .int .i64 prec, .int .i32 verb]] w fun e w' => e = .returned (tupS (unsignedS n.toNat pl mi sh sp ze wid prec verb)) ∧ Below w.heap.size w w' := by
  have WA := hid (fun W => write_any false true n n pl mi sh sp ze wid prec verb W h0 h1 h0 h1 hw0 hw1)
  have hfin : writeS false true n.toNat n.toNat pl mi sh sp ze wid prec verb = unsignedS n.toNat pl mi sh sp ze wid prec verb := rfl
  rw [hfin] at WA
  obtain ⟨R, hR⟩ : ∃ R, unsignedS n.toNat pl mi sh sp ze wid prec verb = R := ⟨_, rfl⟩
  rw [hR] at WA ⊢
  clear hfin hR
  go_enter Tryz.func142, Tryz.ntmps142
  go_wp2_with fail
  refine (WA.out _).mono ?_
  rintro e w1 ⟨rfl, hb⟩
  have HB := hid (((Below.refl w.heap.size w).alloc (Nat.le_refl _) _).trans (hb.mono (by simp)))
  clear hb
  cases R
  all_goals
    simp only [tupS]
    go_wp2_with fail
    go_ret2
    exact ⟨rfl, HB.out⟩
end Go.Proofs.YtdjhmanccoekjaaGreatDoor.IN
end

section
namespace Go.Proofs.YtdjhmanccoekjaaGreatDoor
open Go.RowKit Go.Proofs

set_option maxHeartbeats 1000000 in
theorem isnil_no (T : TypeId) (x : Value) (w : World) (h1 : ∀ w : World, (binOp BinOp.eql 103 (.iface T x) .nilIface).run Tryz.prog w = .ok (.bool false) w)
    (h2 : ∀ w : World, (Instr.typeAssert (.iface T x) 103 217 true).run Tryz.prog w = .ok (.tuple #[.agg #[], .bool false]) w) :
    Calls Tryz.prog 112 #[.iface T x] w fun e w' => e = .returned (.bool false) ∧ w = w' := by
  go_enter Tryz.func112, Tryz.ntmps112
  go_wp2_with fail
  go_ret
  exact ⟨rfl, rfl⟩
/-- A writer. -/
abbrev wrC (pl mi sh sp ze : Bool) (wid prec verb : Int) (A : Value) : Array Value := #[.bool pl, .bool mi, .bool sh, .bool sp, .bool ze, .int .i64 wid, .int .i64 prec, .int .i32 verb, A]
theorem cell_keep {W W' : World} {p : Addr} {v : Value} (hb : Below W.heap.size W W') (h : W.cell? p = some v) : W'.cell? p = some v := (hb.cell (World.block_lt_of_cell? W _ h)).trans h
/-- Plus is not for numbers by v. -/
def plusN (verb : Int) (pl : Bool) : Bool := if verb = 118 then false else pl
set_option maxRecDepth 100000 in
set_option maxHeartbeats 1000000 in
theorem number_any (pl mi sh sp ze : Bool) (wid prec verb : Int) (A : Value) (w : World) :
    Calls Tryz.prog 141 #[.agg (wrC pl mi sh sp ze wid prec verb A)] w fun e w' => e = .returned (.agg (sp8 (plusN verb pl) mi sh sp ze wid prec verb)) ∧ Below w.heap.size w w' := by
  by_cases hv : verb = 118
  · subst hv
    rw [show plusN 118 pl = false from rfl]
    go_enter Tryz.func141, Tryz.ntmps141
    go_wp2_with fail
    refine bodyPost_ret (v := .agg (sp8 false mi sh sp ze wid prec 118)) (by simp [results, Tryz.results141, go_sem]) rfl ⟨rfl, ?_⟩
    exact below_n (below_n (below_n (Below.refl _ _) _ _) _ _) _ _
  · have hb : (verb == 118) = false := by simpa using hv
    rw [show plusN verb pl = pl by unfold plusN; rw [if_neg hv]]
    go_enter Tryz.func141, Tryz.ntmps141
    go_wp2_with fail
    refine bodyPost_ret (v := .agg (sp8 pl mi sh sp ze wid prec verb)) (by simp [results, Tryz.results141, go_sem]) rfl ⟨rfl, ?_⟩
    exact below_n (below_n (below_n (Below.refl _ _) _ _) _ _) _ _
def trueS : ByteArray := ⟨#[116, 114, 117, 101]⟩
def falseS : ByteArray := ⟨#[102, 97, 108, 115, 101]⟩
/-- A bool by a spec. -/
def boolS (x mi ze : Bool) (wid verb : Int) : Option ByteArray := if verb = 116 ∨ verb = 118 then some (padS (if x then trueS else falseS) mi ze wid) else none
set_option maxRecDepth 100000 in
set_option maxHeartbeats 2000000 in
theorem kind_bool (k : Int) (ty : ByteArray) (hk : Int) (x pl mi sh sp ze : Bool) (wid prec verb : Int) (A : Value) (dp : Int) (w : World) (hw0 : -9223372036854775808 ≤ wid) (hw1 : wid ≤ 9223372036854775807) :
    Calls Tryz.prog 113 #[.agg (wrC pl mi sh sp ze wid prec verb A), .iface 179 (.agg #[.int .i64 k, .string ty, .int .i64 hk, .bool x]), .int .i64 dp] w fun e w' => e = .returned (tupB (boolS x mi ze wid verb)) ∧ Below w.heap.size w w' := by
  have h0 := ta_Bool_Bool
  have PD := hid (fun s W hs => pad_any s pl mi sh sp ze wid prec verb W hs hw0 hw1)
  have lp : Below w.heap.size w ((w.alloc (.cells (wrC pl mi sh sp ze wid prec verb A) 142)).alloc (.cells #[.int .i64 k, .string ty, .int .i64 hk, .bool x] 179)) := below_n (below_n (Below.refl _ _) _ _) _ _
  have LP := hid lp
  clear lp
  by_cases hv : verb = 116 ∨ verb = 118
  · have e : boolS x mi ze wid verb = some (padS (if x then trueS else falseS) mi ze wid) := by unfold boolS; rw [if_pos hv]
    rw [e]
    cases x
    · have P0 := hid (PD.out falseS)
      obtain ⟨r, hr⟩ : ∃ r, padS falseS mi ze wid = r := ⟨_, rfl⟩
      simp only [Bool.false_eq_true, ↓reduceIte]
      rw [hr] at P0 ⊢
      rcases hv with rfl | rfl
      all_goals go_enter Tryz.func113, Tryz.ntmps113
      all_goals go_wp2_with fail
      all_goals refine (P0.out _ (by decide)).mono ?_
      all_goals rintro e w1 ⟨rfl, hb⟩
      all_goals have HB := hid (LP.out.trans (hb.mono LP.out.size))
      all_goals clear hb
      all_goals go_wp2_with fail
      all_goals go_ret2
      all_goals exact ⟨rfl, HB.out⟩
    · have P0 := hid (PD.out trueS)
      obtain ⟨r, hr⟩ : ∃ r, padS trueS mi ze wid = r := ⟨_, rfl⟩
      simp only [↓reduceIte]
      rw [hr] at P0 ⊢
      rcases hv with rfl | rfl
      all_goals go_enter Tryz.func113, Tryz.ntmps113
      all_goals go_wp2_with fail
      all_goals refine (P0.out _ (by decide)).mono ?_
      all_goals rintro e w1 ⟨rfl, hb⟩
      all_goals have HB := hid (LP.out.trans (hb.mono LP.out.size))
      all_goals clear hb
      all_goals go_wp2_with fail
      all_goals go_ret2
      all_goals exact ⟨rfl, HB.out⟩
  · have e : boolS x mi ze wid verb = none := by unfold boolS; rw [if_neg hv]
    rw [e]
    have g1 : (verb != 116) = true := by simp; omega
    have g2 : (verb != 118) = true := by simp; omega
    clear hv e
    go_enter Tryz.func113, Tryz.ntmps113
    go_wp2_with fail
    go_ret2
    exact ⟨rfl, LP.out⟩

theorem box9_keep {W W' : World} {B C : Nat} {pl mi sh sp ze : Bool} {wid prec verb : Int} {A y0 : Value} (h : (W.cell? ⟨B, 0, none⟩ = some (.bool pl) ∧ W.cell? ⟨B, 1, none⟩ = some (.bool mi) ∧ W.cell? ⟨B, 2, none⟩ = some (.bool sh) ∧ W.cell? ⟨B, 3, none⟩ = some (.bool sp) ∧ W.cell? ⟨B, 4, none⟩ = some (.bool ze) ∧ W.cell? ⟨B, 5, none⟩ = some (.int .i64 wid) ∧ W.cell? ⟨B, 6, none⟩ = some (.int .i64 prec) ∧ W.cell? ⟨B, 7, none⟩ = some (.int .i32 verb)) ∧ W.cell? ⟨B, 8, none⟩ = some A ∧ W.cell? ⟨C, 3, none⟩ = some y0) (hb : Below W.heap.size W W') :
    (W'.cell? ⟨B, 0, none⟩ = some (.bool pl) ∧ W'.cell? ⟨B, 1, none⟩ = some (.bool mi) ∧ W'.cell? ⟨B, 2, none⟩ = some (.bool sh) ∧ W'.cell? ⟨B, 3, none⟩ = some (.bool sp) ∧ W'.cell? ⟨B, 4, none⟩ = some (.bool ze) ∧ W'.cell? ⟨B, 5, none⟩ = some (.int .i64 wid) ∧ W'.cell? ⟨B, 6, none⟩ = some (.int .i64 prec) ∧ W'.cell? ⟨B, 7, none⟩ = some (.int .i32 verb)) ∧ W'.cell? ⟨B, 8, none⟩ = some A ∧ W'.cell? ⟨C, 3, none⟩ = some y0 := by
  obtain ⟨⟨h0, h1, h2, h3, h4, h5, h6, h7⟩, h8, h9⟩ := h
  exact ⟨⟨cell_keep hb h0, cell_keep hb h1, cell_keep hb h2, cell_keep hb h3, cell_keep hb h4, cell_keep hb h5, cell_keep hb h6, cell_keep hb h7⟩, cell_keep hb h8, cell_keep hb h9⟩
theorem box9_start {W : World} {B C : Nat} {pl mi sh sp ze : Bool} {wid prec verb : Int} {A y0 : Value} {cs : Array Value} {t : TypeId} (h : Blk W B (wrC pl mi sh sp ze wid prec verb A) 142) (hc : Blk W C cs t) (e0 : cs[3]? = some y0) :
    (W.cell? ⟨B, 0, none⟩ = some (.bool pl) ∧ W.cell? ⟨B, 1, none⟩ = some (.bool mi) ∧ W.cell? ⟨B, 2, none⟩ = some (.bool sh) ∧ W.cell? ⟨B, 3, none⟩ = some (.bool sp) ∧ W.cell? ⟨B, 4, none⟩ = some (.bool ze) ∧ W.cell? ⟨B, 5, none⟩ = some (.int .i64 wid) ∧ W.cell? ⟨B, 6, none⟩ = some (.int .i64 prec) ∧ W.cell? ⟨B, 7, none⟩ = some (.int .i32 verb)) ∧ W.cell? ⟨B, 8, none⟩ = some A ∧ W.cell? ⟨C, 3, none⟩ = some y0 :=
  ⟨⟨h.cell 0, h.cell 1, h.cell 2, h.cell 3, h.cell 4, h.cell 5, h.cell 6, h.cell 7⟩, h.cell 8, (hc.cell 3).trans e0⟩
theorem box10_keep {W W' : World} {B C : Nat} {pl mi sh sp ze : Bool} {wid prec verb : Int} {A y0 y1 : Value} (h : (W.cell? ⟨B, 0, none⟩ = some (.bool pl) ∧ W.cell? ⟨B, 1, none⟩ = some (.bool mi) ∧ W.cell? ⟨B, 2, none⟩ = some (.bool sh) ∧ W.cell? ⟨B, 3, none⟩ = some (.bool sp) ∧ W.cell? ⟨B, 4, none⟩ = some (.bool ze) ∧ W.cell? ⟨B, 5, none⟩ = some (.int .i64 wid) ∧ W.cell? ⟨B, 6, none⟩ = some (.int .i64 prec) ∧ W.cell? ⟨B, 7, none⟩ = some (.int .i32 verb)) ∧ W.cell? ⟨B, 8, none⟩ = some A ∧ W.cell? ⟨C, 3, none⟩ = some y0 ∧ W.cell? ⟨C, 4, none⟩ = some y1) (hb : Below W.heap.size W W') :
    (W'.cell? ⟨B, 0, none⟩ = some (.bool pl) ∧ W'.cell? ⟨B, 1, none⟩ = some (.bool mi) ∧ W'.cell? ⟨B, 2, none⟩ = some (.bool sh) ∧ W'.cell? ⟨B, 3, none⟩ = some (.bool sp) ∧ W'.cell? ⟨B, 4, none⟩ = some (.bool ze) ∧ W'.cell? ⟨B, 5, none⟩ = some (.int .i64 wid) ∧ W'.cell? ⟨B, 6, none⟩ = some (.int .i64 prec) ∧ W'.cell? ⟨B, 7, none⟩ = some (.int .i32 verb)) ∧ W'.cell? ⟨B, 8, none⟩ = some A ∧ W'.cell? ⟨C, 3, none⟩ = some y0 ∧ W'.cell? ⟨C, 4, none⟩ = some y1 := by
  obtain ⟨⟨h0, h1, h2, h3, h4, h5, h6, h7⟩, h8, h9, h10⟩ := h
  exact ⟨⟨cell_keep hb h0, cell_keep hb h1, cell_keep hb h2, cell_keep hb h3, cell_keep hb h4, cell_keep hb h5, cell_keep hb h6, cell_keep hb h7⟩, cell_keep hb h8, cell_keep hb h9, cell_keep hb h10⟩
theorem box10_start {W : World} {B C : Nat} {pl mi sh sp ze : Bool} {wid prec verb : Int} {A y0 y1 : Value} {cs : Array Value} {t : TypeId} (h : Blk W B (wrC pl mi sh sp ze wid prec verb A) 142) (hc : Blk W C cs t) (e0 : cs[3]? = some y0) (e1 : cs[4]? = some y1) :
    (W.cell? ⟨B, 0, none⟩ = some (.bool pl) ∧ W.cell? ⟨B, 1, none⟩ = some (.bool mi) ∧ W.cell? ⟨B, 2, none⟩ = some (.bool sh) ∧ W.cell? ⟨B, 3, none⟩ = some (.bool sp) ∧ W.cell? ⟨B, 4, none⟩ = some (.bool ze) ∧ W.cell? ⟨B, 5, none⟩ = some (.int .i64 wid) ∧ W.cell? ⟨B, 6, none⟩ = some (.int .i64 prec) ∧ W.cell? ⟨B, 7, none⟩ = some (.int .i32 verb)) ∧ W.cell? ⟨B, 8, none⟩ = some A ∧ W.cell? ⟨C, 3, none⟩ = some y0 ∧ W.cell? ⟨C, 4, none⟩ = some y1 :=
  ⟨⟨h.cell 0, h.cell 1, h.cell 2, h.cell 3, h.cell 4, h.cell 5, h.cell 6, h.cell 7⟩, h.cell 8, (hc.cell 3).trans e0, (hc.cell 4).trans e1⟩
theorem box11_keep {W W' : World} {B C : Nat} {pl mi sh sp ze : Bool} {wid prec verb : Int} {A y0 y1 y2 : Value} (h : (W.cell? ⟨B, 0, none⟩ = some (.bool pl) ∧ W.cell? ⟨B, 1, none⟩ = some (.bool mi) ∧ W.cell? ⟨B, 2, none⟩ = some (.bool sh) ∧ W.cell? ⟨B, 3, none⟩ = some (.bool sp) ∧ W.cell? ⟨B, 4, none⟩ = some (.bool ze) ∧ W.cell? ⟨B, 5, none⟩ = some (.int .i64 wid) ∧ W.cell? ⟨B, 6, none⟩ = some (.int .i64 prec) ∧ W.cell? ⟨B, 7, none⟩ = some (.int .i32 verb)) ∧ W.cell? ⟨B, 8, none⟩ = some A ∧ W.cell? ⟨C, 3, none⟩ = some y0 ∧ W.cell? ⟨C, 4, none⟩ = some y1 ∧ W.cell? ⟨C, 5, none⟩ = some y2) (hb : Below W.heap.size W W') :
    (W'.cell? ⟨B, 0, none⟩ = some (.bool pl) ∧ W'.cell? ⟨B, 1, none⟩ = some (.bool mi) ∧ W'.cell? ⟨B, 2, none⟩ = some (.bool sh) ∧ W'.cell? ⟨B, 3, none⟩ = some (.bool sp) ∧ W'.cell? ⟨B, 4, none⟩ = some (.bool ze) ∧ W'.cell? ⟨B, 5, none⟩ = some (.int .i64 wid) ∧ W'.cell? ⟨B, 6, none⟩ = some (.int .i64 prec) ∧ W'.cell? ⟨B, 7, none⟩ = some (.int .i32 verb)) ∧ W'.cell? ⟨B, 8, none⟩ = some A ∧ W'.cell? ⟨C, 3, none⟩ = some y0 ∧ W'.cell? ⟨C, 4, none⟩ = some y1 ∧ W'.cell? ⟨C, 5, none⟩ = some y2 := by
  obtain ⟨⟨h0, h1, h2, h3, h4, h5, h6, h7⟩, h8, h9, h10, h11⟩ := h
  exact ⟨⟨cell_keep hb h0, cell_keep hb h1, cell_keep hb h2, cell_keep hb h3, cell_keep hb h4, cell_keep hb h5, cell_keep hb h6, cell_keep hb h7⟩, cell_keep hb h8, cell_keep hb h9, cell_keep hb h10, cell_keep hb h11⟩
theorem box11_start {W : World} {B C : Nat} {pl mi sh sp ze : Bool} {wid prec verb : Int} {A y0 y1 y2 : Value} {cs : Array Value} {t : TypeId} (h : Blk W B (wrC pl mi sh sp ze wid prec verb A) 142) (hc : Blk W C cs t) (e0 : cs[3]? = some y0) (e1 : cs[4]? = some y1) (e2 : cs[5]? = some y2) :
    (W.cell? ⟨B, 0, none⟩ = some (.bool pl) ∧ W.cell? ⟨B, 1, none⟩ = some (.bool mi) ∧ W.cell? ⟨B, 2, none⟩ = some (.bool sh) ∧ W.cell? ⟨B, 3, none⟩ = some (.bool sp) ∧ W.cell? ⟨B, 4, none⟩ = some (.bool ze) ∧ W.cell? ⟨B, 5, none⟩ = some (.int .i64 wid) ∧ W.cell? ⟨B, 6, none⟩ = some (.int .i64 prec) ∧ W.cell? ⟨B, 7, none⟩ = some (.int .i32 verb)) ∧ W.cell? ⟨B, 8, none⟩ = some A ∧ W.cell? ⟨C, 3, none⟩ = some y0 ∧ W.cell? ⟨C, 4, none⟩ = some y1 ∧ W.cell? ⟨C, 5, none⟩ = some y2 :=
  ⟨⟨h.cell 0, h.cell 1, h.cell 2, h.cell 3, h.cell 4, h.cell 5, h.cell 6, h.cell 7⟩, h.cell 8, (hc.cell 3).trans e0, (hc.cell 4).trans e1, (hc.cell 5).trans e2⟩
theorem tup_str (r : Option ByteArray) : ∃ t ok, IN.tupS r = .tuple #[.string t, .bool ok] := by cases r <;> exact ⟨_, _, rfl⟩
set_option maxRecDepth 100000 in
set_option maxHeartbeats 4000000 in
theorem kind_int (k : Int) (ty : ByteArray) (hk : Int) (x : Int) (pl mi sh sp ze : Bool) (wid prec verb : Int) (A : Value) (dp : Int) (w : World) (h0 : -9223372036854775808 ≤ x) (h1 : x ≤ 9223372036854775807) (hw0 : -9223372036854775808 ≤ wid) (hw1 : wid ≤ 9223372036854775807) :
    Calls Tryz.prog 113 #[.agg (wrC pl mi sh sp ze wid prec verb A), .iface 181 (.agg #[.int .i64 k, .string ty, .int .i64 hk, .int .i64 x]), .int .i64 dp] w fun e w' => e = .returned (IN.tupS (IN.signedS x (plusN verb pl) mi sh sp ze wid prec verb)) ∧ Below w.heap.size w w' := by
  have q0 := ta_Int_Bool
  have q1 := ta_Int_Int
  have NU := hid (fun W => number_any pl mi sh sp ze wid prec verb A W)
  have SG := hid (fun W => IN.signed_any x (plusN verb pl) mi sh sp ze wid prec verb W h0 h1 hw0 hw1)
  obtain ⟨r, hr⟩ : ∃ r : Value, (IN.tupS (IN.signedS x (plusN verb pl) mi sh sp ze wid prec verb)) = r := ⟨_, rfl⟩
  rw [hr] at SG ⊢
  obtain ⟨P, hP⟩ : ∃ P, plusN verb pl = P := ⟨_, rfl⟩
  rw [hP] at NU SG
  obtain ⟨t, ok, ht⟩ : ∃ t ok, r = .tuple #[.string t, .bool ok] := by subst hr; exact tup_str _
  subst ht
  have hA := Blk.new w (wrC pl mi sh sp ze wid prec verb A) 142
  have hC := Blk.new (w.alloc (.cells (wrC pl mi sh sp ze wid prec verb A) 142)) #[.int .i64 k, .string ty, .int .i64 hk, .int .i64 x] 181
  have S0 := box9_start (y0 := .int .i64 x) (hA.alloc (.cells #[.int .i64 k, .string ty, .int .i64 hk, .int .i64 x] 181)) hC rfl
  have lp : Below w.heap.size w ((w.alloc (.cells (wrC pl mi sh sp ze wid prec verb A) 142)).alloc (.cells #[.int .i64 k, .string ty, .int .i64 hk, .int .i64 x] 181)) := below_n (below_n (Below.refl _ _) _ _) _ _
  rw [World.size_alloc] at S0
  have LP := hid lp
  have HS := hid S0
  clear lp S0 hA hC hr hP
  go_enter Tryz.func113, Tryz.ntmps113
  go_wp2_with fail
  obtain ⟨W1, hW1⟩ : ∃ W1, ((w.alloc (.cells (wrC pl mi sh sp ze wid prec verb A) 142)).alloc (.cells #[.int .i64 k, .string ty, .int .i64 hk, .int .i64 x] 181)) = W1 := ⟨_, rfl⟩
  obtain ⟨B, hB⟩ : ∃ B, w.heap.size = B := ⟨_, rfl⟩
  rw [hW1, hB] at HS
  rw [hW1] at LP ⊢
  rw [hB]
  clear hW1 hB
  go_region_held3 (fun w' => (w'.cell? ⟨B, 0, none⟩ = some (.bool pl) ∧ w'.cell? ⟨B, 1, none⟩ = some (.bool mi) ∧ w'.cell? ⟨B, 2, none⟩ = some (.bool sh) ∧ w'.cell? ⟨B, 3, none⟩ = some (.bool sp) ∧ w'.cell? ⟨B, 4, none⟩ = some (.bool ze) ∧ w'.cell? ⟨B, 5, none⟩ = some (.int .i64 wid) ∧ w'.cell? ⟨B, 6, none⟩ = some (.int .i64 prec) ∧ w'.cell? ⟨B, 7, none⟩ = some (.int .i32 verb)) ∧ w'.cell? ⟨B, 8, none⟩ = some A ∧ w'.cell? ⟨B + 1, 3, none⟩ = some (.int .i64 x)) (first | exact HS.out | exact box9_keep (by assumption) hb6 | exact box9_keep (by assumption) hb5) (first | (go_at_call 141; refine (NU.out _).mono ?_; rintro e w5 ⟨rfl, hb5⟩) | (go_at_call 140; refine (SG.out _).mono ?_; rintro e w6 ⟨rfl, hb6⟩))
  have HB5 := LP.out.drew.trans (hb5.mono LP.out.size)
  have HB6 := hid (HB5.trans (hb6.mono HB5.size))
  clear hb5 hb6 HB5
  go_wp2_with fail
  go_ret2
  exact ⟨rfl, HB6.out⟩
set_option maxRecDepth 100000 in
set_option maxHeartbeats 4000000 in
theorem kind_uint (k : Int) (ty : ByteArray) (hk : Int) (x : Int) (pl mi sh sp ze : Bool) (wid prec verb : Int) (A : Value) (dp : Int) (w : World) (h0 : 0 ≤ x) (h1 : x ≤ 18446744073709551615) (hw0 : -9223372036854775808 ≤ wid) (hw1 : wid ≤ 9223372036854775807) :
    Calls Tryz.prog 113 #[.agg (wrC pl mi sh sp ze wid prec verb A), .iface 183 (.agg #[.int .i64 k, .string ty, .int .i64 hk, .int .u64 x]), .int .i64 dp] w fun e w' => e = .returned (IN.tupS (IN.unsignedS x.toNat (plusN verb pl) mi sh sp ze wid prec verb)) ∧ Below w.heap.size w w' := by
  have q0 := ta_Uint_Bool
  have q1 := ta_Uint_Int
  have q2 := ta_Uint_Uint
  have NU := hid (fun W => number_any pl mi sh sp ze wid prec verb A W)
  have SG := hid (fun W => IN.unsigned_any x (plusN verb pl) mi sh sp ze wid prec verb W h0 h1 hw0 hw1)
  obtain ⟨r, hr⟩ : ∃ r : Value, (IN.tupS (IN.unsignedS x.toNat (plusN verb pl) mi sh sp ze wid prec verb)) = r := ⟨_, rfl⟩
  rw [hr] at SG ⊢
  obtain ⟨P, hP⟩ : ∃ P, plusN verb pl = P := ⟨_, rfl⟩
  rw [hP] at NU SG
  obtain ⟨t, ok, ht⟩ : ∃ t ok, r = .tuple #[.string t, .bool ok] := by subst hr; exact tup_str _
  subst ht
  have hA := Blk.new w (wrC pl mi sh sp ze wid prec verb A) 142
  have hC := Blk.new (w.alloc (.cells (wrC pl mi sh sp ze wid prec verb A) 142)) #[.int .i64 k, .string ty, .int .i64 hk, .int .u64 x] 183
  have S0 := box9_start (y0 := .int .u64 x) (hA.alloc (.cells #[.int .i64 k, .string ty, .int .i64 hk, .int .u64 x] 183)) hC rfl
  have lp : Below w.heap.size w ((w.alloc (.cells (wrC pl mi sh sp ze wid prec verb A) 142)).alloc (.cells #[.int .i64 k, .string ty, .int .i64 hk, .int .u64 x] 183)) := below_n (below_n (Below.refl _ _) _ _) _ _
  rw [World.size_alloc] at S0
  have LP := hid lp
  have HS := hid S0
  clear lp S0 hA hC hr hP
  go_enter Tryz.func113, Tryz.ntmps113
  go_wp2_with fail
  obtain ⟨W1, hW1⟩ : ∃ W1, ((w.alloc (.cells (wrC pl mi sh sp ze wid prec verb A) 142)).alloc (.cells #[.int .i64 k, .string ty, .int .i64 hk, .int .u64 x] 183)) = W1 := ⟨_, rfl⟩
  obtain ⟨B, hB⟩ : ∃ B, w.heap.size = B := ⟨_, rfl⟩
  rw [hW1, hB] at HS
  rw [hW1] at LP ⊢
  rw [hB]
  clear hW1 hB
  go_region_held3 (fun w' => (w'.cell? ⟨B, 0, none⟩ = some (.bool pl) ∧ w'.cell? ⟨B, 1, none⟩ = some (.bool mi) ∧ w'.cell? ⟨B, 2, none⟩ = some (.bool sh) ∧ w'.cell? ⟨B, 3, none⟩ = some (.bool sp) ∧ w'.cell? ⟨B, 4, none⟩ = some (.bool ze) ∧ w'.cell? ⟨B, 5, none⟩ = some (.int .i64 wid) ∧ w'.cell? ⟨B, 6, none⟩ = some (.int .i64 prec) ∧ w'.cell? ⟨B, 7, none⟩ = some (.int .i32 verb)) ∧ w'.cell? ⟨B, 8, none⟩ = some A ∧ w'.cell? ⟨B + 1, 3, none⟩ = some (.int .u64 x)) (first | exact HS.out | exact box9_keep (by assumption) hb6 | exact box9_keep (by assumption) hb5) (first | (go_at_call 141; refine (NU.out _).mono ?_; rintro e w5 ⟨rfl, hb5⟩) | (go_at_call 142; refine (SG.out _).mono ?_; rintro e w6 ⟨rfl, hb6⟩))
  have HB5 := LP.out.drew.trans (hb5.mono LP.out.size)
  have HB6 := hid (HB5.trans (hb6.mono HB5.size))
  clear hb5 hb6 HB5
  go_wp2_with fail
  go_ret2
  exact ⟨rfl, HB6.out⟩
set_option maxRecDepth 100000 in
set_option maxHeartbeats 4000000 in
theorem kind_float (k : Int) (ty : ByteArray) (hk : Int) (x n : Int) (rt : ByteArray) (rok : Bool) (pl mi sh sp ze : Bool) (wid prec verb : Int) (A : Value) (dp : Int) (w : World) (FL : ∀ W, Calls Tryz.prog 143 #[.int .u64 x, .int .i64 n, .agg (sp8 (plusN verb pl) mi sh sp ze wid prec verb)] W fun e w' => e = .returned (.tuple #[.string rt, .bool rok]) ∧ Below W.heap.size W w') :
    Calls Tryz.prog 113 #[.agg (wrC pl mi sh sp ze wid prec verb A), .iface 185 (.agg #[.int .i64 k, .string ty, .int .i64 hk, .int .u64 x, .int .i64 n]), .int .i64 dp] w fun e w' => e = .returned (.tuple #[.string rt, .bool rok]) ∧ Below w.heap.size w w' := by
  have q0 := ta_Float_Bool
  have q1 := ta_Float_Int
  have q2 := ta_Float_Uint
  have q3 := ta_Float_Float
  have NU := hid (fun W => number_any pl mi sh sp ze wid prec verb A W)
  have SG := hid (FL)
  obtain ⟨r, hr⟩ : ∃ r : Value, (.tuple #[.string rt, .bool rok]) = r := ⟨_, rfl⟩
  rw [hr] at SG ⊢
  obtain ⟨P, hP⟩ : ∃ P, plusN verb pl = P := ⟨_, rfl⟩
  rw [hP] at NU SG
  obtain ⟨t, ok, ht⟩ : ∃ t ok, r = .tuple #[.string t, .bool ok] := by subst hr; exact ⟨_, _, rfl⟩
  subst ht
  have hA := Blk.new w (wrC pl mi sh sp ze wid prec verb A) 142
  have hC := Blk.new (w.alloc (.cells (wrC pl mi sh sp ze wid prec verb A) 142)) #[.int .i64 k, .string ty, .int .i64 hk, .int .u64 x, .int .i64 n] 185
  have S0 := box10_start (y0 := .int .u64 x) (y1 := .int .i64 n) (hA.alloc (.cells #[.int .i64 k, .string ty, .int .i64 hk, .int .u64 x, .int .i64 n] 185)) hC rfl rfl
  have lp : Below w.heap.size w ((w.alloc (.cells (wrC pl mi sh sp ze wid prec verb A) 142)).alloc (.cells #[.int .i64 k, .string ty, .int .i64 hk, .int .u64 x, .int .i64 n] 185)) := below_n (below_n (Below.refl _ _) _ _) _ _
  rw [World.size_alloc] at S0
  have LP := hid lp
  have HS := hid S0
  clear lp S0 hA hC hr hP
  go_enter Tryz.func113, Tryz.ntmps113
  go_wp2_with fail
  obtain ⟨W1, hW1⟩ : ∃ W1, ((w.alloc (.cells (wrC pl mi sh sp ze wid prec verb A) 142)).alloc (.cells #[.int .i64 k, .string ty, .int .i64 hk, .int .u64 x, .int .i64 n] 185)) = W1 := ⟨_, rfl⟩
  obtain ⟨B, hB⟩ : ∃ B, w.heap.size = B := ⟨_, rfl⟩
  rw [hW1, hB] at HS
  rw [hW1] at LP ⊢
  rw [hB]
  clear hW1 hB
  go_region_held3 (fun w' => (w'.cell? ⟨B, 0, none⟩ = some (.bool pl) ∧ w'.cell? ⟨B, 1, none⟩ = some (.bool mi) ∧ w'.cell? ⟨B, 2, none⟩ = some (.bool sh) ∧ w'.cell? ⟨B, 3, none⟩ = some (.bool sp) ∧ w'.cell? ⟨B, 4, none⟩ = some (.bool ze) ∧ w'.cell? ⟨B, 5, none⟩ = some (.int .i64 wid) ∧ w'.cell? ⟨B, 6, none⟩ = some (.int .i64 prec) ∧ w'.cell? ⟨B, 7, none⟩ = some (.int .i32 verb)) ∧ w'.cell? ⟨B, 8, none⟩ = some A ∧ w'.cell? ⟨B + 1, 3, none⟩ = some (.int .u64 x) ∧ w'.cell? ⟨B + 1, 4, none⟩ = some (.int .i64 n)) (first | exact HS.out | exact box10_keep (by assumption) hb6 | exact box10_keep (by assumption) hb5) (first | (go_at_call 141; refine (NU.out _).mono ?_; rintro e w5 ⟨rfl, hb5⟩) | (go_at_call 143; refine (SG.out _).mono ?_; rintro e w6 ⟨rfl, hb6⟩))
  have HB5 := LP.out.drew.trans (hb5.mono LP.out.size)
  have HB6 := hid (HB5.trans (hb6.mono HB5.size))
  clear hb5 hb6 HB5
  go_wp2_with fail
  go_ret2
  exact ⟨rfl, HB6.out⟩
set_option maxRecDepth 100000 in
set_option maxHeartbeats 4000000 in
theorem kind_cplx (k : Int) (ty : ByteArray) (hk : Int) (x y n : Int) (rt : ByteArray) (rok : Bool) (pl mi sh sp ze : Bool) (wid prec verb : Int) (A : Value) (dp : Int) (w : World) (FL : ∀ W, Calls Tryz.prog 144 #[.int .u64 x, .int .u64 y, .int .i64 n, .agg (sp8 (plusN verb pl) mi sh sp ze wid prec verb)] W fun e w' => e = .returned (.tuple #[.string rt, .bool rok]) ∧ Below W.heap.size W w') :
    Calls Tryz.prog 113 #[.agg (wrC pl mi sh sp ze wid prec verb A), .iface 187 (.agg #[.int .i64 k, .string ty, .int .i64 hk, .int .u64 x, .int .u64 y, .int .i64 n]), .int .i64 dp] w fun e w' => e = .returned (.tuple #[.string rt, .bool rok]) ∧ Below w.heap.size w w' := by
  have q0 := ta_Complex_Bool
  have q1 := ta_Complex_Int
  have q2 := ta_Complex_Uint
  have q3 := ta_Complex_Float
  have q4 := ta_Complex_Complex
  have NU := hid (fun W => number_any pl mi sh sp ze wid prec verb A W)
  have SG := hid (FL)
  obtain ⟨r, hr⟩ : ∃ r : Value, (.tuple #[.string rt, .bool rok]) = r := ⟨_, rfl⟩
  rw [hr] at SG ⊢
  obtain ⟨P, hP⟩ : ∃ P, plusN verb pl = P := ⟨_, rfl⟩
  rw [hP] at NU SG
  obtain ⟨t, ok, ht⟩ : ∃ t ok, r = .tuple #[.string t, .bool ok] := by subst hr; exact ⟨_, _, rfl⟩
  subst ht
  have hA := Blk.new w (wrC pl mi sh sp ze wid prec verb A) 142
  have hC := Blk.new (w.alloc (.cells (wrC pl mi sh sp ze wid prec verb A) 142)) #[.int .i64 k, .string ty, .int .i64 hk, .int .u64 x, .int .u64 y, .int .i64 n] 187
  have S0 := box11_start (y0 := .int .u64 x) (y1 := .int .u64 y) (y2 := .int .i64 n) (hA.alloc (.cells #[.int .i64 k, .string ty, .int .i64 hk, .int .u64 x, .int .u64 y, .int .i64 n] 187)) hC rfl rfl rfl
  have lp : Below w.heap.size w ((w.alloc (.cells (wrC pl mi sh sp ze wid prec verb A) 142)).alloc (.cells #[.int .i64 k, .string ty, .int .i64 hk, .int .u64 x, .int .u64 y, .int .i64 n] 187)) := below_n (below_n (Below.refl _ _) _ _) _ _
  rw [World.size_alloc] at S0
  have LP := hid lp
  have HS := hid S0
  clear lp S0 hA hC hr hP
  go_enter Tryz.func113, Tryz.ntmps113
  go_wp2_with fail
  obtain ⟨W1, hW1⟩ : ∃ W1, ((w.alloc (.cells (wrC pl mi sh sp ze wid prec verb A) 142)).alloc (.cells #[.int .i64 k, .string ty, .int .i64 hk, .int .u64 x, .int .u64 y, .int .i64 n] 187)) = W1 := ⟨_, rfl⟩
  obtain ⟨B, hB⟩ : ∃ B, w.heap.size = B := ⟨_, rfl⟩
  rw [hW1, hB] at HS
  rw [hW1] at LP ⊢
  rw [hB]
  clear hW1 hB
  go_region_held3 (fun w' => (w'.cell? ⟨B, 0, none⟩ = some (.bool pl) ∧ w'.cell? ⟨B, 1, none⟩ = some (.bool mi) ∧ w'.cell? ⟨B, 2, none⟩ = some (.bool sh) ∧ w'.cell? ⟨B, 3, none⟩ = some (.bool sp) ∧ w'.cell? ⟨B, 4, none⟩ = some (.bool ze) ∧ w'.cell? ⟨B, 5, none⟩ = some (.int .i64 wid) ∧ w'.cell? ⟨B, 6, none⟩ = some (.int .i64 prec) ∧ w'.cell? ⟨B, 7, none⟩ = some (.int .i32 verb)) ∧ w'.cell? ⟨B, 8, none⟩ = some A ∧ w'.cell? ⟨B + 1, 3, none⟩ = some (.int .u64 x) ∧ w'.cell? ⟨B + 1, 4, none⟩ = some (.int .u64 y) ∧ w'.cell? ⟨B + 1, 5, none⟩ = some (.int .i64 n)) (first | exact HS.out | exact box11_keep (by assumption) hb6 | exact box11_keep (by assumption) hb5) (first | (go_at_call 141; refine (NU.out _).mono ?_; rintro e w5 ⟨rfl, hb5⟩) | (go_at_call 144; refine (SG.out _).mono ?_; rintro e w6 ⟨rfl, hb6⟩))
  have HB5 := LP.out.drew.trans (hb5.mono LP.out.size)
  have HB6 := hid (HB5.trans (hb6.mono HB5.size))
  clear hb5 hb6 HB5
  go_wp2_with fail
  go_ret2
  exact ⟨rfl, HB6.out⟩
set_option maxRecDepth 100000 in
set_option maxHeartbeats 2000000 in
theorem kind_text (k : Int) (ty : ByteArray) (hk : Int) (x : ByteArray) (pl mi sh sp ze : Bool) (wid prec verb : Int) (A : Value) (dp : Int) (w : World) (r : Value) (t : ByteArray) (ok : Bool) (hr : r = .tuple #[.string t, .bool ok])
    (TX : ∀ W, Below w.heap.size w W → Calls Tryz.prog 77 #[.string x, .agg (sp8 pl mi sh sp ze wid prec verb)] W fun e w' => e = .returned r ∧ Below W.heap.size W w') :
    Calls Tryz.prog 113 #[.agg (wrC pl mi sh sp ze wid prec verb A), .iface 189 (.agg #[.int .i64 k, .string ty, .int .i64 hk, .string x]), .int .i64 dp] w fun e w' => e = .returned r ∧ Below w.heap.size w w' := by
  subst hr
  have q0 := ta_Text_Bool
  have q1 := ta_Text_Int
  have q2 := ta_Text_Uint
  have q3 := ta_Text_Float
  have q4 := ta_Text_Complex
  have q5 := ta_Text_Text
  have lp : Below w.heap.size w ((w.alloc (.cells (wrC pl mi sh sp ze wid prec verb A) 142)).alloc (.cells #[.int .i64 k, .string ty, .int .i64 hk, .string x] 189)) := below_n (below_n (Below.refl _ _) _ _) _ _
  have T0 := hid (TX _ lp)
  have LP := hid lp
  clear lp TX
  go_enter Tryz.func113, Tryz.ntmps113
  go_wp2_with fail
  refine T0.out.mono ?_
  rintro e w1 ⟨rfl, hb⟩
  have HB := hid (LP.out.trans (hb.mono LP.out.size))
  clear hb
  go_wp2_with fail
  go_ret2
  exact ⟨rfl, HB.out⟩
end Go.Proofs.YtdjhmanccoekjaaGreatDoor
end
