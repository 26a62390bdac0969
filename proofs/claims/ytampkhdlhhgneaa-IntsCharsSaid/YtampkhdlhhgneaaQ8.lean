/-
  Walks of layer 3: a number by its verb.
-/
import Derived.Test.YtampkhdlhhgneaaQ7
namespace Go.Proofs.Ytampkhdlhhgneaa
open Go.RowKit Go.Proofs

theorem Bs.cellsS {w W : World} {H1 H2 : Nat} {neg uns : Bool} {n bits : Int} {pl mi sh sp ze : Bool} {wid prec verb : Int} (h : Bs w H1 H2 (wh4 neg n bits uns) (sp8 pl mi sh sp ze wid prec verb) W) :
    (W.cell? ⟨H1, 0, none⟩ = some (.bool neg) ∧ W.cell? ⟨H1, 1, none⟩ = some (.int .u64 n) ∧ W.cell? ⟨H1, 2, none⟩ = some (.int .u64 bits) ∧ W.cell? ⟨H1, 3, none⟩ = some (.bool uns) ∧
    W.cell? ⟨H2, 0, none⟩ = some (.bool pl) ∧ W.cell? ⟨H2, 1, none⟩ = some (.bool mi) ∧ W.cell? ⟨H2, 2, none⟩ = some (.bool sh) ∧ W.cell? ⟨H2, 3, none⟩ = some (.bool sp) ∧ W.cell? ⟨H2, 4, none⟩ = some (.bool ze) ∧ W.cell? ⟨H2, 5, none⟩ = some (.int .i64 wid) ∧ W.cell? ⟨H2, 6, none⟩ = some (.int .i64 prec) ∧ W.cell? ⟨H2, 7, none⟩ = some (.int .i32 verb)) ∧ Bs w H1 H2 (wh4 neg n bits uns) (sp8 pl mi sh sp ze wid prec verb) W :=
  ⟨⟨h.b1.cell 0, h.b1.cell 1, h.b1.cell 2, h.b1.cell 3, h.b2.cell 0, h.b2.cell 1, h.b2.cell 2, h.b2.cell 3, h.b2.cell 4, h.b2.cell 5, h.b2.cell 6, h.b2.cell 7⟩, h⟩
theorem Bs.drew {w W : World} {H1 H2 : Nat} {C1 C2 : Array Value} (h : Bs w H1 H2 C1 C2 W) : Bs w H1 H2 C1 C2 W.drew := h.kept (Below.refl _ _).drew
theorem bsC {w : World} {H1 H2 : Nat} {C1 C2 : Array Value} {f : FuncId} {args : Array Value} {v : Value} (h : ∀ W, Calls Try.prog f args W fun e w' => e = .returned v ∧ Below W.heap.size W w') :
    ∀ W, Bs w H1 H2 C1 C2 W → Calls Try.prog f args W fun e W' => e = .returned v ∧ Bs w H1 H2 C1 C2 W' := fun W hW =>
  (h W).mono fun _ _ ⟨he, hb⟩ => ⟨he, hW.kept hb⟩
theorem bsQ {w : World} {H1 H2 : Nat} {C1 C2 : Array Value} {f : FuncId} {args : Array Value} {v : Value} (h : ∀ W, Calls Try.prog f args W fun e w' => e = .returned v ∧ W = w') :
    ∀ W, Bs w H1 H2 C1 C2 W → Calls Try.prog f args W fun e W' => e = .returned v ∧ Bs w H1 H2 C1 C2 W' := fun W hW =>
  (h W).mono fun _ _ ⟨he, hb⟩ => ⟨he, hb ▸ hW⟩
theorem mk_of (m : ByteArray) : m = ⟨#[48]⟩ ∨ ((m.toList == [48]) = false ∧ ¬ m.data.toList = [48]) := by
  by_cases h : m.data.toList = [48]
  · exact Or.inl (bytes_ext h)
  · refine Or.inr ⟨?_, h⟩
    rw [Lib.toList_data]
    exact beq_eq_false_iff_ne.2 h

set_option maxRecDepth 100000 in
set_option maxHeartbeats 2000000 in
theorem write_d (neg uns : Bool) (n bits : Int) (pl mi sh sp ze : Bool) (wid prec : Int) (w : World) (h0 : 0 ≤ n) (h1 : n ≤ 18446744073709551615) (_hb0 : 0 ≤ bits) (_hb1 : bits ≤ 18446744073709551615) (hw0 : -9223372036854775808 ≤ wid) (hw1 : wid ≤ 9223372036854775807) :
    Calls Try.prog 27 #[whole neg n bits uns, .agg #[.bool pl, .bool mi, .bool sh, .bool sp, .bool ze, .int .i64 wid, .int .i64 prec, .int .i32 (100)]] w fun e w' => e = .returned (tupS (writeS neg uns n.toNat bits.toNat pl mi sh sp ze wid prec 100)) ∧ Below w.heap.size w w' := by
  have BA := hid (fun W => based_any neg uns n bits pl mi sh sp ze wid prec 100 10 ⟨#[]⟩ W h0 h1 (by decide) (by decide) (by decide) (mk_of _) hw0 hw1)
  have hfin : some (padS ⟨(IP.bodyL neg n.toNat ((10 : Int).toNat) (decide ((100 : Int) = 88)) (⟨#[]⟩ : ByteArray).data.toList pl mi sp ze wid prec).toArray⟩ mi false wid) = writeS neg uns n.toNat bits.toNat pl mi sh sp ze wid prec 100 := by
    cases sh <;> rfl
  rw [← hfin]
  clear hfin
  have S0 := hid (bs_start w (wh4 neg n bits uns) (sp8 pl mi sh sp ze wid prec 100))
  go_enter Try.func27, Try.ntmps27
  go_upto_region 1 with fail
  obtain ⟨W0, hW0⟩ : ∃ W0, (w.alloc (.cells (wh4 neg n bits uns) 47)).alloc (.cells (sp8 pl mi sh sp ze wid prec 100) 27) = W0 := ⟨_, rfl⟩
  obtain ⟨H, hH⟩ : ∃ H, w.heap.size = H := ⟨_, rfl⟩
  have HH := hid hH
  rw [hW0] at S0 ⊢
  rw [hH] at S0 ⊢
  clear hW0 hH
  obtain ⟨c0, c1, c2, c3, s0, s1, s2, s3, s4, s5, s6, s7, sf⟩ := S0.out.cells
  go_wp2_with fail
  refine (bsC BA.out _ S0.out).mono ?_
  rintro e W' ⟨rfl, sW⟩
  go_wp2_with fail
  go_ret2
  exact ⟨rfl, sW.below⟩

set_option maxRecDepth 100000 in
set_option maxHeartbeats 2000000 in
theorem write_O (neg uns : Bool) (n bits : Int) (pl mi sh sp ze : Bool) (wid prec : Int) (w : World) (h0 : 0 ≤ n) (h1 : n ≤ 18446744073709551615) (_hb0 : 0 ≤ bits) (_hb1 : bits ≤ 18446744073709551615) (hw0 : -9223372036854775808 ≤ wid) (hw1 : wid ≤ 9223372036854775807) :
    Calls Try.prog 27 #[whole neg n bits uns, .agg #[.bool pl, .bool mi, .bool sh, .bool sp, .bool ze, .int .i64 wid, .int .i64 prec, .int .i32 (79)]] w fun e w' => e = .returned (tupS (writeS neg uns n.toNat bits.toNat pl mi sh sp ze wid prec 79)) ∧ Below w.heap.size w w' := by
  have BA := hid (fun W => based_any neg uns n bits pl mi sh sp ze wid prec 79 8 ⟨#[48, 111]⟩ W h0 h1 (by decide) (by decide) (by decide) (mk_of _) hw0 hw1)
  have hfin : some (padS ⟨(IP.bodyL neg n.toNat ((8 : Int).toNat) (decide ((79 : Int) = 88)) (⟨#[48, 111]⟩ : ByteArray).data.toList pl mi sp ze wid prec).toArray⟩ mi false wid) = writeS neg uns n.toNat bits.toNat pl mi sh sp ze wid prec 79 := by
    cases sh <;> rfl
  rw [← hfin]
  clear hfin
  have S0 := hid (bs_start w (wh4 neg n bits uns) (sp8 pl mi sh sp ze wid prec 79))
  go_enter Try.func27, Try.ntmps27
  go_upto_region 1 with fail
  obtain ⟨W0, hW0⟩ : ∃ W0, (w.alloc (.cells (wh4 neg n bits uns) 47)).alloc (.cells (sp8 pl mi sh sp ze wid prec 79) 27) = W0 := ⟨_, rfl⟩
  obtain ⟨H, hH⟩ : ∃ H, w.heap.size = H := ⟨_, rfl⟩
  have HH := hid hH
  rw [hW0] at S0 ⊢
  rw [hH] at S0 ⊢
  clear hW0 hH
  obtain ⟨c0, c1, c2, c3, s0, s1, s2, s3, s4, s5, s6, s7, sf⟩ := S0.out.cells
  go_wp2_with fail
  refine (bsC BA.out _ S0.out).mono ?_
  rintro e W' ⟨rfl, sW⟩
  go_wp2_with fail
  go_ret2
  exact ⟨rfl, sW.below⟩

set_option maxRecDepth 100000 in
set_option maxHeartbeats 2000000 in
theorem write_v1a (neg : Bool) (n bits : Int) (pl mi sh sp ze : Bool) (wid prec : Int) (w : World) (h0 : 0 ≤ n) (h1 : n ≤ 18446744073709551615) (_hb0 : 0 ≤ bits) (_hb1 : bits ≤ 18446744073709551615) (hw0 : -9223372036854775808 ≤ wid) (hw1 : wid ≤ 9223372036854775807) :
    Calls Try.prog 27 #[whole neg n bits false, .agg #[.bool pl, .bool mi, .bool sh, .bool sp, .bool ze, .int .i64 wid, .int .i64 prec, .int .i32 (118)]] w fun e w' => e = .returned (tupS (writeS neg false n.toNat bits.toNat pl mi sh sp ze wid prec 118)) ∧ Below w.heap.size w w' := by
  have BA := hid (fun W => based_any neg false n bits pl mi sh sp ze wid prec 118 10 ⟨#[]⟩ W h0 h1 (by decide) (by decide) (by decide) (mk_of _) hw0 hw1)
  have hfin : some (padS ⟨(IP.bodyL neg n.toNat ((10 : Int).toNat) (decide ((118 : Int) = 88)) (⟨#[]⟩ : ByteArray).data.toList pl mi sp ze wid prec).toArray⟩ mi false wid) = writeS neg false n.toNat bits.toNat pl mi sh sp ze wid prec 118 := by
    cases sh <;> rfl
  rw [← hfin]
  clear hfin
  have S0 := hid (bs_start w (wh4 neg n bits false) (sp8 pl mi sh sp ze wid prec 118))
  go_enter Try.func27, Try.ntmps27
  go_upto_region 1 with fail
  obtain ⟨W0, hW0⟩ : ∃ W0, (w.alloc (.cells (wh4 neg n bits false) 47)).alloc (.cells (sp8 pl mi sh sp ze wid prec 118) 27) = W0 := ⟨_, rfl⟩
  obtain ⟨H, hH⟩ : ∃ H, w.heap.size = H := ⟨_, rfl⟩
  have HH := hid hH
  rw [hW0] at S0 ⊢
  rw [hH] at S0 ⊢
  clear hW0 hH
  obtain ⟨c0, c1, c2, c3, s0, s1, s2, s3, s4, s5, s6, s7, sf⟩ := S0.out.cells
  go_wp2_with fail
  refine (bsC BA.out _ S0.out).mono ?_
  rintro e W' ⟨rfl, sW⟩
  go_wp2_with fail
  go_ret2
  exact ⟨rfl, sW.below⟩

set_option maxRecDepth 100000 in
set_option maxHeartbeats 2000000 in
theorem write_v1b (neg : Bool) (n bits : Int) (pl mi sp ze : Bool) (wid prec : Int) (w : World) (h0 : 0 ≤ n) (h1 : n ≤ 18446744073709551615) (_hb0 : 0 ≤ bits) (_hb1 : bits ≤ 18446744073709551615) (hw0 : -9223372036854775808 ≤ wid) (hw1 : wid ≤ 9223372036854775807) :
    Calls Try.prog 27 #[whole neg n bits true, .agg #[.bool pl, .bool mi, .bool false, .bool sp, .bool ze, .int .i64 wid, .int .i64 prec, .int .i32 (118)]] w fun e w' => e = .returned (tupS (writeS neg true n.toNat bits.toNat pl mi false sp ze wid prec 118)) ∧ Below w.heap.size w w' := by
  have BA := hid (fun W => based_any neg true n bits pl mi false sp ze wid prec 118 10 ⟨#[]⟩ W h0 h1 (by decide) (by decide) (by decide) (mk_of _) hw0 hw1)
  have hfin : some (padS ⟨(IP.bodyL neg n.toNat ((10 : Int).toNat) (decide ((118 : Int) = 88)) (⟨#[]⟩ : ByteArray).data.toList pl mi sp ze wid prec).toArray⟩ mi false wid) = writeS neg true n.toNat bits.toNat pl mi false sp ze wid prec 118 := by
    rfl
  rw [← hfin]
  clear hfin
  have S0 := hid (bs_start w (wh4 neg n bits true) (sp8 pl mi false sp ze wid prec 118))
  go_enter Try.func27, Try.ntmps27
  go_upto_region 1 with fail
  obtain ⟨W0, hW0⟩ : ∃ W0, (w.alloc (.cells (wh4 neg n bits true) 47)).alloc (.cells (sp8 pl mi false sp ze wid prec 118) 27) = W0 := ⟨_, rfl⟩
  obtain ⟨H, hH⟩ : ∃ H, w.heap.size = H := ⟨_, rfl⟩
  have HH := hid hH
  rw [hW0] at S0 ⊢
  rw [hH] at S0 ⊢
  clear hW0 hH
  obtain ⟨c0, c1, c2, c3, s0, s1, s2, s3, s4, s5, s6, s7, sf⟩ := S0.out.cells
  go_wp2_with fail
  refine (bsC BA.out _ S0.out).mono ?_
  rintro e W' ⟨rfl, sW⟩
  go_wp2_with fail
  go_ret2
  exact ⟨rfl, sW.below⟩

set_option maxRecDepth 100000 in
set_option maxHeartbeats 2000000 in
theorem write_U (neg uns : Bool) (n bits : Int) (pl mi sh sp ze : Bool) (wid prec : Int) (w : World) (_h0 : 0 ≤ n) (_h1 : n ≤ 18446744073709551615) (hb0 : 0 ≤ bits) (hb1 : bits ≤ 18446744073709551615) (hw0 : -9223372036854775808 ≤ wid) (hw1 : wid ≤ 9223372036854775807) :
    Calls Try.prog 27 #[whole neg n bits uns, .agg #[.bool pl, .bool mi, .bool sh, .bool sp, .bool ze, .int .i64 wid, .int .i64 prec, .int .i32 (85)]] w fun e w' => e = .returned (tupS (writeS neg uns n.toNat bits.toNat pl mi sh sp ze wid prec 85)) ∧ Below w.heap.size w w' := by
  have UA := hid (fun W => unicode_any neg uns n bits pl mi sh sp ze wid prec 85 W hb0 hb1 hw0 hw1)
  have S0 := hid (bs_start w (wh4 neg n bits uns) (sp8 pl mi sh sp ze wid prec 85))
  go_enter Try.func27, Try.ntmps27
  go_upto_region 1 with fail
  obtain ⟨W0, hW0⟩ : ∃ W0, (w.alloc (.cells (wh4 neg n bits uns) 47)).alloc (.cells (sp8 pl mi sh sp ze wid prec 85) 27) = W0 := ⟨_, rfl⟩
  obtain ⟨H, hH⟩ : ∃ H, w.heap.size = H := ⟨_, rfl⟩
  have HH := hid hH
  rw [hW0] at S0 ⊢
  rw [hH] at S0 ⊢
  clear hW0 hH
  obtain ⟨c0, c1, c2, c3, s0, s1, s2, s3, s4, s5, s6, s7, sf⟩ := S0.out.cells
  go_wp2_with fail
  refine (bsC UA.out _ S0.out).mono ?_
  rintro e W' ⟨rfl, sW⟩
  go_wp2_with fail
  go_ret2
  exact ⟨rfl, sW.below⟩

set_option maxRecDepth 100000 in
set_option maxHeartbeats 2000000 in
theorem write_v2 (neg : Bool) (n bits : Int) (pl mi sp ze : Bool) (wid prec : Int) (w : World) (h0 : 0 ≤ n) (h1 : n ≤ 18446744073709551615) (_hb0 : 0 ≤ bits) (_hb1 : bits ≤ 18446744073709551615) (hw0 : -9223372036854775808 ≤ wid) (hw1 : wid ≤ 9223372036854775807) :
    Calls Try.prog 27 #[whole neg n bits true, .agg #[.bool pl, .bool mi, .bool true, .bool sp, .bool ze, .int .i64 wid, .int .i64 prec, .int .i32 (118)]] w fun e w' => e = .returned (tupS (writeS neg true n.toNat bits.toNat pl mi true sp ze wid prec 118)) ∧ Below w.heap.size w w' := by
  have BA := hid (fun W => based_any neg true n bits pl mi true sp ze wid prec 120 16 ⟨#[48, 120]⟩ W h0 h1 (by decide) (by decide) (by decide) (mk_of _) hw0 hw1)
  have S0 := hid (bs_start w (wh4 neg n bits true) (sp8 pl mi true sp ze wid prec 118))
  go_enter Try.func27, Try.ntmps27
  go_upto_region 1 with fail
  obtain ⟨W0, hW0⟩ : ∃ W0, (w.alloc (.cells (wh4 neg n bits true) 47)).alloc (.cells (sp8 pl mi true sp ze wid prec 118) 27) = W0 := ⟨_, rfl⟩
  obtain ⟨H, hH⟩ : ∃ H, w.heap.size = H := ⟨_, rfl⟩
  have HH := hid hH
  rw [hW0] at S0 ⊢
  rw [hH] at S0 ⊢
  clear hW0 hH
  obtain ⟨c0, c1, c2, c3, s0, s1, s2, s3, s4, s5, s6, s7, sf⟩ := S0.out.cells
  have sg := S0.out.b2.frozen 7
  have S1 : Hid (Bs w H (H + 1) (wh4 neg n bits true) (sp8 pl mi true sp ze wid prec 120) (W0.setCell ⟨H + 1, 7, none⟩ (.int .i32 120))) :=
    ⟨S0.out.b1.far (p := ⟨H + 1, 7, none⟩) (Nat.ne_of_lt (Nat.lt_succ_self H)) _, S0.out.b2.set_ 7 _, S0.out.below.setCell (p := ⟨H + 1, 7, none⟩) (by rw [HH.out]; exact Nat.le_succ _) _⟩
  go_wp2_with fail
  refine (bsC BA.out _ S1.out).mono ?_
  rintro e W' ⟨rfl, sW⟩
  go_wp2_with fail
  go_ret2
  exact ⟨rfl, sW.below⟩

set_option maxRecDepth 100000 in
set_option maxHeartbeats 2000000 in
theorem write_b (neg uns : Bool) (n bits : Int) (pl mi sh sp ze : Bool) (wid prec : Int) (w : World) (h0 : 0 ≤ n) (h1 : n ≤ 18446744073709551615) (_hb0 : 0 ≤ bits) (_hb1 : bits ≤ 18446744073709551615) (hw0 : -9223372036854775808 ≤ wid) (hw1 : wid ≤ 9223372036854775807) :
    Calls Try.prog 27 #[whole neg n bits uns, .agg #[.bool pl, .bool mi, .bool sh, .bool sp, .bool ze, .int .i64 wid, .int .i64 prec, .int .i32 (98)]] w fun e w' => e = .returned (tupS (writeS neg uns n.toNat bits.toNat pl mi sh sp ze wid prec 98)) ∧ Below w.heap.size w w' := by
  have SH := hid (fun W => sharp_any pl mi sh sp ze wid prec 98 ⟨#[48, 98]⟩ W)
  obtain ⟨M, hM⟩ : ∃ M : ByteArray, (if sh then ⟨#[48, 98]⟩ else ⟨#[]⟩) = M := ⟨_, rfl⟩
  have hMs : M.size ≤ 10 := by rw [← hM]; cases sh <;> decide
  have BA := hid (fun W => based_any neg uns n bits pl mi sh sp ze wid prec 98 2 M W h0 h1 (by decide) (by decide) hMs (mk_of _) hw0 hw1)
  rw [hM] at SH
  have hfin : some (padS ⟨(IP.bodyL neg n.toNat ((2 : Int).toNat) (decide ((98 : Int) = 88)) M.data.toList pl mi sp ze wid prec).toArray⟩ mi false wid) = writeS neg uns n.toNat bits.toNat pl mi sh sp ze wid prec 98 := by
    rw [← hM]
    cases sh <;> rfl
  rw [← hfin]
  clear hfin hM
  have S0 := hid (bs_start w (wh4 neg n bits uns) (sp8 pl mi sh sp ze wid prec 98))
  go_enter Try.func27, Try.ntmps27
  go_upto_region 1 with fail
  obtain ⟨W0, hW0⟩ : ∃ W0, (w.alloc (.cells (wh4 neg n bits uns) 47)).alloc (.cells (sp8 pl mi sh sp ze wid prec 98) 27) = W0 := ⟨_, rfl⟩
  obtain ⟨H, hH⟩ : ∃ H, w.heap.size = H := ⟨_, rfl⟩
  have HH := hid hH
  rw [hW0] at S0 ⊢
  rw [hH] at S0 ⊢
  clear hW0 hH
  obtain ⟨c0, c1, c2, c3, s0, s1, s2, s3, s4, s5, s6, s7, sf⟩ := S0.out.cells
  have sd := S0.out.drew
  have SHC := hid (bsC (w := w) (H1 := H) (H2 := H + 1) (C1 := wh4 neg n bits uns) (C2 := sp8 pl mi sh sp ze wid prec 98) SH.out)
  have BAC := hid (bsC (w := w) (H1 := H) (H2 := H + 1) (C1 := wh4 neg n bits uns) (C2 := sp8 pl mi sh sp ze wid prec 98) BA.out)
  clear SH BA
  go_wp2_with fail
  go_region_held3 (fun w' => (w'.cell? ⟨H, 0, none⟩ = some (.bool neg) ∧ w'.cell? ⟨H, 1, none⟩ = some (.int .u64 n) ∧ w'.cell? ⟨H, 2, none⟩ = some (.int .u64 bits) ∧ w'.cell? ⟨H, 3, none⟩ = some (.bool uns) ∧ w'.cell? ⟨H + 1, 0, none⟩ = some (.bool pl) ∧ w'.cell? ⟨H + 1, 1, none⟩ = some (.bool mi) ∧ w'.cell? ⟨H + 1, 2, none⟩ = some (.bool sh) ∧ w'.cell? ⟨H + 1, 3, none⟩ = some (.bool sp) ∧ w'.cell? ⟨H + 1, 4, none⟩ = some (.bool ze) ∧ w'.cell? ⟨H + 1, 5, none⟩ = some (.int .i64 wid) ∧ w'.cell? ⟨H + 1, 6, none⟩ = some (.int .i64 prec) ∧ w'.cell? ⟨H + 1, 7, none⟩ = some (.int .i32 98)) ∧ Bs w H (H + 1) (wh4 neg n bits uns) (sp8 pl mi sh sp ze wid prec 98) w') (exact Bs.cellsS (by assumption))
    ((first
      | ((with_reducible refine (SHC.out _ (by assumption)).mono ?_); rintro e Wa ⟨rfl, sA⟩)
      | ((with_reducible refine (BAC.out _ (by assumption)).mono ?_); rintro e Wb ⟨rfl, sW⟩)))
  go_wp2_with fail
  go_ret2
  exact ⟨rfl, sW.below⟩

set_option maxRecDepth 100000 in
set_option maxHeartbeats 2000000 in
theorem write_o (neg uns : Bool) (n bits : Int) (pl mi sh sp ze : Bool) (wid prec : Int) (w : World) (h0 : 0 ≤ n) (h1 : n ≤ 18446744073709551615) (_hb0 : 0 ≤ bits) (_hb1 : bits ≤ 18446744073709551615) (hw0 : -9223372036854775808 ≤ wid) (hw1 : wid ≤ 9223372036854775807) :
    Calls Try.prog 27 #[whole neg n bits uns, .agg #[.bool pl, .bool mi, .bool sh, .bool sp, .bool ze, .int .i64 wid, .int .i64 prec, .int .i32 (111)]] w fun e w' => e = .returned (tupS (writeS neg uns n.toNat bits.toNat pl mi sh sp ze wid prec 111)) ∧ Below w.heap.size w w' := by
  have SH := hid (fun W => sharp_any pl mi sh sp ze wid prec 111 ⟨#[48]⟩ W)
  obtain ⟨M, hM⟩ : ∃ M : ByteArray, (if sh then ⟨#[48]⟩ else ⟨#[]⟩) = M := ⟨_, rfl⟩
  have hMs : M.size ≤ 10 := by rw [← hM]; cases sh <;> decide
  have BA := hid (fun W => based_any neg uns n bits pl mi sh sp ze wid prec 111 8 M W h0 h1 (by decide) (by decide) hMs (mk_of _) hw0 hw1)
  rw [hM] at SH
  have hfin : some (padS ⟨(IP.bodyL neg n.toNat ((8 : Int).toNat) (decide ((111 : Int) = 88)) M.data.toList pl mi sp ze wid prec).toArray⟩ mi false wid) = writeS neg uns n.toNat bits.toNat pl mi sh sp ze wid prec 111 := by
    rw [← hM]
    cases sh <;> rfl
  rw [← hfin]
  clear hfin hM
  have S0 := hid (bs_start w (wh4 neg n bits uns) (sp8 pl mi sh sp ze wid prec 111))
  go_enter Try.func27, Try.ntmps27
  go_upto_region 1 with fail
  obtain ⟨W0, hW0⟩ : ∃ W0, (w.alloc (.cells (wh4 neg n bits uns) 47)).alloc (.cells (sp8 pl mi sh sp ze wid prec 111) 27) = W0 := ⟨_, rfl⟩
  obtain ⟨H, hH⟩ : ∃ H, w.heap.size = H := ⟨_, rfl⟩
  have HH := hid hH
  rw [hW0] at S0 ⊢
  rw [hH] at S0 ⊢
  clear hW0 hH
  obtain ⟨c0, c1, c2, c3, s0, s1, s2, s3, s4, s5, s6, s7, sf⟩ := S0.out.cells
  have sd := S0.out.drew
  have SHC := hid (bsC (w := w) (H1 := H) (H2 := H + 1) (C1 := wh4 neg n bits uns) (C2 := sp8 pl mi sh sp ze wid prec 111) SH.out)
  have BAC := hid (bsC (w := w) (H1 := H) (H2 := H + 1) (C1 := wh4 neg n bits uns) (C2 := sp8 pl mi sh sp ze wid prec 111) BA.out)
  clear SH BA
  go_wp2_with fail
  go_region_held3 (fun w' => (w'.cell? ⟨H, 0, none⟩ = some (.bool neg) ∧ w'.cell? ⟨H, 1, none⟩ = some (.int .u64 n) ∧ w'.cell? ⟨H, 2, none⟩ = some (.int .u64 bits) ∧ w'.cell? ⟨H, 3, none⟩ = some (.bool uns) ∧ w'.cell? ⟨H + 1, 0, none⟩ = some (.bool pl) ∧ w'.cell? ⟨H + 1, 1, none⟩ = some (.bool mi) ∧ w'.cell? ⟨H + 1, 2, none⟩ = some (.bool sh) ∧ w'.cell? ⟨H + 1, 3, none⟩ = some (.bool sp) ∧ w'.cell? ⟨H + 1, 4, none⟩ = some (.bool ze) ∧ w'.cell? ⟨H + 1, 5, none⟩ = some (.int .i64 wid) ∧ w'.cell? ⟨H + 1, 6, none⟩ = some (.int .i64 prec) ∧ w'.cell? ⟨H + 1, 7, none⟩ = some (.int .i32 111)) ∧ Bs w H (H + 1) (wh4 neg n bits uns) (sp8 pl mi sh sp ze wid prec 111) w') (exact Bs.cellsS (by assumption))
    ((first
      | ((with_reducible refine (SHC.out _ (by assumption)).mono ?_); rintro e Wa ⟨rfl, sA⟩)
      | ((with_reducible refine (BAC.out _ (by assumption)).mono ?_); rintro e Wb ⟨rfl, sW⟩)))
  go_wp2_with fail
  go_ret2
  exact ⟨rfl, sW.below⟩

set_option maxRecDepth 100000 in
set_option maxHeartbeats 2000000 in
theorem write_x (neg uns : Bool) (n bits : Int) (pl mi sh sp ze : Bool) (wid prec : Int) (w : World) (h0 : 0 ≤ n) (h1 : n ≤ 18446744073709551615) (_hb0 : 0 ≤ bits) (_hb1 : bits ≤ 18446744073709551615) (hw0 : -9223372036854775808 ≤ wid) (hw1 : wid ≤ 9223372036854775807) :
    Calls Try.prog 27 #[whole neg n bits uns, .agg #[.bool pl, .bool mi, .bool sh, .bool sp, .bool ze, .int .i64 wid, .int .i64 prec, .int .i32 (120)]] w fun e w' => e = .returned (tupS (writeS neg uns n.toNat bits.toNat pl mi sh sp ze wid prec 120)) ∧ Below w.heap.size w w' := by
  have SH := hid (fun W => sharp_any pl mi sh sp ze wid prec 120 ⟨#[48, 120]⟩ W)
  obtain ⟨M, hM⟩ : ∃ M : ByteArray, (if sh then ⟨#[48, 120]⟩ else ⟨#[]⟩) = M := ⟨_, rfl⟩
  have hMs : M.size ≤ 10 := by rw [← hM]; cases sh <;> decide
  have BA := hid (fun W => based_any neg uns n bits pl mi sh sp ze wid prec 120 16 M W h0 h1 (by decide) (by decide) hMs (mk_of _) hw0 hw1)
  rw [hM] at SH
  have hfin : some (padS ⟨(IP.bodyL neg n.toNat ((16 : Int).toNat) (decide ((120 : Int) = 88)) M.data.toList pl mi sp ze wid prec).toArray⟩ mi false wid) = writeS neg uns n.toNat bits.toNat pl mi sh sp ze wid prec 120 := by
    rw [← hM]
    cases sh <;> rfl
  rw [← hfin]
  clear hfin hM
  have S0 := hid (bs_start w (wh4 neg n bits uns) (sp8 pl mi sh sp ze wid prec 120))
  go_enter Try.func27, Try.ntmps27
  go_upto_region 1 with fail
  obtain ⟨W0, hW0⟩ : ∃ W0, (w.alloc (.cells (wh4 neg n bits uns) 47)).alloc (.cells (sp8 pl mi sh sp ze wid prec 120) 27) = W0 := ⟨_, rfl⟩
  obtain ⟨H, hH⟩ : ∃ H, w.heap.size = H := ⟨_, rfl⟩
  have HH := hid hH
  rw [hW0] at S0 ⊢
  rw [hH] at S0 ⊢
  clear hW0 hH
  obtain ⟨c0, c1, c2, c3, s0, s1, s2, s3, s4, s5, s6, s7, sf⟩ := S0.out.cells
  have sd := S0.out.drew
  have SHC := hid (bsC (w := w) (H1 := H) (H2 := H + 1) (C1 := wh4 neg n bits uns) (C2 := sp8 pl mi sh sp ze wid prec 120) SH.out)
  have BAC := hid (bsC (w := w) (H1 := H) (H2 := H + 1) (C1 := wh4 neg n bits uns) (C2 := sp8 pl mi sh sp ze wid prec 120) BA.out)
  clear SH BA
  go_wp2_with fail
  go_region_held3 (fun w' => (w'.cell? ⟨H, 0, none⟩ = some (.bool neg) ∧ w'.cell? ⟨H, 1, none⟩ = some (.int .u64 n) ∧ w'.cell? ⟨H, 2, none⟩ = some (.int .u64 bits) ∧ w'.cell? ⟨H, 3, none⟩ = some (.bool uns) ∧ w'.cell? ⟨H + 1, 0, none⟩ = some (.bool pl) ∧ w'.cell? ⟨H + 1, 1, none⟩ = some (.bool mi) ∧ w'.cell? ⟨H + 1, 2, none⟩ = some (.bool sh) ∧ w'.cell? ⟨H + 1, 3, none⟩ = some (.bool sp) ∧ w'.cell? ⟨H + 1, 4, none⟩ = some (.bool ze) ∧ w'.cell? ⟨H + 1, 5, none⟩ = some (.int .i64 wid) ∧ w'.cell? ⟨H + 1, 6, none⟩ = some (.int .i64 prec) ∧ w'.cell? ⟨H + 1, 7, none⟩ = some (.int .i32 120)) ∧ Bs w H (H + 1) (wh4 neg n bits uns) (sp8 pl mi sh sp ze wid prec 120) w') (exact Bs.cellsS (by assumption))
    ((first
      | ((with_reducible refine (SHC.out _ (by assumption)).mono ?_); rintro e Wa ⟨rfl, sA⟩)
      | ((with_reducible refine (BAC.out _ (by assumption)).mono ?_); rintro e Wb ⟨rfl, sW⟩)))
  go_wp2_with fail
  go_ret2
  exact ⟨rfl, sW.below⟩

set_option maxRecDepth 100000 in
set_option maxHeartbeats 2000000 in
theorem write_X (neg uns : Bool) (n bits : Int) (pl mi sh sp ze : Bool) (wid prec : Int) (w : World) (h0 : 0 ≤ n) (h1 : n ≤ 18446744073709551615) (_hb0 : 0 ≤ bits) (_hb1 : bits ≤ 18446744073709551615) (hw0 : -9223372036854775808 ≤ wid) (hw1 : wid ≤ 9223372036854775807) :
    Calls Try.prog 27 #[whole neg n bits uns, .agg #[.bool pl, .bool mi, .bool sh, .bool sp, .bool ze, .int .i64 wid, .int .i64 prec, .int .i32 (88)]] w fun e w' => e = .returned (tupS (writeS neg uns n.toNat bits.toNat pl mi sh sp ze wid prec 88)) ∧ Below w.heap.size w w' := by
  have SH := hid (fun W => sharp_any pl mi sh sp ze wid prec 88 ⟨#[48, 88]⟩ W)
  obtain ⟨M, hM⟩ : ∃ M : ByteArray, (if sh then ⟨#[48, 88]⟩ else ⟨#[]⟩) = M := ⟨_, rfl⟩
  have hMs : M.size ≤ 10 := by rw [← hM]; cases sh <;> decide
  have BA := hid (fun W => based_any neg uns n bits pl mi sh sp ze wid prec 88 16 M W h0 h1 (by decide) (by decide) hMs (mk_of _) hw0 hw1)
  rw [hM] at SH
  have hfin : some (padS ⟨(IP.bodyL neg n.toNat ((16 : Int).toNat) (decide ((88 : Int) = 88)) M.data.toList pl mi sp ze wid prec).toArray⟩ mi false wid) = writeS neg uns n.toNat bits.toNat pl mi sh sp ze wid prec 88 := by
    rw [← hM]
    cases sh <;> rfl
  rw [← hfin]
  clear hfin hM
  have S0 := hid (bs_start w (wh4 neg n bits uns) (sp8 pl mi sh sp ze wid prec 88))
  go_enter Try.func27, Try.ntmps27
  go_upto_region 1 with fail
  obtain ⟨W0, hW0⟩ : ∃ W0, (w.alloc (.cells (wh4 neg n bits uns) 47)).alloc (.cells (sp8 pl mi sh sp ze wid prec 88) 27) = W0 := ⟨_, rfl⟩
  obtain ⟨H, hH⟩ : ∃ H, w.heap.size = H := ⟨_, rfl⟩
  have HH := hid hH
  rw [hW0] at S0 ⊢
  rw [hH] at S0 ⊢
  clear hW0 hH
  obtain ⟨c0, c1, c2, c3, s0, s1, s2, s3, s4, s5, s6, s7, sf⟩ := S0.out.cells
  have sd := S0.out.drew
  have SHC := hid (bsC (w := w) (H1 := H) (H2 := H + 1) (C1 := wh4 neg n bits uns) (C2 := sp8 pl mi sh sp ze wid prec 88) SH.out)
  have BAC := hid (bsC (w := w) (H1 := H) (H2 := H + 1) (C1 := wh4 neg n bits uns) (C2 := sp8 pl mi sh sp ze wid prec 88) BA.out)
  clear SH BA
  go_wp2_with fail
  go_region_held3 (fun w' => (w'.cell? ⟨H, 0, none⟩ = some (.bool neg) ∧ w'.cell? ⟨H, 1, none⟩ = some (.int .u64 n) ∧ w'.cell? ⟨H, 2, none⟩ = some (.int .u64 bits) ∧ w'.cell? ⟨H, 3, none⟩ = some (.bool uns) ∧ w'.cell? ⟨H + 1, 0, none⟩ = some (.bool pl) ∧ w'.cell? ⟨H + 1, 1, none⟩ = some (.bool mi) ∧ w'.cell? ⟨H + 1, 2, none⟩ = some (.bool sh) ∧ w'.cell? ⟨H + 1, 3, none⟩ = some (.bool sp) ∧ w'.cell? ⟨H + 1, 4, none⟩ = some (.bool ze) ∧ w'.cell? ⟨H + 1, 5, none⟩ = some (.int .i64 wid) ∧ w'.cell? ⟨H + 1, 6, none⟩ = some (.int .i64 prec) ∧ w'.cell? ⟨H + 1, 7, none⟩ = some (.int .i32 88)) ∧ Bs w H (H + 1) (wh4 neg n bits uns) (sp8 pl mi sh sp ze wid prec 88) w') (exact Bs.cellsS (by assumption))
    ((first
      | ((with_reducible refine (SHC.out _ (by assumption)).mono ?_); rintro e Wa ⟨rfl, sA⟩)
      | ((with_reducible refine (BAC.out _ (by assumption)).mono ?_); rintro e Wb ⟨rfl, sW⟩)))
  go_wp2_with fail
  go_ret2
  exact ⟨rfl, sW.below⟩

set_option maxRecDepth 100000 in
set_option maxHeartbeats 2000000 in
theorem write_c (neg uns : Bool) (n bits : Int) (pl mi sh sp ze : Bool) (wid prec : Int) (w : World) (_h0 : 0 ≤ n) (_h1 : n ≤ 18446744073709551615) (hb0 : 0 ≤ bits) (hb1 : bits ≤ 18446744073709551615) (hw0 : -9223372036854775808 ≤ wid) (hw1 : wid ≤ 9223372036854775807) :
    Calls Try.prog 27 #[whole neg n bits uns, .agg #[.bool pl, .bool mi, .bool sh, .bool sp, .bool ze, .int .i64 wid, .int .i64 prec, .int .i32 (99)]] w fun e w' => e = .returned (tupS (writeS neg uns n.toNat bits.toNat pl mi sh sp ze wid prec 99)) ∧ Below w.heap.size w w' := by
  have PO := hid (fun W => ipoint_any neg uns n bits W hb0 hb1)
  have RU := hid (fun W => rune_any (IP.pointI bits.toNat) W)
  have hes : (Utf8.encode (IP.pointI bits.toNat)).size ≤ 4 := by
    rw [Utf.size_eq]
    exact (Utf.encL_pos _).2
  have PD := hid (fun W => pad_any (Utf8.encode (IP.pointI bits.toNat)) pl mi sh sp ze wid prec 99 W (by omega) hw0 hw1)
  have hfin : some (padS (Utf8.encode (IP.pointI bits.toNat)) mi ze wid) = writeS neg uns n.toNat bits.toNat pl mi sh sp ze wid prec 99 := rfl
  rw [← hfin]
  obtain ⟨pt, hpt⟩ : ∃ pt, IP.pointI bits.toNat = pt := ⟨_, rfl⟩
  rw [hpt] at PO RU PD ⊢
  clear hfin hpt hes
  have S0 := hid (bs_start w (wh4 neg n bits uns) (sp8 pl mi sh sp ze wid prec 99))
  go_enter Try.func27, Try.ntmps27
  go_upto_region 1 with fail
  obtain ⟨W0, hW0⟩ : ∃ W0, (w.alloc (.cells (wh4 neg n bits uns) 47)).alloc (.cells (sp8 pl mi sh sp ze wid prec 99) 27) = W0 := ⟨_, rfl⟩
  obtain ⟨H, hH⟩ : ∃ H, w.heap.size = H := ⟨_, rfl⟩
  have HH := hid hH
  rw [hW0] at S0 ⊢
  rw [hH] at S0 ⊢
  clear hW0 hH
  obtain ⟨c0, c1, c2, c3, s0, s1, s2, s3, s4, s5, s6, s7, sf⟩ := S0.out.cells
  have sd := S0.out.drew
  have POC := hid (bsC (w := w) (H1 := H) (H2 := H + 1) (C1 := wh4 neg n bits uns) (C2 := sp8 pl mi sh sp ze wid prec 99) PO.out)
  have RUC := hid (bsQ (w := w) (H1 := H) (H2 := H + 1) (C1 := wh4 neg n bits uns) (C2 := sp8 pl mi sh sp ze wid prec 99) RU.out)
  have PDC := hid (bsC (w := w) (H1 := H) (H2 := H + 1) (C1 := wh4 neg n bits uns) (C2 := sp8 pl mi sh sp ze wid prec 99) PD.out)
  clear PO RU PD
  go_wp2_with fail
  go_region_held3 (fun w' => (w'.cell? ⟨H, 0, none⟩ = some (.bool neg) ∧ w'.cell? ⟨H, 1, none⟩ = some (.int .u64 n) ∧ w'.cell? ⟨H, 2, none⟩ = some (.int .u64 bits) ∧ w'.cell? ⟨H, 3, none⟩ = some (.bool uns) ∧ w'.cell? ⟨H + 1, 0, none⟩ = some (.bool pl) ∧ w'.cell? ⟨H + 1, 1, none⟩ = some (.bool mi) ∧ w'.cell? ⟨H + 1, 2, none⟩ = some (.bool sh) ∧ w'.cell? ⟨H + 1, 3, none⟩ = some (.bool sp) ∧ w'.cell? ⟨H + 1, 4, none⟩ = some (.bool ze) ∧ w'.cell? ⟨H + 1, 5, none⟩ = some (.int .i64 wid) ∧ w'.cell? ⟨H + 1, 6, none⟩ = some (.int .i64 prec) ∧ w'.cell? ⟨H + 1, 7, none⟩ = some (.int .i32 99)) ∧ Bs w H (H + 1) (wh4 neg n bits uns) (sp8 pl mi sh sp ze wid prec 99) w') (exact Bs.cellsS (by assumption))
    ((first
      | ((with_reducible refine (POC.out _ (by assumption)).mono ?_); rintro e Wa ⟨rfl, sA⟩)
      | ((with_reducible refine (RUC.out _ (by assumption)).mono ?_); rintro e Wb ⟨rfl, sB⟩)
      | ((with_reducible refine (PDC.out _ (by assumption)).mono ?_); rintro e Wc ⟨rfl, sW⟩)))
  go_wp2_with fail
  go_ret2
  exact ⟨rfl, sW.below⟩

set_option maxRecDepth 100000 in
set_option maxHeartbeats 2000000 in
theorem write_q (neg uns : Bool) (n bits : Int) (pl mi sh sp ze : Bool) (wid prec : Int) (w : World) (_h0 : 0 ≤ n) (_h1 : n ≤ 18446744073709551615) (hb0 : 0 ≤ bits) (hb1 : bits ≤ 18446744073709551615) (hw0 : -9223372036854775808 ≤ wid) (hw1 : wid ≤ 9223372036854775807) :
    Calls Try.prog 27 #[whole neg n bits uns, .agg #[.bool pl, .bool mi, .bool sh, .bool sp, .bool ze, .int .i64 wid, .int .i64 prec, .int .i32 (113)]] w fun e w' => e = .returned (tupS (writeS neg uns n.toNat bits.toNat pl mi sh sp ze wid prec 113)) ∧ Below w.heap.size w w' := by
  have hpi : -2147483648 ≤ IP.pointI bits.toNat ∧ IP.pointI bits.toNat ≤ 2147483647 := by
    unfold IP.pointI
    split <;> omega
  have PO := hid (fun W => ipoint_any neg uns n bits W hb0 hb1)
  have CH := hid (fun W => char_any (IP.pointI bits.toNat) pl W hpi.1 hpi.2)
  have hcl : (⟨(IP.charL (IP.pointI bits.toNat) pl).toArray⟩ : ByteArray).size ≤ 12 := by
    have := IP.inL_len (Utf.cp (IP.pointI bits.toNat) : Int) 39 pl
    simp [ByteArray.size, IP.charL]
    omega
  have PD := hid (fun W => pad_any ⟨(IP.charL (IP.pointI bits.toNat) pl).toArray⟩ pl mi sh sp ze wid prec 113 W (by omega) hw0 hw1)
  have hfin : some (padS ⟨(IP.charL (IP.pointI bits.toNat) pl).toArray⟩ mi ze wid) = writeS neg uns n.toNat bits.toNat pl mi sh sp ze wid prec 113 := rfl
  rw [← hfin]
  obtain ⟨Q, hQ⟩ : ∃ Q : ByteArray, (⟨(IP.charL (IP.pointI bits.toNat) pl).toArray⟩ : ByteArray) = Q := ⟨_, rfl⟩
  rw [hQ] at CH PD ⊢
  obtain ⟨pt, hpt⟩ : ∃ pt, IP.pointI bits.toNat = pt := ⟨_, rfl⟩
  rw [hpt] at PO CH
  clear hpi hfin hQ hpt hcl
  have S0 := hid (bs_start w (wh4 neg n bits uns) (sp8 pl mi sh sp ze wid prec 113))
  go_enter Try.func27, Try.ntmps27
  go_upto_region 1 with fail
  obtain ⟨W0, hW0⟩ : ∃ W0, (w.alloc (.cells (wh4 neg n bits uns) 47)).alloc (.cells (sp8 pl mi sh sp ze wid prec 113) 27) = W0 := ⟨_, rfl⟩
  obtain ⟨H, hH⟩ : ∃ H, w.heap.size = H := ⟨_, rfl⟩
  have HH := hid hH
  rw [hW0] at S0 ⊢
  rw [hH] at S0 ⊢
  clear hW0 hH
  obtain ⟨c0, c1, c2, c3, s0, s1, s2, s3, s4, s5, s6, s7, sf⟩ := S0.out.cells
  have sd := S0.out.drew
  have POC := hid (bsC (w := w) (H1 := H) (H2 := H + 1) (C1 := wh4 neg n bits uns) (C2 := sp8 pl mi sh sp ze wid prec 113) PO.out)
  have CHC := hid (bsC (w := w) (H1 := H) (H2 := H + 1) (C1 := wh4 neg n bits uns) (C2 := sp8 pl mi sh sp ze wid prec 113) CH.out)
  have PDC := hid (bsC (w := w) (H1 := H) (H2 := H + 1) (C1 := wh4 neg n bits uns) (C2 := sp8 pl mi sh sp ze wid prec 113) PD.out)
  clear PO CH PD
  go_wp2_with fail
  go_region_held3 (fun w' => (w'.cell? ⟨H, 0, none⟩ = some (.bool neg) ∧ w'.cell? ⟨H, 1, none⟩ = some (.int .u64 n) ∧ w'.cell? ⟨H, 2, none⟩ = some (.int .u64 bits) ∧ w'.cell? ⟨H, 3, none⟩ = some (.bool uns) ∧ w'.cell? ⟨H + 1, 0, none⟩ = some (.bool pl) ∧ w'.cell? ⟨H + 1, 1, none⟩ = some (.bool mi) ∧ w'.cell? ⟨H + 1, 2, none⟩ = some (.bool sh) ∧ w'.cell? ⟨H + 1, 3, none⟩ = some (.bool sp) ∧ w'.cell? ⟨H + 1, 4, none⟩ = some (.bool ze) ∧ w'.cell? ⟨H + 1, 5, none⟩ = some (.int .i64 wid) ∧ w'.cell? ⟨H + 1, 6, none⟩ = some (.int .i64 prec) ∧ w'.cell? ⟨H + 1, 7, none⟩ = some (.int .i32 113)) ∧ Bs w H (H + 1) (wh4 neg n bits uns) (sp8 pl mi sh sp ze wid prec 113) w') (exact Bs.cellsS (by assumption))
    ((first
      | ((with_reducible refine (POC.out _ (by assumption)).mono ?_); rintro e Wa ⟨rfl, sA⟩)
      | ((with_reducible refine (CHC.out _ (by assumption)).mono ?_); rintro e Wb ⟨rfl, sB⟩)
      | ((with_reducible refine (PDC.out _ (by assumption)).mono ?_); rintro e Wc ⟨rfl, sW⟩)))
  go_wp2_with fail
  go_ret2
  exact ⟨rfl, sW.below⟩

set_option maxRecDepth 100000 in
set_option maxHeartbeats 2000000 in
theorem write_no (neg uns : Bool) (n bits : Int) (pl mi sh sp ze : Bool) (wid prec verb : Int) (w : World) (hv : ¬ verb = 118 ∧ ¬ verb = 100 ∧ ¬ verb = 98 ∧ ¬ verb = 111 ∧ ¬ verb = 79 ∧ ¬ verb = 120 ∧ ¬ verb = 88 ∧ ¬ verb = 99 ∧ ¬ verb = 113 ∧ ¬ verb = 85) :
    Calls Try.prog 27 #[whole neg n bits uns, .agg #[.bool pl, .bool mi, .bool sh, .bool sp, .bool ze, .int .i64 wid, .int .i64 prec, .int .i32 (verb)]] w fun e w' => e = .returned (tupS (writeS neg uns n.toNat bits.toNat pl mi sh sp ze wid prec verb)) ∧ Below w.heap.size w w' := by
  obtain ⟨v0, v1, v2, v3, v4, v5, v6, v7, v8, v9⟩ := hv
  have hfin : writeS neg uns n.toNat bits.toNat pl mi sh sp ze wid prec verb = none := by
    unfold writeS IP.baseOf
    rw [if_neg v7, if_neg v8, if_neg v9, if_neg (fun h => v0 h.1), if_neg (fun h => h.elim v1 v0), if_neg v2, if_neg v3, if_neg v4, if_neg v5, if_neg v6]
  rw [hfin]
  clear hfin
  have b0 : (verb == 118) = false := beq_eq_false_iff_ne.2 v0
  have b1 : (verb == 100) = false := beq_eq_false_iff_ne.2 v1
  have b2 : (verb == 98) = false := beq_eq_false_iff_ne.2 v2
  have b3 : (verb == 111) = false := beq_eq_false_iff_ne.2 v3
  have b4 : (verb == 79) = false := beq_eq_false_iff_ne.2 v4
  have b5 : (verb == 120) = false := beq_eq_false_iff_ne.2 v5
  have b6 : (verb == 88) = false := beq_eq_false_iff_ne.2 v6
  have b7 : (verb == 99) = false := beq_eq_false_iff_ne.2 v7
  have b8 : (verb == 113) = false := beq_eq_false_iff_ne.2 v8
  have b9 : (verb == 85) = false := beq_eq_false_iff_ne.2 v9
  have S0 := hid (bs_start w (wh4 neg n bits uns) (sp8 pl mi sh sp ze wid prec verb))
  go_enter Try.func27, Try.ntmps27
  go_upto_region 1 with fail
  obtain ⟨W0, hW0⟩ : ∃ W0, (w.alloc (.cells (wh4 neg n bits uns) 47)).alloc (.cells (sp8 pl mi sh sp ze wid prec verb) 27) = W0 := ⟨_, rfl⟩
  obtain ⟨H, hH⟩ : ∃ H, w.heap.size = H := ⟨_, rfl⟩
  have HH := hid hH
  rw [hW0] at S0 ⊢
  rw [hH] at S0 ⊢
  clear hW0 hH
  obtain ⟨c0, c1, c2, c3, s0, s1, s2, s3, s4, s5, s6, s7, sf⟩ := S0.out.cells
  go_wp2_with fail
  go_ret2
  exact ⟨rfl, S0.out.below⟩

theorem write_any (neg uns : Bool) (n bits : Int) (pl mi sh sp ze : Bool) (wid prec verb : Int) (w : World) (h0 : 0 ≤ n) (h1 : n ≤ 18446744073709551615) (hb0 : 0 ≤ bits) (hb1 : bits ≤ 18446744073709551615) (hw0 : -9223372036854775808 ≤ wid) (hw1 : wid ≤ 9223372036854775807) :
    Calls Try.prog 27 #[whole neg n bits uns, .agg #[.bool pl, .bool mi, .bool sh, .bool sp, .bool ze, .int .i64 wid, .int .i64 prec, .int .i32 (verb)]] w fun e w' => e = .returned (tupS (writeS neg uns n.toNat bits.toNat pl mi sh sp ze wid prec verb)) ∧ Below w.heap.size w w' := by
  by_cases e100 : verb = 100
  · subst e100
    exact write_d neg uns n bits pl mi sh sp ze wid prec w h0 h1 hb0 hb1 hw0 hw1
  by_cases e98 : verb = 98
  · subst e98
    exact write_b neg uns n bits pl mi sh sp ze wid prec w h0 h1 hb0 hb1 hw0 hw1
  by_cases e111 : verb = 111
  · subst e111
    exact write_o neg uns n bits pl mi sh sp ze wid prec w h0 h1 hb0 hb1 hw0 hw1
  by_cases e79 : verb = 79
  · subst e79
    exact write_O neg uns n bits pl mi sh sp ze wid prec w h0 h1 hb0 hb1 hw0 hw1
  by_cases e120 : verb = 120
  · subst e120
    exact write_x neg uns n bits pl mi sh sp ze wid prec w h0 h1 hb0 hb1 hw0 hw1
  by_cases e88 : verb = 88
  · subst e88
    exact write_X neg uns n bits pl mi sh sp ze wid prec w h0 h1 hb0 hb1 hw0 hw1
  by_cases e99 : verb = 99
  · subst e99
    exact write_c neg uns n bits pl mi sh sp ze wid prec w h0 h1 hb0 hb1 hw0 hw1
  by_cases e113 : verb = 113
  · subst e113
    exact write_q neg uns n bits pl mi sh sp ze wid prec w h0 h1 hb0 hb1 hw0 hw1
  by_cases e85 : verb = 85
  · subst e85
    exact write_U neg uns n bits pl mi sh sp ze wid prec w h0 h1 hb0 hb1 hw0 hw1
  by_cases e118 : verb = 118
  · subst e118
    cases uns
    · exact write_v1a neg n bits pl mi sh sp ze wid prec w h0 h1 hb0 hb1 hw0 hw1
    · cases sh
      · exact write_v1b neg n bits pl mi sp ze wid prec w h0 h1 hb0 hb1 hw0 hw1
      · exact write_v2 neg n bits pl mi sp ze wid prec w h0 h1 hb0 hb1 hw0 hw1
  exact write_no neg uns n bits pl mi sh sp ze wid prec verb w ⟨e118, e100, e98, e111, e79, e120, e88, e99, e113, e85⟩
end Go.Proofs.Ytampkhdlhhgneaa
