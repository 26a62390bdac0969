/-
  Walks of layer 3: the document's number by its verb.
-/
import Derived.Test.YtampkhdlhhgneaaQJ
import Derived.StillTailTactics
import Derived.Deep.RegionHeld3
namespace Go.Proofs.Ytampkhdlhhgneaa
open Go.RowKit Go.Proofs

theorem Bx.cellsS {w W : World} {H : Nat} {pl mi sh sp ze : Bool} {wid prec verb : Int} (h : Bx w H (sp8 pl mi sh sp ze wid prec verb) W) :
    (W.cell? ⟨H, 0, none⟩ = some (.bool pl) ∧ W.cell? ⟨H, 1, none⟩ = some (.bool mi) ∧ W.cell? ⟨H, 2, none⟩ = some (.bool sh) ∧ W.cell? ⟨H, 3, none⟩ = some (.bool sp) ∧ W.cell? ⟨H, 4, none⟩ = some (.bool ze) ∧ W.cell? ⟨H, 5, none⟩ = some (.int .i64 wid) ∧ W.cell? ⟨H, 6, none⟩ = some (.int .i64 prec) ∧ W.cell? ⟨H, 7, none⟩ = some (.int .i32 verb)) ∧ Bx w H (sp8 pl mi sh sp ze wid prec verb) W := ⟨h.cells, h⟩
theorem Bx.drew {w W : World} {H : Nat} {C : Array Value} (h : Bx w H C W) : Bx w H C W.drew := h.kept (Below.refl _ _).drew
theorem bxC {w : World} {H : Nat} {C : Array Value} {f : FuncId} {args : Array Value} {v : Value} (h : ∀ W, Calls Try.prog f args W fun e w' => e = .returned v ∧ Below W.heap.size W w') :
    ∀ W, Bx w H C W → Calls Try.prog f args W fun e W' => e = .returned v ∧ Bx w H C W' := fun W hW =>
  (h W).mono fun _ _ ⟨he, hb⟩ => ⟨he, hW.kept hb⟩
theorem bxQ {w : World} {H : Nat} {C : Array Value} {f : FuncId} {args : Array Value} {v : Value} (h : ∀ W, Calls Try.prog f args W fun e w' => e = .returned v ∧ W = w') :
    ∀ W, Bx w H C W → Calls Try.prog f args W fun e W' => e = .returned v ∧ Bx w H C W' := fun W hW =>
  (h W).mono fun _ _ ⟨he, hb⟩ => ⟨he, hb ▸ hW⟩

set_option maxRecDepth 100000 in
set_option maxHeartbeats 2000000 in
theorem rwrite_c (neg : Bool) (n bits : Int) (pl mi sh sp ze : Bool) (wid prec : Int) (w : World) (hb0 : 0 ≤ bits) (hb1 : bits ≤ 18446744073709551615) (hw0 : -9223372036854775808 ≤ wid) (hw1 : wid ≤ 9223372036854775807) :
    Calls Try.prog 28 #[.bool neg, .int .u64 n, .int .u64 bits, .agg #[.bool pl, .bool mi, .bool sh, .bool sp, .bool ze, .int .i64 wid, .int .i64 prec, .int .i32 (99)]] w fun e w' => e = .returned (tupS (writeS neg false n.toNat bits.toNat pl mi sh sp ze wid prec 99)) ∧ Below w.heap.size w w' := by
  have hpi : -2147483648 ≤ IP.pointI bits.toNat ∧ IP.pointI bits.toNat ≤ 2147483647 := by
    unfold IP.pointI
    split <;> omega
  have PO := hid (fun W => rpoint_any bits W hb0 hb1)
  have RU := hid (fun W => refrune_any (IP.pointI bits.toNat) hpi.1 hpi.2 W)
  have hes : (Utf8.encode (IP.pointI bits.toNat)).size ≤ 4 := by
    rw [Utf.size_eq]
    exact (Utf.encL_pos _).2
  have PD := hid (fun W => refpad_any (Utf8.encode (IP.pointI bits.toNat)) pl mi sh sp ze wid prec 99 W (by omega) hw0 hw1)
  have hfin : some (padS (Utf8.encode (IP.pointI bits.toNat)) mi ze wid) = writeS neg false n.toNat bits.toNat pl mi sh sp ze wid prec 99 := rfl
  rw [← hfin]
  obtain ⟨pt, hpt⟩ : ∃ pt, IP.pointI bits.toNat = pt := ⟨_, rfl⟩
  rw [hpt] at PO RU PD ⊢
  clear hfin hpt hes hpi
  have S0 := hid (bx_start w (sp8 pl mi sh sp ze wid prec 99))
  go_enter Try.func28, Try.ntmps28
  go_upto_region 1 with fail
  obtain ⟨W0, hW0⟩ : ∃ W0, w.alloc (.cells (sp8 pl mi sh sp ze wid prec 99) 27) = W0 := ⟨_, rfl⟩
  obtain ⟨H, hH⟩ : ∃ H, w.heap.size = H := ⟨_, rfl⟩
  have HH := hid hH
  rw [hW0] at S0 ⊢
  rw [hH] at S0 ⊢
  clear hW0 hH
  obtain ⟨s0, s1, s2, s3, s4, s5, s6, s7⟩ := S0.out.cells
  have sd := S0.out.drew
  have POC := hid (bxQ (w := w) (H := H) (C := sp8 pl mi sh sp ze wid prec 99) PO.out)
  have RUC := hid (bxC (w := w) (H := H) (C := sp8 pl mi sh sp ze wid prec 99) RU.out)
  have PDC := hid (bxC (w := w) (H := H) (C := sp8 pl mi sh sp ze wid prec 99) PD.out)
  clear PO RU PD
  go_wp2_with fail
  go_region_held3 (fun w' => (w'.cell? ⟨H, 0, none⟩ = some (.bool pl) ∧ w'.cell? ⟨H, 1, none⟩ = some (.bool mi) ∧ w'.cell? ⟨H, 2, none⟩ = some (.bool sh) ∧ w'.cell? ⟨H, 3, none⟩ = some (.bool sp) ∧ w'.cell? ⟨H, 4, none⟩ = some (.bool ze) ∧ w'.cell? ⟨H, 5, none⟩ = some (.int .i64 wid) ∧ w'.cell? ⟨H, 6, none⟩ = some (.int .i64 prec) ∧ w'.cell? ⟨H, 7, none⟩ = some (.int .i32 99)) ∧ Bx w H (sp8 pl mi sh sp ze wid prec 99) w') (exact Bx.cellsS (by assumption))
    ((first
      | ((with_reducible refine (POC.out _ (by assumption)).mono ?_); rintro e Wa ⟨rfl, sA⟩)
      | ((with_reducible refine (RUC.out _ (by assumption)).mono ?_); rintro e Wb ⟨rfl, sB⟩)
      | ((with_reducible refine (PDC.out _ (by assumption)).mono ?_); rintro e Wc ⟨rfl, sW⟩)))
  go_wp2_with fail
  go_ret2
  exact ⟨rfl, sW.below⟩

set_option maxRecDepth 100000 in
set_option maxHeartbeats 2000000 in
theorem rwrite_q (neg : Bool) (n bits : Int) (pl mi sh sp ze : Bool) (wid prec : Int) (w : World) (hb0 : 0 ≤ bits) (hb1 : bits ≤ 18446744073709551615) (hw0 : -9223372036854775808 ≤ wid) (hw1 : wid ≤ 9223372036854775807) :
    Calls Try.prog 28 #[.bool neg, .int .u64 n, .int .u64 bits, .agg #[.bool pl, .bool mi, .bool sh, .bool sp, .bool ze, .int .i64 wid, .int .i64 prec, .int .i32 (113)]] w fun e w' => e = .returned (tupS (writeS neg false n.toNat bits.toNat pl mi sh sp ze wid prec 113)) ∧ Below w.heap.size w w' := by
  have hpi : -2147483648 ≤ IP.pointI bits.toNat ∧ IP.pointI bits.toNat ≤ 2147483647 := by
    unfold IP.pointI
    split <;> omega
  have PO := hid (fun W => rpoint_any bits W hb0 hb1)
  have CH := hid (fun W => rchar_any (IP.pointI bits.toNat) pl W hpi.1 hpi.2)
  have hcl : (⟨(IP.charL (IP.pointI bits.toNat) pl).toArray⟩ : ByteArray).size ≤ 12 := by
    have := IP.inL_len (Utf.cp (IP.pointI bits.toNat) : Int) 39 pl
    simp [ByteArray.size, IP.charL]
    omega
  have PD := hid (fun W => refpad_any ⟨(IP.charL (IP.pointI bits.toNat) pl).toArray⟩ pl mi sh sp ze wid prec 113 W (by omega) hw0 hw1)
  have hfin : some (padS ⟨(IP.charL (IP.pointI bits.toNat) pl).toArray⟩ mi ze wid) = writeS neg false n.toNat bits.toNat pl mi sh sp ze wid prec 113 := rfl
  rw [← hfin]
  obtain ⟨Q, hQ⟩ : ∃ Q : ByteArray, (⟨(IP.charL (IP.pointI bits.toNat) pl).toArray⟩ : ByteArray) = Q := ⟨_, rfl⟩
  rw [hQ] at CH PD ⊢
  obtain ⟨pt, hpt⟩ : ∃ pt, IP.pointI bits.toNat = pt := ⟨_, rfl⟩
  rw [hpt] at PO CH
  clear hpi hfin hQ hpt hcl
  have S0 := hid (bx_start w (sp8 pl mi sh sp ze wid prec 113))
  go_enter Try.func28, Try.ntmps28
  go_upto_region 1 with fail
  obtain ⟨W0, hW0⟩ : ∃ W0, w.alloc (.cells (sp8 pl mi sh sp ze wid prec 113) 27) = W0 := ⟨_, rfl⟩
  obtain ⟨H, hH⟩ : ∃ H, w.heap.size = H := ⟨_, rfl⟩
  have HH := hid hH
  rw [hW0] at S0 ⊢
  rw [hH] at S0 ⊢
  clear hW0 hH
  obtain ⟨s0, s1, s2, s3, s4, s5, s6, s7⟩ := S0.out.cells
  have sd := S0.out.drew
  have POC := hid (bxQ (w := w) (H := H) (C := sp8 pl mi sh sp ze wid prec 113) PO.out)
  have CHC := hid (bxC (w := w) (H := H) (C := sp8 pl mi sh sp ze wid prec 113) CH.out)
  have PDC := hid (bxC (w := w) (H := H) (C := sp8 pl mi sh sp ze wid prec 113) PD.out)
  clear PO CH PD
  go_wp2_with fail
  go_region_held3 (fun w' => (w'.cell? ⟨H, 0, none⟩ = some (.bool pl) ∧ w'.cell? ⟨H, 1, none⟩ = some (.bool mi) ∧ w'.cell? ⟨H, 2, none⟩ = some (.bool sh) ∧ w'.cell? ⟨H, 3, none⟩ = some (.bool sp) ∧ w'.cell? ⟨H, 4, none⟩ = some (.bool ze) ∧ w'.cell? ⟨H, 5, none⟩ = some (.int .i64 wid) ∧ w'.cell? ⟨H, 6, none⟩ = some (.int .i64 prec) ∧ w'.cell? ⟨H, 7, none⟩ = some (.int .i32 113)) ∧ Bx w H (sp8 pl mi sh sp ze wid prec 113) w') (exact Bx.cellsS (by assumption))
    ((first
      | ((with_reducible refine (POC.out _ (by assumption)).mono ?_); rintro e Wa ⟨rfl, sA⟩)
      | ((with_reducible refine (CHC.out _ (by assumption)).mono ?_); rintro e Wb ⟨rfl, sB⟩)
      | ((with_reducible refine (PDC.out _ (by assumption)).mono ?_); rintro e Wc ⟨rfl, sW⟩)))
  go_wp2_with fail
  go_ret2
  exact ⟨rfl, sW.below⟩

set_option maxRecDepth 100000 in
set_option maxHeartbeats 2000000 in
theorem rwrite_no (neg : Bool) (n bits : Int) (pl mi sh sp ze : Bool) (wid prec verb : Int) (w : World) (hv : ¬ verb = 118 ∧ ¬ verb = 100 ∧ ¬ verb = 98 ∧ ¬ verb = 111 ∧ ¬ verb = 79 ∧ ¬ verb = 120 ∧ ¬ verb = 88 ∧ ¬ verb = 99 ∧ ¬ verb = 113 ∧ ¬ verb = 85) :
    Calls Try.prog 28 #[.bool neg, .int .u64 n, .int .u64 bits, .agg #[.bool pl, .bool mi, .bool sh, .bool sp, .bool ze, .int .i64 wid, .int .i64 prec, .int .i32 verb]] w fun e w' => e = .returned (tupS (writeS neg false n.toNat bits.toNat pl mi sh sp ze wid prec verb)) ∧ Below w.heap.size w w' := by
  obtain ⟨v0, v1, v2, v3, v4, v5, v6, v7, v8, v9⟩ := hv
  have hfin : writeS neg false n.toNat bits.toNat pl mi sh sp ze wid prec verb = none := by
    unfold writeS IP.baseOf
    rw [if_neg v7, if_neg v8, if_neg v9, if_neg (fun h => v0 h.1), if_neg (fun h => h.elim v1 v0), if_neg v2, if_neg v3, if_neg v4, if_neg v5, if_neg v6]
  have hbas : basT verb = (0, ⟨#[]⟩, false) := by
    unfold basT
    rw [if_neg (fun h => h.elim v1 v0), if_neg v2, if_neg v3, if_neg v4, if_neg v5, if_neg v6]
  rw [hfin]
  have BS := hid (fun W => bases_any verb W)
  rw [hbas] at BS
  clear hfin hbas
  have b7 : (verb == 99) = false := beq_eq_false_iff_ne.2 v7
  have b8 : (verb == 113) = false := beq_eq_false_iff_ne.2 v8
  have b9 : (verb == 85) = false := beq_eq_false_iff_ne.2 v9
  clear v0 v1 v2 v3 v4 v5 v6 v7 v8 v9
  have HB := hid ((Below.refl w.heap.size w).alloc (Nat.le_refl _) (.cells (sp8 pl mi sh sp ze wid prec verb) 27))
  go_enter Try.func28, Try.ntmps28
  go_wp2_with fail
  refine (BS.out _).mono ?_
  rintro e w0 ⟨rfl, rfl⟩
  go_wp2_with fail
  go_ret2
  exact ⟨rfl, HB.out⟩

set_option maxRecDepth 100000 in
set_option maxHeartbeats 4000000 in
theorem rwrite_U (neg : Bool) (n bits : Int) (pl mi sh sp ze : Bool) (wid prec : Int) (w : World) (hb0 : 0 ≤ bits) (hb1 : bits ≤ 18446744073709551615) (hw0 : -9223372036854775808 ≤ wid) (hw1 : wid ≤ 9223372036854775807) :
    Calls Try.prog 28 #[.bool neg, .int .u64 n, .int .u64 bits, .agg #[.bool pl, .bool mi, .bool sh, .bool sp, .bool ze, .int .i64 wid, .int .i64 prec, .int .i32 (85)]] w fun e w' => e = .returned (tupS (writeS neg false n.toNat bits.toNat pl mi sh sp ze wid prec 85)) ∧ Below w.heap.size w w' := by
  have hfin : some (padS ⟨(IP.uniL bits.toNat sh prec).toArray⟩ mi false wid) = writeS neg false n.toNat bits.toNat pl mi sh sp ze wid prec 85 := rfl
  rw [← hfin]
  clear hfin
  obtain ⟨P, hP⟩ : ∃ P, IP.limI prec = P := ⟨_, rfl⟩
  have hPb : -1 ≤ P ∧ P ≤ 1000 := by rw [← hP]; unfold IP.limI; omega
  obtain ⟨hPb0, hPb1⟩ := hPb
  have WP := hid (fun W => width_any prec W)
  rw [width_lim, hP] at WP
  have DG := hid (fun W => rdigits_16 bits W hb0 hb1)
  have hd0l := IP.dgb_len64 16 false (by omega) bits.toNat (by omega)
  obtain ⟨D0, hD0⟩ : ∃ D0 : ByteArray, ⟨(IP.dgb 16 false bits.toNat).toArray⟩ = D0 := ⟨_, rfl⟩
  rw [hD0] at DG
  have hD0s : D0.size ≤ 64 := by rw [← hD0]; simpa [ByteArray.size] using hd0l
  have GR := hid (fun W => great_any D0 W (by omega))
  have hg : (⟨(D0.data.toList.map greatB).toArray⟩ : ByteArray) = ⟨(IP.dgb 16 true bits.toNat).toArray⟩ := by
    rw [← hD0]
    exact bytes_ext (by simpa using great_dgb 16 (by omega) (by omega) bits.toNat)
  rw [hg] at GR
  have hd1l := IP.dgb_len64 16 true (by omega) bits.toNat (by omega)
  obtain ⟨D, hD⟩ : ∃ D : ByteArray, ⟨(IP.dgb 16 true bits.toNat).toArray⟩ = D := ⟨_, rfl⟩
  rw [hD] at GR
  have hDl : D.data.toList = IP.dgb 16 true bits.toNat := by rw [← hD]
  have hDs : D.size ≤ 64 := by rw [← hD]; simpa [ByteArray.size] using hd1l
  obtain ⟨Q, hQ⟩ : ∃ Q : Int, max 4 P = Q := ⟨_, rfl⟩
  have hQb : 4 ≤ Q ∧ Q ≤ 1000 := by omega
  obtain ⟨hQ0, hQ1⟩ := hQb
  have ZA := hid (fun W => zeros_any D Q W (by omega) (by omega) (by omega))
  have hzl := IP.zerosTo_len Q D.data.toList
  obtain ⟨Z, hZ⟩ : ∃ Z : ByteArray, ⟨(IP.zerosTo Q D.data.toList).toArray⟩ = Z := ⟨_, rfl⟩
  rw [hZ] at ZA
  have hZs : Z.size ≤ 1064 := by
    rw [← hZ]
    show (IP.zerosTo Q D.data.toList).toArray.size ≤ _
    rw [List.size_toArray, hzl, ← Utf.size_eq]
    omega
  obtain ⟨U, hU⟩ : ∃ U : ByteArray, (⟨#[85, 43]⟩ : ByteArray) ++ Z = U := ⟨_, rfl⟩
  have hUs : U.size ≤ 1066 := by
    rw [← hU, ByteArray.size_append]
    show 2 + _ ≤ 1066
    omega
  obtain ⟨y, hy⟩ : ∃ y : Bool, decide (sh = true ∧ bits ≤ 1114111 ∧ IP.plainB bits = true) = y := ⟨_, rfl⟩
  have hbr : bits ≤ 1114111 → -2147483648 ≤ bits ∧ bits ≤ 2147483647 := by omega
  have hes : (Utf8.encode bits).size ≤ 4 := by
    rw [Utf.size_eq]
    exact (Utf.encL_pos _).2
  obtain ⟨E, hE⟩ : ∃ E : ByteArray, Utf8.encode bits = E := ⟨_, rfl⟩
  rw [hE] at hes
  obtain ⟨X, hX⟩ : ∃ X : ByteArray, (if y then U ++ (⟨#[32, 39]⟩ ++ E ++ ⟨#[39]⟩) else U) = X := ⟨_, rfl⟩
  have hXs : X.size ≤ 1100 := by
    rw [← hX]
    split
    · rw [ByteArray.size_append, ByteArray.size_append, ByteArray.size_append]
      show _ + (2 + _ + 1) ≤ 1100
      omega
    · omega
  have hres : X = ⟨(IP.uniL bits.toNat sh prec).toArray⟩ := by
    refine bytes_ext ?_
    have hbn : ((bits.toNat : Nat) : Int) = bits := by omega
    have hUl : U.data.toList = [85, 43] ++ IP.zerosTo (max 4 (IP.limI prec)) (IP.dgb 16 true bits.toNat) := by
      rw [← hU, ← hZ, hP, hQ, hDl, ByteArray.data_append, Array.toList_append]
    have hiff : (sh = true ∧ bits.toNat ≤ 1114111 ∧ IP.plainB bits = true) ↔ (sh = true ∧ bits ≤ 1114111 ∧ IP.plainB bits = true) := ⟨fun h => ⟨h.1, by omega, h.2.2⟩, fun h => ⟨h.1, by omega, h.2.2⟩⟩
    show X.data.toList = IP.uniL bits.toNat sh prec
    unfold IP.uniL
    rw [hbn, ← hX]
    cases y
    · have h9 := of_decide_eq_false hy
      rw [if_neg (fun h => h9 (hiff.1 h)), List.append_nil, ← hUl]
      rfl
    · have h9 := of_decide_eq_true hy
      rw [if_pos (hiff.2 h9), ← hUl, ← hE]
      show (U ++ (⟨#[32, 39]⟩ ++ Utf8.encode bits ++ ⟨#[39]⟩)).data.toList = _
      simp only [ByteArray.data_append, Array.toList_append]
      rfl
  rw [← hres]
  have PD := hid (fun W => rpadplain_any X pl mi sh sp ze wid prec 85 W (by omega) hw0 hw1)
  have HY := hid hy
  have HX := hid hX
  have HQ := hid hQ
  have HU := hid hU
  have RU := hid (fun (h : bits ≤ 1114111) W => refrune_any bits (hbr h).1 (hbr h).2 W)
  rw [hE] at RU
  have RP := hid (fun W => rplain_any bits W)
  clear hres hy hX hQ hU hP hD0 hd0l hg hd1l hD hDl hzl hZ hE hbr
  have B0 := hid (bx_start w (sp8 pl mi sh sp ze wid prec 85))
  go_enter Try.func28, Try.ntmps28
  go_wp2_with fail
  refine (WP.out _).mono ?_
  rintro e w1 ⟨rfl, rfl⟩
  obtain ⟨W0, hW0⟩ : ∃ W0, w.alloc (.cells (sp8 pl mi sh sp ze wid prec 85) 27) = W0 := ⟨_, rfl⟩
  obtain ⟨H, hH⟩ : ∃ H, w.heap.size = H := ⟨_, rfl⟩
  have HH := hid hH
  rw [hW0] at B0 ⊢
  rw [hH] at B0 ⊢
  clear hW0 hH
  obtain ⟨s0, s1, s2, s3, s4, s5, s6, s7⟩ := B0.out.cells
  go_upto_if 41 with fail
  go_cut [10] (fun v10 wn => v10 = .int .i64 Q ∧ W0 = wn)
  case first =>
    rcases (show (4 < P ∧ Q = P) ∨ (¬ 4 < P ∧ Q = 4) by have := HQ.out; omega) with ⟨q1, q2⟩ | ⟨q1, q2⟩
    · subst q2
      go_wp2_with fail
      refine (WP.out _).mono ?_
      rintro e w1 ⟨rfl, rfl⟩
      go_wp2_with fail
      go_meet
      exact ⟨rfl, rfl⟩
    · subst q2
      go_wp2_with fail
      go_meet
      exact ⟨rfl, rfl⟩
  case rest =>
    obtain ⟨rfl, rfl⟩ := hcut
    go_wp2_with fail
    refine (DG.out _).mono ?_
    rintro e w1 ⟨rfl, rfl⟩
    go_wp2_with fail
    refine (GR.out _).mono ?_
    rintro e w1 ⟨rfl, hb⟩
    have B1 := hid (B0.out.kept hb)
    clear hb s0 s1 s2 s3 s4 s5 s6 s7
    obtain ⟨s0, s1, s2, s3, s4, s5, s6, s7⟩ := B1.out.cells
    go_wp2_with fail
    refine (ZA.out _).mono ?_
    rintro e w2 ⟨rfl, rfl⟩
    go_upto_region 11 with fail
    rw [HU.out]
    go_cut [61] (fun v61 wn => v61 = .bool y ∧ w1 = wn)
    case first =>
      cases sh
      · have ey := HY.out.symm
        simp at ey
        subst ey
        go_wp2_with fail
        go_meet
        exact ⟨rfl, rfl⟩
      · by_cases hle : bits ≤ 1114111
        · have ey : y = IP.plainB bits := by
            rw [← HY.out]
            cases hpb : IP.plainB bits <;> simp [hle]
          rw [← ey] at RP
          clear ey
          go_wp2_with fail
          refine (RP.out _).mono ?_
          rintro e w3 ⟨rfl, rfl⟩
          go_wp2_with fail
          go_meet
          exact ⟨rfl, rfl⟩
        · have ey : y = false := by
            rw [← HY.out]
            exact decide_eq_false (fun h => hle h.2.1)
          subst ey
          go_wp2_with fail
          go_meet
          exact ⟨rfl, rfl⟩
    case rest =>
      obtain ⟨rfl, rfl⟩ := hcut
      go_upto_if 61 with fail
      go_cut [11] (fun v11 wn => v11 = .string X ∧ Hid (Bx w H (sp8 pl mi sh sp ze wid prec 85) wn))
      case first =>
        cases y
        · have ex := HX.out
          simp only [Bool.false_eq_true, if_false] at ex
          subst ex
          go_wp2_with fail
          go_meet
          exact ⟨rfl, B1⟩
        · have ey := of_decide_eq_true HY.out
          have hle := ey.2.1
          have ex := HX.out
          simp only [if_true] at ex
          clear ey
          have RU2 := hid (RU.out hle)
          go_wp2_with fail
          refine (RU2.out _).mono ?_
          rintro e w3 ⟨rfl, hb⟩
          have B2 := hid (B1.out.kept hb)
          clear hb
          go_wp2_with fail
          go_meet
          exact ⟨rfl, B2⟩
      case rest =>
        obtain ⟨rfl, B3⟩ := hcut
        clear s0 s1 s2 s3 s4 s5 s6 s7
        obtain ⟨s0, s1, s2, s3, s4, s5, s6, s7⟩ := B3.out.cells
        go_wp2_with fail
        refine (PD.out _).mono ?_
        rintro e w5 ⟨rfl, hb⟩
        have B4 := hid (B3.out.kept hb)
        clear hb
        go_wp2_with fail
        go_ret2
        exact ⟨rfl, B4.out.below⟩
end Go.Proofs.Ytampkhdlhhgneaa
