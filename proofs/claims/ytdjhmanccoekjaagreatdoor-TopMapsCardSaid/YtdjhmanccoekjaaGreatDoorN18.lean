/-
  Texts of this claim, joined: T4, T5, T6, T7, T8, T9, TA, TR, VI, TS, TT.
-/
import Derived.Lib.ConvBytes
import Derived.Deep.QuietTactic
import Derived.Deep.RegionWith
import Derived.Deep.RegionHeld3
import Derived.Test.YtdjhmanccoekjaaGreatDoorN17
import Derived.Test.YtdjhmanccoekjaaGreatDoorN3
import Derived.Test.YtdjhmanccoekjaaGreatDoorN16

section
namespace Go.Proofs.YtdjhmanccoekjaaGreatDoor.FL
open Go.RowKit Go.Proofs

/-- Digits alone. -/
def DigB (l : List UInt8) : Prop := ∀ a ∈ l, 48 ≤ a.toNat ∧ a.toNat ≤ 57
theorem tbytesWorld_below (w : World) (e : TypeId) (s : ByteArray) : Below w.heap.size w (Lib.bytesWorld w e s) :=
  ⟨rfl, rfl, rfl, by rw [Lib.bytesWorld_size]; omega, fun k hk => Lib.bytesWorld_at_old w e s k hk⟩
theorem tgetD_mem {l : List UInt8} {i : Nat} (h : i < l.length) : l.getD i 0 ∈ l := by
  have e : l.getD i 0 = l[i] := by unfold List.getD; rw [List.getElem?_eq_getElem h]; rfl
  rw [e]
  exact List.getElem_mem h
/-- A decimal's block. -/
abbrev decC (x : List UInt8 × Int) : Array Value := #[.string (bs x.1), .int .i64 x.2]
theorem dec_set {w : World} {b : Nat} {a c : Value} {T : TypeId} (h : Blk w b #[a, c] T) (od : List UInt8) (op : Int) :
    ((w.setCell ⟨b, 0, none⟩ (.string (bs od))).setCell ⟨b, 1, none⟩ (.int .i64 op)).cell? ⟨b, 0, none⟩ = some (.string (bs od)) ∧ ((w.setCell ⟨b, 0, none⟩ (.string (bs od))).setCell ⟨b, 1, none⟩ (.int .i64 op)).cell? ⟨b, 1, none⟩ = some (.int .i64 op) := by
  have hR2 := (h.set_ 0 (.string (bs od))).set_ 1 (.int .i64 op)
  have q0 := hR2.cell 0
  have q1 := hR2.cell 1
  simp only [List.setIfInBounds_toArray, List.set_cons_zero, List.set_cons_succ, List.getElem?_toArray, List.getElem?_cons_zero, List.getElem?_cons_succ] at q0 q1
  exact ⟨q0, q1⟩
set_option maxRecDepth 100000 in
set_option maxHeartbeats 1000000 in
theorem norm_any (d : List UInt8) (p : Int) (w : World) (hd : d.length ≤ 2000) (hD : DigB d) (hp0 : -5000 ≤ p) (hp1 : p ≤ 5000) :
    Calls Tryz.prog 230 #[decV (d, p)] w fun e w' => e = .returned (.tuple #[decV (BD.formL d p), .int .i64 0]) ∧ Below w.heap.size w w' := by
  obtain ⟨w2, hw2⟩ : ∃ w2, (w.alloc (.cells (decC (d, p)) 306)).alloc (.cells #[.string ⟨#[]⟩, .int .i64 0] 306) = w2 := ⟨_, rfl⟩
  have hA : Blk w2 w.heap.size (decC (d, p)) 306 := by rw [← hw2]; exact (Blk.new _ _ _).alloc _
  have hR : Blk w2 (w.heap.size + 1) #[.string ⟨#[]⟩, .int .i64 0] 306 := by rw [← hw2]; have := Blk.new (w.alloc (.cells (decC (d, p)) 306)) #[.string ⟨#[]⟩, .int .i64 0] 306; simpa using this
  have hb2 : Below w.heap.size w w2 := by rw [← hw2]; exact ((Below.refl _ _).alloc (Nat.le_refl _) _).alloc (by simp) _
  have hz2 : w2.heap.size = w.heap.size + 2 := by rw [← hw2]; simp
  have hcv := Lib.run_convert_string_bytes (P := Tryz.prog) w2 9 50 5 (bs d) Tryz.underlying9 Tryz.underlying50 Tryz.underlying5
  have hbw := tbytesWorld_below w2 5 (bs d)
  have hcl := hid (Lib.bytesWorld_cell w2 5 (bs d))
  have hzd : (bs d).size = d.length := bs_size d
  have FO := hid (fun W => form_any d p W (by omega) (by omega) (by omega))
  have a0 := hA.cell 0
  have a1 := hA.cell 1
  go_enter Tryz.func230, Tryz.ntmps230
  go_wp2_with fail
  obtain ⟨W3, hW3⟩ : ∃ W3, Lib.bytesWorld w2 5 (bs d) = W3 := ⟨_, rfl⟩
  rw [hW3] at hbw hcl ⊢
  rw [hz2] at hcl
  have hA3 := hA.below hbw (by rw [hz2]; omega)
  have hR3 := hR.below hbw (by rw [hz2]; omega)
  have b0 := hA3.cell 0
  have b1 := hA3.cell 1
  have HD := hid hD
  have HB3 := hid (hb2.trans (hbw.mono (by rw [hz2]; omega)))
  have HR3 := hid hR3
  have HA3 := hid hA3
  have hW2 := hbw.size
  clear hcv hW3 a0 a1 hA hR hb2 hD hbw
  go_loopw [15] (fun iv wr => ∃ i : Nat, iv = .int .i64 i ∧ i ≤ d.length ∧ wr = W3) (fun iv _ => d.length - (intOf iv).toNat)
  case atStart => exact ⟨0, rfl, Nat.zero_le _, rfl⟩
  case round =>
    obtain ⟨i, rfl, hi, rfl⟩ := hrel
    by_cases hlt : i < d.length
    · have hci := hcl.out i (by rw [bs_size]; exact hlt)
      have hdi := HD.out (d.getD i 0) (tgetD_mem hlt)
      obtain ⟨c, hc⟩ : ∃ c : Int, ((d.getD i 0).toNat : Int) = c := ⟨_, rfl⟩
      rw [hc] at hci
      have hb : 48 ≤ c ∧ c ≤ 57 := by omega
      clear hc hdi
      go_wp2_with fail
      go_roundw
      case rel => exact ⟨i + 1, by go_num, by omega, by first | trivial | rfl⟩
      case measure => simp [intOf]; omega
    · go_wp2_with fail
      refine (FO.out _).mono ?_
      rintro en w4 ⟨rfl, hb4⟩
      have hR4 := HR3.out.below hb4 (by omega)
      have hc0 := hR4.cell 0
      have hc1 := hR4.cell 1
      have hf0 := hR4.frozen 0
      have hf1 := hR4.frozen 1
      have HB4 := hid (HB3.out.trans (hb4.mono (by omega)))
      obtain ⟨⟨od, op⟩, hO⟩ : ∃ o, BD.formL d p = o := ⟨_, rfl⟩
      rw [hO]
      obtain ⟨q0, q1⟩ := dec_set hR4 od op
      clear hb4 hR4
      go_wp2_with fail
      refine bodyPost_ret (v := .tuple #[decV (od, op), .int .i64 0]) ?_ rfl ⟨by rw [hO], (HB4.out.setCell (by simp) _).setCell (by simp) _⟩
      simp [results, Tryz.results230, go_sem, q0, q1]

/-- The digits rounded down (what is cut off is less than a half). -/
def downL (d : List UInt8) (p : Int) (n : Nat) : List UInt8 × Int := BD.formL (d.take n) p
theorem bs_ext {s t : ByteArray} (h : s.data.toList = t.data.toList) : s = t := by
  cases s; cases t
  simp only [Array.toList_inj] at h
  rw [h]
theorem bs_take (d : List UInt8) (n : Nat) : (bs d).extract 0 n = bs (d.take n) := bs_ext (by rw [Lib.extract_data]; simp)
theorem bs_drop (d : List UInt8) (n : Nat) : (bs d).extract n d.length = bs (d.drop n) := bs_ext (by rw [Lib.extract_data]; show (d.drop n).take (d.length - n) = d.drop n; rw [List.take_of_length_le (by rw [List.length_drop]; exact Nat.le_refl _)])
set_option maxRecDepth 100000 in
set_option maxHeartbeats 1000000 in
theorem round_down (d : List UInt8) (p : Int) (n : Nat) (w : World) (hd : d.length ≤ 2000) (hp0 : -100000 ≤ p) (hp1 : p ≤ 100000) (hn : 0 < n) (hnd : n < d.length) (h5 : Op.bytesLess (bs (d.drop n)).toList [53] = true) (hD : DigB d) :
    Calls Tryz.prog 231 #[decV (d, p), .int .i64 n] w fun e w' => e = .returned (decV (downL d p n)) ∧ Below w.heap.size w w' := by
  have FO := hid (fun W => form_any (d.take n) p W (by rw [List.length_take]; omega) (by omega) (by omega))
  have e1 := bs_take d n
  have e2 := bs_drop d n
  have hzt : (bs (d.take n)).size = n := by rw [bs_size, List.length_take]; omega
  obtain ⟨H, hH⟩ : ∃ H, bs (d.take n) = H := ⟨_, rfl⟩
  obtain ⟨L, hL⟩ : ∃ L, bs (d.drop n) = L := ⟨_, rfl⟩
  rw [hH] at e1 hzt
  rw [hL] at e2 h5
  have hat : ∃ c : Int, ((H[n - 1]'(by omega)).toNat : Int) = c ∧ 48 ≤ c ∧ c ≤ 57 := by
    refine ⟨_, rfl, ?_⟩
    have hm : (H[n - 1]'(by omega)) ∈ d := by
      subst hH
      have : ((bs (d.take n))[n - 1]'(by omega)) = (d.take n)[n - 1]'(by rw [List.length_take]; omega) := rfl
      rw [this]
      exact List.mem_of_mem_take (List.getElem_mem _)
    have := hD _ hm
    omega
  obtain ⟨c, hc, hc0, hc1⟩ := hat
  have hzd : (bs d).size = d.length := bs_size d
  go_enter Tryz.func231, Tryz.ntmps231
  go_wp2_with fail
  go_quiet (fail)
  generalize hw5 : World.drewN _ _ = w5
  have hA : Blk w5 w.heap.size (decC (d, p)) 306 := by rw [← hw5]; exact (Blk.new w _ _).alloc _
  have hR : Blk w5 (w.heap.size + 1) #[.string ⟨#[]⟩, .int .i64 0] 306 := by rw [← hw5]; have := Blk.new (w.alloc (.cells (decC (d, p)) 306)) #[.string ⟨#[]⟩, .int .i64 0] 306; rw [World.size_alloc] at this; exact this
  have hb5 : Below w.heap.size w w5 := by rw [← hw5]; exact below_drewN (((Below.refl _ _).alloc (Nat.le_refl _) _).alloc (by simp) _) _
  have hz5 := hR.lt
  have a1 := hA.cell 1
  have HB5 := hid hb5
  have HR5 := hid hR
  have HE := hid hH
  clear hw5 hb5 hR hH
  go_wp2_with fail
  rw [← HE.out]
  refine (FO.out _).mono ?_
  rintro en w6 ⟨rfl, hb6⟩
  have hR6 := HR5.out.below hb6 (by omega)
  have hc0 := hR6.cell 0
  have hc1 := hR6.cell 1
  have hf0 := hR6.frozen 0
  have hf1 := hR6.frozen 1
  have HB6 := hid (HB5.out.trans (hb6.mono HB5.out.size))
  obtain ⟨⟨od, op⟩, hO⟩ : ∃ o, BD.formL (d.take n) p = o := ⟨_, rfl⟩
  have hdl : downL d p n = (od, op) := hO
  rw [hO]
  obtain ⟨q0, q1⟩ := dec_set hR6 od op
  clear hb6 hR6
  go_wp2_with fail
  refine bodyPost_ret (v := decV (od, op)) ?_ rfl ⟨by rw [hdl], (HB6.out.setCell (by simp) _).setCell (by simp) _⟩
  simp [results, Tryz.results231, go_sem, q0, q1]
end Go.Proofs.YtdjhmanccoekjaaGreatDoor.FL
end

section
namespace Go.Proofs.YtdjhmanccoekjaaGreatDoor.FL
open Go.RowKit Go.Proofs

theorem digB_sub {l m : List UInt8} (h : DigB l) (hs : ∀ a ∈ m, a ∈ l) : DigB m := fun a ha => h a (hs a ha)
theorem digB_form {d : List UInt8} (p : Int) (h : DigB d) : DigB (BD.formL d p).1 := by
  unfold BD.formL
  split
  · intro a ha; cases ha
  · refine digB_sub h fun a ha => ?_
    have h1 : a ∈ BD.lead d := by
      unfold BD.foot Lib.trimRightB at ha
      rw [List.mem_reverse] at ha
      exact List.mem_reverse.1 ((List.dropWhile_suffix _).mem ha)
    unfold BD.lead Lib.trimLeftB at h1
    exact (List.dropWhile_suffix _).mem h1
theorem form_len (d : List UInt8) (p : Int) : (BD.formL d p).1.length ≤ d.length := by
  unfold BD.formL
  split
  · simp
  · exact Nat.le_trans (foot_len _) (BD.lead_len _)
set_option maxRecDepth 100000 in
set_option maxHeartbeats 1000000 in
theorem places_down (d fd : List UInt8) (p fp k : Int) (n : Nat) (w : World) (hd : d.length ≤ 2000) (hD : DigB d) (hp0 : -5000 ≤ p) (hp1 : p ≤ 5000) (hf : BD.formL d p = (fd, fp)) (hq0 : -10000 ≤ fp) (hq1 : fp ≤ 10000) (hk0 : -20000 ≤ k) (hk1 : k ≤ 20000)
    (hn : fp + k = n) (hn0 : 0 < n) (hnd : n < fd.length) (h5 : Op.bytesLess (bs (fd.drop n)).toList [53] = true) :
    Calls Tryz.prog 217 #[decV (d, p), .int .i64 k] w fun e w' => e = .returned (.tuple #[decV (downL fd fp n), .int .i64 0]) ∧ Below w.heap.size w w' := by
  have NO := hid (fun W => norm_any d p W hd hD hp0 hp1)
  have hfl : fd.length ≤ 2000 := by have := form_len d p; rw [hf] at this; exact Nat.le_trans this hd
  have hfD : DigB fd := by have := digB_form p hD; rw [hf] at this; exact this
  have RO := hid (fun W => round_down fd fp n W hfl (by omega) (by omega) hn0 hnd h5 hfD)
  rw [hf] at NO
  have hmx : max (-20000) (min k 20000) = k := by omega
  obtain ⟨⟨rd, rp⟩, hO⟩ : ∃ o, downL fd fp n = o := ⟨_, rfl⟩
  rw [hO] at RO ⊢
  clear h5 hf hD hfD hO
  go_enter Tryz.func217, Tryz.ntmps217
  go_wp2_with fail
  refine (NO.out _).mono ?_
  generalize hw2 : World.alloc _ _ = w2
  rintro en w3 ⟨rfl, hb3⟩
  have hA : Blk w2 w.heap.size (decC (d, p)) 306 := by rw [← hw2]; exact (Blk.new w _ _).alloc _
  have hR : Blk w2 (w.heap.size + 1) #[.string ⟨#[]⟩, .int .i64 0] 306 := by rw [← hw2]; have := Blk.new (w.alloc (.cells (decC (d, p)) 306)) #[.string ⟨#[]⟩, .int .i64 0] 306; rw [World.size_alloc] at this; exact this
  have hb2 : Below w.heap.size w w2 := by rw [← hw2]; exact ((Below.refl _ _).alloc (Nat.le_refl _) _).alloc (by simp) _
  have hA3 := hA.below hb3 hA.lt
  have hR3 := hR.below hb3 hR.lt
  have a0 := hA3.cell 0
  have a1 := hA3.cell 1
  have f0 := hA3.frozen 0
  have f1 := hA3.frozen 1
  obtain ⟨q0, q1⟩ := dec_set hA3 fd fp
  have hR5 : Blk ((w3.setCell ⟨w.heap.size, 0, none⟩ (.string (bs fd))).setCell ⟨w.heap.size, 1, none⟩ (.int .i64 fp)) (w.heap.size + 1) #[.string ⟨#[]⟩, .int .i64 0] 306 := (hR3.far (by simp) _).far (by simp) _
  have HB5 := hid (((hb2.trans (hb3.mono (by have := hA.lt; omega))).setCell (p := ⟨w.heap.size, 0, none⟩) (Nat.le_refl _) (.string (bs fd))).setCell (p := ⟨w.heap.size, 1, none⟩) (Nat.le_refl _) (.int .i64 fp))
  clear hb3 hb2 hw2 hA hR hA3 hR3
  go_wp2_with fail
  refine (RO.out _).mono ?_
  rintro en w6 ⟨rfl, hb6⟩
  have hR6 := hR5.below hb6 hR5.lt
  have hc0 := hR6.cell 0
  have hc1 := hR6.cell 1
  have hf0 := hR6.frozen 0
  have hf1 := hR6.frozen 1
  have HB6 := hid (HB5.out.trans (hb6.mono HB5.out.size))
  obtain ⟨z0, z1⟩ := dec_set hR6 rd rp
  clear hb6 hR6 hR5 q0 q1
  go_wp2_with fail
  refine bodyPost_ret (v := .tuple #[decV (rd, rp), .int .i64 0]) ?_ rfl ⟨rfl, (HB6.out.setCell (by simp) _).setCell (by simp) _⟩
  simp [results, Tryz.results217, go_sem, z0, z1]
/-- The circle's number, to two places. -/
theorem pi_places (w : World) : Calls Tryz.prog 217 #[decV (BD.exactL 7074237752028440 (-51)), .int .i64 2] w fun e w' => e = .returned (.tuple #[decV ([51, 49, 52], 1), .int .i64 0]) ∧ Below w.heap.size w w' := by
  rw [BD.pi_exact]
  have h := places_down [51, 49, 52, 49, 53, 57, 50, 54, 53, 51, 53, 56, 57, 55, 57, 51, 49, 49, 53, 57, 57, 55, 57, 54, 51, 52, 54, 56, 53, 52, 52, 49, 56, 53, 49, 54, 49, 53, 57, 48, 53, 55, 54, 49, 55, 49, 56, 55, 53] [51, 49, 52, 49, 53, 57, 50, 54, 53, 51, 53, 56, 57, 55, 57, 51, 49, 49, 53, 57, 57, 55, 57, 54, 51, 52, 54, 56, 53, 52, 52, 49, 56, 53, 49, 54, 49, 53, 57, 48, 53, 55, 54, 49, 55, 49, 56, 55, 53] 1 1 2 3 w (by decide) (by unfold DigB; decide) (by decide) (by decide) (by decide +kernel) (by decide) (by decide) (by decide) (by decide) (by decide) (by decide) (by decide) (by rw [Lib.toList_data]; decide +kernel)
  exact h
theorem pi_value (w : World) : Calls Tryz.prog 232 #[.int .u64 7074237752028440, .int .i64 (-51)] w fun en w' => en = .returned (.tuple #[decV (BD.exactL 7074237752028440 (-51)), .int .i64 0]) ∧ Below w.heap.size w w' :=
  exact_neg 7074237752028440 (-51) w (by decide) (by decide) (by decide) (by decide)
end Go.Proofs.YtdjhmanccoekjaaGreatDoor.FL
end

section
namespace Go.Proofs.YtdjhmanccoekjaaGreatDoor.FL
open Go.RowKit Go.Proofs

abbrev shp64 : Value := .agg #[.int .i64 52, .int .i64 (-1074), .int .u64 9218868437227405312]
set_option maxRecDepth 100000 in
set_option maxHeartbeats 1000000 in
theorem of_64 (w : World) : Calls Tryz.prog 191 #[.int .i64 64] w fun e w' => e = .returned (.tuple #[shp64, .bool true]) ∧ Below w.heap.size w w' := by
  go_enter Tryz.func191, Tryz.ntmps191
  go_wp2_with fail
  refine bodyPost_ret (v := .tuple #[shp64, .bool true]) (by simp [results, Tryz.results191, go_sem]) rfl ⟨rfl, ?_⟩
  exact (Below.refl _ _).alloc (Nat.le_refl _) _
set_option maxRecDepth 100000 in
set_option maxHeartbeats 1000000 in
theorem shape_value_pi (w : World) : Calls Tryz.prog 192 #[shp64, .int .u64 4614256656552045848] w fun e w' => e = .returned (.tuple #[.int .u64 7074237752028440, .int .i64 (-51)]) ∧ Below w.heap.size w w' := by
  go_enter Tryz.func192, Tryz.ntmps192
  go_wp2_with fail
  go_quiet (fail)
  go_wp2_with fail
  go_quiet (fail)
  go_wp2_with fail
  have hbits : bits BinOp.or IntKind.u64 (bits BinOp.and IntKind.u64 4614256656552045848 4503599627370495) 4503599627370496 = 7074237752028440 := by decide +kernel
  refine bodyPost_ret (v := .tuple #[.int .u64 7074237752028440, .int .i64 (-51)]) (by simp [results, Tryz.results192, hbits]) rfl ⟨rfl, ?_⟩
  exact below_drewN (below_drewN ((Below.refl _ _).alloc (Nat.le_refl _) _) _) _
set_option maxRecDepth 100000 in
set_option maxHeartbeats 1000000 in
theorem parts_pi (w : World) : Calls Tryz.prog 167 #[.int .u64 4614256656552045848, .int .i64 64] w fun e w' => e = .returned (.tuple #[.bool false, .int .u64 7074237752028440, .int .i64 (-51), .int .i64 0]) ∧ Below w.heap.size w w' := by
  have OF := hid (fun W => of_64 W)
  have SV := hid (fun W => shape_value_pi W)
  have hb1 : bits BinOp.and IntKind.u64 4614256656552045848 9223372036854775807 = 4614256656552045848 := by decide +kernel
  have hb0 : bits BinOp.and IntKind.u64 0 1 = 0 := by decide +kernel
  go_enter Tryz.func167, Tryz.ntmps167
  go_wp2_with ((refine (OF.out _).mono ?_); rintro e w2 ⟨rfl, hb2⟩)
  refine (SV.out _).mono ?_
  rintro e w4 ⟨rfl, hb4⟩
  have HB := hid ((hb2.alloc hb2.size _).trans (hb4.mono (by have := hb2.size; simp; omega)))
  clear hb2 hb4
  go_wp2_with fail
  refine bodyPost_ret (v := .tuple #[.bool false, .int .u64 7074237752028440, .int .i64 (-51), .int .i64 0]) (by simp [results, Tryz.results167]) rfl ⟨rfl, HB.out⟩
/-- A finite float that is written. -/
abbrev flV (b : Int) (sz : Int) (m e pr : Int) (dot : Bool) (v : Int) : Value := .agg #[.int .u64 b, .int .i64 sz, .int .u64 m, .int .i64 e, .int .i64 pr, .bool dot, .int .i32 v]
abbrev flPi : Value := flV 4614256656552045848 64 7074237752028440 (-51) 2 false 102
set_option maxRecDepth 100000 in
set_option maxHeartbeats 1000000 in
theorem value_pi (w : World) : Calls Tryz.prog 213 #[flPi] w fun e w' => e = .returned (decV (BD.exactL 7074237752028440 (-51))) ∧ Below w.heap.size w w' := by
  have PV := hid (fun W => pi_value W)
  obtain ⟨⟨od, op⟩, hO⟩ : ∃ o, BD.exactL 7074237752028440 (-51) = o := ⟨_, rfl⟩
  rw [hO] at PV ⊢
  clear hO
  go_enter Tryz.func213, Tryz.ntmps213
  go_wp2_with fail
  refine (PV.out _).mono ?_
  generalize hw2 : World.alloc _ _ = w2
  rintro en w3 ⟨rfl, hb3⟩
  have hR : Blk w2 (w.heap.size + 1) #[.string ⟨#[]⟩, .int .i64 0] 306 := by rw [← hw2]; have := Blk.new (w.alloc (.cells #[.int .u64 4614256656552045848, .int .i64 64, .int .u64 7074237752028440, .int .i64 (-51), .int .i64 2, .bool false, .int .i32 102] 271)) #[.string ⟨#[]⟩, .int .i64 0] 306; rw [World.size_alloc] at this; exact this
  have hb2 : Below w.heap.size w w2 := by rw [← hw2]; exact ((Below.refl _ _).alloc (Nat.le_refl _) _).alloc (by simp) _
  have hR3 := (hR.below hb3 hR.lt).alloc (.cells #[.string (bs od), .int .i64 op] 306)
  have hc0 := hR3.cell 0
  have hc1 := hR3.cell 1
  have hf0 := hR3.frozen 0
  have hf1 := hR3.frozen 1
  have HB := hid ((hb2.trans (hb3.mono hb2.size)).alloc (by have := hb2.size; have := hb3.size; omega) (.cells #[.string (bs od), .int .i64 op] 306))
  obtain ⟨z0, z1⟩ := dec_set hR3 od op
  clear hb2 hb3 hR hR3
  go_wp2_with fail
  refine bodyPost_ret (v := decV (od, op)) ?_ rfl ⟨rfl, (HB.out.setCell (by simp) _).setCell (by simp) _⟩
  simp [results, Tryz.results213, go_sem, z0, z1]
end Go.Proofs.YtdjhmanccoekjaaGreatDoor.FL
end

section
namespace Go.Proofs.YtdjhmanccoekjaaGreatDoor.FL
open Go.RowKit Go.Proofs

set_option maxRecDepth 100000 in
theorem filled_any (s : List UInt8) (n : Int) (w : World) (hs : s.length ≤ 100000) (hn0 : 0 ≤ n) (hn1 : n ≤ 100000) :
    Calls Tryz.prog 215 #[.string (bs s), .int .i64 n] w fun e w' => e = .returned (.string (bs (s ++ List.replicate (n - s.length).toNat 48))) ∧ Below w.heap.size w w' := by
  have hz := bs_size s
  have hmx : max 0 (n - (s.length : Int)) = (((n - s.length).toNat : Nat) : Int) := by omega
  obtain ⟨k, hk⟩ : ∃ k, (n - s.length).toNat = k := ⟨_, rfl⟩
  rw [hk] at hmx ⊢
  go_enter Tryz.func215, Tryz.ntmps215
  go_wp2_with fail
  refine (Tryz.strings_Repeat (⟨#[48]⟩ : ByteArray) k w (by omega) (by simp [ByteArray.size]; omega)).mono ?_
  rintro e w' ⟨rfl, hb⟩
  have hr : (⟨(Lib.repeatL (⟨#[48]⟩ : ByteArray).data.toList k).toArray⟩ : ByteArray) = bs (List.replicate k 48) := by
    rw [← repeat_one]
  rw [hr]
  have HB := hid hb
  have he : bs s ++ bs (List.replicate k 48) = bs (s ++ List.replicate k 48) := bs_ext (by simp)
  clear hb hr
  go_wp2_with fail
  go_ret
  exact ⟨by rw [← he]; rfl, HB.out⟩
set_option maxRecDepth 100000 in
theorem joined3_any (a b c : ByteArray) (g : Nat) (w : World) (hg : Blk w g #[.string a, .string b, .string c] 9) (ha : a.size ≤ 100000) (hb : b.size ≤ 100000) (hc : c.size ≤ 100000) :
    Calls Tryz.prog 221 #[.slice (some ⟨g, 0, none⟩) 3 3] w fun e w' => e = .returned (.string (bs (a.data.toList ++ (b.data.toList ++ c.data.toList)))) ∧ Below w.heap.size w w' := by
  have hj : Lib.join ([a, b, c].map (·.data.toList)) (⟨#[]⟩ : ByteArray).data.toList = a.data.toList ++ (b.data.toList ++ c.data.toList) := by simp [Lib.join, List.intercalate]
  have HJ := hid (Tryz.strings_Join g 0 3 [a, b, c] ⟨#[]⟩ w (fun j x hx => by
    rw [Nat.zero_add, hg.cell j]
    match j with
    | 0 | 1 | 2 => simpa using hx
    | j + 3 => simp at hx) hg.lt (by simp) (by simp) (by rw [hj]; simp only [List.length_append, ← Utf.size_eq]; omega))
  rw [hj] at HJ
  go_enter Tryz.func221, Tryz.ntmps221
  go_wp2_with fail
  refine HJ.out.mono ?_
  rintro e w' ⟨rfl, hb⟩
  have HB := hid hb
  clear hb
  go_wp2_with fail
  go_ret
  exact ⟨rfl, HB.out⟩
end Go.Proofs.YtdjhmanccoekjaaGreatDoor.FL
end

section
namespace Go.Proofs.YtdjhmanccoekjaaGreatDoor.FL
open Go.RowKit Go.Proofs

abbrev flPiC : Array Value := #[.int .u64 4614256656552045848, .int .i64 64, .int .u64 7074237752028440, .int .i64 (-51), .int .i64 2, .bool false, .int .i32 102]
set_option maxRecDepth 100000 in
set_option maxHeartbeats 1000000 in
theorem pointed_pi (w : World) : Calls Tryz.prog 218 #[flPi, .string ⟨#[51]⟩, .string ⟨#[49, 52]⟩] w fun e w' => e = .returned (.string ⟨#[51, 46, 49, 52]⟩) ∧ Below w.heap.size w w' := by
  have JO := hid (fun g W hg => joined3_any ⟨#[51]⟩ ⟨#[46]⟩ ⟨#[49, 52]⟩ g W hg (by decide) (by decide) (by decide))
  go_enter Tryz.func218, Tryz.ntmps218
  go_wp2_with fail
  refine (JO.out _ _ ?_).mono ?_
  · have := Blk.new (w.alloc (.cells #[.int .u64 4614256656552045848, .int .i64 64, .int .u64 7074237752028440, .int .i64 (-51), .int .i64 2, .bool false, .int .i32 102] 271)) #[.string ⟨#[51]⟩, .string ⟨#[46]⟩, .string ⟨#[49, 52]⟩] 9
    rw [World.size_alloc] at this
    exact this
  rintro e w' ⟨rfl, hb⟩
  have HB := hid ((((Below.refl w.heap.size w).alloc (Nat.le_refl _) (.cells #[.int .u64 4614256656552045848, .int .i64 64, .int .u64 7074237752028440, .int .i64 (-51), .int .i64 2, .bool false, .int .i32 102] 271)).alloc (by simp) (.cells #[.string ⟨#[51]⟩, .string ⟨#[46]⟩, .string ⟨#[49, 52]⟩] 9)).trans (hb.mono (by simp; omega)))
  clear hb
  go_wp2_with fail
  go_ret
  exact ⟨rfl, HB.out⟩
theorem cells7 {w : World} {b : Nat} {x0 x1 x2 x3 x4 x5 x6 : Value} {T : TypeId} (h : Blk w b #[x0, x1, x2, x3, x4, x5, x6] T) : w.cell? ⟨b, 0, none⟩ = some x0 ∧ w.cell? ⟨b, 1, none⟩ = some x1 ∧ w.cell? ⟨b, 2, none⟩ = some x2 ∧ w.cell? ⟨b, 3, none⟩ = some x3 ∧ w.cell? ⟨b, 4, none⟩ = some x4 ∧ w.cell? ⟨b, 5, none⟩ = some x5 ∧ w.cell? ⟨b, 6, none⟩ = some x6 :=
  ⟨h.cell 0, h.cell 1, h.cell 2, h.cell 3, h.cell 4, h.cell 5, h.cell 6⟩
theorem cells7_below {w w' : World} {b : Nat} {x0 x1 x2 x3 x4 x5 x6 : Value} (h : w.cell? ⟨b, 0, none⟩ = some x0 ∧ w.cell? ⟨b, 1, none⟩ = some x1 ∧ w.cell? ⟨b, 2, none⟩ = some x2 ∧ w.cell? ⟨b, 3, none⟩ = some x3 ∧ w.cell? ⟨b, 4, none⟩ = some x4 ∧ w.cell? ⟨b, 5, none⟩ = some x5 ∧ w.cell? ⟨b, 6, none⟩ = some x6) (hb : Below w.heap.size w w') :
    w'.cell? ⟨b, 0, none⟩ = some x0 ∧ w'.cell? ⟨b, 1, none⟩ = some x1 ∧ w'.cell? ⟨b, 2, none⟩ = some x2 ∧ w'.cell? ⟨b, 3, none⟩ = some x3 ∧ w'.cell? ⟨b, 4, none⟩ = some x4 ∧ w'.cell? ⟨b, 5, none⟩ = some x5 ∧ w'.cell? ⟨b, 6, none⟩ = some x6 := by
  obtain ⟨h0, h1, h2, h3, h4, h5, h6⟩ := h
  have k : ∀ (i : Nat) (x : Value), w.cell? ⟨b, i, none⟩ = some x → w'.cell? ⟨b, i, none⟩ = some x := fun i x hx => (hb.cell (p := ⟨b, i, none⟩) (World.block_lt_of_cell? w _ hx)).trans hx
  exact ⟨k 0 _ h0, k 1 _ h1, k 2 _ h2, k 3 _ h3, k 4 _ h4, k 5 _ h5, k 6 _ h6⟩
set_option maxRecDepth 100000 in
set_option maxHeartbeats 1000000 in
theorem around_pi (w : World) : Calls Tryz.prog 219 #[flPi, .string ⟨#[51, 49, 52]⟩, .int .i64 1] w fun e w' => e = .returned (.string ⟨#[51, 46, 49, 52]⟩) ∧ Below w.heap.size w w' := by
  have FI := hid (fun W => filled_any [51, 49, 52] 1 W (by decide) (by decide) (by decide))
  have e1 : (bs ([51, 49, 52] ++ List.replicate ((1 : Int) - ([51, 49, 52] : List UInt8).length).toNat 48)) = ⟨#[51, 49, 52]⟩ := by decide
  rw [e1] at FI
  have PO := hid (fun W => pointed_pi W)
  go_enter Tryz.func219, Tryz.ntmps219
  go_wp2_with ((refine (FI.out _).mono ?_); rintro e w2 ⟨rfl, hb2⟩)
  have hA : Blk w2 w.heap.size flPiC 271 := by
    have := (Blk.new w flPiC 271).below hb2 (by simp)
    exact this
  have HB2 := hid (((Below.refl w.heap.size w).alloc (Nat.le_refl _) (.cells flPiC 271)).trans (hb2.mono (by simp)))
  have c0 := hA.cell 0
  have c1 := hA.cell 1
  have c2 := hA.cell 2
  have c3 := hA.cell 3
  have c4 := hA.cell 4
  have c5 := hA.cell 5
  have c6 := hA.cell 6
  have x1 : (⟨#[51, 49, 52]⟩ : ByteArray).extract 0 1 = ⟨#[51]⟩ := by decide
  have x2 : (⟨#[51, 49, 52]⟩ : ByteArray).extract 1 3 = ⟨#[49, 52]⟩ := by decide
  have HA := hid hA
  clear hb2 hA c0 c1 c2 c3 c4 c5 c6
  go_region_held3 (fun w' => w'.cell? ⟨w.heap.size, 0, none⟩ = some (.int .u64 4614256656552045848) ∧ w'.cell? ⟨w.heap.size, 1, none⟩ = some (.int .i64 64) ∧ w'.cell? ⟨w.heap.size, 2, none⟩ = some (.int .u64 7074237752028440) ∧ w'.cell? ⟨w.heap.size, 3, none⟩ = some (.int .i64 (-51)) ∧ w'.cell? ⟨w.heap.size, 4, none⟩ = some (.int .i64 2) ∧ w'.cell? ⟨w.heap.size, 5, none⟩ = some (.bool false) ∧ w'.cell? ⟨w.heap.size, 6, none⟩ = some (.int .i32 102)) (first | exact ⟨HA.out.cell 0, HA.out.cell 1, HA.out.cell 2, HA.out.cell 3, HA.out.cell 4, HA.out.cell 5, HA.out.cell 6⟩ | exact cells7_below (by assumption) hb3 | exact cells7_below ⟨by assumption, by assumption, by assumption, by assumption, by assumption, by assumption, by assumption⟩ hb3) ((go_at_call 218; refine (PO.out _).mono ?_; rintro e w3 ⟨rfl, hb3⟩))
  have HB3 := hid (HB2.out.drew.trans (hb3.mono HB2.out.size))
  clear hb3
  go_wp2_with fail
  go_ret
  exact ⟨rfl, HB3.out⟩
end Go.Proofs.YtdjhmanccoekjaaGreatDoor.FL
end

section
namespace Go.Proofs.YtdjhmanccoekjaaGreatDoor.FL
open Go.RowKit Go.Proofs

theorem cells9_below {w w' : World} {b c : Nat} {x0 x1 x2 x3 x4 x5 x6 y0 y1 : Value} (h : (w.cell? ⟨b, 0, none⟩ = some x0 ∧ w.cell? ⟨b, 1, none⟩ = some x1 ∧ w.cell? ⟨b, 2, none⟩ = some x2 ∧ w.cell? ⟨b, 3, none⟩ = some x3 ∧ w.cell? ⟨b, 4, none⟩ = some x4 ∧ w.cell? ⟨b, 5, none⟩ = some x5 ∧ w.cell? ⟨b, 6, none⟩ = some x6) ∧ w.cell? ⟨c, 0, none⟩ = some y0 ∧ w.cell? ⟨c, 1, none⟩ = some y1) (hb : Below w.heap.size w w') :
    (w'.cell? ⟨b, 0, none⟩ = some x0 ∧ w'.cell? ⟨b, 1, none⟩ = some x1 ∧ w'.cell? ⟨b, 2, none⟩ = some x2 ∧ w'.cell? ⟨b, 3, none⟩ = some x3 ∧ w'.cell? ⟨b, 4, none⟩ = some x4 ∧ w'.cell? ⟨b, 5, none⟩ = some x5 ∧ w'.cell? ⟨b, 6, none⟩ = some x6) ∧ w'.cell? ⟨c, 0, none⟩ = some y0 ∧ w'.cell? ⟨c, 1, none⟩ = some y1 :=
  ⟨cells7_below h.1 hb, (hb.cell (p := ⟨c, 0, none⟩) (World.block_lt_of_cell? w _ h.2.1)).trans h.2.1, (hb.cell (p := ⟨c, 1, none⟩) (World.block_lt_of_cell? w _ h.2.2)).trans h.2.2⟩
set_option maxRecDepth 100000 in
set_option maxHeartbeats 1000000 in
theorem fixed_pi (w : World) : Calls Tryz.prog 194 #[flPi] w fun e w' => e = .returned (.string ⟨#[51, 46, 49, 52]⟩) ∧ Below w.heap.size w w' := by
  have VA := hid (fun W => value_pi W)
  have PL := hid (fun W => pi_places W)
  have AR := hid (fun W => around_pi W)
  have FI := hid (fun W => filled_any [51, 49, 52] 3 W (by decide) (by decide) (by decide))
  have e1 : (bs ([51, 49, 52] ++ List.replicate ((3 : Int) - ([51, 49, 52] : List UInt8).length).toNat 48)) = ⟨#[51, 49, 52]⟩ := by decide
  rw [e1] at FI
  obtain ⟨x, hx⟩ : ∃ x, decV (BD.exactL 7074237752028440 (-51)) = x := ⟨_, rfl⟩
  rw [hx] at VA PL
  clear hx e1
  go_enter Tryz.func194, Tryz.ntmps194
  go_wp2_with first
    | ((refine (VA.out _).mono ?_); rintro e w2 ⟨rfl, hb2⟩)
    | ((refine (PL.out _).mono ?_); rintro e w3 ⟨rfl, hb3⟩)
  have hA : Blk (w3.alloc (.cells #[.string ⟨#[51, 49, 52]⟩, .int .i64 1] 306)) w.heap.size flPiC 271 :=
    (((Blk.new w flPiC 271).below hb2 (by simp)).below hb3 (by have := hb2.size; simp at this; omega)).alloc _
  have hD := Blk.new w3 #[.string ⟨#[51, 49, 52]⟩, .int .i64 1] 306
  have HB := hid (((((Below.refl w.heap.size w).alloc (Nat.le_refl _) (.cells flPiC 271)).trans (hb2.mono (by simp))).trans (hb3.mono (by have := hb2.size; simp at this; omega))).alloc (by have := hb2.size; have := hb3.size; simp at *; omega) (.cells #[.string ⟨#[51, 49, 52]⟩, .int .i64 1] 306))
  obtain ⟨D, hDz⟩ : ∃ D, w3.heap.size = D := ⟨_, rfl⟩
  rw [hDz] at hD ⊢
  generalize hw4 : World.alloc w3 _ = w4 at *
  have HA := hid hA
  have HD := hid hD
  clear hb2 hb3 hA hD hw4 hDz
  go_region_held3 (fun w' => (w'.cell? ⟨w.heap.size, 0, none⟩ = some (.int .u64 4614256656552045848) ∧ w'.cell? ⟨w.heap.size, 1, none⟩ = some (.int .i64 64) ∧ w'.cell? ⟨w.heap.size, 2, none⟩ = some (.int .u64 7074237752028440) ∧ w'.cell? ⟨w.heap.size, 3, none⟩ = some (.int .i64 (-51)) ∧ w'.cell? ⟨w.heap.size, 4, none⟩ = some (.int .i64 2) ∧ w'.cell? ⟨w.heap.size, 5, none⟩ = some (.bool false) ∧ w'.cell? ⟨w.heap.size, 6, none⟩ = some (.int .i32 102)) ∧ w'.cell? ⟨D, 0, none⟩ = some (.string ⟨#[51, 49, 52]⟩) ∧ w'.cell? ⟨D, 1, none⟩ = some (.int .i64 1)) (first | exact ⟨cells7 HA.out, HD.out.cell 0, HD.out.cell 1⟩ | exact cells9_below (by assumption) hb6 | exact cells9_below (by assumption) hb5) (first | (go_at_call 215; refine (FI.out _).mono ?_; rintro e w5 ⟨rfl, hb5⟩) | (go_at_call 219; refine (AR.out _).mono ?_; rintro e w6 ⟨rfl, hb6⟩))
  have HB5 := HB.out.drew.trans (hb5.mono HB.out.size)
  have HB6 := hid (HB5.trans (hb6.mono HB5.size))
  clear hb5 hb6 HB5
  go_wp2_with fail
  go_ret
  exact ⟨rfl, HB6.out⟩
end Go.Proofs.YtdjhmanccoekjaaGreatDoor.FL
end

section
namespace Go.Proofs.YtdjhmanccoekjaaGreatDoor
open Go.RowKit Go.Proofs FL

abbrev fixedF : Value := .func (.func 194) #[] #[]
theorem chosen_f (w : World) : Calls Tryz.prog 168 #[.int .i32 102] w fun e w' => e = .returned fixedF ∧ w = w' := by
  go_enter Tryz.func168, Tryz.ntmps168
  go_wp2_with fail
  go_ret
  exact ⟨rfl, rfl⟩
set_option maxRecDepth 100000 in
set_option maxHeartbeats 1000000 in
theorem float_pi (w : World) : Calls Tryz.prog 143 #[.int .u64 4614256656552045848, .int .i64 64, .agg (sp8 false false false false false 8 2 102)] w fun e w' => e = .returned (.tuple #[.string ⟨#[32, 32, 32, 32, 51, 46, 49, 52]⟩, .bool true]) ∧ Below w.heap.size w w' := by
  have PA := hid (fun W => parts_pi W)
  have CH := hid (fun W => chosen_f W)
  have FX := hid (fun W => fixed_pi W)
  have PD := hid (fun W => pad_any ⟨#[51, 46, 49, 52]⟩ false false false false false 8 2 102 W (by decide) (by decide) (by decide))
  rw [show padS ⟨#[51, 46, 49, 52]⟩ false false 8 = ⟨#[32, 32, 32, 32, 51, 46, 49, 52]⟩ by decide +kernel] at PD
  have hne : ∀ W : World, (binOp BinOp.eql 268 fixedF .nilFunc).run Tryz.prog W = .ok (.bool false) W := fun _ => by kernel_rfl
  have hmx : max (-1) (min 2 1000) = (2 : Int) := by decide
  go_enter Tryz.func143, Tryz.ntmps143
  go_wp2_with fail
  refine (PA.out _).mono ?_
  rintro e w2 ⟨rfl, hb2⟩
  have hA := (Blk.new w (sp8 false false false false false 8 2 102) 94).below hb2 (by simp)
  have HB := hid (((Below.refl w.heap.size w).alloc (Nat.le_refl _) (.cells (sp8 false false false false false 8 2 102) 94)).trans (hb2.mono (by simp)))
  obtain ⟨B, hB⟩ : ∃ B, w.heap.size = B := ⟨_, rfl⟩
  have HBB := hid hB
  rw [hB] at hA ⊢
  have c0 := hA.cell 0
  have c1 := hA.cell 1
  have c2 := hA.cell 2
  have c3 := hA.cell 3
  have c4 := hA.cell 4
  have c5 := hA.cell 5
  have c6 := hA.cell 6
  have c7 := hA.cell 7
  have HA := hid hA
  clear hA hb2 hB
  go_wp2_with ((refine (CH.out _).mono ?_); rintro e w3 ⟨rfl, hw3⟩; subst hw3)
  refine (FX.out _).mono ?_
  obtain ⟨W3, hW3⟩ : ∃ W3, World.alloc w2 (.cells #[.int .u64 4614256656552045848, .int .i64 64, .int .u64 7074237752028440, .int .i64 (-51), .int .i64 2, .bool false, .int .i32 102] 271) = W3 := ⟨_, rfl⟩
  rw [hW3]
  rintro e w4 ⟨rfl, hb4⟩
  have h3 : Below w2.heap.size w2 W3 := hW3 ▸ (Below.refl _ _).alloc (Nat.le_refl _) _
  have h4 := h3.trans (hb4.mono h3.size)
  have hA4 := HA.out.below h4 HA.out.lt
  have c0 := hA4.cell 0
  have c1 := hA4.cell 1
  have c2 := hA4.cell 2
  have c3 := hA4.cell 3
  have c4 := hA4.cell 4
  have c5 := hA4.cell 5
  have c6 := hA4.cell 6
  have c7 := hA4.cell 7
  have f4 := hA4.frozen 4
  have HA := hid hA4
  have HB := hid (HB.out.trans (h4.mono HB.out.size))
  clear hA4 h4 h3 hb4 hW3
  go_wp2_with fail
  refine (PD.out _).mono ?_
  rintro e w5 ⟨rfl, hb5⟩
  have h5 := (HB.out.setCell (p := ⟨B, 4, none⟩) (by show w.heap.size ≤ B; have := HBB.out; omega) (.bool false))
  have HB := hid (h5.trans (hb5.mono h5.size))
  clear h5 hb5
  go_wp2_with fail
  go_ret2
  exact ⟨rfl, HB.out⟩
end Go.Proofs.YtdjhmanccoekjaaGreatDoor
end

section
namespace Go.Proofs.YtdjhmanccoekjaaGreatDoor
open Go.RowKit Go.Proofs

abbrev deN (n : Int) : De := ⟨6, ⟨#[]⟩, n % 18446744073709551616, 0, ⟨#[]⟩, sl0, sl0, 0⟩
abbrev deTx (s : ByteArray) : De := ⟨16, ⟨#[]⟩, 0, 0, s, sl0, sl0, 0⟩
abbrev dePi : De := ⟨13, ⟨#[]⟩, 4614256656552045848, 0, ⟨#[]⟩, sl0, sl0, 0⟩
set_option maxRecDepth 100000 in
set_option maxHeartbeats 1000000 in
theorem num_any (n : Int) (w : World) : Calls Tryz.prog 12 #[.int .i64 n] w fun e w' => e = .returned (.agg (deV (deN n))) ∧ Below w.heap.size w w' := by
  have hw : IntKind.u64.wrap n = n % 18446744073709551616 := rfl
  obtain ⟨m, hm⟩ : ∃ m, n % 18446744073709551616 = m := ⟨_, rfl⟩
  unfold deN
  rw [hm] at hw ⊢
  clear hm
  go_enter Tryz.func12, Tryz.ntmps12
  go_wp2_with fail
  refine bodyPost_ret (v := .agg (deV ⟨6, ⟨#[]⟩, m, 0, ⟨#[]⟩, sl0, sl0, 0⟩)) (by simp [results, Tryz.results12, go_sem]) rfl ⟨rfl, ?_⟩
  exact below_n (Below.refl _ _) _ _
set_option maxRecDepth 100000 in
set_option maxHeartbeats 1000000 in
theorem textd_any (s : ByteArray) (w : World) : Calls Tryz.prog 11 #[.string s] w fun e w' => e = .returned (.agg (deV (deTx s))) ∧ Below w.heap.size w w' := by
  go_enter Tryz.func11, Tryz.ntmps11
  go_wp2_with fail
  refine bodyPost_ret (v := .agg (deV (deTx s))) (by simp [results, Tryz.results11, go_sem]) rfl ⟨rfl, ?_⟩
  exact below_n (Below.refl _ _) _ _
theorem deN_b (n : Int) : DeB (deN n) := ⟨by show 0 ≤ n % 18446744073709551616; omega, by show n % 18446744073709551616 ≤ _; omega, by show (0 : Int) ≤ 0; decide, by show (0 : Int) ≤ _; decide⟩
theorem deTx_b (s : ByteArray) : DeB (deTx s) := ⟨by show (0 : Int) ≤ 0; decide, by show (0 : Int) ≤ _; decide, by show (0 : Int) ≤ 0; decide, by show (0 : Int) ≤ _; decide⟩
theorem leaf_num (n : Int) (h0 : -9223372036854775808 ≤ n) (h1 : n ≤ 9223372036854775807) : leafV (deN n) = intV (deN n) n := by
  rw [leafV_int _ (by show (2 : Int) ≤ 6 ∧ (6 : Int) ≤ 6; decide)]
  have : sxI 6 (n % 18446744073709551616) = n := by
    show (n % 18446744073709551616 + 9223372036854775808) % 18446744073709551616 - 9223372036854775808 = n
    omega
  show intV (deN n) (sxI 6 (n % 18446744073709551616)) = _
  rw [this]
theorem leaf_text (s : ByteArray) : leafV (deTx s) = textV (deTx s) := rfl
theorem leaf_pi : leafV dePi = floatV dePi 4614256656552045848 64 := rfl
theorem build_num (n : Int) (w : World) (h0 : -9223372036854775808 ≤ n) (h1 : n ≤ 9223372036854775807) : Calls Tryz.prog 65 #[.agg (deV (deN n))] w fun e w' => e = .returned (.tuple #[intV (deN n) n, .int .i64 0]) ∧ Below w.heap.size w w' := by
  rw [← leaf_num n h0 h1]
  exact build_leaf (deN n) w (deN_b n) (by show (0 : Int) ≤ 6 ∧ (6 : Int) ≤ 17; decide) (by show (0 : Nat) ≤ _; decide) (by show (0 : Nat) ≤ _; decide) (by show (decide ((6 : Int) = 0) || typedB ⟨#[]⟩) = true; decide)
theorem build_text (s : ByteArray) (hs : s.size ≤ 1024) (w : World) : Calls Tryz.prog 65 #[.agg (deV (deTx s))] w fun e w' => e = .returned (.tuple #[textV (deTx s), .int .i64 0]) ∧ Below w.heap.size w w' :=
  build_leaf (deTx s) w (deTx_b s) (by show (0 : Int) ≤ 16 ∧ (16 : Int) ≤ 17; decide) hs (by show (0 : Nat) ≤ _; decide) (by show (decide ((16 : Int) = 0) || typedB ⟨#[]⟩) = true; decide)
theorem build_pi (w : World) : Calls Tryz.prog 65 #[.agg (deV dePi)] w fun e w' => e = .returned (.tuple #[floatV dePi 4614256656552045848 64, .int .i64 0]) ∧ Below w.heap.size w w' :=
  build_leaf dePi w ⟨by decide, by decide, by decide, by decide⟩ (by decide) (by decide) (by decide) (by decide)
def livesF : List UInt8 := [37, 91, 50, 93, 42, 46, 91, 49, 93, 42, 91, 51, 93, 102, 124, 37, 120]
def livesP : List PP.Pc := [⟨1, [37, 91, 50, 93, 42, 46, 91, 49, 93, 42, 91, 51, 93, 102], ⟨false, false, false, false, false⟩, -1, -1, 102, ⟨2, 0, ⟨1, 2⟩⟩, ⟨2, 0, ⟨1, 1⟩⟩, ⟨1, 3⟩⟩, PP.litP [124], ⟨1, [37, 120], ⟨false, false, false, false, false⟩, -1, -1, 120, ⟨0, 0, ⟨0, 0⟩⟩, ⟨0, 0, ⟨0, 0⟩⟩, ⟨0, 0⟩⟩]
theorem lives_pieces : PP.parseL livesF = livesP := by
  unfold livesF
  rw [PP.parseL_pct (by decide)]
  have h1 : PP.dirL [91, 50, 93, 42, 46, 91, 49, 93, 42, 91, 51, 93, 102, 124, 37, 120] = (⟨1, [37, 91, 50, 93, 42, 46, 91, 49, 93, 42, 91, 51, 93, 102], ⟨false, false, false, false, false⟩, -1, -1, 102, ⟨2, 0, ⟨1, 2⟩⟩, ⟨2, 0, ⟨1, 1⟩⟩, ⟨1, 3⟩⟩, [124, 37, 120]) := by rfl
  rw [h1, PP.parseL_lit (by decide)]
  show _ :: PP.litP [124] :: PP.parseL [37, 120] = _
  rw [PP.parseL_pct (by decide)]
  have h2 : PP.dirL [120] = (⟨1, [37, 120], ⟨false, false, false, false, false⟩, -1, -1, 120, ⟨0, 0, ⟨0, 0⟩⟩, ⟨0, 0, ⟨0, 0⟩⟩, ⟨0, 0⟩⟩, []) := by rfl
  rw [h2, PP.parseL_nil]
  rfl
theorem text_hi_x : textS false false false false false (-1) (-1) 120 ⟨#[104, 105]⟩ = some ⟨#[54, 56, 54, 57]⟩ := by decide +kernel
end Go.Proofs.YtdjhmanccoekjaaGreatDoor
end

section
namespace Go.Proofs.YtdjhmanccoekjaaGreatDoor
open Go.RowKit Go.Proofs

/-- A whole number's opposite, of 64 bits. -/
def negI (k : Int) : Int := wrap64 (-k)
theorem negI_b (k : Int) : -9223372036854775808 ≤ negI k ∧ negI k ≤ 9223372036854775807 := by
  unfold negI wrap64
  omega
abbrev numT (n : Int) : DT := .mk (deN n) [] []
abbrev mapD (pa : Sl) : De := ⟨21, ⟨#[]⟩, 0, 0, ⟨#[]⟩, sl0, pa, 0⟩
def pairs : List Int → List DT
  | [] => []
  | k :: r => numT k :: numT (negI k) :: pairs r
abbrev mapT (pa : Sl) (ks : List Int) : DT := .mk (mapD pa) [] (pairs ks)
abbrev I64 (k : Int) : Prop := -9223372036854775808 ≤ k ∧ k ≤ 9223372036854775807
theorem pairs_len (ks : List Int) : (pairs ks).length = 2 * ks.length := by
  induction ks with
  | nil => rfl
  | cons k r ih =>
    show (pairs r).length + 1 + 1 = _
    rw [ih, List.length_cons]
    omega
theorem pairs_mem : ∀ (ks : List Int) (x : DT), x ∈ pairs ks → ∃ n, x = numT n
  | [], x, h => by simp [pairs] at h
  | k :: r, x, h => by
    rw [pairs, List.mem_cons, List.mem_cons] at h
    rcases h with rfl | rfl | h
    · exact ⟨k, rfl⟩
    · exact ⟨negI k, rfl⟩
    · exact pairs_mem r x h
theorem great_6 : great 6 = false := by decide
theorem countT_num (n left : Int) : countT (numT n) left = (left - 1, 0) := by
  rw [countT]
  show (if great 6 = true then _ else _) = _
  rw [if_neg (by decide)]
  rfl
theorem depthT_num (n : Int) : depthT (numT n) = 1 := by
  rw [depthT]
  show (if great 6 = true then _ else _) + 1 = _
  rw [if_neg (by decide)]
  rfl
theorem countL_num : ∀ (l : List DT), (∀ x ∈ l, ∃ n, x = numT n) → ∀ left : Int, l.length ≤ left → countL l left 0 = (left - l.length, 0)
  | [], _, left, _ => by rw [countL]; simp
  | x :: r, h, left, hl => by
    obtain ⟨n, rfl⟩ := h x (List.mem_cons_self ..)
    rw [List.length_cons] at hl
    rw [countL, if_neg (by omega), countT_num]
    have := countL_num r (fun y hy => h y (List.mem_cons_of_mem _ hy)) (left - 1) (by omega)
    show countL r (left - 1) (max 0 0) = _
    rw [show max (0 : Int) 0 = 0 from rfl, this, List.length_cons]
    congr 1
    omega
theorem depthL_num : ∀ (l : List DT), (∀ x ∈ l, ∃ n, x = numT n) → ∀ n : Int, 0 ≤ n → n ≤ 1 → 0 ≤ depthL l n ∧ depthL l n ≤ 1
  | [], _, n, h0, h1 => by rw [depthL]; exact ⟨h0, h1⟩
  | x :: r, h, n, h0, h1 => by
    obtain ⟨m, rfl⟩ := h x (List.mem_cons_self ..)
    rw [depthL, depthT_num]
    exact depthL_num r (fun y hy => h y (List.mem_cons_of_mem _ hy)) _ (by omega) (by omega)
theorem count_map (pa : Sl) (ks : List Int) (h : ks.length ≤ 10) : countT (mapT pa ks) 64 = (63 - 2 * (ks.length : Int), 0) := by
  rw [countT]
  show (if great 21 = true then countL (pairs ks) (64 - 1) (txtN (mapD pa)) else _) = _
  rw [if_pos (by decide), show txtN (mapD pa) = 0 from rfl, countL_num _ (pairs_mem ks) _ (by rw [pairs_len]; omega), pairs_len]
  congr 1
theorem depth_map (pa : Sl) (ks : List Int) : 1 ≤ depthT (mapT pa ks) ∧ depthT (mapT pa ks) ≤ 2 := by
  rw [depthT]
  show 1 ≤ (if great 21 = true then depthL (pairs ks) 0 else 0) + 1 ∧ (if great 21 = true then depthL (pairs ks) 0 else 0) + 1 ≤ 2
  rw [if_pos (by decide)]
  have := depthL_num (pairs ks) (pairs_mem ks) 0 (by decide) (by decide)
  omega
theorem sub_num {x : DT} {n : Int} (h : Sub x (numT n)) : x = numT n := by
  cases h with
  | refl => rfl
  | step _ hy => cases hy
theorem sub_map {x : DT} {pa : Sl} {ks : List Int} (h : Sub x (mapT pa ks)) : x = mapT pa ks ∨ ∃ n, x = numT n := by
  cases h with
  | refl => exact .inl rfl
  | step h hy =>
    obtain ⟨n, rfl⟩ := pairs_mem ks _ hy
    exact .inr ⟨n, sub_num h⟩
theorem allT_num (n : Int) : allT (fun _ => true) (numT n) = true := by
  rw [allT]
  show (true && (!great 6 || _)) = true
  rw [great_6]
  rfl
theorem allT_map (pa : Sl) (ks : List Int) : allT (fun _ => true) (mapT pa ks) = true := by
  have : allL (fun _ => true) (pairs ks) = true := by
    rw [allL_all, List.all_eq_true]
    intro x hx
    obtain ⟨n, rfl⟩ := pairs_mem ks x hx
    exact allT_num n
  rw [allT, this]
  simp
theorem keys_pairs : ∀ ks : List Int, keysB (pairs ks) = true
  | [] => rfl
  | k :: r => by
    show (keyB 6 && keysB (pairs r)) = true
    rw [keys_pairs r]
    decide
abbrev numV (k : Int) : VT := .leaf (intV (deN k) k)
/-- A key with its value. -/
abbrev entN (k : Int) : KV × VT := (kvOf (deN k), numV (negI k))
def leavesN : List Int → List VT
  | [] => []
  | k :: r => numV k :: numV (negI k) :: leavesN r
theorem madeT_num (n : Int) (h : I64 n) : madeT (numT n) = some (numV n) := by
  rw [madeT]
  show (if great 6 = true then _ else _) = _
  rw [if_neg (by decide), leaf_num n h.1 h.2]
theorem madeL_pairs : ∀ ks : List Int, (∀ k ∈ ks, I64 k) → madeL (pairs ks) = some (leavesN ks)
  | [], _ => by rw [pairs, madeL]; rfl
  | k :: r, h => by
    have ih := madeL_pairs r fun x hx => h x (List.mem_cons_of_mem _ hx)
    rw [pairs, madeL, madeT_num k (h k (List.mem_cons_self ..))]
    simp only
    rw [madeL, madeT_num (negI k) (negI_b k)]
    simp only
    rw [ih]
    rfl
theorem entries_pairs : ∀ ks : List Int, entriesT (pairs ks) (leavesN ks) = ks.map entN
  | [] => rfl
  | k :: r => by
    rw [pairs, leavesN, entriesT, entries_pairs r]
    rfl
theorem cmp_num (a b : Int) (ha : I64 a) (hb : I64 b) (h : a < b) : cmpK (kvOf (deN a)) (kvOf (deN b)) < 0 := by
  have ea : sxI 6 (a % 18446744073709551616) = a := by
    show (a % 18446744073709551616 + 9223372036854775808) % 18446744073709551616 - 9223372036854775808 = a
    omega
  have eb : sxI 6 (b % 18446744073709551616) = b := by
    show (b % 18446744073709551616 + 9223372036854775808) % 18446744073709551616 - 9223372036854775808 = b
    omega
  have h0 : Lib.compareInt a b = -1 := by unfold Lib.compareInt; rw [if_pos h]
  have e1 : kvOf (deN a) = ⟨6, ⟨#[]⟩, 0, .i a⟩ := by
    show (⟨6, ⟨#[]⟩, 0, .i (sxI 6 (a % 18446744073709551616))⟩ : KV) = _
    rw [ea]
  have e2 : kvOf (deN b) = ⟨6, ⟨#[]⟩, 0, .i b⟩ := by
    show (⟨6, ⟨#[]⟩, 0, .i (sxI 6 (b % 18446744073709551616))⟩ : KV) = _
    rw [eb]
  rw [e1, e2]
  show (if Lib.compareInt a b = 0 then _ else Lib.compareInt a b) < 0
  rw [h0]
  show (-1 : Int) < 0
  decide
/-- A map's value, its keys in a row. -/
abbrev mapV (l : List Int) : VT := .node 21 ⟨#[]⟩ 0 0 [] (flatT (l.map entN))
theorem greatT_num (pa : Sl) (ks l : List Int) (h : ∀ k ∈ ks, I64 k) (hp : l.Perm ks) (hs : l.Pairwise (· < ·)) : greatT (mapD pa) [] (pairs ks) (leavesN ks) = some (mapV l) := by
  refine greatT_map (mapD pa) [] (pairs ks) (leavesN ks) rfl (l.map entN) ⟨?_, ?_⟩ ?_
  · rw [entries_pairs]; exact hp.map _
  · rw [List.pairwise_map]
    refine List.Pairwise.imp_of_mem (fun {a b} ha hb hab => ?_) hs
    exact cmp_num a b (h a (hp.mem_iff.1 ha)) (h b (hp.mem_iff.1 hb)) hab
  · rw [entries_pairs]
    intro x hx
    obtain ⟨k, _, rfl⟩ := List.mem_map.1 hx
    exact kvOf_ok (deN k) (by show keyB 6 = true; decide)
theorem made_num (n : Int) (W : World) (h : I64 n) : Calls Tryz.prog 97 #[.agg (deV (deN n))] W (MadeR W (madeT (numT n))) := by
  rw [madeT_num n h]
  refine (made_leaf (deN n) W (deN_b n) (by show (0 : Int) ≤ 6 ∧ (6 : Int) ≤ 17; decide)).mono fun e w' he => ⟨he.2, ?_⟩
  refine ⟨_, _, he.1.trans ?_, .leaf _ _ _ rfl⟩
  rw [leaf_num n h.1 h.2]
theorem pairs_int : ∀ (ks : List Int), (∀ k ∈ ks, I64 k) → ∀ x ∈ pairs ks, ∃ n, x = numT n ∧ I64 n
  | [], _, x, h => by simp [pairs] at h
  | k :: r, hk, x, h => by
    rw [pairs, List.mem_cons, List.mem_cons] at h
    rcases h with rfl | rfl | h
    · exact ⟨k, rfl, hk k (List.mem_cons_self ..)⟩
    · exact ⟨negI k, rfl, negI_b k⟩
    · exact pairs_int r (fun y hy => hk y (List.mem_cons_of_mem _ hy)) x h
theorem made_map (pa : Sl) (ks l : List Int) (W : World) (hD : DtAt W (mapT pa ks)) (h : ∀ k ∈ ks, I64 k) (hl : ks.length ≤ 10) (hp : l.Perm ks) (hs : l.Pairwise (· < ·)) :
    Calls Tryz.prog 97 #[.agg (deV (mapD pa))] W (MadeR W (some (mapV l))) := by
  refine made_great (mapD pa) W (some (mapV l)) (by show (18 : Int) ≤ 21 ∧ (21 : Int) ≤ 22; decide) fun W2 hW2 => ?_
  have hlen := pairs_len ks
  have key := great_map (mapD pa) [] (pairs ks) W2 (hD.keep hW2) rfl (by omega) (by omega) (keysB_get _ (keys_pairs ks)) (sortsE_small _ (by omega)) (fun x hx W3 _ _ => by
    obtain ⟨n, rfl, hn⟩ := pairs_int ks h x hx
    exact made_num n W3 hn)
  rw [madeL_pairs ks h] at key
  simp only at key
  rw [greatT_num pa ks l h hp hs] at key
  exact key
theorem build_map (pa : Sl) (ks l : List Int) (w : World) (hD : DtAt w (mapT pa ks)) (h : ∀ k ∈ ks, I64 k) (hl : ks.length ≤ 10) (hp : l.Perm ks) (hs : l.Pairwise (· < ·)) :
    Calls Tryz.prog 65 #[.agg (deV (mapD pa))] w fun e w' => ∃ T x, e = .returned (.tuple #[.iface T x, .int .i64 0]) ∧ VAt w' (fun b => w.heap.size + 3 ≤ b) (.iface T x) (mapV l) ∧ Below w.heap.size w w' := by
  have hd := depth_map pa ks
  refine build_ok2 (mapD pa) (63 - 2 * (ks.length : Int)) 0 (depthT (mapT pa ks)) (fun v W => VAt W (fun b => w.heap.size + 3 ≤ b) v (mapV l)) w (fun W hW => ?_) (by omega) (by decide) (fun W hW => ?_) (by omega) (fun W hW => ?_) (fun W hW => ?_) (fun W hW hsz => ?_) (fun v W p u hm hpb => ?_)
  · have := vcount_any (mapT pa ks) 64 W (hD.keep hW) (by decide) (by decide)
    rw [count_map pa ks hl] at this
    exact this
  · exact vdepth_any (mapT pa ks) W (hD.keep hW) (by omega)
  · have := veach_any2 (fun _ => true) (mapT pa ks) w W (hD.keep hW) hW fun x hx W2 _ _ => ?_
    · rw [allT_map] at this
      exact this
    · rcases sub_map hx with rfl | ⟨n, rfl⟩
      · exact b2_ok (mapD pa) W2 (by show (0 : Int) ≤ 21 ∧ (21 : Int) ≤ 22; decide)
      · exact b2_ok (deN n) W2 (by show (0 : Int) ≤ 6 ∧ (6 : Int) ≤ 22; decide)
  · have := veach_any3 (fun _ => true) (mapT pa ks) w W (hD.keep hW) hW fun x hx W2 hW2 hx2 => ?_
    · rw [allT_map] at this
      exact this
    · rcases sub_map hx with rfl | ⟨n, rfl⟩
      · refine b3_ok (mapD pa) W2 fun W3 hW3 => ?_
        have := formed_map (mapD pa) [] (pairs ks) W3 (hx2.keep hW3) rfl (by show typedB ⟨#[]⟩ = true; decide) (by show (0 : Nat) ≤ _; decide)
        rw [keys_pairs, pairs_len, Nat.mul_mod_right] at this
        exact this
      · refine b3_ok (deN n) W2 fun W3 hW3 => ?_
        have := formed_leaf (deN n) W3 (by show (0 : Nat) ≤ _; decide) (by show ¬ ((18 : Int) ≤ 6 ∧ (6 : Int) ≤ 22); decide)
        rw [show formB (deN n) = true by show (decide ((6 : Int) = 0) || typedB ⟨#[]⟩) = true; decide] at this
        exact this
  · refine (made_map pa ks l W (hD.keep hW) h hl hp hs).mono fun e w' ⟨hb, T, x, he, hV⟩ => ⟨T, x, he, ?_, hb⟩
    exact hV.mono fun b hb2 _ => ⟨Nat.le_trans hsz hb2, rfl⟩
  · exact hm.mono fun b hb _ => ⟨hb, Below.heap_setCell W p u b (by have : w.heap.size + 3 ≤ b := hb; omega)⟩
end Go.Proofs.YtdjhmanccoekjaaGreatDoor
end

section
namespace Go.Proofs.YtdjhmanccoekjaaGreatDoor
open Go.RowKit Go.Proofs

def livesD : List De := [deN 2, deN 8, dePi, deTx ⟨#[104, 105]⟩]
def livesU : List Value := [intV (deN 2) 2, intV (deN 8) 8, floatV dePi 4614256656552045848 64, textV (deTx ⟨#[104, 105]⟩)]
def lt1 : ByteArray := ⟨#[32, 32, 32, 32, 51, 46, 49, 52]⟩
def lt2 : ByteArray := ⟨#[54, 56, 54, 57]⟩
abbrev lS0 : St := ⟨[], 0, sliceN, livesU, 0, false⟩
def livesS : Nat → St
  | 0 => lS0
  | 1 => ⟨lt1.data.toList, 0, sliceN, livesU, 3, true⟩
  | 2 => ⟨lt1.data.toList ++ [124], 0, sliceN, livesU, 3, true⟩
  | _ => ⟨lt1.data.toList ++ [124] ++ lt2.data.toList, 0, sliceN, livesU, 4, true⟩
theorem lives_begin (b : Nat) (W : World) (sl : Sl) (hst : StAt W b ⟨[], 0, sliceN, [], 0, false⟩ sliceN sliceN) (hA : ArgsAt W sl livesD) (hcap : 4 ≤ sl.cap) (hgb : ∀ g o, sl.a = some ⟨g, o, none⟩ → g < b) :
    Calls Tryz.prog 42 #[.pointer (some ⟨b, 0, none⟩), .int .i64 0, sliceN, slV sl] W fun e w' => e = .returned (.tuple #[]) ∧ ∃ va, StAt w' b lS0 sliceN va ∧ Below b W w' := by
  refine begin_leaf b none 0 0 sl livesD livesU W hst hA (by decide) hcap rfl (fun g o h _ => hgb g o h) fun i d u hd hu => ?_
  match i, hd, hu with
  | 0, hd, hu =>
    cases hd; cases hu
    exact ⟨⟨_, _, rfl⟩, fun W _ => build_num 2 W (by decide) (by decide)⟩
  | 1, hd, hu =>
    cases hd; cases hu
    exact ⟨⟨_, _, rfl⟩, fun W _ => build_num 8 W (by decide) (by decide)⟩
  | 2, hd, hu =>
    cases hd; cases hu
    exact ⟨⟨_, _, rfl⟩, fun W _ => build_pi W⟩
  | 3, hd, hu =>
    cases hd; cases hu
    exact ⟨⟨_, _, rfl⟩, fun W _ => build_text _ (by decide) W⟩
  | i + 4, hd, _ => simp [livesD] at hd
theorem lives_dir1 (b : Nat) (v va : Value) (W : World) (h : StAt W b lS0 v va) :
    Calls Tryz.prog 48 #[.pointer (some ⟨b, 0, none⟩), .agg #[.int .i64 1, .string (PR.txt [37, 91, 50, 93, 42, 46, 91, 49, 93, 42, 91, 51, 93, 102]), .bool false, .bool false, .bool false, .bool false, .bool false, .int .i64 (-1), .int .i64 (-1), .int .i32 102, .int .i64 2, .int .i64 0, .int .i64 1, .int .i64 2, .int .i64 2, .int .i64 0, .int .i64 1, .int .i64 1, .int .i64 1, .int .i64 3]] W
      fun e w' => e = .returned (.tuple #[]) ∧ ∃ v', StAt w' b (livesS 1) v' va ∧ Kp b W w' := by
  refine directive_stars b lS0 (takeSt lS0 ⟨1, 2⟩) (takeSt (takeSt lS0 ⟨1, 2⟩) ⟨1, 1⟩) (takeSt (takeSt (takeSt lS0 ⟨1, 2⟩) ⟨1, 1⟩) ⟨1, 3⟩) v va (floatV dePi 4614256656552045848 64) 1 _ false false false false (-1) (-1) 102 0 1 2 0 1 1 3 8 2 lt1 W h
    (fun W hW => number_star b lS0 _ v va 0 ⟨1, 2⟩ (-1000) 6 ⟨#[]⟩ 0 8 W hW (by decide) (by decide) (by decide) fun W hW => take_good b lS0 v va _ 1 W hW rfl (by decide))
    (fun W hW => number_star b _ _ v va 0 ⟨1, 1⟩ 0 6 ⟨#[]⟩ 0 2 W hW (by decide) (by decide) (by decide) fun W hW => take_good b _ v va _ 0 W hW rfl (by decide))
    (by decide) (by decide) (fun W hW => take_good b _ v va _ 2 W hW rfl (by decide)) (by decide) (by decide) fun W hW _ => ?_
  have e1 : decide ((8 : Int) < 0) = false := by decide
  have e2 : max (8 : Int) (-8) = 8 := by decide
  rw [e1, e2]
  exact show_ok (known_float 13 ⟨#[]⟩ 0 4614256656552045848 64 (by decide) (by decide) (by decide) (by decide)) none 0 0 rfl (by decide) (by decide) false false false false false 8 2 102 (by decide) lt1 ⟨#[]⟩ true (by decide) (by decide) W hW
    (fun W _ => kind_float 13 ⟨#[]⟩ 0 4614256656552045848 64 lt1 true false false false false false 8 2 102 (askF b) 0 W fun W => float_pi W) (fun h => by cases h)
theorem lives_dir2 (b : Nat) (v va : Value) (W : World) (hT : TabsB b W) (h : StAt W b (livesS 2) v va) :
    Calls Tryz.prog 48 #[.pointer (some ⟨b, 0, none⟩), .agg #[.int .i64 1, .string (PR.txt [37, 120]), .bool false, .bool false, .bool false, .bool false, .bool false, .int .i64 (-1), .int .i64 (-1), .int .i32 120, .int .i64 0, .int .i64 0, .int .i64 0, .int .i64 0, .int .i64 0, .int .i64 0, .int .i64 0, .int .i64 0, .int .i64 0, .int .i64 0]] W
      fun e w' => e = .returned (.tuple #[]) ∧ ∃ v', StAt w' b (livesS 3) v' va ∧ Kp b W w' := by
  refine directive_plain b (livesS 2) (livesS 2) (livesS 2) (takeSt (livesS 2) ⟨0, 0⟩) v va (textV (deTx ⟨#[104, 105]⟩)) 1 _ false false false false (-1) (-1) 120 0 0 0 0 0 0 0 lt2 W h
    (fun W hW => number_unset b _ v va 0 ⟨0, 0⟩ _ W hW) (fun W hW => number_unset b _ v va 0 ⟨0, 0⟩ _ W hW)
    (by decide) 3 4 rfl rfl (by decide) (fun W hW => take_next b _ v va _ 3 0 W hW rfl rfl (by decide)) (by decide) (by decide) fun W' hW' hk => ?_
  have hT' : Tabs W' := (hT.kp hk).tabs
  refine show_ok (known_text 16 ⟨#[]⟩ 0 ⟨#[104, 105]⟩ (by decide) (by decide) (by decide) (by decide)) none 0 0 rfl (by decide) (by decide) false false false false false (-1) (-1) 120 (by decide) lt2 ⟨#[]⟩ true (by decide) (by decide) W' hW'
    (fun W2 hW2 => kind_text 16 ⟨#[]⟩ 0 ⟨#[104, 105]⟩ false false false false false (-1) (-1) 120 (askF b) 0 W2 _ lt2 true rfl fun W3 hW3 => ?_) (fun h => by cases h)
  have := text_any ⟨#[104, 105]⟩ false false false false false (-1) (-1) 120 W3 ((hT'.below hW2).below hW3) (by decide) (by decide) (by decide) (by decide) (by decide)
  rw [text_hi_x] at this
  exact this
def livesT : List UInt8 := [32, 32, 32, 32, 51, 46, 49, 52, 124, 54, 56, 54, 57]
theorem lives_format (b : Nat) (va : Value) (W : World) (hT : TabsB b W) (h : StAt W b lS0 sliceN va) :
    Calls Tryz.prog 29 #[.pointer (some ⟨b, 0, none⟩), .string ⟨livesF.toArray⟩] W fun e w' => e = .returned (.tuple #[]) ∧ ∃ v', StAt w' b (livesS 3) v' va ∧ Kp b W w' := by
  refine format_any b ⟨livesF.toArray⟩ livesP livesS sliceN va W hT.tabs (by decide) lives_pieces (by decide) h (fun i p hp => ?_) (Or.inl rfl)
  match i, hp with
  | 0, hp =>
    cases hp
    refine ⟨by decide, by decide, Or.inr ⟨rfl, fun W' v hs _ => ?_⟩⟩
    exact lives_dir1 b v va W' hs
  | 1, hp =>
    cases hp
    exact ⟨by decide, by decide, Or.inl ⟨rfl, rfl⟩⟩
  | 2, hp =>
    cases hp
    refine ⟨by decide, by decide, Or.inr ⟨rfl, fun W' v hs hk => ?_⟩⟩
    exact lives_dir2 b v va W' (hT.kp hk) hs
  | i + 3, hp => simp [livesP] at hp
theorem lives_text : (livesS 3).all = livesT := by decide
theorem lives_fill : (⟨(stText livesT).toArray⟩ : ByteArray) = ⟨#[32, 32, 32, 32, 51, 46, 49, 52, 124, 54, 56, 54, 57]⟩ := by decide
end Go.Proofs.YtdjhmanccoekjaaGreatDoor
end

section
namespace Go.Proofs.YtdjhmanccoekjaaGreatDoor
open Go.RowKit Go.Proofs

/-- Descriptors as they lie in a row. -/
def rowL : List De → List Value
  | [] => []
  | d :: ds => (deV d).toList ++ rowL ds
theorem rowL_at : ∀ (ds : List De) (k : Nat) (d : De), ds[k]? = some d → ∀ (j : Nat) (v : Value), (deV d)[j]? = some v → (rowL ds)[k * 8 + j]? = some v
  | [], i, p, h, _, _, _ => by simp at h
  | q :: qs, 0, p, h, j, v, hv => by
    simp only [List.getElem?_cons_zero, Option.some.injEq] at h
    subst h
    have hj : j < 8 := by
      rcases Nat.lt_or_ge j 8 with q | q
      · exact q
      · rw [Array.getElem?_eq_none q] at hv; cases hv
    rw [Nat.zero_mul, Nat.zero_add, rowL, List.getElem?_append_left (by exact hj)]
    rw [Array.getElem?_toList]; exact hv
  | q :: qs, i + 1, p, h, j, v, hv => by
    rw [List.getElem?_cons_succ] at h
    have := rowL_at qs i p h j v hv
    rw [rowL, List.getElem?_append_right (by show (8 : Nat) ≤ _; omega)]
    rw [show (i + 1) * 8 + j - ((deV q).toList).length = i * 8 + j by show (i + 1) * 8 + j - 8 = _; omega]
    exact this
theorem argsAt_row {W : World} {g n cap : Nat} {cs : Array Value} (ds : List De) (h : Blk W g cs 29) (hcs : cs.toList = rowL ds) (hn : n = ds.length) : ArgsAt W ⟨some ⟨g, 0, none⟩, n, cap⟩ ds :=
  ⟨hn, fun _ => ⟨g, 0, rfl, h.lt, fun k d hd j v hv => by
    rw [Nat.zero_add, h.cell, ← Array.getElem?_toList, hcs]
    exact rowL_at ds k d hd j v hv⟩⟩
theorem ArgsAt.same {W W' : World} {sl : Sl} {ds : List De} (h : ArgsAt W sl ds) (hk : ∀ g o, sl.a = some ⟨g, o, none⟩ → W'.heap[g]? = W.heap[g]?) (hsz : W.heap.size ≤ W'.heap.size) : ArgsAt W' sl ds :=
  ⟨h.1, fun hn => by
    obtain ⟨g, o, h1, h2, h3⟩ := h.2 hn
    exact ⟨g, o, h1, Nat.lt_of_lt_of_le h2 hsz, fun k d hd j v hv => (cell_same (hk g o h1) _).trans (h3 k d hd j v hv)⟩⟩
set_option maxRecDepth 100000 in
set_option maxHeartbeats 4000000 in
theorem lives_any (w : World) (hT : Tabs w) : Calls Tryz.prog 7 #[] w fun e w' => e = .returned (.bool true) ∧ Below w.heap.size w w' := by
  have PN := hid (press_new none 0 0 sliceN w ((copied_nil w).mono fun _ _ h => ⟨h.1, h.2 ▸ Below.refl _ _⟩))
  have N2 := hid (fun W => num_any 2 W)
  have N8 := hid (fun W => num_any 8 W)
  have TX := hid (fun W => textd_any ⟨#[104, 105]⟩ W)
  have HT := hid hT
  clear hT
  have hne : ∀ (p : Addr) (W : World), (binOp BinOp.neq 55 (.pointer (some p)) (.pointer none)).run Tryz.prog W = .ok (.bool true) W := fun _ _ => by kernel_rfl
  go_enter Tryz.func7, Tryz.ntmps7
  go_wp2_with fail
  refine PN.out.mono ?_
  rintro e W1 ⟨p, q, c, rfl, P1, hp, hq, hc, hb⟩
  have H1 := hid (And.intro P1 (And.intro hp (And.intro hq (And.intro hc hb))))
  clear P1 hp hq hc hb
  go_wp2_with fail
  refine (N2.out _).mono ?_
  rintro e W2 ⟨rfl, hb2⟩
  have L2 := hid hb2
  clear hb2
  go_wp2_with fail
  refine (N8.out _).mono ?_
  rintro e W3 ⟨rfl, hb3⟩
  have L3 := hid (L2.out.trans (hb3.mono L2.out.size))
  clear hb3
  go_wp2_with fail
  refine (TX.out _).mono ?_
  rintro e W4 ⟨rfl, hb4⟩
  have L4 := hid (L3.out.trans (hb4.mono L3.out.size))
  clear hb4
  go_wp2_with fail
  obtain ⟨W5, hW5⟩ : ∃ W5, World.alloc W4 (.cells #[.int .i64 6, .string ⟨#[]⟩, .int .u64 2, .int .u64 0, .string ⟨#[]⟩, slV sl0, slV sl0, .int .i64 0, .int .i64 6, .string ⟨#[]⟩, .int .u64 8, .int .u64 0, .string ⟨#[]⟩, slV sl0, slV sl0, .int .i64 0, .int .i64 13, .string ⟨#[]⟩, .int .u64 4614256656552045848, .int .u64 0, .string ⟨#[]⟩, .slice none 0 0, .slice none 0 0, .int .i64 0, .int .i64 16, .string ⟨#[]⟩, .int .u64 0, .int .u64 0, .string ⟨#[104, 105]⟩, slV sl0, slV sl0, .int .i64 0] 29) = W5 := ⟨_, rfl⟩
  obtain ⟨g, hg⟩ : ∃ g, W4.heap.size = g := ⟨_, rfl⟩
  have AA : ArgsAt W5 ⟨some ⟨g, 0, none⟩, 4, 4⟩ livesD := argsAt_row livesD (by rw [← hW5, ← hg]; exact Blk.new W4 _ _) rfl rfl
  have L5 : Below W1.heap.size W1 W5 := by rw [← hW5]; exact L4.out.alloc L4.out.size _
  have hg1 : W1.heap.size ≤ g := by have := L4.out.size; omega
  have hsz : W5.heap.size = g + 1 := by rw [← hW5, ← hg]; simp
  rw [hW5, hg]
  obtain ⟨P1, hp, hq, hc, hb1⟩ := H1.out
  have P5 := P1.below L5 P1.pr.lt P1.fr.lt (heap_lt P1.ch)
  have hb5 : Below w.heap.size w W5 := hb1.trans (L5.mono hb1.size)
  have hpg : g ≠ p := by have := P1.pr.lt; omega
  have hqg : g ≠ q := by have := P1.fr.lt; omega
  have SP := sprintf_any p q c 0 0 w.heap.size none 0 0 0 0 ⟨some ⟨g, 0, none⟩, 4, 4⟩ ⟨livesF.toArray⟩ livesT W5 P5 hb5.size hp hq hc (by decide) (by decide) (fun b W hW hk hb st =>
    have hk2 : Below w.heap.size w W := hb5.trans hW
    have hgb : g < b := by omega
    have tb : TabsB b W := ⟨w, HT.out, by have := hb5.size; omega, hk2⟩
    ⟨lS0, livesS 3, fun _ _ => True, lives_text,
      (lives_begin b W _ st (AA.same (fun g' o h => by cases h; exact hk g (by omega) hpg hqg) (by have := st.lt; omega)) (by show (4 : Nat) ≤ 4; decide) (fun g' o h => by cases h; exact hgb)).mono fun e w' ⟨h1, va, h2, h3⟩ => ⟨h1, va, h2, trivial, h3⟩,
      fun W' va hs _ hl => lives_format b va W' (tb.below hl) hs⟩)
  rw [lives_fill] at SP
  have SP := hid SP
  have HB := hid hb5
  clear AA L5 P1 P5 hb5 hb1 hp hq hc hpg hqg hg1 hsz hW5 hg H1 L2 L3 L4 PN
  refine SP.out.mono ?_
  rintro e W6 ⟨rfl, hb6⟩
  have HL := hid (HB.out.trans hb6)
  clear hb6
  go_wp2_with fail
  go_ret
  exact ⟨rfl, HL.out⟩
end Go.Proofs.YtdjhmanccoekjaaGreatDoor
end
