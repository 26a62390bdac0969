/-
  Texts of this claim, joined: TL, TM, TN.
-/
import Derived.Laws.AppendOwn
import Derived.Great.BuildSlice
import Derived.Test.YtdjhmanccoekjaaGreatDoorN13

section
namespace Go.Proofs.YtdjhmanccoekjaaGreatDoor
open Go.RowKit Go.Proofs

/-- The directive's own blocks. -/
structure Dr (w : World) (b P F : Nat) (cs fs : Array Value) (W : World) : Prop where
  kp : Kp b w W
  pc : Blk W P cs 100
  sp : Blk W F fs 94
theorem Dr.kept {w : World} {b P F : Nat} {cs fs : Array Value} {W W' : World} (h : Dr w b P F cs fs W) (hk : Kp b W W') (hP : P ≠ b) (hF : F ≠ b) : Dr w b P F cs fs W' :=
  ⟨h.kp.trans hk, hk.kept P cs _ hP (by decide) h.pc, hk.kept F fs _ hF (by decide) h.sp⟩
theorem Dr.set_ {w : World} {b P F : Nat} {cs fs : Array Value} {W : World} (h : Dr w b P F cs fs W) (hPF : P ≠ F) (hFw : w.heap.size ≤ F) (hbw : b < w.heap.size) (i : Nat) (u : Value) : Dr w b P F cs (fs.setIfInBounds i u) (W.setCell ⟨F, i, none⟩ u) := by
  refine ⟨⟨h.kp.os, h.kp.tape, h.kp.output, by simpa [World.setCell] using h.kp.size, fun k hk => (Below.heap_setCell W _ u k (by show k ≠ F; omega)).trans (h.kp.block k hk), fun k cs' t hk ht hq => ?_⟩, h.pc.far hPF u, h.sp.set_ i u⟩
  have hlt := hq.lt
  exact (h.kp.kept k cs' t hk ht hq).far (by show k ≠ F; omega) u
theorem StAt.far {w : World} {b : Nat} {s : St} {v va : Value} (h : StAt w b s v va) {F i : Nat} (hF : F ≠ b) (u : Value) (hv : ∀ cs, ¬ Blk w F cs 5) (hv2 : ∀ cs, ¬ Blk w F cs 103) : StAt (w.setCell ⟨F, i, none⟩ u) b s v va :=
  ⟨h.blk.far (Ne.symm hF) u, own_block h.own fun k cs _ hk => hk.far (fun e => hv cs (by rw [e] at hk; exact hk)) u, own_block h.arg fun k cs _ hk => hk.far (fun e => hv2 cs (by rw [e] at hk; exact hk)) u⟩
theorem blk_ty {w : World} {F : Nat} {cs fs : Array Value} {t u : TypeId} (h : Blk w F cs t) (hk : Blk w F fs u) : t = u := by
  unfold Blk at h hk
  rw [h] at hk
  injection hk with hk
  injection hk
theorem StAt.far_spec {w : World} {b : Nat} {s : St} {v va : Value} (h : StAt w b s v va) {F i : Nat} {fs : Array Value} (hf : Blk w F fs 94) (hF : F ≠ b) (u : Value) : StAt (w.setCell ⟨F, i, none⟩ u) b s v va :=
  h.far hF u (fun _ hk => absurd (blk_ty hf hk) (by decide)) (fun _ hk => absurd (blk_ty hf hk) (by decide))

theorem spec_size : (Tryz.prog.info? 94).map (·.size) = some 8 := by kernel_rfl
set_option maxRecDepth 100000 in
set_option maxHeartbeats 8000000 in
theorem directive_plain (b : Nat) (s0 s1 s2 s3 : St) (v va x : Value) (k : Int) (text : ByteArray) (pl sh sp ze : Bool) (wid prec verb wn wak wan pn pak pan an : Int) (t : ByteArray) (w : World)
    (h : StAt w b s0 v va)
    (N1 : ∀ W, StAt W b s0 v va → Calls Tryz.prog 70 #[.pointer (some ⟨b, 0, none⟩), .agg #[.int .i64 0, .int .i64 wn, .int .i64 wak, .int .i64 wan], .int .i64 (-1000)] W fun e w' => e = .returned (.tuple #[.int .i64 0, .bool false]) ∧ StAt w' b s1 v va ∧ Kp b W w')
    (N2 : ∀ W, StAt W b s1 v va → Calls Tryz.prog 70 #[.pointer (some ⟨b, 0, none⟩), .agg #[.int .i64 0, .int .i64 pn, .int .i64 pak, .int .i64 pan], .int .i64 0] W fun e w' => e = .returned (.tuple #[.int .i64 0, .bool false]) ∧ StAt w' b s2 v va ∧ Kp b W w')
    (hv : verb ≠ 37) (nx N : Nat) (hnx : s2.next = nx) (hN : s2.args.length = N) (hm : nx < N)
    (TA : ∀ W, StAt W b s2 v va → Calls Tryz.prog 74 #[.pointer (some ⟨b, 0, none⟩), .agg #[.int .i64 0, .int .i64 an]] W fun e w' => e = .returned (.tuple #[x, .bool true]) ∧ StAt w' b s3 v va ∧ Kp b W w')
    (hal : s3.all.length ≤ 4611686018427387904) (ht : t.size ≤ 140737488355328)
    (SH : ∀ W, StAt W b s3 v va → Kp b w W → Calls Tryz.prog 50 #[x, .agg (sp8 pl false sh sp ze wid prec verb), askF b] W fun e w' => e = .returned (.string t) ∧ Below W.heap.size W w') :
    Calls Tryz.prog 48 #[.pointer (some ⟨b, 0, none⟩), .agg #[.int .i64 k, .string text, .bool pl, .bool false, .bool sh, .bool sp, .bool ze, .int .i64 wid, .int .i64 prec, .int .i32 verb, .int .i64 0, .int .i64 wn, .int .i64 wak, .int .i64 wan, .int .i64 0, .int .i64 pn, .int .i64 pak, .int .i64 pan, .int .i64 0, .int .i64 an]] w
      fun e w' => e = .returned (.tuple #[]) ∧ ∃ v', StAt w' b { s3 with all := s3.all ++ t.data.toList } v' va ∧ Kp b w w' := by
  have hmf : ∀ (fn : Fn) (first cap : Array Value) (w : World), (Instr.makeFunc fn first cap).run Tryz.prog w = .ok (.func fn first cap) w := fun _ _ _ _ => rfl
  have N1 := hid N1
  have N2 := hid N2
  have TA := hid TA
  have SH := hid SH
  have HX := hid (And.intro hal ht)
  have hvb : (verb == 37) = false := by simpa using hv
  have hbw := h.lt
  have d0 : Dr w b w.heap.size (w.heap.size + 1) #[.int .i64 k, .string text, .bool pl, .bool false, .bool sh, .bool sp, .bool ze, .int .i64 wid, .int .i64 prec, .int .i32 verb, .int .i64 0, .int .i64 wn, .int .i64 wak, .int .i64 wan, .int .i64 0, .int .i64 pn, .int .i64 pak, .int .i64 pan, .int .i64 0, .int .i64 an] (sp8 pl false sh sp ze wid prec verb) ((w.alloc (.cells #[.int .i64 k, .string text, .bool pl, .bool false, .bool sh, .bool sp, .bool ze, .int .i64 wid, .int .i64 prec, .int .i32 verb, .int .i64 0, .int .i64 wn, .int .i64 wak, .int .i64 wan, .int .i64 0, .int .i64 pn, .int .i64 pak, .int .i64 pan, .int .i64 0, .int .i64 an] 100)).alloc (.cells (sp8 pl false sh sp ze wid prec verb) 94)) := by
    refine ⟨((Kp.refl b w).alloc hbw _).alloc (by simp; omega) _, (Blk.new w _ _).alloc _, ?_⟩
    have := Blk.new (w.alloc (.cells #[.int .i64 k, .string text, .bool pl, .bool false, .bool sh, .bool sp, .bool ze, .int .i64 wid, .int .i64 prec, .int .i32 verb, .int .i64 0, .int .i64 wn, .int .i64 wak, .int .i64 wan, .int .i64 0, .int .i64 pn, .int .i64 pak, .int .i64 pan, .int .i64 0, .int .i64 an] 100)) (sp8 pl false sh sp ze wid prec verb) 94
    rw [World.size_alloc] at this
    exact this
  have st0 := (h.below ((Below.refl w.heap.size w).alloc (Nat.le_refl _) (.cells #[.int .i64 k, .string text, .bool pl, .bool false, .bool sh, .bool sp, .bool ze, .int .i64 wid, .int .i64 prec, .int .i32 verb, .int .i64 0, .int .i64 wn, .int .i64 wak, .int .i64 wan, .int .i64 0, .int .i64 pn, .int .i64 pak, .int .i64 pan, .int .i64 0, .int .i64 an] 100))).below ((Below.refl _ _).alloc (Nat.le_refl _) (.cells (sp8 pl false sh sp ze wid prec verb) 94))
  have D0 := hid d0
  have T0 := hid st0
  have HBW := hid hbw
  clear hal ht hv d0 st0 h hbw
  go_enter Tryz.func48, Tryz.ntmps48
  go_wp2_with fail
  obtain ⟨W0, hW0⟩ : ∃ W0, ((w.alloc (.cells #[.int .i64 k, .string text, .bool pl, .bool false, .bool sh, .bool sp, .bool ze, .int .i64 wid, .int .i64 prec, .int .i32 verb, .int .i64 0, .int .i64 wn, .int .i64 wak, .int .i64 wan, .int .i64 0, .int .i64 pn, .int .i64 pak, .int .i64 pan, .int .i64 0, .int .i64 an] 100)).alloc (.cells (sp8 pl false sh sp ze wid prec verb) 94)) = W0 := ⟨_, rfl⟩
  obtain ⟨P, hP⟩ : ∃ P, w.heap.size = P := ⟨_, rfl⟩
  rw [hW0, hP] at D0
  rw [hW0] at T0 ⊢
  rw [hP]
  have HPP := hid hP
  clear hW0 hP
  have hPb : P ≠ b := by have := HBW.out; have := HPP.out; omega
  have hFb : P + 1 ≠ b := by have := HBW.out; have := HPP.out; omega
  have hPF : P ≠ P + 1 := by omega
  have hbF : b ≠ P + 1 := by omega
  refine (N1.out _ T0.out).mono ?_
  rintro e W1 ⟨rfl, hs, hk⟩
  have D1 := hid (D0.out.kept hk hPb hFb)
  have T1 := hid hs
  clear hs hk
  have p10 := D1.out.pc.cell 10
  have p14 := D1.out.pc.cell 14
  have p15 := D1.out.pc.cell 15
  have p16 := D1.out.pc.cell 16
  have p17 := D1.out.pc.cell 17
  have D2 := D1
  have T2 := T1
  go_wp2_with fail
  clear p10 p14 p15 p16 p17
  refine (N2.out _ T2.out).mono ?_
  rintro e W3 ⟨rfl, hs, hk⟩
  have D3 := hid (D2.out.kept hk hPb hFb)
  have T3 := hid hs
  clear hs hk
  have f7 : W3.cell? ⟨P + 1, 7, none⟩ = some (.int .i32 verb) := D3.out.sp.cell 7
  have p14 := D3.out.pc.cell 14
  have p18 := D3.out.pc.cell 18
  have p19 := D3.out.pc.cell 19
  have D4 := D3
  have T4 := T3
  have b5 : W3.cell? ⟨b, 5, none⟩ = some (.int .i64 nx) := by have := T4.out.blk.cell 5; rw [hnx] at this; exact this
  obtain ⟨A4, c4, hva⟩ := sl_form T4.out.arg
  rw [hN] at hva
  have b4 : W3.cell? ⟨b, 4, none⟩ = some (.slice A4 N c4) := by have := T4.out.blk.cell 4; rw [hva] at this; exact this
  have dn : decide (N ≤ nx) = false := decide_eq_false (by omega)
  have dn2 : decide ((N : Int) ≤ nx) = false := decide_eq_false (by omega)
  have HNX := hid (And.intro hnx (And.intro hN hva))
  clear hnx hN hva
  go_upto_region 16 with fail
  go_quiet (fail)
  go_wp2_with fail
  refine (TA.out _ (T4.out.below (below_drewN (Below.refl _ _) _))).mono ?_
  rintro e W5 ⟨rfl, hs, hk⟩
  have D5 := hid ((D4.out.kept (Kp.of_below T4.out.lt (below_drewN (Below.refl _ _) _)) hPb hFb).kept hk hPb hFb)
  have T5 := hid hs
  clear hs hk f7 p14 p18 p19 b5 b4 dn dn2
  go_upto_region 21 with fail
  refine wp_region_held_drew (S := fun w1 => Kp b W5 w1) (by kernel_rfl) ((Kp.refl b W5).drew) (fun h0 => ?_)
  have t0 := T5.out.drew
  generalize World.drew W5 = W6 at h0 t0 ⊢
  refine wpAnyH_take (i := 0) (fuel := 8) (v := .pointer (some ⟨b, 0, none⟩)) rfl (by kernel_rfl) (by kernel_rfl) (by kernel_rfl) (fun _ _ _ h => h) (Or.inl ⟨by rfl, by intro w1 hw1; go_simp⟩) h0 ?_
  try simp only [Act.put, List.getElem_toArray, List.getElem_cons_zero, List.setIfInBounds_toArray, List.set_cons_zero, List.set_cons_succ]
  refine wpAnyH_take (i := 1) (fuel := 7) (v := .pointer (some ⟨b, 0, none⟩)) rfl (by kernel_rfl) (by kernel_rfl) (by kernel_rfl) (fun _ _ _ h => h) (Or.inl ⟨by rfl, by intro w1 hw1; go_simp⟩) h0 ?_
  try simp only [Act.put, List.getElem_toArray, List.getElem_cons_zero, List.getElem_cons_succ, List.setIfInBounds_toArray, List.set_cons_zero, List.set_cons_succ]
  refine wpAnyH_take (i := 2) (fuel := 6) (v := .pointer (some ⟨b, 0, none⟩)) rfl (by kernel_rfl) (by kernel_rfl) (by kernel_rfl) (fun _ _ _ h => h) (Or.inl ⟨by rfl, by intro w1 hw1; go_simp⟩) h0 ?_
  try simp only [Act.put, List.getElem_toArray, List.getElem_cons_zero, List.getElem_cons_succ, List.setIfInBounds_toArray, List.set_cons_zero, List.set_cons_succ]
  refine wpAnyH_take (i := 3) (fuel := 5) (v := x) rfl (by kernel_rfl) (by kernel_rfl) (by kernel_rfl) (fun _ _ _ h => h) (Or.inl ⟨by rfl, by intro w1 hw1; go_simp⟩) h0 ?_
  try simp only [Act.put, List.getElem_toArray, List.getElem_cons_zero, List.getElem_cons_succ, List.setIfInBounds_toArray, List.set_cons_zero, List.set_cons_succ]
  refine wpAnyH_take (i := 4) (fuel := 4) (v := _) rfl (by kernel_rfl) (by kernel_rfl) (by kernel_rfl) (fun _ _ _ h => h) (yieldsIf_load_mid (by rfl) 94 (.tmp 4) rfl (P + 1) 0 rfl (sp8 pl false sh sp ze wid prec verb).toList _ (fun w1 h1 => fun j v hv => by rw [Nat.zero_add, (h1.kept (P + 1) _ _ hFb (by decide) D5.out.sp).cell]; simpa using hv) Tryz.underlying94 rfl spec_size) h0 ?_
  try simp only [Act.put, List.getElem_toArray, List.getElem_cons_zero, List.getElem_cons_succ, List.setIfInBounds_toArray, List.set_cons_zero, List.set_cons_succ]
  refine wpAnyH_take (i := 5) (fuel := 3) (v := .pointer (some ⟨b, 0, none⟩)) rfl (by kernel_rfl) (by kernel_rfl) (by kernel_rfl) (fun _ _ _ h => h) (Or.inl ⟨by rfl, by intro w1 hw1; go_simp⟩) h0 ?_
  try simp only [Act.put, List.getElem_toArray, List.getElem_cons_zero, List.getElem_cons_succ, List.setIfInBounds_toArray, List.set_cons_zero, List.set_cons_succ]
  refine wpAnyH_take (i := 6) (fuel := 2) (v := askF b) rfl (by kernel_rfl) (by kernel_rfl) (by kernel_rfl) (fun _ _ _ h => h) (Or.inl ⟨by rfl, by intro w1 hw1; go_simp⟩) h0 ?_
  try simp only [Act.put, List.getElem_toArray, List.getElem_cons_zero, List.getElem_cons_succ, List.setIfInBounds_toArray, List.set_cons_zero, List.set_cons_succ]
  refine wpAnyH_ready (fuel := 1) (rs := [7]) (by kernel_rfl) (by simp) ?_
  refine AllReadyH.cons rfl (fun K hK => ?_) AllReadyH.nil
  rw [if_pos (by rfl)]
  go_wp2_with fail
  refine (SH.out _ t0 (D5.out.kp.trans h0)).mono ?_
  rintro e W7 ⟨rfl, hb⟩
  have h1 : Kp b W5 W7 := h0.trans (Kp.of_below t0.lt hb)
  have t1 := t0.below hb
  clear hb t0
  refine hK.out _ _ h1 (fun _ => ?_)
  clear hK
  try simp only [Act.put, List.getElem_toArray, List.getElem_cons_zero, List.getElem_cons_succ, List.setIfInBounds_toArray, List.set_cons_zero, List.set_cons_succ]
  refine wpAnyH_ready (fuel := 0) (rs := [8]) (by kernel_rfl) (by simp) ?_
  refine AllReadyH.cons rfl (fun K hK => ?_) AllReadyH.nil
  rw [if_pos (by rfl)]
  have t2 := hid t1
  clear t1
  go_wp2_with fail
  refine (sput_any b s3 v va t _ t2.out HX.out.1 HX.out.2).mono ?_
  rintro e W8 ⟨rfl, v', t3, k3⟩
  have N := hid (And.intro t3 (D5.out.kp.trans (h1.trans k3)))
  refine hK.out _ _ (h1.trans k3) (fun _ => ?_)
  clear hK t3 k3 h1
  try simp only [Act.put, List.getElem_toArray, List.getElem_cons_zero, List.getElem_cons_succ, List.setIfInBounds_toArray, List.set_cons_zero, List.set_cons_succ]
  refine wpAnyH_done (by kernel_rfl) ?_ _
  go_wp2_with fail
  go_end0
  exact ⟨rfl, v', N.out.1, N.out.2⟩
set_option maxRecDepth 100000 in
set_option maxHeartbeats 8000000 in
theorem directive_star (b : Nat) (s0 s1 s2 s3 : St) (v va x : Value) (k : Int) (text : ByteArray) (pl sh sp ze : Bool) (wid prec verb wn wak wan pn pak pan an : Int) (n1 : Int) (t : ByteArray) (w : World)
    (h : StAt w b s0 v va)
    (N1 : ∀ W, StAt W b s0 v va → Calls Tryz.prog 70 #[.pointer (some ⟨b, 0, none⟩), .agg #[.int .i64 2, .int .i64 wn, .int .i64 wak, .int .i64 wan], .int .i64 (-1000)] W fun e w' => e = .returned (.tuple #[.int .i64 n1, .bool true]) ∧ StAt w' b s1 v va ∧ Kp b W w')
    (N2 : ∀ W, StAt W b s1 v va → Calls Tryz.prog 70 #[.pointer (some ⟨b, 0, none⟩), .agg #[.int .i64 0, .int .i64 pn, .int .i64 pak, .int .i64 pan], .int .i64 0] W fun e w' => e = .returned (.tuple #[.int .i64 0, .bool false]) ∧ StAt w' b s2 v va ∧ Kp b W w')
    (hv : verb ≠ 37) (hn1 : -1000 ≤ n1 ∧ n1 ≤ 1000) (nx N : Nat) (hnx : s2.next = nx) (hN : s2.args.length = N) (hm : nx < N)
    (TA : ∀ W, StAt W b s2 v va → Calls Tryz.prog 74 #[.pointer (some ⟨b, 0, none⟩), .agg #[.int .i64 0, .int .i64 an]] W fun e w' => e = .returned (.tuple #[x, .bool true]) ∧ StAt w' b s3 v va ∧ Kp b W w')
    (hal : s3.all.length ≤ 4611686018427387904) (ht : t.size ≤ 140737488355328)
    (SH : ∀ W, StAt W b s3 v va → Kp b w W → Calls Tryz.prog 50 #[x, .agg (sp8 pl (decide (n1 < 0)) sh sp ze (max n1 (-n1)) prec verb), askF b] W fun e w' => e = .returned (.string t) ∧ Below W.heap.size W w') :
    Calls Tryz.prog 48 #[.pointer (some ⟨b, 0, none⟩), .agg #[.int .i64 k, .string text, .bool pl, .bool false, .bool sh, .bool sp, .bool ze, .int .i64 wid, .int .i64 prec, .int .i32 verb, .int .i64 2, .int .i64 wn, .int .i64 wak, .int .i64 wan, .int .i64 0, .int .i64 pn, .int .i64 pak, .int .i64 pan, .int .i64 0, .int .i64 an]] w
      fun e w' => e = .returned (.tuple #[]) ∧ ∃ v', StAt w' b { s3 with all := s3.all ++ t.data.toList } v' va ∧ Kp b w w' := by
  have hmf : ∀ (fn : Fn) (first cap : Array Value) (w : World), (Instr.makeFunc fn first cap).run Tryz.prog w = .ok (.func fn first cap) w := fun _ _ _ _ => rfl
  have N1 := hid N1
  have N2 := hid N2
  have TA := hid TA
  have SH := hid SH
  have HX := hid (And.intro hal ht)
  have hvb : (verb == 37) = false := by simpa using hv
  have hbw := h.lt
  have d0 : Dr w b w.heap.size (w.heap.size + 1) #[.int .i64 k, .string text, .bool pl, .bool false, .bool sh, .bool sp, .bool ze, .int .i64 wid, .int .i64 prec, .int .i32 verb, .int .i64 2, .int .i64 wn, .int .i64 wak, .int .i64 wan, .int .i64 0, .int .i64 pn, .int .i64 pak, .int .i64 pan, .int .i64 0, .int .i64 an] (sp8 pl false sh sp ze wid prec verb) ((w.alloc (.cells #[.int .i64 k, .string text, .bool pl, .bool false, .bool sh, .bool sp, .bool ze, .int .i64 wid, .int .i64 prec, .int .i32 verb, .int .i64 2, .int .i64 wn, .int .i64 wak, .int .i64 wan, .int .i64 0, .int .i64 pn, .int .i64 pak, .int .i64 pan, .int .i64 0, .int .i64 an] 100)).alloc (.cells (sp8 pl false sh sp ze wid prec verb) 94)) := by
    refine ⟨((Kp.refl b w).alloc hbw _).alloc (by simp; omega) _, (Blk.new w _ _).alloc _, ?_⟩
    have := Blk.new (w.alloc (.cells #[.int .i64 k, .string text, .bool pl, .bool false, .bool sh, .bool sp, .bool ze, .int .i64 wid, .int .i64 prec, .int .i32 verb, .int .i64 2, .int .i64 wn, .int .i64 wak, .int .i64 wan, .int .i64 0, .int .i64 pn, .int .i64 pak, .int .i64 pan, .int .i64 0, .int .i64 an] 100)) (sp8 pl false sh sp ze wid prec verb) 94
    rw [World.size_alloc] at this
    exact this
  have st0 := (h.below ((Below.refl w.heap.size w).alloc (Nat.le_refl _) (.cells #[.int .i64 k, .string text, .bool pl, .bool false, .bool sh, .bool sp, .bool ze, .int .i64 wid, .int .i64 prec, .int .i32 verb, .int .i64 2, .int .i64 wn, .int .i64 wak, .int .i64 wan, .int .i64 0, .int .i64 pn, .int .i64 pak, .int .i64 pan, .int .i64 0, .int .i64 an] 100))).below ((Below.refl _ _).alloc (Nat.le_refl _) (.cells (sp8 pl false sh sp ze wid prec verb) 94))
  have D0 := hid d0
  have T0 := hid st0
  have HBW := hid hbw
  clear hal ht hv d0 st0 h hbw
  go_enter Tryz.func48, Tryz.ntmps48
  go_wp2_with fail
  obtain ⟨W0, hW0⟩ : ∃ W0, ((w.alloc (.cells #[.int .i64 k, .string text, .bool pl, .bool false, .bool sh, .bool sp, .bool ze, .int .i64 wid, .int .i64 prec, .int .i32 verb, .int .i64 2, .int .i64 wn, .int .i64 wak, .int .i64 wan, .int .i64 0, .int .i64 pn, .int .i64 pak, .int .i64 pan, .int .i64 0, .int .i64 an] 100)).alloc (.cells (sp8 pl false sh sp ze wid prec verb) 94)) = W0 := ⟨_, rfl⟩
  obtain ⟨P, hP⟩ : ∃ P, w.heap.size = P := ⟨_, rfl⟩
  rw [hW0, hP] at D0
  rw [hW0] at T0 ⊢
  rw [hP]
  have HPP := hid hP
  clear hW0 hP
  have hPb : P ≠ b := by have := HBW.out; have := HPP.out; omega
  have hFb : P + 1 ≠ b := by have := HBW.out; have := HPP.out; omega
  have hPF : P ≠ P + 1 := by omega
  have hbF : b ≠ P + 1 := by omega
  refine (N1.out _ T0.out).mono ?_
  rintro e W1 ⟨rfl, hs, hk⟩
  have D1 := hid (D0.out.kept hk hPb hFb)
  have T1 := hid hs
  clear hs hk
  have p0 := D1.out.pc.cell 0
  have p1 := D1.out.pc.cell 1
  have p2 := D1.out.pc.cell 2
  have p3 := D1.out.pc.cell 3
  have p4 := D1.out.pc.cell 4
  have p5 := D1.out.pc.cell 5
  have p6 := D1.out.pc.cell 6
  have p7 := D1.out.pc.cell 7
  have p8 := D1.out.pc.cell 8
  have p9 := D1.out.pc.cell 9
  have p10 := D1.out.pc.cell 10
  have p11 := D1.out.pc.cell 11
  have p12 := D1.out.pc.cell 12
  have p13 := D1.out.pc.cell 13
  have p14 := D1.out.pc.cell 14
  have p15 := D1.out.pc.cell 15
  have p16 := D1.out.pc.cell 16
  have p17 := D1.out.pc.cell 17
  have p18 := D1.out.pc.cell 18
  have p19 := D1.out.pc.cell 19
  have f0 := D1.out.sp.cell 0
  have f1 := D1.out.sp.cell 1
  have f2 := D1.out.sp.cell 2
  have f3 := D1.out.sp.cell 3
  have f4 := D1.out.sp.cell 4
  have f5 := D1.out.sp.cell 5
  have f6 := D1.out.sp.cell 6
  have f7 := D1.out.sp.cell 7
  have g1 := D1.out.sp.frozen 1
  have g5 := D1.out.sp.frozen 5
  have d2 := (D1.out.set_ hPF (by have := HPP.out; omega) HBW.out 1 (.bool (decide (n1 < 0)))).set_ hPF (by have := HPP.out; omega) HBW.out 5 (.int .i64 (max n1 (-n1)))
  have d1 := D1.out.set_ hPF (by have := HPP.out; omega) HBW.out 1 (.bool (decide (n1 < 0)))
  have t1 := T1.out.far_spec D1.out.sp (i := 1) hFb (.bool (decide (n1 < 0)))
  have t2 := t1.far_spec d1.sp (i := 5) hFb (.int .i64 (max n1 (-n1)))
  have g5' := d1.sp.frozen 5
  have D2 : Hid (Dr w b P (P + 1) #[.int .i64 k, .string text, .bool pl, .bool false, .bool sh, .bool sp, .bool ze, .int .i64 wid, .int .i64 prec, .int .i32 verb, .int .i64 2, .int .i64 wn, .int .i64 wak, .int .i64 wan, .int .i64 0, .int .i64 pn, .int .i64 pak, .int .i64 pan, .int .i64 0, .int .i64 an] (sp8 pl (decide (n1 < 0)) sh sp ze (max n1 (-n1)) prec verb) _) := hid d2
  have T2 := hid t2
  clear t1 t2
  have r10 := d2.pc.cell 10
  have r14 := d2.pc.cell 14
  have r15 := d2.pc.cell 15
  have r16 := d2.pc.cell 16
  have r17 := d2.pc.cell 17
  clear d2 d1
  go_wp2_with fail
  obtain ⟨W2, hW2⟩ : ∃ W2, (W1.setCell ⟨P + 1, 1, none⟩ (.bool (decide (n1 < 0)))).setCell ⟨P + 1, 5, none⟩ (.int .i64 (max n1 (-n1))) = W2 := ⟨_, rfl⟩
  rw [hW2] at D2 T2 ⊢
  clear hW2 g1 g5 g5' p0 p1 p2 p3 p4 p5 p6 p7 p8 p9 p10 p11 p12 p13 p14 p15 p16 p17 p18 p19 f0 f1 f2 f3 f4 f5 f6 f7 r10 r14 r15 r16 r17
  refine (N2.out _ T2.out).mono ?_
  rintro e W3 ⟨rfl, hs, hk⟩
  have D3 := hid (D2.out.kept hk hPb hFb)
  have T3 := hid hs
  clear hs hk
  have f7 : W3.cell? ⟨P + 1, 7, none⟩ = some (.int .i32 verb) := D3.out.sp.cell 7
  have p14 := D3.out.pc.cell 14
  have p18 := D3.out.pc.cell 18
  have p19 := D3.out.pc.cell 19
  have D4 := D3
  have T4 := T3
  have b5 : W3.cell? ⟨b, 5, none⟩ = some (.int .i64 nx) := by have := T4.out.blk.cell 5; rw [hnx] at this; exact this
  obtain ⟨A4, c4, hva⟩ := sl_form T4.out.arg
  rw [hN] at hva
  have b4 : W3.cell? ⟨b, 4, none⟩ = some (.slice A4 N c4) := by have := T4.out.blk.cell 4; rw [hva] at this; exact this
  have dn : decide (N ≤ nx) = false := decide_eq_false (by omega)
  have dn2 : decide ((N : Int) ≤ nx) = false := decide_eq_false (by omega)
  have HNX := hid (And.intro hnx (And.intro hN hva))
  clear hnx hN hva
  go_upto_region 16 with fail
  go_quiet (fail)
  go_wp2_with fail
  refine (TA.out _ (T4.out.below (below_drewN (Below.refl _ _) _))).mono ?_
  rintro e W5 ⟨rfl, hs, hk⟩
  have D5 := hid ((D4.out.kept (Kp.of_below T4.out.lt (below_drewN (Below.refl _ _) _)) hPb hFb).kept hk hPb hFb)
  have T5 := hid hs
  clear hs hk f7 p14 p18 p19 b5 b4 dn dn2
  go_upto_region 21 with fail
  refine wp_region_held_drew (S := fun w1 => Kp b W5 w1) (by kernel_rfl) ((Kp.refl b W5).drew) (fun h0 => ?_)
  have t0 := T5.out.drew
  generalize World.drew W5 = W6 at h0 t0 ⊢
  refine wpAnyH_take (i := 0) (fuel := 8) (v := .pointer (some ⟨b, 0, none⟩)) rfl (by kernel_rfl) (by kernel_rfl) (by kernel_rfl) (fun _ _ _ h => h) (Or.inl ⟨by rfl, by intro w1 hw1; go_simp⟩) h0 ?_
  try simp only [Act.put, List.getElem_toArray, List.getElem_cons_zero, List.setIfInBounds_toArray, List.set_cons_zero, List.set_cons_succ]
  refine wpAnyH_take (i := 1) (fuel := 7) (v := .pointer (some ⟨b, 0, none⟩)) rfl (by kernel_rfl) (by kernel_rfl) (by kernel_rfl) (fun _ _ _ h => h) (Or.inl ⟨by rfl, by intro w1 hw1; go_simp⟩) h0 ?_
  try simp only [Act.put, List.getElem_toArray, List.getElem_cons_zero, List.getElem_cons_succ, List.setIfInBounds_toArray, List.set_cons_zero, List.set_cons_succ]
  refine wpAnyH_take (i := 2) (fuel := 6) (v := .pointer (some ⟨b, 0, none⟩)) rfl (by kernel_rfl) (by kernel_rfl) (by kernel_rfl) (fun _ _ _ h => h) (Or.inl ⟨by rfl, by intro w1 hw1; go_simp⟩) h0 ?_
  try simp only [Act.put, List.getElem_toArray, List.getElem_cons_zero, List.getElem_cons_succ, List.setIfInBounds_toArray, List.set_cons_zero, List.set_cons_succ]
  refine wpAnyH_take (i := 3) (fuel := 5) (v := x) rfl (by kernel_rfl) (by kernel_rfl) (by kernel_rfl) (fun _ _ _ h => h) (Or.inl ⟨by rfl, by intro w1 hw1; go_simp⟩) h0 ?_
  try simp only [Act.put, List.getElem_toArray, List.getElem_cons_zero, List.getElem_cons_succ, List.setIfInBounds_toArray, List.set_cons_zero, List.set_cons_succ]
  refine wpAnyH_take (i := 4) (fuel := 4) (v := _) rfl (by kernel_rfl) (by kernel_rfl) (by kernel_rfl) (fun _ _ _ h => h) (yieldsIf_load_mid (by rfl) 94 (.tmp 4) rfl (P + 1) 0 rfl (sp8 pl (decide (n1 < 0)) sh sp ze (max n1 (-n1)) prec verb).toList _ (fun w1 h1 => fun j v hv => by rw [Nat.zero_add, (h1.kept (P + 1) _ _ hFb (by decide) D5.out.sp).cell]; simpa using hv) Tryz.underlying94 rfl spec_size) h0 ?_
  try simp only [Act.put, List.getElem_toArray, List.getElem_cons_zero, List.getElem_cons_succ, List.setIfInBounds_toArray, List.set_cons_zero, List.set_cons_succ]
  refine wpAnyH_take (i := 5) (fuel := 3) (v := .pointer (some ⟨b, 0, none⟩)) rfl (by kernel_rfl) (by kernel_rfl) (by kernel_rfl) (fun _ _ _ h => h) (Or.inl ⟨by rfl, by intro w1 hw1; go_simp⟩) h0 ?_
  try simp only [Act.put, List.getElem_toArray, List.getElem_cons_zero, List.getElem_cons_succ, List.setIfInBounds_toArray, List.set_cons_zero, List.set_cons_succ]
  refine wpAnyH_take (i := 6) (fuel := 2) (v := askF b) rfl (by kernel_rfl) (by kernel_rfl) (by kernel_rfl) (fun _ _ _ h => h) (Or.inl ⟨by rfl, by intro w1 hw1; go_simp⟩) h0 ?_
  try simp only [Act.put, List.getElem_toArray, List.getElem_cons_zero, List.getElem_cons_succ, List.setIfInBounds_toArray, List.set_cons_zero, List.set_cons_succ]
  refine wpAnyH_ready (fuel := 1) (rs := [7]) (by kernel_rfl) (by simp) ?_
  refine AllReadyH.cons rfl (fun K hK => ?_) AllReadyH.nil
  rw [if_pos (by rfl)]
  go_wp2_with fail
  refine (SH.out _ t0 (D5.out.kp.trans h0)).mono ?_
  rintro e W7 ⟨rfl, hb⟩
  have h1 : Kp b W5 W7 := h0.trans (Kp.of_below t0.lt hb)
  have t1 := t0.below hb
  clear hb t0
  refine hK.out _ _ h1 (fun _ => ?_)
  clear hK
  try simp only [Act.put, List.getElem_toArray, List.getElem_cons_zero, List.getElem_cons_succ, List.setIfInBounds_toArray, List.set_cons_zero, List.set_cons_succ]
  refine wpAnyH_ready (fuel := 0) (rs := [8]) (by kernel_rfl) (by simp) ?_
  refine AllReadyH.cons rfl (fun K hK => ?_) AllReadyH.nil
  rw [if_pos (by rfl)]
  have t2 := hid t1
  clear t1
  go_wp2_with fail
  refine (sput_any b s3 v va t _ t2.out HX.out.1 HX.out.2).mono ?_
  rintro e W8 ⟨rfl, v', t3, k3⟩
  have N := hid (And.intro t3 (D5.out.kp.trans (h1.trans k3)))
  refine hK.out _ _ (h1.trans k3) (fun _ => ?_)
  clear hK t3 k3 h1
  try simp only [Act.put, List.getElem_toArray, List.getElem_cons_zero, List.getElem_cons_succ, List.setIfInBounds_toArray, List.set_cons_zero, List.set_cons_succ]
  refine wpAnyH_done (by kernel_rfl) ?_ _
  go_wp2_with fail
  go_end0
  exact ⟨rfl, v', N.out.1, N.out.2⟩
set_option maxRecDepth 100000 in
set_option maxHeartbeats 8000000 in
theorem directive_stars (b : Nat) (s0 s1 s2 s3 : St) (v va x : Value) (k : Int) (text : ByteArray) (pl sh sp ze : Bool) (wid prec verb wn wak wan pn pak pan an : Int) (n1 : Int) (n2 : Int) (t : ByteArray) (w : World)
    (h : StAt w b s0 v va)
    (N1 : ∀ W, StAt W b s0 v va → Calls Tryz.prog 70 #[.pointer (some ⟨b, 0, none⟩), .agg #[.int .i64 2, .int .i64 wn, .int .i64 wak, .int .i64 wan], .int .i64 (-1000)] W fun e w' => e = .returned (.tuple #[.int .i64 n1, .bool true]) ∧ StAt w' b s1 v va ∧ Kp b W w')
    (N2 : ∀ W, StAt W b s1 v va → Calls Tryz.prog 70 #[.pointer (some ⟨b, 0, none⟩), .agg #[.int .i64 2, .int .i64 pn, .int .i64 pak, .int .i64 pan], .int .i64 0] W fun e w' => e = .returned (.tuple #[.int .i64 n2, .bool true]) ∧ StAt w' b s2 v va ∧ Kp b W w')
    (hv : verb ≠ 37) (hn1 : -1000 ≤ n1 ∧ n1 ≤ 1000)
    (TA : ∀ W, StAt W b s2 v va → Calls Tryz.prog 74 #[.pointer (some ⟨b, 0, none⟩), .agg #[.int .i64 1, .int .i64 an]] W fun e w' => e = .returned (.tuple #[x, .bool true]) ∧ StAt w' b s3 v va ∧ Kp b W w')
    (hal : s3.all.length ≤ 4611686018427387904) (ht : t.size ≤ 140737488355328)
    (SH : ∀ W, StAt W b s3 v va → Kp b w W → Calls Tryz.prog 50 #[x, .agg (sp8 pl (decide (n1 < 0)) sh sp ze (max n1 (-n1)) n2 verb), askF b] W fun e w' => e = .returned (.string t) ∧ Below W.heap.size W w') :
    Calls Tryz.prog 48 #[.pointer (some ⟨b, 0, none⟩), .agg #[.int .i64 k, .string text, .bool pl, .bool false, .bool sh, .bool sp, .bool ze, .int .i64 wid, .int .i64 prec, .int .i32 verb, .int .i64 2, .int .i64 wn, .int .i64 wak, .int .i64 wan, .int .i64 2, .int .i64 pn, .int .i64 pak, .int .i64 pan, .int .i64 1, .int .i64 an]] w
      fun e w' => e = .returned (.tuple #[]) ∧ ∃ v', StAt w' b { s3 with all := s3.all ++ t.data.toList } v' va ∧ Kp b w w' := by
  have hmf : ∀ (fn : Fn) (first cap : Array Value) (w : World), (Instr.makeFunc fn first cap).run Tryz.prog w = .ok (.func fn first cap) w := fun _ _ _ _ => rfl
  have N1 := hid N1
  have N2 := hid N2
  have TA := hid TA
  have SH := hid SH
  have HX := hid (And.intro hal ht)
  have hvb : (verb == 37) = false := by simpa using hv
  have hbw := h.lt
  have d0 : Dr w b w.heap.size (w.heap.size + 1) #[.int .i64 k, .string text, .bool pl, .bool false, .bool sh, .bool sp, .bool ze, .int .i64 wid, .int .i64 prec, .int .i32 verb, .int .i64 2, .int .i64 wn, .int .i64 wak, .int .i64 wan, .int .i64 2, .int .i64 pn, .int .i64 pak, .int .i64 pan, .int .i64 1, .int .i64 an] (sp8 pl false sh sp ze wid prec verb) ((w.alloc (.cells #[.int .i64 k, .string text, .bool pl, .bool false, .bool sh, .bool sp, .bool ze, .int .i64 wid, .int .i64 prec, .int .i32 verb, .int .i64 2, .int .i64 wn, .int .i64 wak, .int .i64 wan, .int .i64 2, .int .i64 pn, .int .i64 pak, .int .i64 pan, .int .i64 1, .int .i64 an] 100)).alloc (.cells (sp8 pl false sh sp ze wid prec verb) 94)) := by
    refine ⟨((Kp.refl b w).alloc hbw _).alloc (by simp; omega) _, (Blk.new w _ _).alloc _, ?_⟩
    have := Blk.new (w.alloc (.cells #[.int .i64 k, .string text, .bool pl, .bool false, .bool sh, .bool sp, .bool ze, .int .i64 wid, .int .i64 prec, .int .i32 verb, .int .i64 2, .int .i64 wn, .int .i64 wak, .int .i64 wan, .int .i64 2, .int .i64 pn, .int .i64 pak, .int .i64 pan, .int .i64 1, .int .i64 an] 100)) (sp8 pl false sh sp ze wid prec verb) 94
    rw [World.size_alloc] at this
    exact this
  have st0 := (h.below ((Below.refl w.heap.size w).alloc (Nat.le_refl _) (.cells #[.int .i64 k, .string text, .bool pl, .bool false, .bool sh, .bool sp, .bool ze, .int .i64 wid, .int .i64 prec, .int .i32 verb, .int .i64 2, .int .i64 wn, .int .i64 wak, .int .i64 wan, .int .i64 2, .int .i64 pn, .int .i64 pak, .int .i64 pan, .int .i64 1, .int .i64 an] 100))).below ((Below.refl _ _).alloc (Nat.le_refl _) (.cells (sp8 pl false sh sp ze wid prec verb) 94))
  have D0 := hid d0
  have T0 := hid st0
  have HBW := hid hbw
  clear hal ht hv d0 st0 h hbw
  go_enter Tryz.func48, Tryz.ntmps48
  go_wp2_with fail
  obtain ⟨W0, hW0⟩ : ∃ W0, ((w.alloc (.cells #[.int .i64 k, .string text, .bool pl, .bool false, .bool sh, .bool sp, .bool ze, .int .i64 wid, .int .i64 prec, .int .i32 verb, .int .i64 2, .int .i64 wn, .int .i64 wak, .int .i64 wan, .int .i64 2, .int .i64 pn, .int .i64 pak, .int .i64 pan, .int .i64 1, .int .i64 an] 100)).alloc (.cells (sp8 pl false sh sp ze wid prec verb) 94)) = W0 := ⟨_, rfl⟩
  obtain ⟨P, hP⟩ : ∃ P, w.heap.size = P := ⟨_, rfl⟩
  rw [hW0, hP] at D0
  rw [hW0] at T0 ⊢
  rw [hP]
  have HPP := hid hP
  clear hW0 hP
  have hPb : P ≠ b := by have := HBW.out; have := HPP.out; omega
  have hFb : P + 1 ≠ b := by have := HBW.out; have := HPP.out; omega
  have hPF : P ≠ P + 1 := by omega
  have hbF : b ≠ P + 1 := by omega
  refine (N1.out _ T0.out).mono ?_
  rintro e W1 ⟨rfl, hs, hk⟩
  have D1 := hid (D0.out.kept hk hPb hFb)
  have T1 := hid hs
  clear hs hk
  have p0 := D1.out.pc.cell 0
  have p1 := D1.out.pc.cell 1
  have p2 := D1.out.pc.cell 2
  have p3 := D1.out.pc.cell 3
  have p4 := D1.out.pc.cell 4
  have p5 := D1.out.pc.cell 5
  have p6 := D1.out.pc.cell 6
  have p7 := D1.out.pc.cell 7
  have p8 := D1.out.pc.cell 8
  have p9 := D1.out.pc.cell 9
  have p10 := D1.out.pc.cell 10
  have p11 := D1.out.pc.cell 11
  have p12 := D1.out.pc.cell 12
  have p13 := D1.out.pc.cell 13
  have p14 := D1.out.pc.cell 14
  have p15 := D1.out.pc.cell 15
  have p16 := D1.out.pc.cell 16
  have p17 := D1.out.pc.cell 17
  have p18 := D1.out.pc.cell 18
  have p19 := D1.out.pc.cell 19
  have f0 := D1.out.sp.cell 0
  have f1 := D1.out.sp.cell 1
  have f2 := D1.out.sp.cell 2
  have f3 := D1.out.sp.cell 3
  have f4 := D1.out.sp.cell 4
  have f5 := D1.out.sp.cell 5
  have f6 := D1.out.sp.cell 6
  have f7 := D1.out.sp.cell 7
  have g1 := D1.out.sp.frozen 1
  have g5 := D1.out.sp.frozen 5
  have d2 := (D1.out.set_ hPF (by have := HPP.out; omega) HBW.out 1 (.bool (decide (n1 < 0)))).set_ hPF (by have := HPP.out; omega) HBW.out 5 (.int .i64 (max n1 (-n1)))
  have d1 := D1.out.set_ hPF (by have := HPP.out; omega) HBW.out 1 (.bool (decide (n1 < 0)))
  have t1 := T1.out.far_spec D1.out.sp (i := 1) hFb (.bool (decide (n1 < 0)))
  have t2 := t1.far_spec d1.sp (i := 5) hFb (.int .i64 (max n1 (-n1)))
  have g5' := d1.sp.frozen 5
  have D2 : Hid (Dr w b P (P + 1) #[.int .i64 k, .string text, .bool pl, .bool false, .bool sh, .bool sp, .bool ze, .int .i64 wid, .int .i64 prec, .int .i32 verb, .int .i64 2, .int .i64 wn, .int .i64 wak, .int .i64 wan, .int .i64 2, .int .i64 pn, .int .i64 pak, .int .i64 pan, .int .i64 1, .int .i64 an] (sp8 pl (decide (n1 < 0)) sh sp ze (max n1 (-n1)) prec verb) _) := hid d2
  have T2 := hid t2
  clear t1 t2
  have r10 := d2.pc.cell 10
  have r14 := d2.pc.cell 14
  have r15 := d2.pc.cell 15
  have r16 := d2.pc.cell 16
  have r17 := d2.pc.cell 17
  clear d2 d1
  go_wp2_with fail
  obtain ⟨W2, hW2⟩ : ∃ W2, (W1.setCell ⟨P + 1, 1, none⟩ (.bool (decide (n1 < 0)))).setCell ⟨P + 1, 5, none⟩ (.int .i64 (max n1 (-n1))) = W2 := ⟨_, rfl⟩
  rw [hW2] at D2 T2 ⊢
  clear hW2 g1 g5 g5' p0 p1 p2 p3 p4 p5 p6 p7 p8 p9 p10 p11 p12 p13 p14 p15 p16 p17 p18 p19 f0 f1 f2 f3 f4 f5 f6 f7 r10 r14 r15 r16 r17
  refine (N2.out _ T2.out).mono ?_
  rintro e W3 ⟨rfl, hs, hk⟩
  have D3 := hid (D2.out.kept hk hPb hFb)
  have T3 := hid hs
  clear hs hk
  have f7 : W3.cell? ⟨P + 1, 7, none⟩ = some (.int .i32 verb) := D3.out.sp.cell 7
  have p14 := D3.out.pc.cell 14
  have p18 := D3.out.pc.cell 18
  have p19 := D3.out.pc.cell 19
  have f6 := D3.out.sp.cell 6
  have g6 := D3.out.sp.frozen 6
  have d4 := D3.out.set_ hPF (by have := HPP.out; omega) HBW.out 6 (.int .i64 n2)
  have t4 := T3.out.far_spec D3.out.sp (i := 6) hFb (.int .i64 n2)
  have f7' : (W3.setCell ⟨P + 1, 6, none⟩ (.int .i64 n2)).cell? ⟨P + 1, 7, none⟩ = some (.int .i32 verb) := d4.sp.cell 7
  have p18' := d4.pc.cell 18
  have p19' := d4.pc.cell 19
  have D4 : Hid (Dr w b P (P + 1) #[.int .i64 k, .string text, .bool pl, .bool false, .bool sh, .bool sp, .bool ze, .int .i64 wid, .int .i64 prec, .int .i32 verb, .int .i64 2, .int .i64 wn, .int .i64 wak, .int .i64 wan, .int .i64 2, .int .i64 pn, .int .i64 pak, .int .i64 pan, .int .i64 1, .int .i64 an] (sp8 pl (decide (n1 < 0)) sh sp ze (max n1 (-n1)) n2 verb) _) := hid d4
  have T4 := hid t4
  clear d4 t4
  go_upto_region 16 with fail
  go_quiet (fail)
  go_wp2_with fail
  refine (TA.out _ (T4.out.below (below_drewN (Below.refl _ _) _))).mono ?_
  rintro e W5 ⟨rfl, hs, hk⟩
  have D5 := hid ((D4.out.kept (Kp.of_below T4.out.lt (below_drewN (Below.refl _ _) _)) hPb hFb).kept hk hPb hFb)
  have T5 := hid hs
  clear hs hk f7 p14 p18 p19 f6 g6 f7' p18' p19'
  go_upto_region 21 with fail
  refine wp_region_held_drew (S := fun w1 => Kp b W5 w1) (by kernel_rfl) ((Kp.refl b W5).drew) (fun h0 => ?_)
  have t0 := T5.out.drew
  generalize World.drew W5 = W6 at h0 t0 ⊢
  refine wpAnyH_take (i := 0) (fuel := 8) (v := .pointer (some ⟨b, 0, none⟩)) rfl (by kernel_rfl) (by kernel_rfl) (by kernel_rfl) (fun _ _ _ h => h) (Or.inl ⟨by rfl, by intro w1 hw1; go_simp⟩) h0 ?_
  try simp only [Act.put, List.getElem_toArray, List.getElem_cons_zero, List.setIfInBounds_toArray, List.set_cons_zero, List.set_cons_succ]
  refine wpAnyH_take (i := 1) (fuel := 7) (v := .pointer (some ⟨b, 0, none⟩)) rfl (by kernel_rfl) (by kernel_rfl) (by kernel_rfl) (fun _ _ _ h => h) (Or.inl ⟨by rfl, by intro w1 hw1; go_simp⟩) h0 ?_
  try simp only [Act.put, List.getElem_toArray, List.getElem_cons_zero, List.getElem_cons_succ, List.setIfInBounds_toArray, List.set_cons_zero, List.set_cons_succ]
  refine wpAnyH_take (i := 2) (fuel := 6) (v := .pointer (some ⟨b, 0, none⟩)) rfl (by kernel_rfl) (by kernel_rfl) (by kernel_rfl) (fun _ _ _ h => h) (Or.inl ⟨by rfl, by intro w1 hw1; go_simp⟩) h0 ?_
  try simp only [Act.put, List.getElem_toArray, List.getElem_cons_zero, List.getElem_cons_succ, List.setIfInBounds_toArray, List.set_cons_zero, List.set_cons_succ]
  refine wpAnyH_take (i := 3) (fuel := 5) (v := x) rfl (by kernel_rfl) (by kernel_rfl) (by kernel_rfl) (fun _ _ _ h => h) (Or.inl ⟨by rfl, by intro w1 hw1; go_simp⟩) h0 ?_
  try simp only [Act.put, List.getElem_toArray, List.getElem_cons_zero, List.getElem_cons_succ, List.setIfInBounds_toArray, List.set_cons_zero, List.set_cons_succ]
  refine wpAnyH_take (i := 4) (fuel := 4) (v := _) rfl (by kernel_rfl) (by kernel_rfl) (by kernel_rfl) (fun _ _ _ h => h) (yieldsIf_load_mid (by rfl) 94 (.tmp 4) rfl (P + 1) 0 rfl (sp8 pl (decide (n1 < 0)) sh sp ze (max n1 (-n1)) n2 verb).toList _ (fun w1 h1 => fun j v hv => by rw [Nat.zero_add, (h1.kept (P + 1) _ _ hFb (by decide) D5.out.sp).cell]; simpa using hv) Tryz.underlying94 rfl spec_size) h0 ?_
  try simp only [Act.put, List.getElem_toArray, List.getElem_cons_zero, List.getElem_cons_succ, List.setIfInBounds_toArray, List.set_cons_zero, List.set_cons_succ]
  refine wpAnyH_take (i := 5) (fuel := 3) (v := .pointer (some ⟨b, 0, none⟩)) rfl (by kernel_rfl) (by kernel_rfl) (by kernel_rfl) (fun _ _ _ h => h) (Or.inl ⟨by rfl, by intro w1 hw1; go_simp⟩) h0 ?_
  try simp only [Act.put, List.getElem_toArray, List.getElem_cons_zero, List.getElem_cons_succ, List.setIfInBounds_toArray, List.set_cons_zero, List.set_cons_succ]
  refine wpAnyH_take (i := 6) (fuel := 2) (v := askF b) rfl (by kernel_rfl) (by kernel_rfl) (by kernel_rfl) (fun _ _ _ h => h) (Or.inl ⟨by rfl, by intro w1 hw1; go_simp⟩) h0 ?_
  try simp only [Act.put, List.getElem_toArray, List.getElem_cons_zero, List.getElem_cons_succ, List.setIfInBounds_toArray, List.set_cons_zero, List.set_cons_succ]
  refine wpAnyH_ready (fuel := 1) (rs := [7]) (by kernel_rfl) (by simp) ?_
  refine AllReadyH.cons rfl (fun K hK => ?_) AllReadyH.nil
  rw [if_pos (by rfl)]
  go_wp2_with fail
  refine (SH.out _ t0 (D5.out.kp.trans h0)).mono ?_
  rintro e W7 ⟨rfl, hb⟩
  have h1 : Kp b W5 W7 := h0.trans (Kp.of_below t0.lt hb)
  have t1 := t0.below hb
  clear hb t0
  refine hK.out _ _ h1 (fun _ => ?_)
  clear hK
  try simp only [Act.put, List.getElem_toArray, List.getElem_cons_zero, List.getElem_cons_succ, List.setIfInBounds_toArray, List.set_cons_zero, List.set_cons_succ]
  refine wpAnyH_ready (fuel := 0) (rs := [8]) (by kernel_rfl) (by simp) ?_
  refine AllReadyH.cons rfl (fun K hK => ?_) AllReadyH.nil
  rw [if_pos (by rfl)]
  have t2 := hid t1
  clear t1
  go_wp2_with fail
  refine (sput_any b s3 v va t _ t2.out HX.out.1 HX.out.2).mono ?_
  rintro e W8 ⟨rfl, v', t3, k3⟩
  have N := hid (And.intro t3 (D5.out.kp.trans (h1.trans k3)))
  refine hK.out _ _ (h1.trans k3) (fun _ => ?_)
  clear hK t3 k3 h1
  try simp only [Act.put, List.getElem_toArray, List.getElem_cons_zero, List.getElem_cons_succ, List.setIfInBounds_toArray, List.set_cons_zero, List.set_cons_succ]
  refine wpAnyH_done (by kernel_rfl) ?_ _
  go_wp2_with fail
  go_end0
  exact ⟨rfl, v', N.out.1, N.out.2⟩
end Go.Proofs.YtdjhmanccoekjaaGreatDoor
end

section
namespace Go.Proofs.YtdjhmanccoekjaaGreatDoor
open Go.RowKit Go.Proofs

theorem cellsL_at : ∀ (ps : List PP.Pc) (i : Nat) (p : PP.Pc), ps[i]? = some p → ∀ (j : Nat) (v : Value), (PR.pcV p (PR.txt p.text))[j]? = some v → (PR.cellsL ps)[i * 20 + j]? = some v
  | [], i, p, h, _, _, _ => by simp at h
  | q :: qs, 0, p, h, j, v, hv => by
    simp only [List.getElem?_cons_zero, Option.some.injEq] at h
    subst h
    have hj : j < 20 := by
      rcases Nat.lt_or_ge j 20 with q | q
      · exact q
      · rw [Array.getElem?_eq_none q] at hv; cases hv
    rw [Nat.zero_mul, Nat.zero_add, PR.cellsL, List.getElem?_append_left (by exact hj)]
    rw [Array.getElem?_toList]; exact hv
  | q :: qs, i + 1, p, h, j, v, hv => by
    rw [List.getElem?_cons_succ] at h
    have := cellsL_at qs i p h j v hv
    rw [PR.cellsL, List.getElem?_append_right (by show (20 : Nat) ≤ _; omega)]
    rw [show (i + 1) * 20 + j - ((PR.pcV q (PR.txt q.text)).toList).length = i * 20 + j by show (i + 1) * 20 + j - 20 = _; omega]
    exact this
theorem row_blk {w : World} {B n : Nat} {v : Value} {xs : List Value} (h : w.ownsRow B 100 20 v n xs) (hn : 0 < n) :
    ∃ g cap cur, v = .slice (some ⟨g, 0, none⟩) n cap ∧ B ≤ g ∧ Blk w g cur 100 ∧ n ≤ cap ∧ cap ≤ maxLen ∧ ∀ (j : Nat) u, xs[j]? = some u → cur[j]? = some u := by
  rcases h.2 with h0 | ⟨g, cap, cur, h1, h2, h3, h4, h5, h6, h7⟩
  · omega
  · refine ⟨g, cap, cur, h1, h2, h3, h4, h5, fun j u hu => ?_⟩
    rw [← Array.getElem?_toList]
    rw [← h7, List.getElem?_take] at hu
    split at hu
    · exact hu
    · cases hu
/-- What holds within Format's loop. -/
structure FmI (w : World) (b : Nat) (s : St) (v va : Value) (g : Nat) (cur : Array Value) (wr : World) : Prop where
  st : StAt wr b s v va
  kp : Kp b w wr
  row : Blk wr g cur 100
set_option maxRecDepth 100000 in
set_option maxHeartbeats 8000000 in
theorem format_any (b : Nat) (fmt : ByteArray) (ps : List PP.Pc) (S : Nat → St) (v va : Value) (w : World) (hT : Tabs w) (hf : fmt.size ≤ 100000) (hps : PP.parseL fmt.data.toList = ps) (hn : 0 < ps.length)
    (h : StAt w b (S 0) v va)
    (ST : ∀ i p, ps[i]? = some p → (S i).all.length ≤ 1000000 ∧ p.text.length ≤ 1000000 ∧ ((p.k = 0 ∧ S (i + 1) = { S i with all := (S i).all ++ p.text }) ∨
      (p.k = 1 ∧ ∀ W v, StAt W b (S i) v va → Kp b w W → Calls Tryz.prog 48 #[.pointer (some ⟨b, 0, none⟩), .agg (PR.pcV p (PR.txt p.text))] W fun e w' => e = .returned (.tuple #[]) ∧ ∃ v', StAt w' b (S (i + 1)) v' va ∧ Kp b W w')))
    (he : (S ps.length).reo = true ∨ (S ps.length).args.length ≤ (S ps.length).next) :
    Calls Tryz.prog 29 #[.pointer (some ⟨b, 0, none⟩), .string fmt] w fun e w' => e = .returned (.tuple #[]) ∧ ∃ v', StAt w' b (S ps.length) v' va ∧ Kp b w w' := by
  have PA := hid (PR.parse_any fmt w hf hT)
  have ST := hid ST
  have HE := hid he
  have H0 := hid h
  clear he h hT
  obtain ⟨n, hnn⟩ : ∃ n, ps.length = n := ⟨_, rfl⟩
  rw [hps] at PA
  rw [hnn] at hn HE ⊢
  go_enter Tryz.func29, Tryz.ntmps29
  go_wp2_with fail
  refine PA.out.mono ?_
  rintro e w1 ⟨vp, rfl, ho, hb⟩
  rw [hnn] at ho
  obtain ⟨g, cap, cur, rfl, hg, hrow, hc1, hc2, hcur⟩ := row_blk ho hn
  have hgb : g ≠ b := by have := H0.out.lt; omega
  have I0 : Hid (FmI w b (S 0) v va g cur w1) := ⟨H0.out.below hb, Kp.of_below H0.out.lt hb, hrow⟩
  have HC := hid (And.intro hcur (And.intro hps hnn))
  have hnm : n ≤ 9223372036854775807 := by unfold maxLen at hc2; omega
  clear ho hb hrow hcur hps hnn hg hc1 hc2
  go_wp2_with fail
  go_loopw [13] (fun iv wr => ∃ (i : Nat) (v' : Value), iv = .int .i64 i ∧ i ≤ n ∧ Hid (FmI w b (S i) v' va g cur wr)) (fun iv _ => n - (intOf iv).toNat)
  case atStart => exact ⟨0, v, rfl, Nat.zero_le _, I0⟩
  case round =>
    obtain ⟨i, v', rfl, hi, hI⟩ := hrel
    by_cases hin : i < n
    · obtain ⟨p, hp⟩ : ∃ p, ps[i]? = some p := ⟨ps[i]'(by rw [HC.out.2.2]; exact hin), List.getElem?_eq_getElem _⟩
      obtain ⟨hz1, hz2, hst⟩ := ST.out i p hp
      have hcell : ∀ (j : Nat) v, (PR.pcV p (PR.txt p.text))[j]? = some v → wr.cell? ⟨g, i * 20 + j, none⟩ = some v := fun j v hv => by
        rw [hI.out.row.cell]
        exact HC.out.1 _ _ (cellsL_at ps i p hp j v hv)
      have HCL := hid hcell
      have HS := hid hst
      have HZ := hid (And.intro hz1 hz2)
      clear hcell hst hz1 hz2 hp
      go_upto_region 2 with fail
      refine wp_region_list ?_
      refine wpList_plain rfl fun K hK => ?_
      have HK := hid hK
      clear hK
      go_wp2_with fail
      refine HK.out _ _ ?_
      clear HK
      refine wpList_load_mid rfl 100 (.tmp 15) rfl g (i * 20) rfl (PR.pcV p (PR.txt p.text)).toList _ (fun j v hv => HCL.out j v (by simpa using hv)) Tryz.underlying100 rfl PR.piece_size ?_
      refine wpList_plain rfl fun K hK => ?_
      have HK := hid hK
      clear hK
      go_wp2_with fail
      refine HK.out _ _ ?_
      clear HK
      have hG := Blk.new wr PR.pc0 100
      refine wpList_store_rowTo rfl 100 _ _ rfl rfl wr.heap.size (PR.pcV p (PR.txt p.text)) rfl rfl 100 PR.pc0 hG PR.piece_size rfl (PR.pcV_one _ _) ?_
      have hG2 := hG.setRow (PR.pcV p (PR.txt p.text))
      have b3 : Below wr.heap.size wr ((wr.alloc (.cells PR.pc0 100)).setRow wr.heap.size (PR.pcV p (PR.txt p.text))) := below_setRow ((Below.refl _ _).alloc (Nat.le_refl _) _) wr.heap.size (Nat.le_refl _) _
      obtain ⟨W2, hW2⟩ : ∃ W2, (wr.alloc (.cells PR.pc0 100)).setRow wr.heap.size (PR.pcV p (PR.txt p.text)) = W2 := ⟨_, rfl⟩
      rw [hW2] at hG2 b3 ⊢
      have hbw := hI.out.st.lt
      obtain ⟨G, hGG⟩ : ∃ G, wr.heap.size = G := ⟨_, rfl⟩
      rw [hGG] at hG2 ⊢
      have hGb : G ≠ b := by omega
      have I2 := hid (show FmI w b (S i) v' va g cur W2 from ⟨hI.out.st.below b3, hI.out.kp.trans (Kp.of_below hbw b3), hI.out.row.below b3 hI.out.row.lt⟩)
      have GG := hid hG2
      have c0 : W2.cell? ⟨G, 0, none⟩ = some (.int .i64 p.k) := hG2.cell 0
      clear hG hG2 hW2 hGG b3 hbw HCL
      refine wpList_nil ?_
      rcases HS.out with ⟨hk0, hsi⟩ | ⟨hk1, hdi⟩
      · rw [hk0] at c0
        go_upto_region 6 with fail
        refine wp_region_held_drew (S := fun w1 => Kp b W2 w1) (by kernel_rfl) ((Kp.refl b W2).drew) (fun h0 => ?_)
        have t0 := I2.out.st.drew
        generalize World.drew W2 = W3 at h0 t0 ⊢
        refine wpAnyH_take (i := 0) (fuel := 5) (v := .pointer (some ⟨b, 0, none⟩)) rfl (by kernel_rfl) (by kernel_rfl) (by kernel_rfl) (fun _ _ _ h => h) (Or.inl ⟨by rfl, by intro w1 hw1; go_simp⟩) h0 ?_
        try simp only [Act.put, List.getElem_toArray, List.getElem_cons_zero, List.setIfInBounds_toArray, List.set_cons_zero, List.set_cons_succ]
        refine wpAnyH_take (i := 1) (fuel := 4) (v := .pointer (some ⟨b, 0, none⟩)) rfl (by kernel_rfl) (by kernel_rfl) (by kernel_rfl) (fun _ _ _ h => h) (Or.inl ⟨by rfl, by intro w1 hw1; go_simp⟩) h0 ?_
        try simp only [Act.put, List.getElem_toArray, List.getElem_cons_zero, List.getElem_cons_succ, List.setIfInBounds_toArray, List.set_cons_zero, List.set_cons_succ]
        refine wpAnyH_take (i := 2) (fuel := 3) (v := .pointer (some ⟨b, 0, none⟩)) rfl (by kernel_rfl) (by kernel_rfl) (by kernel_rfl) (fun _ _ _ h => h) (Or.inl ⟨by rfl, by intro w1 hw1; go_simp⟩) h0 ?_
        try simp only [Act.put, List.getElem_toArray, List.getElem_cons_zero, List.getElem_cons_succ, List.setIfInBounds_toArray, List.set_cons_zero, List.set_cons_succ]
        refine wpAnyH_take (i := 3) (fuel := 2) (v := .pointer (some ⟨G, 1, none⟩)) rfl (by kernel_rfl) (by kernel_rfl) (by kernel_rfl) (fun _ _ _ h => h) (Or.inl ⟨by rfl, by intro w1 hw1; go_simp⟩) h0 ?_
        try simp only [Act.put, List.getElem_toArray, List.getElem_cons_zero, List.getElem_cons_succ, List.setIfInBounds_toArray, List.set_cons_zero, List.set_cons_succ]
        refine wpAnyH_take (i := 4) (fuel := 1) (v := .string (PR.txt p.text)) rfl (by kernel_rfl) (by kernel_rfl) (by kernel_rfl) (fun _ _ _ h => h) (Or.inl ⟨by rfl, by intro w1 hw1; have hq : w1.cell? ⟨G, 1, none⟩ = some (.string (PR.txt p.text)) := (hw1.kept G _ _ hGb (by decide) GG.out).cell 1; go_simp⟩) h0 ?_
        try simp only [Act.put, List.getElem_toArray, List.getElem_cons_zero, List.getElem_cons_succ, List.setIfInBounds_toArray, List.set_cons_zero, List.set_cons_succ]
        refine wpAnyH_ready (fuel := 0) (rs := [5]) (by kernel_rfl) (by simp) ?_
        refine AllReadyH.cons rfl (fun K hK => ?_) AllReadyH.nil
        rw [if_pos (by rfl)]
        have t2 := hid t0
        clear t0
        go_wp2_with fail
        refine (sput_any b (S i) v' va (PR.txt p.text) _ t2.out (by have := HZ.out.1; omega) (by have := HZ.out.2; rw [Utf.size_eq]; show p.text.length ≤ _; omega)).mono ?_
        rintro e W8 ⟨rfl, v'', t3, k3⟩
        have t4 : StAt W8 b (S (i + 1)) v'' va := by rw [hsi]; exact t3
        have k4 := h0.trans k3
        have N := hid (show FmI w b (S (i + 1)) v'' va g cur W8 from ⟨t4, I2.out.kp.trans k4, k4.kept g _ _ hgb (by decide) I2.out.row⟩)
        refine hK.out _ _ k4 (fun _ => ?_)
        clear hK t3 k3 k4 t4 h0 t2
        try simp only [Act.put, List.getElem_toArray, List.getElem_cons_zero, List.getElem_cons_succ, List.setIfInBounds_toArray, List.set_cons_zero, List.set_cons_succ]
        refine wpAnyH_done (by kernel_rfl) ?_ _
        go_wp2_with fail
        go_roundw
        case rel => exact ⟨i + 1, v'', by go_num, by omega, N⟩
        case measure => simp [intOf]; omega
      · rw [hk1] at c0
        have HD := hid hdi
        clear hdi hk1
        go_upto_region 4 with fail
        refine wp_region_list ?_
        refine wpList_plain rfl fun K hK => ?_
        have HK := hid hK
        clear hK
        go_wp2_with fail
        refine HK.out _ _ ?_
        clear HK
        refine wpList_load_mid rfl 100 (.tmp 5) rfl G 0 rfl (PR.pcV p (PR.txt p.text)).toList _ (fun j v hv => by rw [Nat.zero_add, GG.out.cell]; simpa using hv) Tryz.underlying100 rfl PR.piece_size ?_
        refine wpList_plain rfl fun K hK => ?_
        have HK := hid hK
        clear hK
        go_wp2_with fail
        refine (HD.out _ _ I2.out.st I2.out.kp).mono ?_
        rintro e W3 ⟨rfl, v'', hs, hk⟩
        have N := hid (show FmI w b (S (i + 1)) v'' va g cur W3 from ⟨hs, I2.out.kp.trans hk, hk.kept g _ _ hgb (by decide) I2.out.row⟩)
        clear hs hk
        refine HK.out _ _ ?_
        clear HK
        refine wpList_nil ?_
        go_wp2_with fail
        go_roundw
        case rel => exact ⟨i + 1, v'', by go_num, by omega, N⟩
        case measure => simp [intOf]; omega
    · obtain rfl : i = n := by omega
      have b6 := hI.out.st.blk.cell 6
      have b5 := hI.out.st.blk.cell 5
      have b4 := hI.out.st.blk.cell 4
      obtain ⟨A4, c4, hva⟩ := sl_form hI.out.st.arg
      obtain ⟨N, hN⟩ : ∃ N, (S i).args.length = N := ⟨_, rfl⟩
      obtain ⟨nx, hnx⟩ : ∃ nx, (S i).next = nx := ⟨_, rfl⟩
      obtain ⟨r, hr⟩ : ∃ r, (S i).reo = r := ⟨_, rfl⟩
      rw [hN] at hva
      rw [hva] at b4
      rw [hnx] at b5
      rw [hr] at b6
      have hE := HE.out
      rw [hr, hN, hnx] at hE
      have b4' : wr.cell? ⟨b, 4, none⟩ = some (.slice A4 N c4) := b4
      have b5' : wr.cell? ⟨b, 5, none⟩ = some (.int .i64 nx) := b5
      have b6' : wr.cell? ⟨b, 6, none⟩ = some (.bool r) := b6
      clear b4 b5 b6 hN hnx hr hva HE
      cases r
      · have dn : decide ((N : Int) ≤ nx) = true := decide_eq_true (hE.elim (fun h => by cases h) id)
        have dg : decide (nx ≥ (N : Int)) = true := dn
        clear hE
        go_upto_region 10 with fail
        go_quiet (fail)
        go_wp2_with fail
        refine bodyPost_ret (v := .tuple #[]) (results_none rfl _ _ _) rfl ?_
        exact ⟨rfl, v', hI.out.st.below (below_drewN (Below.refl _ _) _), hI.out.kp.drewN _⟩
      · clear hE
        go_upto_region 10 with fail
        go_quiet (fail)
        go_wp2_with fail
        refine bodyPost_ret (v := .tuple #[]) (results_none rfl _ _ _) rfl ?_
        exact ⟨rfl, v', hI.out.st.below (below_drewN (Below.refl _ _) _), hI.out.kp.drewN _⟩
end Go.Proofs.YtdjhmanccoekjaaGreatDoor
end

section
namespace Go.Proofs.YtdjhmanccoekjaaGreatDoor
open Go.RowKit Go.Proofs

theorem info_val : (Tryz.prog.info? 103).map (fun i => (i.zero, i.size, i.bytes)) = some (some .nilIface, 1, 16) := by kernel_rfl
theorem info_partsV {e : TypeId} {z : Value} {s b : Nat} (h : (Tryz.prog.info? e).map (fun i => (i.zero, i.size, i.bytes)) = some (some z, s, b)) : ∃ i, Tryz.prog.info? e = some i ∧ i.zero = some z ∧ i.size = s ∧ i.bytes = b := by
  cases hi : Tryz.prog.info? e with
  | none => rw [hi] at h; cases h
  | some i =>
    rw [hi] at h
    simp only [Option.map_some, Option.some.injEq, Prod.mk.injEq] at h
    exact ⟨i, rfl, h.1, h.2.1, h.2.2⟩
/-- append of one value, in a region of one order. -/
theorem wpList_pushV {ops : Array Oper} {rest : List Oper} {ob oa : Oper} {a : Act} {w : World} {Q : Exit → Act → World → Prop} (hgb : ob.guard = none) (hga : oa.guard = none) (x y : Operand) (b : Tmp)
    (hob : ob.op = .buildSlice 85 1 #[(0, x)]) (hdb : ob.dst = some b) (hoa : oa.op = .call { callee := .builtin .append, args := #[y, .tmp b], argTypes := #[85, 85] })
    (u : Value) (hx : a.eval x = u) (h1u : u.oneCell' = true) (hf : Instr.fill (fun i => some (i * 1, 1)) ((Array.range (1 * 1)).map (#[Value.nilIface][· % #[Value.nilIface].size]!)) [(0, u)] = some #[u])
    (B : Nat) (v : Value) (n : Nat) (xs : List Value) (sl : Value) (hsl : sl = .slice (some ⟨w.heap.size, 0, none⟩) 1 1) (hy : (a.put (some b) sl).eval y = v) (hbt : (a.put (some b) sl).eval (.tmp b) = sl) (hown : w.ownsRow B 103 1 v n xs) (hB : B ≤ w.heap.size) (hn : n ≤ 100000)
    (h : ∀ v' w', w'.ownsRow B 103 1 v' (n + 1) (xs ++ [u]) → (w.alloc (.cells #[u] 103)).grownBy w' v.ownBlock → wpList Tryz.prog ops Q rest ((a.put (some b) sl).put oa.dst v') w') : wpList Tryz.prog ops Q (ob :: oa :: rest) a w := by
  obtain ⟨i0, hi, hz0, hz1, hz2⟩ := info_partsV info_val
  refine wpList_buildSlice hgb 85 103 1 #[(0, x)] hob #[u] i0 .nilIface Tryz.underlying85 hi hz0 (by rw [hz1]; decide) (by rw [hz1]; decide) ?_ ?_
  · rw [hz1]
    simp only [List.map_toArray, List.map_cons, List.map_nil, hx]
    exact hf
  · rw [hdb, ← hsl]
    have hown1 : (w.alloc (.cells #[u] 103)).ownsRow B 103 1 v n xs := hown.alloc _
    refine wpList_append_own (P := Tryz.prog) (w := w.alloc (.cells #[u] 103)) hga y (.tmp b) 85 hoa B 103 i0 .nilIface 1 16 Tryz.underlying85 hi hz0 hz1 hz2 rfl (by decide) v n xs hy hown1 ⟨w.heap.size, 0, none⟩ 1 1 [u] (by rw [hbt, hsl]) rfl ?_ ?_ (by unfold maxLen; omega) (by omega) (by simp; omega) ?_
    · intro j u' hu
      rw [Addr.add_mid, Nat.zero_add, (Blk.new w #[u] 103).cell]
      cases j with
      | zero => simpa using hu
      | succ j => simp at hu
    · intro u' hu
      simp only [List.mem_singleton] at hu
      rw [hu]; exact h1u
    · intro v' w' h2 h3 _
      exact h v' w' h2 h3
theorem fill_iface (T : TypeId) (x : Value) : Instr.fill (fun i => some (i * 1, 1)) ((Array.range (1 * 1)).map (#[Value.nilIface][· % #[Value.nilIface].size]!)) [(0, .iface T x)] = some #[.iface T x] := by kernel_rfl
theorem fill_nil : Instr.fill (fun i => some (i * 1, 1)) ((Array.range (1 * 1)).map (#[Value.nilIface][· % #[Value.nilIface].size]!)) [(0, .nilIface)] = some #[.nilIface] := by kernel_rfl
set_option maxRecDepth 100000 in
set_option maxHeartbeats 4000000 in
theorem sreset (b : Nat) (w : World) (st : St) (h : StAt w b st sliceN sliceN) (hs : st = ⟨[], 0, sliceN, [], 0, false⟩) :
    Calls Tryz.prog 64 #[.pointer (some ⟨b, 0, none⟩)] w fun e w' => e = .returned (.tuple #[]) ∧ StAt w' b st sliceN sliceN ∧ Kp b w w' := by
  subst hs
  have c0 : w.cell? ⟨b, 0, none⟩ = some sliceN := h.blk.cell 0
  have c1 : w.cell? ⟨b, 1, none⟩ = some (.int .i64 0) := h.blk.cell 1
  have f0 := h.blk.frozen 0
  have f1 := h.blk.frozen 1
  have s2 := (h.set_ 0 sliceN ⟨[], 0, sliceN, [], 0, false⟩ rfl rfl rfl).set_ 1 (.int .i64 0) ⟨[], 0, sliceN, [], 0, false⟩ rfl rfl rfl
  have k2 := ((Kp.refl b w).set_ 0 sliceN).set_ 1 (.int .i64 0)
  have N := hid (And.intro s2 k2)
  clear s2 k2 h
  go_enter Tryz.func64, Tryz.ntmps64
  go_wp2_with fail
  all_goals go_end0
  all_goals exact ⟨rfl, N.out⟩
set_option maxRecDepth 100000 in
set_option maxHeartbeats 4000000 in
theorem begin_leaf (b : Nat) (A : Option Addr) (N cap : Nat) (sl : Sl) (ds : List De) (us : List Value) (w : World) (h : StAt w b ⟨[], 0, sliceN, [], 0, false⟩ sliceN sliceN) (hA : ArgsAt w sl ds) (hn : ds.length ≤ 16) (hcap : ds.length ≤ sl.cap) (hu : us.length = ds.length)
    (hgb : ∀ g o, sl.a = some ⟨g, o, none⟩ → ds ≠ [] → g < b)
    (BU : ∀ (i : Nat) d u, ds[i]? = some d → us[i]? = some u → (∃ T x, u = .iface T x) ∧ ∀ W, Below b w W → Calls Tryz.prog 65 #[.agg (deV d)] W fun e w' => e = .returned (.tuple #[u, .int .i64 0]) ∧ Below W.heap.size W w') :
    Calls Tryz.prog 42 #[.pointer (some ⟨b, 0, none⟩), .int .i64 0, .slice A N cap, slV sl] w fun e w' => e = .returned (.tuple #[]) ∧ ∃ va, StAt w' b ⟨[], 0, .slice A N cap, us, 0, false⟩ sliceN va ∧ Below b w w' := by
  obtain ⟨Aa, na, capa⟩ := sl
  obtain ⟨hAn, hA2⟩ := hA
  simp only at hAn hA2 hgb hcap
  subst hAn
  obtain ⟨m, hm⟩ : ∃ m, ds.length = m := ⟨_, rfl⟩
  have HM := hid hm
  rw [hm] at hn hcap hu ⊢
  clear hm
  have RE := hid (sreset b w _ h rfl)
  have BU := hid BU
  have HA := hid (And.intro hA2 hgb)
  have hlt := h.lt
  clear h hA2 hgb
  have hmin : min (m : Int) 16 = m := by omega
  have hcp : ((m : Nat) : Int).toNat ≤ capa := by omega
  show Calls Tryz.prog _ #[.pointer (some ⟨b, 0, none⟩), .int .i64 0, .slice A N cap, .slice Aa m capa] w _
  go_enter Tryz.func42, Tryz.ntmps42
  go_wp2_with fail
  refine RE.out.mono ?_
  rintro e w1 ⟨rfl, hs, hk⟩
  have f2 := hs.blk.frozen 2
  have st1 := hs
  have s2 := st1.set_ 2 (.int .i64 0) ⟨[], 0, sliceN, [], 0, false⟩ rfl rfl rfl
  have s3 := s2.set_ 3 (.slice A N cap) ⟨[], 0, .slice A N cap, [], 0, false⟩ rfl rfl rfl
  have s5 := s3.set_ 5 (.int .i64 0) ⟨[], 0, .slice A N cap, [], 0, false⟩ rfl rfl rfl
  have s6 := s5.set_ 6 (.bool false) ⟨[], 0, .slice A N cap, [], 0, false⟩ rfl rfl rfl
  have s4 := s6.set_ 4 sliceN ⟨[], 0, .slice A N cap, [], 0, false⟩ rfl rfl rfl
  have k4 := ((((hk.set_ 2 (.int .i64 0)).set_ 3 (.slice A N cap)).set_ 5 (.int .i64 0)).set_ 6 (.bool false)).set_ 4 sliceN
  have c2 : w1.cell? ⟨b, 2, none⟩ = some (.int .i64 0) := st1.blk.cell 2
  have c3 := s2.blk.cell 3
  have f3 := s2.blk.frozen 3
  have c5 := s3.blk.cell 5
  have f5 := s3.blk.frozen 5
  have c6 := s5.blk.cell 6
  have f6 := s5.blk.frozen 6
  have c4 := s6.blk.cell 4
  have f4 := s6.blk.frozen 4
  have N0 := hid (And.intro s4 k4)
  clear st1 s2 s3 s5 s6 s4 k4 hs hk
  go_wp2_with fail
  obtain ⟨W2, hW2⟩ : ∃ W2, ((((w1.setCell ⟨b, 2, none⟩ (.int .i64 0)).setCell ⟨b, 3, none⟩ (.slice A N cap)).setCell ⟨b, 5, none⟩ (.int .i64 0)).setCell ⟨b, 6, none⟩ (.bool false)).setCell ⟨b, 4, none⟩ sliceN = W2 := ⟨_, rfl⟩
  rw [hW2] at N0 ⊢
  have I0 : Hid (StAt W2 b ⟨[], 0, .slice A N cap, us.take 0, 0, false⟩ sliceN sliceN ∧ Below b w W2) := ⟨N0.out.1, N0.out.2.below (Nat.le_refl _)⟩
  clear hW2 f2 c2 c3 f3 c5 f5 c6 f6 c4 f4 N0
  go_loopw [44] (fun iv wr => ∃ (i : Nat) (va : Value), iv = .int .i64 i ∧ i ≤ m ∧ Hid (StAt wr b ⟨[], 0, .slice A N cap, us.take i, 0, false⟩ sliceN va ∧ Below b w wr)) (fun iv _ => m - (intOf iv).toNat)
  case atStart => exact ⟨0, sliceN, rfl, Nat.zero_le _, I0⟩
  case round =>
    obtain ⟨i, va, rfl, hi, hI⟩ := hrel
    by_cases him : i < m
    · obtain ⟨d, hd⟩ : ∃ d, ds[i]? = some d := ⟨_, List.getElem?_eq_getElem (by rw [HM.out]; exact him)⟩
      obtain ⟨u, hu'⟩ : ∃ u, us[i]? = some u := ⟨_, List.getElem?_eq_getElem (by rw [hu]; exact him)⟩
      obtain ⟨⟨T, x, rfl⟩, BUd⟩ := BU.out i d u hd hu'
      have hne : ds ≠ [] := by intro e; rw [e] at hd; simp at hd
      obtain ⟨g, o, rfl, hg, hc⟩ := HA.out.1 hne
      have hgb := HA.out.2 g o rfl hne
      have HCL := hid (fun (j : Nat) v (hv : (deV d)[j]? = some v) => show wr.cell? ⟨g, o + i * 8 + j, none⟩ = some v from (hI.out.2.cell (p := ⟨g, o + i * 8 + j, none⟩) hgb).trans (hc i d hd j v hv))
      have BD := hid BUd
      have HTK : Hid (us.take (i + 1) = us.take i ++ [.iface T x]) := hid (by rw [List.take_add_one, hu']; rfl)
      have HLT : Hid ((us.take i).length = i) := hid (by rw [List.length_take]; omega)
      clear hd hu' BUd hc hg hne
      go_upto_region 5 with fail
      refine wp_region_list ?_
      refine wpList_plain rfl fun K hK => ?_
      have HK := hid hK
      clear hK
      go_wp2_with fail
      refine HK.out _ _ ?_
      clear HK
      refine wpList_load_mid rfl 29 (.tmp 46) rfl g (o + i * 8) rfl (deV d).toList _ (fun j v hv => HCL.out j v (by simpa using hv)) Tryz.underlying29 rfl desc_size ?_
      refine wpList_plain rfl fun K hK => ?_
      have HK := hid hK
      clear hK
      go_wp2_with fail
      refine HK.out _ _ ?_
      clear HK
      have hG := Blk.new wr de0 29
      refine wpList_store_rowTo rfl 29 _ _ rfl rfl wr.heap.size (deV d) rfl rfl 29 de0 hG desc_size rfl (deV_one _) ?_
      have hG2 := hG.setRow (deV d)
      have b3 : Below wr.heap.size wr ((wr.alloc (.cells de0 29)).setRow wr.heap.size (deV d)) := below_setRow ((Below.refl _ _).alloc (Nat.le_refl _) _) wr.heap.size (Nat.le_refl _) _
      obtain ⟨W3, hW3⟩ : ∃ W3, (wr.alloc (.cells de0 29)).setRow wr.heap.size (deV d) = W3 := ⟨_, rfl⟩
      rw [hW3] at hG2 b3 ⊢
      have hbw := hI.out.1.lt
      obtain ⟨G, hGG⟩ : ∃ G, wr.heap.size = G := ⟨_, rfl⟩
      rw [hGG] at hG2 ⊢
      have S3 := hid (show StAt W3 b ⟨[], 0, .slice A N cap, us.take i, 0, false⟩ sliceN va ∧ Below b w W3 from ⟨hI.out.1.below b3, hI.out.2.trans (b3.mono (by omega))⟩)
      have e0 := hG2.cell 0
      have e1 := hG2.cell 1
      have e2 := hG2.cell 2
      have e3 := hG2.cell 3
      have e4 := hG2.cell 4
      have e5 := hG2.cell 5
      have e6 := hG2.cell 6
      have e7 := hG2.cell 7
      clear hG hG2 hW3 hGG b3 hbw HCL
      refine wpList_nil ?_
      go_wp2_with fail
      refine (BD.out _ S3.out.2).mono ?_
      rintro e W4 ⟨rfl, hb⟩
      have S4 := hid (show StAt W4 b ⟨[], 0, .slice A N cap, us.take i, 0, false⟩ sliceN va ∧ Below b w W4 from ⟨S3.out.1.below hb, S3.out.2.trans (hb.mono (by have := S3.out.1.lt; omega))⟩)
      clear hb e0 e1 e2 e3 e4 e5 e6 e7
      have c4 := S4.out.1.blk.cell 4
      go_upto_region 7 with fail
      refine wp_region_list ?_
      refine wpList_plain rfl fun K hK => ?_
      have HK := hid hK
      clear hK
      go_wp2_with fail
      refine HK.out _ _ ?_
      clear HK
      refine wpList_plain rfl fun K hK => ?_
      have HK := hid hK
      clear hK
      go_wp2_with fail
      refine HK.out _ _ ?_
      clear HK
      refine wpList_plain rfl fun K hK => ?_
      have HK := hid hK
      clear hK
      go_wp2_with fail
      refine HK.out _ _ ?_
      clear HK
      refine wpList_plain rfl fun K hK => ?_
      have HK := hid hK
      clear hK
      go_wp2_with fail
      refine HK.out _ _ ?_
      clear HK
      refine wpList_plain rfl fun K hK => ?_
      have HK := hid hK
      clear hK
      go_wp2_with fail
      refine HK.out _ _ ?_
      clear HK
      refine wpList_plain rfl fun K hK => ?_
      have HK := hid hK
      clear hK
      go_wp2_with fail
      refine HK.out _ _ ?_
      clear HK
      have hown : W4.ownsRow (b + 1) 103 1 va i (us.take i) := by have := S4.out.1.arg; rw [show (⟨[], 0, .slice A N cap, us.take i, 0, false⟩ : St).args.length = i from HLT.out] at this; exact this
      refine wpList_pushV rfl rfl (.tmp 58) (.tmp 57) 59 rfl rfl rfl (.iface T x) rfl rfl (fill_iface T x) (b + 1) va i (us.take i) _ rfl rfl rfl hown (by have := S4.out.1.lt; omega) (by omega) ?_
      intro va' W5 ho5 hg5
      have hb5 : Below (b + 1) W4 W5 := own_grown hown ((Below.refl (b + 1) W4).alloc (by have := S4.out.1.lt; omega) _) (by have := S4.out.1.lt; simp; omega) hg5
      obtain ⟨A5, c5, rfl⟩ := sl_form ho5
      have bk5 := S4.out.1.blk.below hb5 (by omega)
      have f4 := bk5.frozen 4
      have k4 := bk5.cell 4
      have S6 : StAt (W5.setCell ⟨b, 4, none⟩ (.slice A5 (i + 1) c5)) b ⟨[], 0, .slice A N cap, us.take (i + 1), 0, false⟩ sliceN (.slice A5 (i + 1) c5) := by
        refine ⟨bk5.set_ 4 _, ⟨by simp [bc], .inl ⟨rfl, by simp⟩⟩, ?_⟩
        have := own_set' ho5 (p := ⟨b, 4, none⟩) (by show b < b + 1; omega) (.slice A5 (i + 1) c5)
        rw [← HTK.out] at this
        show (World.setCell _ _ _).ownsRow _ _ _ _ (us.take (i + 1)).length _
        rw [show (us.take (i + 1)).length = i + 1 by rw [HTK.out, List.length_append, HLT.out]; rfl]
        exact this
      have N6 := hid (And.intro S6 (S4.out.2.trans ((hb5.mono (by omega)).trans ((Below.refl b W5).setCell (p := ⟨b, 4, none⟩) (Nat.le_refl _) (.slice A5 (i + 1) c5)))))
      clear S6 bk5 hb5 ho5 hg5 hown c4
      refine wpList_plain rfl fun K hK => ?_
      have HK := hid hK
      clear hK
      go_wp2_with fail
      refine HK.out _ _ ?_
      clear HK
      refine wpList_plain rfl fun K hK => ?_
      have HK := hid hK
      clear hK
      go_wp2_with fail
      refine HK.out _ _ ?_
      clear HK
      refine wpList_plain rfl fun K hK => ?_
      have HK := hid hK
      clear hK
      go_wp2_with fail
      refine HK.out _ _ ?_
      clear HK
      refine wpList_nil ?_
      go_wp2_with fail
      go_roundw
      case rel => exact ⟨i + 1, _, by go_num, by omega, N6⟩
      case measure => simp [intOf]; omega
    · obtain rfl : i = m := by omega
      have hut : us.take i = us := List.take_of_length_le (by omega)
      have hF := hI.out
      rw [hut] at hF
      have HF := hid hF
      clear hF hut
      go_wp2_with fail
      go_end0
      exact ⟨rfl, va, HF.out⟩
end Go.Proofs.YtdjhmanccoekjaaGreatDoor
end
