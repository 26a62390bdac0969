/-
  Texts of this claim, joined: TP, TQ, TZ, T1, T2, T3.
-/
import Derived.Lib.TrimByte
import Derived.Laws.AppendOwn
import Derived.Laws.OwnMore
import Derived.Great.BuildSlice
import Derived.Deep.CutBlock
import Derived.Deep.MidRow
import Derived.Laws.Bits64
import Derived.Test.YtdjhmanccoekjaaGreatDoorN16
import Derived.Test.YtdjhmanccoekjaaGreatDoorUtf
import Derived.Test.YtdjhmanccoekjaaGreatDoorN1

section
namespace Go.Proofs.YtdjhmanccoekjaaGreatDoor
open Go.RowKit Go.Proofs

set_option maxRecDepth 100000 in
theorem hclone_nil (w : World) : Calls Tryz.prog 38 #[sliceN] w fun e w' => e = .returned sliceN ∧ w = w' := by
  have hne : ∀ W : World, (binOp BinOp.eql 35 (.slice none 0 0) (.slice none 0 0)).run Tryz.prog W = .ok (.bool true) W := fun _ => by kernel_rfl
  go_enter Tryz.func38, Tryz.ntmps38
  go_wp2_with fail
  go_ret
  exact ⟨rfl, rfl⟩
set_option maxRecDepth 100000 in
theorem copied_nil (w : World) : Calls Tryz.prog 24 #[sliceN] w fun e w' => e = .returned sliceN ∧ w = w' := by
  have HC := hid (fun W => hclone_nil W)
  go_enter Tryz.func24, Tryz.ntmps24
  go_wp2_with fail
  refine (HC.out _).mono ?_
  rintro e w1 ⟨rfl, hw⟩
  subst hw
  go_wp2_with fail
  refine wp_loop_rounds 1 ?_
  repeat (rw [rounds_succ]; go_wp2_with fail)
  go_ret
  exact ⟨rfl, rfl⟩
/-- A press in memory. -/
structure PressAt (W : World) (p q c : Nat) (tab : Value) (s r : Nat) (m calls : Int) : Prop where
  pr : Blk W p #[tab, .pointer (some ⟨q, 0, none⟩), .bool false, .int .i64 calls] 68
  fr : Blk W q (freeC c m) 82
  ch : W.heap[c]? = some (.chan 4 #[] false s r false)
theorem press_new (A : Option Addr) (N cap : Nat) (v : Value) (w : World) (CO : Calls Tryz.prog 24 #[v] w fun e w' => e = .returned (.slice A N cap) ∧ Below w.heap.size w w') :
    Calls Tryz.prog 18 #[v, .bool false] w fun e w' => ∃ p q c, e = .returned (.pointer (some ⟨p, 0, none⟩)) ∧ PressAt w' p q c (.slice A N cap) 0 0 0 0 ∧ w.heap.size ≤ p ∧ w.heap.size ≤ q ∧ w.heap.size ≤ c ∧ Below w.heap.size w w' := by
  have CO := hid CO
  have FN := hid (fun W => fnew_any W)
  go_enter Tryz.func18, Tryz.ntmps18
  go_wp2_with fail
  refine CO.out.mono ?_
  rintro e w1 ⟨rfl, hb⟩
  have LP := hid hb
  clear hb
  go_wp2_with fail
  refine (FN.out _).mono ?_
  rintro e w2 ⟨rfl, hw⟩
  have q1 : Blk w2 (w1.heap.size + 1) (freeC w1.heap.size 0) 82 := by
    rw [hw]
    have := Blk.new (w1.alloc (.chan 4 #[] false 0 0 false)) (freeC w1.heap.size 0) 82
    rw [World.size_alloc] at this
    exact this
  have c1 : w2.heap[w1.heap.size]? = some (.chan 4 #[] false 0 0 false) := by
    rw [hw, Below.heap_alloc _ _ _ (by simp)]
    exact heap_alloc_new w1 _
  have lp : Below w.heap.size w w2 := by rw [hw]; exact (LP.out.alloc LP.out.size _).alloc (by have := LP.out.size; simp; omega) _
  have hs := LP.out.size
  have hsz : w2.heap.size = w1.heap.size + 2 := by rw [hw]; simp
  have H := hid (And.intro q1 (And.intro c1 (And.intro lp (And.intro hs hsz))))
  clear q1 c1 lp hs hsz hw
  go_wp2_with fail
  go_ret
  refine ⟨w2.heap.size, w1.heap.size + 1, w1.heap.size, rfl, ⟨Blk.new _ _ _, H.out.1.alloc _, ?_⟩, ?_, ?_, ?_, H.out.2.2.1.alloc H.out.2.2.1.size _⟩
  · rw [Below.heap_alloc _ _ _ (by have := H.out.2.2.2.2; omega)]
    exact H.out.2.1
  · have := H.out.2.2.2; omega
  · have := H.out.2.2.2; omega
  · have := H.out.2.2.2; omega
theorem st0_at (w : World) : StAt (w.alloc (.cells st0C 87)) w.heap.size ⟨[], 0, sliceN, [], 0, false⟩ sliceN sliceN :=
  ⟨Blk.new w _ _, ⟨by simp [bc], .inl ⟨rfl, by simp⟩⟩, ⟨by simp, .inl ⟨rfl, rfl⟩⟩⟩
theorem chan_keep {W W' : World} {c : Nat} {o : Obj} (h : W.heap[c]? = some o) {b : Nat} (hc : c < b) (hk : ∀ k, k < b → W'.heap[k]? = W.heap[k]?) : W'.heap[c]? = some o := (hk c hc).trans h
theorem heap_lt {W : World} {c : Nat} {o : Obj} (h : W.heap[c]? = some o) : c < W.heap.size := by
  rcases Nat.lt_or_ge c W.heap.size with q | q
  · exact q
  · rw [Array.getElem?_eq_none q] at h; cases h
theorem PressAt.below {W W' : World} {p q c : Nat} {tab : Value} {s r : Nat} {m calls : Int} (h : PressAt W p q c tab s r m calls) {B : Nat} (hb : Below B W W') (hp : p < B) (hq : q < B) (hc : c < B) : PressAt W' p q c tab s r m calls :=
  ⟨h.pr.below hb hp, h.fr.below hb hq, (hb.block c hc).trans h.ch⟩
abbrev doF (F : Nat) : Value := .func (.func 28) #[] #[.pointer (some ⟨F, 0, none⟩)]
set_option maxRecDepth 100000 in
set_option maxHeartbeats 4000000 in
theorem do_any (F b : Nat) (fmt : ByteArray) (w : World) (Q : World → Prop) (hF : w.cell? ⟨F, 0, none⟩ = some (.string fmt))
    (FO : Calls Tryz.prog 29 #[.pointer (some ⟨b, 0, none⟩), .string fmt] w fun e w' => e = .returned (.tuple #[]) ∧ Q w') :
    Calls Tryz.prog 28 #[.pointer (some ⟨b, 0, none⟩), .pointer (some ⟨F, 0, none⟩)] w fun e w' => e = .returned (.tuple #[]) ∧ Q w' := by
  have FO := hid FO
  go_enter Tryz.func28, Tryz.ntmps28
  go_wp2_with fail
  refine FO.out.mono ?_
  rintro e w1 ⟨rfl, hq⟩
  have HQ := hid hq
  clear hq
  go_wp2_with fail
  go_end0
  exact ⟨rfl, HQ.out⟩
set_option maxRecDepth 100000 in
set_option maxHeartbeats 4000000 in
theorem pprint_any (p q c s r F B : Nat) (A : Option Addr) (N cap : Nat) (m calls : Int) (sl : Sl) (fmt : ByteArray) (T : List UInt8) (w : World) (h : PressAt w p q c (.slice A N cap) s r m calls) (hB : B ≤ w.heap.size) (hp : B ≤ p) (hq : B ≤ q) (hc : B ≤ c)
    (hm : 0 ≤ m ∧ m ≤ 1000) (hcl : 0 ≤ calls ∧ calls ≤ 1000) (hF : w.cell? ⟨F, 0, none⟩ = some (.string fmt)) (hFp : F ≠ p) (hFq : F ≠ q)
    (RUN : ∀ b W, Below B w W → (∀ k, k < w.heap.size → k ≠ p → k ≠ q → W.heap[k]? = w.heap[k]?) → w.heap.size ≤ b → StAt W b ⟨[], 0, sliceN, [], 0, false⟩ sliceN sliceN → ∃ (s1 s2 : St) (J : Value → World → Prop), s2.all = T ∧
      Calls Tryz.prog 42 #[.pointer (some ⟨b, 0, none⟩), .int .i64 0, .slice A N cap, slV sl] W (fun e w' => e = .returned (.tuple #[]) ∧ ∃ va, StAt w' b s1 sliceN va ∧ J va w' ∧ Below b W w') ∧
      ∀ W' va, StAt W' b s1 sliceN va → J va W' → Below b W W' → Calls Tryz.prog 29 #[.pointer (some ⟨b, 0, none⟩), .string fmt] W' fun e w' => e = .returned (.tuple #[]) ∧ ∃ v', StAt w' b s2 v' va ∧ Kp b W' w') :
    Calls Tryz.prog 27 #[.pointer (some ⟨p, 0, none⟩), slV sl, doF F] w fun e w' => e = .returned (.string ⟨(stText T).toArray⟩) ∧ Below B w w' := by
  have hmf : ∀ (fn : Fn) (first cap : Array Value) (w : World), (Instr.makeFunc fn first cap).run Tryz.prog w = .ok (.func fn first cap) w := fun _ _ _ _ => rfl
  have RUN := hid RUN
  have hpq : p ≠ q := fun e => by have h1 := h.pr; have h2 := h.fr; rw [e] at h1; exact absurd (blk_ty h1 h2) (by decide)
  have hpc : p ≠ c := fun e => by have h1 := h.pr; have h2 := h.ch; unfold Blk at h1; rw [e, h2] at h1; cases h1
  have hqc : q ≠ c := fun e => by have h1 := h.fr; have h2 := h.ch; unfold Blk at h1; rw [e, h2] at h1; cases h1
  have p0 : w.cell? ⟨p, 0, none⟩ = some (.slice A N cap) := h.pr.cell 0
  have p1 : w.cell? ⟨p, 1, none⟩ = some (.pointer (some ⟨q, 0, none⟩)) := h.pr.cell 1
  have p3 : w.cell? ⟨p, 3, none⟩ = some (.int .i64 calls) := h.pr.cell 3
  have pf : w.frozen? ⟨p, 3, none⟩ = false := h.pr.frozen 3
  have b1 := h.pr.set_ 3 (.int .i64 (calls + 1))
  have P1 : PressAt (w.setCell ⟨p, 3, none⟩ (.int .i64 (calls + 1))) p q c (.slice A N cap) s r m (calls + 1) := ⟨b1, h.fr.far (Ne.symm hpq) _, (Below.heap_setCell _ _ _ _ (Ne.symm hpc)).trans h.ch⟩
  have q0 : (w.setCell ⟨p, 3, none⟩ (.int .i64 (calls + 1))).cell? ⟨p, 0, none⟩ = some (.slice A N cap) := b1.cell 0
  have q1 : (w.setCell ⟨p, 3, none⟩ (.int .i64 (calls + 1))).cell? ⟨p, 1, none⟩ = some (.pointer (some ⟨q, 0, none⟩)) := b1.cell 1
  have L1 : Below B w (w.setCell ⟨p, 3, none⟩ (.int .i64 (calls + 1))) := (Below.refl B w).setCell hp _
  have F1 : (w.setCell ⟨p, 3, none⟩ (.int .i64 (calls + 1))).cell? ⟨F, 0, none⟩ = some (.string fmt) := (World.cell?_setCell_far _ _ _ _ (Ne.symm hFp)).trans hF
  have hz1 : (w.setCell ⟨p, 3, none⟩ (.int .i64 (calls + 1))).heap.size = w.heap.size := by simp [World.setCell]
  have H1 := hid (And.intro P1 (And.intro L1 (And.intro F1 hz1)))
  have MD := hid (fun W => made_any W)
  have HN := hid (And.intro hpq (And.intro hpc (And.intro hqc (And.intro hFp (And.intro hFq (And.intro hB (And.intro hq hc)))))))
  clear h b1 P1 L1 F1 hz1 hF hpq hpc hqc hFp hFq hB hq hc hp
  go_enter Tryz.func27, Tryz.ntmps27
  go_upto_region 5 with fail
  go_quiet (fail)
  go_wp2_with fail
  have HK1 := hid (fun k (hk : k ≠ p) => show (w.setCell ⟨p, 3, none⟩ (.int .i64 (calls + 1))).heap[k]? = w.heap[k]? from Below.heap_setCell _ _ _ _ hk)
  obtain ⟨W1, hW1⟩ : ∃ W1, (w.setCell ⟨p, 3, none⟩ (.int .i64 (calls + 1))) = W1 := ⟨_, rfl⟩
  rw [hW1] at H1 HK1 ⊢
  clear hW1 q0 q1 p0 p1 p3 pf
  refine (MD.out _).mono ?_
  rintro e W2 ⟨rfl, hw⟩
  have lo : Below W1.heap.size W1 W2 := by rw [hw]; exact (below_drewN (Below.refl W1.heap.size W1) _).alloc (Nat.le_refl _) _
  obtain ⟨hpq, hpc, hqc, hFp, hFq, hBw, hBq, hBc⟩ := HN.out
  have pl := H1.out.1.pr.lt
  have ql := H1.out.1.fr.lt
  have cl := heap_lt H1.out.1.ch
  have P2 := H1.out.1.below lo pl ql cl
  have L2 := H1.out.2.1.trans (lo.mono (by have := H1.out.2.2.2; omega))
  have F2 := cell_keep lo H1.out.2.2.1
  have S2 : w.heap.size ≤ W2.heap.size := by have := H1.out.2.2.2; have := lo.size; omega
  have HK2 := hid (fun k (hk : k < w.heap.size) (hkp : k ≠ p) => show W2.heap[k]? = w.heap[k]? from (lo.block k (by have := H1.out.2.2.2; omega)).trans (HK1.out k hkp))
  have p2 : W2.cell? ⟨p, 2, none⟩ = some (.bool false) := P2.pr.cell 2
  have H2 := hid (And.intro P2 (And.intro L2 (And.intro F2 (And.intro S2 (And.intro P2.pr.lt (And.intro P2.fr.lt (heap_lt P2.ch)))))))
  have GE := hid (get_any q c s r m W2 P2.fr P2.ch hm.1 (by omega))
  clear lo P2 L2 F2 S2 hw H1 pl ql cl
  go_wp2_with fail
  refine GE.out.mono ?_
  rintro e W3 ⟨rfl, hw⟩
  obtain ⟨P2, L2, F2, S2, pl, ql, cl⟩ := H2.out
  obtain ⟨b, hb⟩ : ∃ b, W2.heap.size = b := ⟨_, rfl⟩
  have hz : (W2.setCell ⟨q, 2, none⟩ (.int .i64 (m + 1))).heap.size = b := by rw [← hb]; simp [World.setCell]
  have st : StAt W3 b ⟨[], 0, sliceN, [], 0, false⟩ sliceN sliceN := by rw [hw, ← hz]; exact st0_at _
  have L3 : Below B w W3 := by rw [hw]; exact (L2.setCell (p := ⟨q, 2, none⟩) hBq _).alloc (by rw [hz]; omega) _
  have lo3 : Below b (W2.setCell ⟨q, 2, none⟩ (.int .i64 (m + 1))) W3 := by rw [hw]; exact (Below.refl _ _).alloc (by rw [hz]; exact Nat.le_refl _) _
  have P3 : PressAt W3 p q c (.slice A N cap) s r (m + 1) (calls + 1) := PressAt.below (W := W2.setCell ⟨q, 2, none⟩ (.int .i64 (m + 1))) ⟨P2.pr.far hpq _, P2.fr.set_ 2 _, (Below.heap_setCell _ _ _ _ (Ne.symm hqc)).trans P2.ch⟩ lo3 (by omega) (by omega) (by omega)
  have F3 : W3.cell? ⟨F, 0, none⟩ = some (.string fmt) := by
    have h1 : (W2.setCell ⟨q, 2, none⟩ (.int .i64 (m + 1))).cell? ⟨F, 0, none⟩ = some (.string fmt) := (World.cell?_setCell_far _ _ _ _ (Ne.symm hFq)).trans F2
    have : F < W2.heap.size := World.block_lt_of_cell? W2 _ F2
    exact (lo3.cell (p := ⟨F, 0, none⟩) (by show F < b; omega)).trans h1
  have hFb : F < b := by have : F < W2.heap.size := World.block_lt_of_cell? W2 _ F2; omega
  obtain ⟨s1, s2, J, hT, BG, FO⟩ := RUN.out b W3 L3 (fun k hk h1 h2 => (lo3.block k (by omega)).trans ((Below.heap_setCell _ _ _ _ h2).trans (HK2.out k hk h1))) (by omega) st
  have H3 := hid (And.intro P3 (And.intro L3 (And.intro F3 (And.intro hFb (And.intro st (And.intro hT (And.intro (show p < b by omega) (And.intro (show q < b by omega) (show c < b by omega)))))))))
  have BG := hid BG
  have FO := hid FO
  rw [hb]
  clear st L3 lo3 P3 F3 hFb P2 L2 F2 S2 pl ql cl hw hz hT GE H2
  go_wp2_with fail
  refine BG.out.mono ?_
  rintro e W4 ⟨rfl, va, t4, hJ, l4⟩
  have F4 : W4.cell? ⟨F, 0, none⟩ = some (.string fmt) := (l4.cell (p := ⟨F, 0, none⟩) H3.out.2.2.2.1).trans H3.out.2.2.1
  have FM := FO.out W4 va t4 hJ l4
  have DO := hid (do_any F b fmt W4 _ F4 FM)
  have HL4 := hid l4
  clear t4 hJ l4 F4 FM
  go_wp2_with fail
  refine DO.out.mono ?_
  rintro e W5 ⟨rfl, v', t5, k5⟩
  have TX := hid (stext_any b s2 v' va W5 t5)
  have l5 : Below b W3 W5 := HL4.out.trans (k5.below (Nat.le_refl _))
  have P5 := H3.out.1.below l5 H3.out.2.2.2.2.2.2.1 H3.out.2.2.2.2.2.2.2.1 H3.out.2.2.2.2.2.2.2.2
  have L5 : Below B w W5 := H3.out.2.1.trans (l5.mono (by have := H3.out.2.2.2.2.2.2.2.2; omega))
  have p2' : W5.cell? ⟨p, 2, none⟩ = some (.bool false) := P5.pr.cell 2
  have PT := hid (fput_any q c s r (m + 1) (.pointer (some ⟨b, 0, none⟩)) W5 P5.fr P5.ch)
  have H5 := hid (And.intro P5 L5)
  rw [H3.out.2.2.2.2.2.1] at TX
  clear t5 k5 l5 P5 L5 p2
  go_wp2_with fail
  refine TX.out.mono ?_
  rintro e W6 ⟨rfl, hw⟩
  subst hw
  obtain ⟨tx, htx⟩ : ∃ tx : ByteArray, (⟨(stText T).toArray⟩ : ByteArray) = tx := ⟨_, rfl⟩
  rw [htx]
  go_wp2_with fail
  refine PT.out.mono ?_
  rintro e W7 ⟨rfl, hw⟩
  have L7 : Below B w W7 := by rw [hw]; exact Go.Conc.below_setChan H5.out.2 hBc _ _ _ _ _ _
  have HL7 := hid L7
  clear L7 hw
  go_wp2_with fail
  go_ret
  exact ⟨by rw [htx]; rfl, HL7.out⟩
set_option maxRecDepth 100000 in
set_option maxHeartbeats 4000000 in
theorem sprintf_any (p q c s r B : Nat) (A : Option Addr) (N cap : Nat) (m calls : Int) (sl : Sl) (fmt : ByteArray) (T : List UInt8) (w : World) (h : PressAt w p q c (.slice A N cap) s r m calls) (hB : B ≤ w.heap.size) (hp : B ≤ p) (hq : B ≤ q) (hc : B ≤ c)
    (hm : 0 ≤ m ∧ m ≤ 1000) (hcl : 0 ≤ calls ∧ calls ≤ 1000)
    (RUN : ∀ b W, Below B w W → (∀ k, k < w.heap.size → k ≠ p → k ≠ q → W.heap[k]? = w.heap[k]?) → w.heap.size ≤ b → StAt W b ⟨[], 0, sliceN, [], 0, false⟩ sliceN sliceN → ∃ (s1 s2 : St) (J : Value → World → Prop), s2.all = T ∧
      Calls Tryz.prog 42 #[.pointer (some ⟨b, 0, none⟩), .int .i64 0, .slice A N cap, slV sl] W (fun e w' => e = .returned (.tuple #[]) ∧ ∃ va, StAt w' b s1 sliceN va ∧ J va w' ∧ Below b W w') ∧
      ∀ W' va, StAt W' b s1 sliceN va → J va W' → Below b W W' → Calls Tryz.prog 29 #[.pointer (some ⟨b, 0, none⟩), .string fmt] W' fun e w' => e = .returned (.tuple #[]) ∧ ∃ v', StAt w' b s2 v' va ∧ Kp b W' w') :
    Calls Tryz.prog 19 #[.pointer (some ⟨p, 0, none⟩), .string fmt, slV sl] w fun e w' => e = .returned (.string ⟨(stText T).toArray⟩) ∧ Below B w w' := by
  have hmf : ∀ (fn : Fn) (first cap : Array Value) (w : World), (Instr.makeFunc fn first cap).run Tryz.prog w = .ok (.func fn first cap) w := fun _ _ _ _ => rfl
  have l0 := (Below.refl w.heap.size w).alloc (Nat.le_refl _) (.cells #[.string fmt] 9)
  have f0 : (w.alloc (.cells #[.string fmt] 9)).cell? ⟨w.heap.size, 0, none⟩ = some (.string fmt) := (Blk.new w _ _).cell 0
  have P0 := h.below l0 h.pr.lt h.fr.lt (heap_lt h.ch)
  have pl := h.pr.lt
  have ql := h.fr.lt
  have PP0 := hid (pprint_any p q c s r w.heap.size B A N cap m calls sl fmt T (w.alloc (.cells #[.string fmt] 9)) P0 (by simp; omega) hp hq hc hm hcl f0 (by omega) (by omega) (fun b W hW hk hb st => RUN b W (((l0.mono hB)).trans hW) (fun k h1 h2 h3 => (hk k (by simp; omega) h2 h3).trans (l0.block k h1)) (by simp at hb; omega) st))
  have LP := hid (l0.mono hB)
  obtain ⟨tx, htx⟩ : ∃ tx : ByteArray, (⟨(stText T).toArray⟩ : ByteArray) = tx := ⟨_, rfl⟩
  rw [htx] at PP0 ⊢
  clear l0 f0 P0 h RUN hB hp hq hc pl ql htx
  go_enter Tryz.func19, Tryz.ntmps19
  go_wp2_with fail
  refine PP0.out.mono ?_
  rintro e w1 ⟨rfl, hb⟩
  have HL := hid (LP.out.trans hb)
  clear hb
  go_wp2_with fail
  go_ret
  exact ⟨rfl, HL.out⟩
set_option maxRecDepth 100000 in
set_option maxHeartbeats 4000000 in
theorem tprint_any (A : Option Addr) (N cap : Nat) (v : Value) (sl : Sl) (fmt : ByteArray) (T : List UInt8) (w : World) (CO : Calls Tryz.prog 24 #[v] w fun e w' => e = .returned (.slice A N cap) ∧ Below w.heap.size w w')
    (RUN : ∀ b W, Below w.heap.size w W → w.heap.size ≤ b → StAt W b ⟨[], 0, sliceN, [], 0, false⟩ sliceN sliceN → ∃ (s1 s2 : St) (J : Value → World → Prop), s2.all = T ∧
      Calls Tryz.prog 42 #[.pointer (some ⟨b, 0, none⟩), .int .i64 0, .slice A N cap, slV sl] W (fun e w' => e = .returned (.tuple #[]) ∧ ∃ va, StAt w' b s1 sliceN va ∧ J va w' ∧ Below b W w') ∧
      ∀ W' va, StAt W' b s1 sliceN va → J va W' → Below b W W' → Calls Tryz.prog 29 #[.pointer (some ⟨b, 0, none⟩), .string fmt] W' fun e w' => e = .returned (.tuple #[]) ∧ ∃ v', StAt w' b s2 v' va ∧ Kp b W' w') :
    Calls Tryz.prog 9 #[v, .string fmt, slV sl] w fun e w' => e = .returned (.string ⟨(stText T).toArray⟩) ∧ Below w.heap.size w w' := by
  have PN := hid (press_new A N cap v w CO)
  have RUN := hid RUN
  clear CO
  obtain ⟨tx, htx⟩ : ∃ tx : ByteArray, (⟨(stText T).toArray⟩ : ByteArray) = tx := ⟨_, rfl⟩
  rw [htx]
  have HTX := hid htx
  clear htx
  go_enter Tryz.func9, Tryz.ntmps9
  go_wp2_with fail
  refine PN.out.mono ?_
  rintro e w1 ⟨p, q, c, rfl, P1, hp, hq, hc, hb⟩
  have SP := hid (sprintf_any p q c 0 0 w.heap.size A N cap 0 0 sl fmt T w1 P1 hb.size hp hq hc (by decide) (by decide) (fun b W hW _ hb' st => RUN.out b W (hb.trans hW) (by have := hb.size; omega) st))
  rw [HTX.out] at SP
  have LP := hid hb
  clear hb P1 hp hq hc RUN
  go_wp2_with fail
  refine SP.out.mono ?_
  rintro e w2 ⟨rfl, hb⟩
  have HL := hid (LP.out.trans hb)
  clear hb
  go_wp2_with fail
  go_ret
  exact ⟨rfl, HL.out⟩
end Go.Proofs.YtdjhmanccoekjaaGreatDoor
end

section
namespace Go.Proofs.YtdjhmanccoekjaaGreatDoor
open Go.RowKit Go.Proofs

/-- What is known of a value that is no nil. -/
structure Known (T : TypeId) (x : Value) (k : Int) (ty : ByteArray) (hk : Int) : Prop where
  nn : NotNil T x
  base : BaseIs (.iface T x) (base3 k ty hk) true
  k0 : 0 ≤ k
  k1 : k ≤ 22
  h0 : -9223372036854775808 ≤ hk
  h1 : hk ≤ 9223372036854775807
theorem typeS_size (k : Int) (ty : ByteArray) (h : ty.size ≤ 32) (h0 : 0 ≤ k) (h1 : k ≤ 22) : (typeS k ty).size ≤ 32 := by
  unfold typeS
  split
  · have hk : k = 0 ∨ k = 1 ∨ k = 2 ∨ k = 3 ∨ k = 4 ∨ k = 5 ∨ k = 6 ∨ k = 7 ∨ k = 8 ∨ k = 9 ∨ k = 10 ∨ k = 11 ∨ k = 12 ∨ k = 13 ∨ k = 14 ∨ k = 15 ∨ k = 16 ∨ k = 17 ∨ k = 18 ∨ k = 19 ∨ k = 20 ∨ k = 21 ∨ k = 22 := by omega
    rcases hk with rfl | rfl | rfl | rfl | rfl | rfl | rfl | rfl | rfl | rfl | rfl | rfl | rfl | rfl | rfl | rfl | rfl | rfl | rfl | rfl | rfl | rfl | rfl
    all_goals decide
  · exact h
theorem show_ok {b : Nat} {s : St} {v' va : Value} {T : TypeId} {x : Value} {k : Int} {ty : ByteArray} {hk : Int} (KN : Known T x k ty hk) (A : Option Addr) (N cap : Nat) (ht : s.tab = .slice A N cap) (hN : N ≤ 40) (hh : ¬ (1 ≤ hk ∧ hk ≤ N ∧ hk ≤ 16))
    (pl mi sh sp ze : Bool) (wid prec verb : Int) (hv : verb ≠ 84) (t s0 : ByteArray) (ok : Bool) (hty : ty.size ≤ 32) (hs0 : s0.size ≤ 10000) (w : World) (h : StAt w b s v' va)
    (KI : ∀ W, Below w.heap.size w W → Calls Tryz.prog 113 #[.agg (wrC pl mi sh sp ze wid prec verb (askF b)), .iface T x, .int .i64 0] W fun e w' => e = .returned (.tuple #[.string t, .bool ok]) ∧ Below W.heap.size W w')
    (KV : ok = false → ∀ W, Below w.heap.size w W → Calls Tryz.prog 113 #[.agg (wrC false false false false false (-1) (-1) 118 .nilFunc), .iface T x, .int .i64 0] W fun e w' => e = .returned (.tuple #[.string s0, .bool true]) ∧ Below W.heap.size W w') :
    Calls Tryz.prog 50 #[.iface T x, .agg (sp8 pl mi sh sp ze wid prec verb), askF b] w fun e w' => e = .returned (.string (if ok then t else badV verb (typeS k ty) s0)) ∧ Below w.heap.size w w' := by
  refine show_asked b _ pl mi sh sp ze wid prec verb w _ hv fun W hW => ?_
  refine value_asked b ⟨#[]⟩ false T x pl mi sh sp ze wid prec verb 0 W t (badV verb (typeS k ty) s0) ok KN.nn (fun W' hW' => ?_) rfl (fun W' hW' => KI W' (hW.trans (hW'.mono hW.size))) (fun hok W' hW' => ?_)
  · exact ask_no b s v' va _ k hk ty true A N cap pl mi sh sp ze wid prec verb W' ((h.below hW).below hW') ht hN KN.base KN.h0 KN.h1 hh
  · have hw := hW.trans (hW'.mono hW.size)
    refine bad_any T x verb W' (typeS k ty) s0 KN.nn (by have := typeS_size k ty hty KN.k0 KN.k1; omega) hs0 (fun W2 => type_any _ k ty hk true W2 KN.base ⟨KN.k0, KN.k1⟩) (fun W2 hW2 => ?_)
    refine show_plain _ false false false false false (-1) (-1) 118 W2 s0 (by decide) fun W3 hW3 => ?_
    have hw3 : Below w.heap.size w W3 := (hw.trans (hW2.mono hw.size)).trans (hW3.mono (by have := hw.size; have := hW2.size; omega))
    have := value_plain T x false false false false false (-1) (-1) 118 0 W3 s0 s0 true KN.nn (fun W4 hW4 => KV hok W4 (hw3.trans (hW4.mono hw3.size))) (fun h => by cases h)
    exact this
theorem known_int (k : Int) (ty : ByteArray) (hk x : Int) (h0 : 0 ≤ k) (h1 : k ≤ 22) (h2 : -9223372036854775808 ≤ hk) (h3 : hk ≤ 9223372036854775807) : Known 181 (.agg #[.int .i64 k, .string ty, .int .i64 hk, .int .i64 x]) k ty hk :=
  ⟨⟨tn_Int _, ta_Int_Nil _⟩, base_Int k ty hk x, h0, h1, h2, h3⟩
theorem known_uint (k : Int) (ty : ByteArray) (hk x : Int) (h0 : 0 ≤ k) (h1 : k ≤ 22) (h2 : -9223372036854775808 ≤ hk) (h3 : hk ≤ 9223372036854775807) : Known 183 (.agg #[.int .i64 k, .string ty, .int .i64 hk, .int .u64 x]) k ty hk :=
  ⟨⟨tn_Uint _, ta_Uint_Nil _⟩, base_Uint k ty hk x, h0, h1, h2, h3⟩
theorem known_bool (k : Int) (ty : ByteArray) (hk : Int) (x : Bool) (h0 : 0 ≤ k) (h1 : k ≤ 22) (h2 : -9223372036854775808 ≤ hk) (h3 : hk ≤ 9223372036854775807) : Known 179 (.agg #[.int .i64 k, .string ty, .int .i64 hk, .bool x]) k ty hk :=
  ⟨⟨tn_Bool _, ta_Bool_Nil _⟩, base_Bool k ty hk x, h0, h1, h2, h3⟩
theorem known_float (k : Int) (ty : ByteArray) (hk x n : Int) (h0 : 0 ≤ k) (h1 : k ≤ 22) (h2 : -9223372036854775808 ≤ hk) (h3 : hk ≤ 9223372036854775807) : Known 185 (.agg #[.int .i64 k, .string ty, .int .i64 hk, .int .u64 x, .int .i64 n]) k ty hk :=
  ⟨⟨tn_Float _, ta_Float_Nil _⟩, base_Float k ty hk x n, h0, h1, h2, h3⟩
theorem known_text (k : Int) (ty : ByteArray) (hk : Int) (x : ByteArray) (h0 : 0 ≤ k) (h1 : k ≤ 22) (h2 : -9223372036854775808 ≤ hk) (h3 : hk ≤ 9223372036854775807) : Known 189 (.agg #[.int .i64 k, .string ty, .int .i64 hk, .string x]) k ty hk :=
  ⟨⟨tn_Text _, ta_Text_Nil _⟩, base_Text k ty hk x, h0, h1, h2, h3⟩
/-- The tables lie below b. -/
def TabsB (b : Nat) (W : World) : Prop := ∃ w0, Tabs w0 ∧ w0.heap.size ≤ b ∧ Below w0.heap.size w0 W
theorem TabsB.tabs {b : Nat} {W : World} (h : TabsB b W) : Tabs W := by
  obtain ⟨w0, h1, _, h3⟩ := h
  exact h1.below h3
theorem TabsB.below {b : Nat} {W W' : World} (h : TabsB b W) (hb : Below b W W') : TabsB b W' := by
  obtain ⟨w0, h1, h2, h3⟩ := h
  exact ⟨w0, h1, h2, h3.trans (hb.mono h2)⟩
theorem TabsB.kp {b : Nat} {W W' : World} (h : TabsB b W) (hk : Kp b W W') : TabsB b W' := h.below (hk.below (Nat.le_refl _))
end Go.Proofs.YtdjhmanccoekjaaGreatDoor
end

section
namespace Go.Proofs.YtdjhmanccoekjaaGreatDoor.BD

/-- A great number, lowest limb first, times a small one. -/
def tmL (m : Int) : Int → List Int → List Int
  | c, [] => if 0 < c then [c] else []
  | c, x :: l => ((x * m + c) % 1000000000) :: tmL m ((x * m + c) / 1000000000) l
/-- So many times over. -/
def itL (m : Int) : Nat → List Int → List Int
  | 0, l => l
  | n + 1, l => itL m n (tmL m 0 l)
def exL (e : Nat) (m : Int) (l : List Int) : List Int := itL m (e % 8) (itL (m * m * m * m * m * m * m * m) (e / 8) l)
/-- The digits of a limb. -/
def digN : Nat → Int → List UInt8
  | 0, _ => []
  | n + 1, x => digN n (x / 10) ++ [UInt8.ofNat (48 + x % 10).toNat]
def allD (l : List Int) : List UInt8 := (l.reverse.map (digN 9)).flatten
def lead (l : List UInt8) : List UInt8 := Lib.trimLeftB l 48
def foot (l : List UInt8) : List UInt8 := Lib.trimRightB l 48
def limbs (m : Int) : List Int := [m % 1000000000, m / 1000000000 % 1000000000, m / 1000000000 / 1000000000]
/-- In form. -/
def formL (d : List UInt8) (p : Int) : List UInt8 × Int :=
  if foot (lead d) = [] then ([], 0) else (foot (lead d), p - ((d.length : Int) - ((lead d).length : Int)))
def exactL (m : Int) (e : Int) : List UInt8 × Int :=
  let s := lead (allD (if e < 0 then exL (-e).toNat 5 (limbs m) else exL e.toNat 2 (limbs m)))
  formL s ((s.length : Int) + if e < 0 then e else 0)
theorem pi_exact : exactL 7074237752028440 (-51) = ([51, 49, 52, 49, 53, 57, 50, 54, 53, 51, 53, 56, 57, 55, 57, 51, 49, 49, 53, 57, 57, 55, 57, 54, 51, 52, 54, 56, 53, 52, 52, 49, 56, 53, 49, 54, 49, 53, 57, 48, 53, 55, 54, 49, 55, 49, 56, 55, 53], 1) := by decide +kernel

/-- Each limb is less than what a place counts to. -/
def Lim (l : List Int) : Prop := ∀ x ∈ l, 0 ≤ x ∧ x < 1000000000
theorem carry_le {x m c : Int} (hx0 : 0 ≤ x) (hx : x < 1000000000) (hm : 0 ≤ m) (hm1 : m ≤ 390625) (hc0 : 0 ≤ c) (hc : c ≤ m) : 0 ≤ x * m ∧ x * m ≤ 999999999 * m ∧ 0 ≤ (x * m + c) / 1000000000 ∧ (x * m + c) / 1000000000 ≤ m := by
  have h0 : 0 ≤ x * m := Int.mul_nonneg hx0 hm
  have h1 : x * m ≤ 999999999 * m := Int.mul_le_mul_of_nonneg_right (by omega) hm
  refine ⟨h0, h1, by omega, by omega⟩
theorem tm_lim {m : Int} (hm : 0 ≤ m) (hm1 : m ≤ 390625) : ∀ (l : List Int) (c : Int), 0 ≤ c → c ≤ m → Lim l → Lim (tmL m c l)
  | [], c, h0, h1, _ => by
    intro x hx
    unfold tmL at hx
    split at hx
    · simp only [List.mem_singleton] at hx; omega
    · cases hx
  | x :: l, c, h0, h1, h => by
    have hx := h x (List.mem_cons_self ..)
    have hc := carry_le hx.1 hx.2 hm hm1 h0 h1
    intro y hy
    unfold tmL at hy
    rcases List.mem_cons.1 hy with rfl | hy
    · omega
    · exact tm_lim hm hm1 l _ hc.2.2.1 hc.2.2.2 (fun z hz => h z (List.mem_cons_of_mem _ hz)) y hy
theorem tm_len (m : Int) : ∀ (l : List Int) (c : Int), (tmL m c l).length ≤ l.length + 1
  | [], c => by unfold tmL; split <;> simp
  | x :: l, c => by
    unfold tmL
    have := tm_len m l ((x * m + c) / 1000000000)
    simpa using this
theorem tm_ge (m : Int) : ∀ (l : List Int) (c : Int), l.length ≤ (tmL m c l).length
  | [], c => by simp
  | x :: l, c => by
    unfold tmL
    have := tm_ge m l ((x * m + c) / 1000000000)
    simpa using this
theorem it_lim {m : Int} (hm : 0 ≤ m) (hm1 : m ≤ 390625) : ∀ (n : Nat) (l : List Int), Lim l → Lim (itL m n l) ∧ (itL m n l).length ≤ l.length + n
  | 0, l, h => ⟨h, Nat.le_refl _⟩
  | n + 1, l, h => by
    have := it_lim hm hm1 n _ (tm_lim hm hm1 l 0 (Int.le_refl _) hm h)
    have hl := tm_len m l 0
    exact ⟨this.1, by unfold itL; omega⟩
theorem it_succ (m : Int) : ∀ (n : Nat) (l : List Int), itL m (n + 1) l = tmL m 0 (itL m n l)
  | 0, _ => rfl
  | n + 1, l => it_succ m n (tmL m 0 l)
theorem digN_len : ∀ (n : Nat) (x : Int), (digN n x).length = n
  | 0, _ => rfl
  | n + 1, x => by unfold digN; rw [List.length_append, digN_len n]; rfl
theorem digN_zero : ∀ n : Nat, digN n 0 = List.replicate n 48
  | 0 => rfl
  | n + 1 => by
    unfold digN
    rw [show (0 : Int) / 10 = 0 by decide, digN_zero n, List.replicate_succ']
    rfl
theorem lead_zeros (n : Nat) (l : List UInt8) : lead (List.replicate n 48 ++ l) = lead l := by
  unfold lead Lib.trimLeftB
  induction n with
  | zero => rfl
  | succ n ih => rw [List.replicate_succ, List.cons_append, List.dropWhile_cons, if_pos (by decide)]; exact ih
theorem allD_append (a b : List Int) : allD (a ++ b) = allD b ++ allD a := by
  unfold allD
  rw [List.reverse_append, List.map_append, List.flatten_append]
theorem allD_zeros : ∀ l : List Int, (∀ x ∈ l, x = 0) → ∃ n, allD l = List.replicate n 48
  | [], _ => ⟨0, rfl⟩
  | x :: l, h => by
    obtain ⟨n, hn⟩ := allD_zeros l (fun y hy => h y (List.mem_cons_of_mem _ hy))
    have hx := h x (List.mem_cons_self ..)
    refine ⟨n + 9, ?_⟩
    have e := allD_append [x] l
    rw [List.singleton_append] at e
    rw [e, hn, hx, show allD [0] = List.replicate 9 48 by decide, List.replicate_append_replicate]
/-- Limbs of nought at the end say nothing. -/
theorem lead_trim (l : List Int) (k : Nat) (h : ∀ x ∈ l.drop k, x = 0) : lead (allD l) = lead (allD (l.take k)) := by
  obtain ⟨n, hn⟩ := allD_zeros _ h
  have := allD_append (l.take k) (l.drop k)
  rw [List.take_append_drop, hn] at this
  rw [this, lead_zeros]
theorem allD_len (l : List Int) : (allD l).length = 9 * l.length := by
  induction l with
  | nil => rfl
  | cons x l ih =>
    have e := allD_append [x] l
    rw [List.singleton_append] at e
    rw [e, List.length_append, ih, show (allD [x]).length = 9 by simp [allD, digN_len], List.length_cons]
    omega
theorem allD_drop {l : List Int} {i : Nat} {x : Int} (hx : l[i]? = some x) : allD (l.drop i) = allD (l.drop (i + 1)) ++ digN 9 x := by
  have hdr : l.drop i = [x] ++ l.drop (i + 1) := by
    rw [List.getElem?_eq_some_iff] at hx
    obtain ⟨h, e⟩ := hx
    rw [List.drop_eq_getElem_cons h, e]
    rfl
  rw [hdr, allD_append]
  simp [allD]
theorem lead_len (l : List UInt8) : (lead l).length ≤ l.length := by
  unfold lead Lib.trimLeftB
  exact (List.dropWhile_suffix _).length_le
end Go.Proofs.YtdjhmanccoekjaaGreatDoor.BD
end

section
namespace Go.Proofs.YtdjhmanccoekjaaGreatDoor.FL
open Go.RowKit Go.Proofs

theorem info_u64 : (Tryz.prog.info? 26).map (fun i => (i.zero, i.size, i.bytes)) = some (some (.int .u64 0), 1, 8) := by kernel_rfl
theorem info_partsT {e : TypeId} {z : Value} {s b : Nat} (h : (Tryz.prog.info? e).map (fun i => (i.zero, i.size, i.bytes)) = some (some z, s, b)) : ∃ i, Tryz.prog.info? e = some i ∧ i.zero = some z ∧ i.size = s ∧ i.bytes = b := by
  cases hi : Tryz.prog.info? e with
  | none => rw [hi] at h; cases h
  | some i =>
    rw [hi] at h
    simp only [Option.map_some, Option.some.injEq, Prod.mk.injEq] at h
    exact ⟨i, rfl, h.1, h.2.1, h.2.2⟩
theorem town_grown {w w1 W : World} {B n z : Nat} {e : TypeId} {v : Value} {xs : List Value} (hown : w.ownsRow B e z v n xs) (hb : Below B w W) (hB : B ≤ W.heap.size) (hg : W.grownBy w1 v.ownBlock) : Below B w w1 := by
  refine Below.grown hb hg hB ?_
  intro k hk
  rcases hown.2 with ⟨rfl, _⟩ | ⟨g', cap, cur, rfl, h2, _⟩
  · cases hk
  · simp only [Value.ownBlock, Option.some.injEq] at hk
    omega
theorem own_slice {w : World} {B n z : Nat} {e : TypeId} {v : Value} {xs : List Value} (h : w.ownsRow B e z v n xs) (hn : 0 < n) : ∃ g c, v = .slice (some ⟨g, 0, none⟩) n c := by
  rcases h.2 with ⟨_, h0⟩ | ⟨g, cap, cur, e1, _⟩
  · omega
  · exact ⟨g, cap, e1⟩
/-- append of one number, in a region of one order. -/
theorem wpList_putu {ops : Array Oper} {rest : List Oper} {ob oa : Oper} {a : Act} {w : World} {Q : Exit → Act → World → Prop} (hgb : ob.guard = none) (hga : oa.guard = none) (x y : Operand) (b : Tmp)
    (hob : ob.op = .buildSlice 46 1 #[(0, x)]) (hdb : ob.dst = some b) (hoa : oa.op = .call { callee := .builtin .append, args := #[y, .tmp b], argTypes := #[46, 46] })
    (t : Int) (hx : a.eval x = .int .u64 t)
    (B : Nat) (v : Value) (n : Nat) (xs : List Value) (sl : Value) (hsl : sl = .slice (some ⟨w.heap.size, 0, none⟩) 1 1) (hy : (a.put (some b) sl).eval y = v) (hbt : (a.put (some b) sl).eval (.tmp b) = sl) (hown : w.ownsRow B 26 1 v n xs) (hB : B ≤ w.heap.size) (hn : n ≤ 100000)
    (h : ∀ v' w', w'.ownsRow B 26 1 v' (n + 1) (xs ++ [.int .u64 t]) → Below B w w' → wpList Tryz.prog ops Q rest ((a.put (some b) sl).put oa.dst v') w') : wpList Tryz.prog ops Q (ob :: oa :: rest) a w := by
  obtain ⟨i0, hi, hz0, hz1, hz2⟩ := info_partsT info_u64
  refine wpList_buildSlice hgb 46 26 1 #[(0, x)] hob #[.int .u64 t] i0 (.int .u64 0) Tryz.underlying46 hi hz0 (by rw [hz1]; decide) (by rw [hz1]; decide) ?_ ?_
  · rw [hz1]
    simp only [List.map_toArray, List.map_cons, List.map_nil, hx]
    kernel_rfl
  · rw [hdb, ← hsl]
    have hown1 : (w.alloc (.cells #[.int .u64 t] 26)).ownsRow B 26 1 v n xs := hown.alloc _
    refine wpList_append_own (P := Tryz.prog) (w := w.alloc (.cells #[.int .u64 t] 26)) hga y (.tmp b) 46 hoa B 26 i0 (.int .u64 0) 1 8 Tryz.underlying46 hi hz0 hz1 hz2 rfl (by decide) v n xs hy hown1 ⟨w.heap.size, 0, none⟩ 1 1 [.int .u64 t] (by rw [hbt, hsl]) rfl ?_ ?_ (by unfold maxLen; omega) (by omega) (by simp; omega) ?_
    · intro j u hu
      rw [Addr.add_mid, Nat.zero_add, (Blk.new w #[.int .u64 t] 26).cell]
      cases j with
      | zero => simpa using hu
      | succ j => simp at hu
    · intro u hu
      simp only [List.mem_singleton] at hu
      rw [hu]; rfl
    · intro v' w' h2 h3 _
      exact h v' w' h2 (town_grown hown ((Below.refl B w).alloc hB _) (by simp; omega) h3)

abbrev lc (l : List Int) : List Value := l.map (Value.int .u64)
/-- The state of the loop: i limbs are done. -/
structure TmI (w : World) (B g n c : Nat) (m : Int) (l : List Int) (wr : World) (i : Nat) (cy : Int) : Prop where
  lo : 0 ≤ cy
  hi : cy ≤ m
  row : ∃ d : List Int, d.length = i ∧ wr.ownsRow B 26 1 (.slice (some ⟨g, 0, none⟩) n c) n (lc (d ++ l.drop i)) ∧ d ++ BD.tmL m cy (l.drop i) = BD.tmL m 0 l
  below : Below B w wr
theorem TmI.at {w wr : World} {B g n c i : Nat} {m cy x : Int} {l : List Int} (h : TmI w B g n c m l wr i cy) (hx : l[i]? = some x) : wr.cell? ⟨g, i, none⟩ = some (.int .u64 x) := by
  obtain ⟨d, hd, ho, _⟩ := h.row
  have hc := ho.cells (g := g) rfl i (.int .u64 x) (by rw [lc, List.getElem?_map, List.getElem?_append_right (by omega), hd, Nat.sub_self, List.getElem?_drop, Nat.add_zero, hx]; rfl)
  rw [Addr.add_mid, Nat.zero_add] at hc
  exact hc
theorem TmI.frozen {w wr : World} {B g n c i : Nat} {m cy : Int} {l : List Int} (h : TmI w B g n c m l wr i cy) (j : Nat) : wr.frozen? ⟨g, j, none⟩ = false := by
  obtain ⟨d, hd, ho, _⟩ := h.row
  exact ho.frozenAt j
theorem TmI.step {w wr : World} {B g n c i : Nat} {m cy x : Int} {l : List Int} (h : TmI w B g n c m l wr i cy) (hx : l[i]? = some x) (hm : 0 ≤ m) (hm1 : m ≤ 390625) (hl : BD.Lim l) (hg : B ≤ g) :
    TmI w B g n c m l (wr.setCell ⟨g, i, none⟩ (.int .u64 ((x * m + cy) % 1000000000))) (i + 1) ((x * m + cy) / 1000000000) := by
  have hxl := hl x (List.mem_of_getElem? hx)
  have hc := BD.carry_le hxl.1 hxl.2 hm hm1 h.lo h.hi
  obtain ⟨d, hd, ho, he⟩ := h.row
  have hdr : l.drop i = x :: l.drop (i + 1) := by
    rw [List.drop_eq_getElem_cons (by rcases Nat.lt_or_ge i l.length with q | q; exact q; rw [List.getElem?_eq_none q] at hx; cases hx)]
    congr 1
    rw [List.getElem?_eq_some_iff] at hx
    exact hx.2
  refine ⟨hc.2.2.1, hc.2.2.2, ⟨d ++ [(x * m + cy) % 1000000000], by simp [hd], ?_, ?_⟩, ?_⟩
  · have := (ho.stored i (.int .u64 ((x * m + cy) % 1000000000))).1
    rw [hdr] at this
    have e : (lc (d ++ x :: l.drop (i + 1))).set i (.int .u64 ((x * m + cy) % 1000000000)) = lc (d ++ [(x * m + cy) % 1000000000] ++ l.drop (i + 1)) := by
      simp only [lc, List.map_append, List.map_cons, List.append_assoc, List.singleton_append]
      rw [List.set_append_right _ _ (by simp [hd])]
      simp [hd]
    rw [e] at this
    exact this
  · rw [List.append_assoc, ← he, hdr]
    rfl
  · exact h.below.setCell hg _

set_option maxRecDepth 100000 in
set_option maxHeartbeats 1000000 in
theorem times_any (B g n c : Nat) (m : Int) (l : List Int) (w : World) (ho : w.ownsRow B 26 1 (.slice (some ⟨g, 0, none⟩) n c) n (lc l)) (hB : B ≤ w.heap.size) (hn : n ≤ 10000) (hm : 0 ≤ m) (hm1 : m ≤ 390625) (hl : BD.Lim l) :
    Calls Tryz.prog 246 #[.slice (some ⟨g, 0, none⟩) n c, .int .u64 m] w fun e w' => (∃ g' c', e = .returned (.slice (some ⟨g', 0, none⟩) (BD.tmL m 0 l).length c') ∧ w'.ownsRow B 26 1 (.slice (some ⟨g', 0, none⟩) (BD.tmL m 0 l).length c') (BD.tmL m 0 l).length (lc (BD.tmL m 0 l))) ∧ Below B w w' := by
  have hln : l.length = n := by have := ho.1; simp at this; exact this
  have hg : B ≤ g := by
    rcases ho.2 with ⟨h', _⟩ | ⟨g', cap', cur, h', hb, _⟩
    · simp at h'
    · simp only [Value.slice.injEq, Option.some.injEq, Addr.mk.injEq, and_true, true_and] at h'
      omega
  have H0 := hid (show TmI w B g n c m l w 0 0 from ⟨Int.le_refl _, hm, ⟨[], rfl, ho, rfl⟩, Below.refl _ _⟩)
  have HL := hid hl
  have HN := hid hln
  clear ho hl hln
  go_enter Tryz.func246, Tryz.ntmps246
  go_wp2_with fail
  go_loopw [5, 10] (fun cv iv wr => ∃ (i : Nat) (cy : Int), cv = .int .u64 cy ∧ iv = .int .i64 i ∧ i ≤ n ∧ Hid (TmI w B g n c m l wr i cy)) (fun _ iv _ => n - (intOf iv).toNat)
  case atStart => exact ⟨0, 0, rfl, rfl, Nat.zero_le _, H0⟩
  case round =>
    obtain ⟨i, cy, rfl, rfl, hi, hI⟩ := hrel
    by_cases hlt : i < n
    · obtain ⟨x, hx⟩ : ∃ x, l[i]? = some x := ⟨_, List.getElem?_eq_getElem (by rw [HN.out]; exact hlt)⟩
      have hcx := hI.out.at hx
      have hfx := hI.out.frozen i
      have hxl := HL.out x (List.mem_of_getElem? hx)
      have hcl := BD.carry_le hxl.1 hxl.2 hm hm1 hI.out.lo hI.out.hi
      have HS := hid (hI.out.step hx hm hm1 HL.out hg)
      obtain ⟨q, hq⟩ : ∃ q, x * m = q := ⟨_, rfl⟩
      have hlo := hI.out.lo
      have hhi := hI.out.hi
      rw [hq] at hcl HS
      obtain ⟨r, hr⟩ : ∃ r, (q + cy) % 1000000000 = r := ⟨_, rfl⟩
      obtain ⟨cz, hcz⟩ : ∃ cz, (q + cy) / 1000000000 = cz := ⟨_, rfl⟩
      rw [hr, hcz] at HS
      have e1 : IntKind.u64.wrap (x * m) = q := by rw [hq]; rw [IntKind.wrap_u64]; omega
      go_wp2_with fail
      go_roundw
      case rel => exact ⟨i + 1, cz, by rw [hcz], by go_num, by omega, HS⟩
      case measure => simp [intOf]; omega
    · have hi' : i = n := by omega
      subst hi'
      obtain ⟨d, hd, hod, he⟩ := hI.out.row
      rw [List.drop_of_length_le (by rw [HN.out]; exact Nat.le_refl _), List.append_nil] at hod
      rw [List.drop_of_length_le (by rw [HN.out]; exact Nat.le_refl _)] at he
      have hlo := hI.out.lo
      have hhi := hI.out.hi
      have hBW := hI.out.below
      have HB := hid hBW
      by_cases hp : 0 < cy
      · have e2 : d ++ [cy] = BD.tmL m 0 l := by rw [← he]; unfold BD.tmL; rw [if_pos hp]
        have e3 : cy % 1000000000 = cy := by omega
        have e4 : cy / 1000000000 = 0 := by omega
        go_wp2_with fail
        refine wp_loop_rounds 2 ?_
        rw [rounds_succ]
        go_upto_region 9 with fail
        refine wp_region_list ?_
        iterate 3
          refine wpList_plain rfl fun K hK => ?_
          have HK := hid hK
          clear hK
          go_wp2_with fail
          refine HK.out _ _ ?_
          clear HK
        refine wpList_putu rfl rfl (.tmp 32) (.tmp 30) 33 rfl rfl rfl _ rfl B _ _ _ _ rfl rfl rfl hod (Nat.le_trans hB HB.out.size) (by omega) ?_
        intro v1 w1 ho1 hb1
        rw [show lc d ++ [Value.int .u64 (cy % 1000000000)] = lc (BD.tmL m 0 l) by rw [e3, ← e2]; simp [lc]] at ho1
        have hz : (BD.tmL m 0 l).length = i + 1 := by rw [← e2]; simp [hd]
        obtain ⟨g1, c1, rfl⟩ := own_slice ho1 (by omega)
        rw [← hz] at ho1
        have HR := hid ho1
        have HB1 := hid (HB.out.trans hb1)
        clear ho1 hb1 hod
        go_wp2_with fail
        rw [rounds_succ]
        go_wp2_with fail
        go_ret
        exact ⟨⟨g1, c1, by rw [hz]; rfl, HR.out⟩, HB1.out⟩
      · have e2 : d = BD.tmL m 0 l := by rw [← he]; unfold BD.tmL; rw [if_neg hp, List.append_nil]
        rw [e2] at hod
        go_wp2_with fail
        refine wp_loop_rounds 1 ?_
        rw [rounds_succ]
        go_wp2_with fail
        have hz : (BD.tmL m 0 l).length = i := by rw [← e2]; exact hd
        go_ret
        exact ⟨⟨g, c, by rw [hz]; rfl, by rw [hz]; exact hod⟩, HB.out⟩
end Go.Proofs.YtdjhmanccoekjaaGreatDoor.FL
end

section
namespace Go.Proofs.YtdjhmanccoekjaaGreatDoor.FL
open Go.RowKit Go.Proofs

theorem conv_ownT {w : World} {B n c : Nat} {A : Option Addr} {l : List UInt8} (h : w.ownsRow B 5 1 (.slice A n c) n (bc l)) :
    (convert 50 9 (.slice A n c)).run Tryz.prog w = .ok (.string ⟨l.toArray⟩) w := by
  have hl : l.length = n := by
    have := h.1
    simpa [bc] using this
  rcases h.2 with ⟨h0, h1⟩ | ⟨g, cap, cur, h1, h2, h3, h4, h5, h6, h7⟩
  · cases h0
    have e : l = [] := List.eq_nil_of_length_eq_zero hl
    subst e
    exact run_convert_bytes_nil w 50 5 Tryz.underlying50 Tryz.underlying5 0 0 9 Tryz.underlying9
  · cases h1
    subst hl
    refine run_convert_bytes_back w 50 9 5 ⟨g, 0, none⟩ c l Tryz.underlying50 Tryz.underlying5 Tryz.underlying9 (fun j hj => ?_)
    have hc := h.cells (g := g) rfl j (.int .u8 (l[j].toNat : Int)) (by simp [bc, List.getElem?_eq_getElem hj])
    exact hc
/-- append of a row of bytes, in a region of one order. -/
theorem wpList_catb {ops : Array Oper} {rest : List Oper} {oa : Oper} {a : Act} {w : World} {Q : Exit → Act → World → Prop} (hga : oa.guard = none) (x y : Operand)
    (hoa : oa.op = .call { callee := .builtin .append, args := #[y, x], argTypes := #[50, 50] })
    (B : Nat) (v : Value) (n : Nat) (xs : List Value) (hy : a.eval y = v) (hown : w.ownsRow B 5 1 v n xs) (g m c : Nat) (l : List UInt8) (hx : a.eval x = .slice (some ⟨g, 0, none⟩) m c) (hm : l.length = m)
    (hc : ∀ (j : Nat) (b : UInt8), l[j]? = some b → w.cell? ⟨g, j, none⟩ = some (.int .u8 b.toNat)) (hB : B ≤ w.heap.size) (hn : n + m ≤ 1000000)
    (h : ∀ v' w', w'.ownsRow B 5 1 v' (n + m) (xs ++ bc l) → Below B w w' → wpList Tryz.prog ops Q rest (a.put oa.dst v') w') : wpList Tryz.prog ops Q (oa :: rest) a w := by
  obtain ⟨i0, hi, hz0, hz1, hz2⟩ := info_parts info_u8
  refine wpList_append_own (P := Tryz.prog) (w := w) hga y x 50 hoa B 5 i0 (.int .u8 0) 1 1 Tryz.underlying50 hi hz0 hz1 hz2 rfl (by decide) v n xs hy hown ⟨g, 0, none⟩ m c (bc l) hx (by rw [bc_length, hm, Nat.mul_one]) ?_ (bc_one l) (by unfold maxLen; omega) (by omega) hB ?_
  · intro j u hu
    rw [Addr.add_mid, Nat.zero_add]
    unfold bc at hu
    rw [List.getElem?_map] at hu
    cases hb : l[j]? with
    | none => rw [hb] at hu; cases hu
    | some b =>
      rw [hb] at hu
      simp only [Option.map_some, Option.some.injEq] at hu
      rw [← hu]
      exact hc j b hb
  · intro v' w' h2 h3 _
    exact h v' w' h2 (town_grown hown (Below.refl B w) hB h3)

/-- The limbs lie in the row. -/
def RowU (w : World) (g : Nat) (l : List Int) : Prop := ∀ (j : Nat) (x : Int), l[j]? = some x → w.cell? ⟨g, j, none⟩ = some (.int .u64 x)
theorem own_rowU {w : World} {B n c g : Nat} {l : List Int} (ho : w.ownsRow B 26 1 (.slice (some ⟨g, 0, none⟩) n c) n (lc l)) : RowU w g l := by
  intro j x hx
  have hc := ho.cells (g := g) rfl j (.int .u64 x) (by rw [lc, List.getElem?_map, hx]; rfl)
  rw [Addr.add_mid, Nat.zero_add] at hc
  exact hc
theorem RowU.below {w w' : World} {g : Nat} {l : List Int} (h : RowU w g l) (hb : Below w.heap.size w w') : RowU w' g l := fun j x hx => (hb.cell (p := ⟨g, j, none⟩) (World.block_lt_of_cell? w _ (h j x hx))).trans (h j x hx)

set_option maxRecDepth 100000 in
set_option maxHeartbeats 1000000 in
theorem trimmed_any (g n c : Nat) (l : List Int) (w : World) (hr : RowU w g l) (hln : l.length = n) (hn : n ≤ 10000) (hc : n ≤ c) :
    Calls Tryz.prog 257 #[.slice (some ⟨g, 0, none⟩) n c] w fun e w' => (∃ k, k ≤ n ∧ e = .returned (.slice (some ⟨g, 0, none⟩) k c) ∧ BD.lead (BD.allD l) = BD.lead (BD.allD (l.take k))) ∧ w' = w := by
  have HR := hid hr
  have HL := hid hln
  clear hr hln
  go_enter Tryz.func257, Tryz.ntmps257
  go_wp2_with fail
  go_loopw [0] (fun sv wr => ∃ k : Nat, sv = .slice (some ⟨g, 0, none⟩) k c ∧ k ≤ n ∧ wr = w ∧ Hid (∀ x ∈ l.drop k, x = 0)) (fun sv _ => (match sv with | .slice _ k _ => k | _ => 0))
  case atStart =>
    refine ⟨n, rfl, Nat.le_refl _, rfl, ?_⟩
    intro x hx
    rw [List.drop_of_length_le (by rw [HL.out]; exact Nat.le_refl _)] at hx
    cases hx
  case round =>
    obtain ⟨k, rfl, hk, rfl, hZ⟩ := hrel
    by_cases h0 : k = 0
    · subst h0
      have HF := hid (BD.lead_trim l 0 hZ.out)
      go_wp2_with fail
      go_ret
      exact ⟨⟨0, hk, rfl, HF.out⟩, rfl⟩
    · obtain ⟨x, hx⟩ : ∃ x, l[k - 1]? = some x := ⟨_, List.getElem?_eq_getElem (by rw [HL.out]; omega)⟩
      have hcx := HR.out (k - 1) x hx
      by_cases hz : x = 0
      · subst hz
        have HN := hid (show ∀ y ∈ l.drop (k - 1), y = 0 by
          intro y hy
          rw [List.drop_eq_getElem_cons (by rw [HL.out]; omega)] at hy
          rcases List.mem_cons.1 hy with rfl | hy
          · rw [List.getElem?_eq_some_iff] at hx; exact hx.2
          · rw [show k - 1 + 1 = k by omega] at hy; exact hZ.out y hy)
        go_wp2_with fail
        go_roundw
        case rel => exact ⟨k - 1, rfl, by omega, trivial, HN⟩
        case measure => show k - 1 < k; omega
      · have HF := hid (BD.lead_trim l k hZ.out)
        go_wp2_with fail
        go_ret
        exact ⟨⟨k, hk, rfl, HF.out⟩, rfl⟩

abbrev dig0 : Array Value := #[.int .u8 0, .int .u8 0, .int .u8 0, .int .u8 0, .int .u8 0, .int .u8 0, .int .u8 0, .int .u8 0, .int .u8 0]
theorem own_form {w : World} {base n z : Nat} {e : TypeId} {v : Value} {xs : List Value} (h : w.ownsRow base e z v n xs) : ∃ A c, v = .slice A n c := by
  rcases h.2 with ⟨rfl, rfl⟩ | ⟨g, cap, cur, rfl, _⟩
  · exact ⟨_, _, rfl⟩
  · exact ⟨_, _, rfl⟩
theorem own_belowT {w W : World} {B n z : Nat} {e : TypeId} {v : Value} {xs : List Value} (h : w.ownsRow B e z v n xs) (hb : Below w.heap.size w W) : W.ownsRow B e z v n xs := by
  refine ⟨h.1, ?_⟩
  rcases h.2 with h2 | ⟨g, cap, cur, h1, h2, h3, h4⟩
  · exact Or.inl h2
  · refine Or.inr ⟨g, cap, cur, h1, h2, ?_, h4⟩
    rw [hb.block g ?_]
    · exact h3
    · rcases Nat.lt_or_ge g w.heap.size with q | q
      · exact q
      · rw [Array.getElem?_eq_none q] at h3; cases h3
theorem blk_bytes {w : World} {p : Nat} {d : List UInt8} {T : TypeId} (hb : Blk w p (bc d).toArray T) (j : Nat) (b : UInt8) (hj : d[j]? = some b) : w.cell? ⟨p, j, none⟩ = some (.int .u8 b.toNat) := by
  rw [hb.cell j, List.getElem?_toArray, bc, List.getElem?_map, hj]
  rfl
/-- The state of the inner loop: t digits are laid. -/
structure DgI (w : World) (p : Nat) (x0 : Int) (wr : World) (t : Nat) (x : Int) : Prop where
  blk : ∃ d : List UInt8, d.length = t ∧ Blk wr p (bc (List.replicate (9 - t) 0 ++ d)).toArray 348 ∧ BD.digN (9 - t) x ++ d = BD.digN 9 x0
  x : 0 ≤ x ∧ x < 1000000000
  below : Below p w wr
theorem DgI.step {w wr : World} {p t : Nat} {x0 x : Int} (h : DgI w p x0 wr t x) (ht : t < 9) : DgI w p x0 (wr.setCell ⟨p, 8 - t, none⟩ (.int .u8 (48 + x % 10))) (t + 1) (x / 10) := by
  obtain ⟨d, hd, hb, he⟩ := h.blk
  have hx := h.x
  refine ⟨⟨UInt8.ofNat (48 + x % 10).toNat :: d, by simp [hd], ?_, ?_⟩, by omega, h.below.setCell (Nat.le_refl _) _⟩
  · have := hb.set_ (8 - t) (.int .u8 (48 + x % 10))
    have e : ((bc (List.replicate (9 - t) 0 ++ d)).toArray.setIfInBounds (8 - t) (.int .u8 (48 + x % 10))) = (bc (List.replicate (9 - (t + 1)) 0 ++ UInt8.ofNat (48 + x % 10).toNat :: d)).toArray := by
      rw [List.setIfInBounds_toArray]
      congr 1
      rw [show 9 - t = (8 - t) + 1 by omega, show 9 - (t + 1) = 8 - t by omega, List.replicate_succ', List.append_assoc, List.singleton_append, bc_append, List.set_append_right _ _ (by simp [bc]), bc_append]
      simp [bc]
      omega
    rw [e] at this
    exact this
  · rw [← he, show 9 - t = (8 - t) + 1 by omega, show 9 - (t + 1) = 8 - t by omega, BD.digN, List.append_assoc, List.singleton_append]
theorem DgI.zero {w wr : World} {p t : Nat} {x0 x : Int} (h : DgI w p x0 wr t x) (ht : t < 9) : wr.frozen? ⟨p, 8 - t, none⟩ = false ∧ wr.cell? ⟨p, 8 - t, none⟩ = some (.int .u8 0) := by
  obtain ⟨d, hd, hb, _⟩ := h.blk
  refine ⟨hb.frozen _, ?_⟩
  rw [hb.cell (8 - t), List.getElem?_toArray, bc, List.getElem?_map, List.getElem?_append_left (by simp; omega), List.getElem?_replicate, if_pos (by omega)]
  rfl
/-- The state of the outer loop: the limbs from i on are written. -/
structure TxI (w : World) (l : List Int) (wr : World) (ov : Value) (i : Nat) : Prop where
  own : wr.ownsRow w.heap.size 5 1 ov (9 * (l.length - i)) (bc (BD.allD (l.drop i)))
  below : Below w.heap.size w wr
theorem TxI.step {w wr w2 : World} {l : List Int} {ov v2 : Value} {i N : Nat} {x : Int} {d : List UInt8} (_h : TxI w l wr ov i) (hx : l[i - 1]? = some x) (hi : i ≤ l.length) (h0 : 0 < i) (hd : d = BD.digN 9 x)
    (ho : w2.ownsRow w.heap.size 5 1 v2 N (bc (BD.allD (l.drop i)) ++ bc d)) (hb : Below w.heap.size w w2) (hN : N = 9 * (l.length - i) + 9 := by rfl) : TxI w l w2 v2 (i - 1) := by
  refine ⟨?_, hb⟩
  rw [BD.allD_drop hx, show i - 1 + 1 = i by omega, bc_append, ← hd, show 9 * (l.length - (i - 1)) = N by omega]
  exact ho
set_option maxRecDepth 100000 in
set_option maxHeartbeats 1000000 in
theorem text_any (g n c : Nat) (l : List Int) (w : World) (hr : RowU w g l) (hln : l.length = n) (hn : n ≤ 10000) (hc : n ≤ c) (hl : BD.Lim l) :
    Calls Tryz.prog 247 #[.slice (some ⟨g, 0, none⟩) n c] w fun e w' => e = .returned (.string ⟨(BD.lead (BD.allD l)).toArray⟩) ∧ Below w.heap.size w w' := by
  have TR := hid (trimmed_any g n c l w hr hln hn hc)
  have HR := hid hr
  have HL := hid hln
  have HM := hid hl
  have TL := hid (fun s W => Tryz.strings_TrimLeft_one s 48 (by decide) W)
  clear hr hln hl
  go_enter Tryz.func247, Tryz.ntmps247
  go_wp2_with ((refine TR.out.mono ?_); rintro e w' ⟨⟨k, hk, rfl, hq⟩, rfl⟩)
  have HQ := hid hq
  clear hq TR
  have hkl : (l.take k).length = k := by rw [List.length_take, HL.out]; omega
  have HKL := hid hkl
  have H0 := hid (show TxI w' (l.take k) w' (.slice none 0 0) k from ⟨by
    rw [hkl, Nat.sub_self, List.drop_of_length_le (by rw [hkl]; exact Nat.le_refl _)]
    exact World.ownsRow_nil _ _ _ _, Below.refl _ _⟩)
  clear hkl
  go_loopw [3, 4] (fun ov iv wr => ∃ i : Nat, iv = .int .i64 ((i : Int) - 1) ∧ i ≤ k ∧ Hid (TxI w' (l.take k) wr ov i)) (fun _ iv _ => (intOf iv + 1).toNat)
  case atStart => exact ⟨k, rfl, Nat.le_refl _, H0⟩
  case round =>
    obtain ⟨i, rfl, hi, hI⟩ := hrel
    by_cases h0 : i = 0
    · subst h0
      have hown := hI.out.own
      obtain ⟨N, hN⟩ : ∃ N, 9 * ((l.take k).length - 0) = N := ⟨_, rfl⟩
      rw [List.drop_zero, hN] at hown
      obtain ⟨A, q, rfl⟩ := own_form hown
      have cv := conv_ownT hown
      have HB := hid hI.out.below
      clear hown
      go_wp2_with ((refine (TL.out _ _).mono ?_); rintro e w2 ⟨rfl, rfl⟩)
      go_ret
      exact ⟨by rw [HQ.out]; rfl, HB.out⟩
    · obtain ⟨x, hx⟩ : ∃ x, l[i - 1]? = some x := ⟨_, List.getElem?_eq_getElem (by rw [HL.out]; omega)⟩
      have hcw := (hI.out.below.cell (p := ⟨g, i - 1, none⟩) (World.block_lt_of_cell? w' _ (HR.out (i - 1) x hx))).trans (HR.out (i - 1) x hx)
      have hcx : (wr.alloc (.cells dig0 348)).cell? ⟨g, i - 1, none⟩ = some (.int .u64 x) := ((Below.refl wr.heap.size wr).alloc (Nat.le_refl _) _).cell (p := ⟨g, i - 1, none⟩) (World.block_lt_of_cell? wr _ hcw) |>.trans hcw
      have hxl := HM.out x (List.mem_of_getElem? hx)
      have HD := hid (show DgI wr wr.heap.size x (wr.alloc (.cells dig0 348)) 0 x from ⟨⟨[], rfl, Blk.new _ _ _, by simp⟩, hxl, (Below.refl _ _).alloc (Nat.le_refl _) _⟩)
      have hx' : (l.take k)[i - 1]? = some x := by rw [List.getElem?_take, if_pos (by omega)]; exact hx
      have HX := hid hx'
      have hge : decide (1 ≤ (i : Int)) = true := decide_eq_true (by omega)
      clear hcw hx hx'
      go_wp2_with fail
      go_loopw [6, 7] (fun xv kv wq => ∃ (t : Nat) (y : Int), xv = .int .u64 y ∧ kv = .int .i64 (8 - (t : Int)) ∧ t ≤ 9 ∧ Hid (DgI wr wr.heap.size x wq t y)) (fun _ kv _ => (intOf kv + 1).toNat)
      case atStart => exact ⟨0, x, rfl, rfl, Nat.zero_le _, HD⟩
      case round =>
        obtain ⟨t, y, rfl, rfl, ht, hD⟩ := hrel
        have hyl := hD.out.x
        by_cases h9 : t = 9
        · subst h9
          obtain ⟨d, hd, hb, he⟩ := hD.out.blk
          rw [show 9 - 9 = 0 by decide, List.replicate_zero, List.nil_append] at hb
          rw [show 9 - 9 = 0 by decide] at he
          have he' : d = BD.digN 9 x := he
          have hcd := blk_bytes hb
          have hown := hI.out.own
          have hbw := hD.out.below
          have HBW := hid (hI.out.below.trans (hbw.mono hI.out.below.size))
          have hown2 := own_belowT hown hbw
          go_upto_region 12 with fail
          refine wp_region_list ?_
          iterate 2
            refine wpList_plain rfl fun K hK => ?_
            have HK := hid hK
            clear hK
            go_wp2_with fail
            refine HK.out _ _ ?_
            clear HK
          refine wpList_catb rfl (.tmp 34) (.tmp 33) rfl _ _ _ _ rfl hown2 _ 9 9 d rfl hd hcd HBW.out.size (by have := HKL.out; omega) ?_
          intro v2 w2 ho2 hb2
          have HN := hid (TxI.step hI.out HX.out (by rw [HKL.out]; omega) (by omega) he' ho2 (HBW.out.trans hb2))
          clear ho2 hb2 hcd hown hown2 hb
          go_wp2_with fail
          go_roundw
          case rel => exact ⟨i - 1, by rw [show ((i - 1 : Nat) : Int) = (i : Int) - 1 by omega], by omega, HN⟩
          case measure => simp [intOf]; omega
        · have HS := hid (hD.out.step (by omega))
          obtain ⟨hf, hc8⟩ := hD.out.zero (by omega)
          go_wp2_with fail
          go_roundw
          case rel => exact ⟨t + 1, y / 10, rfl, by go_num, by omega, HS⟩
          case measure => simp [intOf]; omega
end Go.Proofs.YtdjhmanccoekjaaGreatDoor.FL
end

section
namespace Go.Proofs.YtdjhmanccoekjaaGreatDoor.FL
open Go.RowKit Go.Proofs

abbrev bs (l : List UInt8) : ByteArray := ⟨l.toArray⟩
abbrev decV (x : List UInt8 × Int) : Value := .agg #[.string (bs x.1), .int .i64 x.2]
theorem bs_size (l : List UInt8) : (bs l).size = l.length := by simp [ByteArray.size]
theorem foot_len (l : List UInt8) : (BD.foot l).length ≤ l.length := by
  unfold BD.foot Lib.trimRightB
  rw [List.length_reverse]
  exact Nat.le_trans (List.dropWhile_suffix _).length_le (by simp)
set_option maxRecDepth 100000 in
set_option maxHeartbeats 1000000 in
theorem form_any (d : List UInt8) (p : Int) (w : World) (hd : d.length ≤ 1000000) (hp0 : -1000000 ≤ p) (hp1 : p ≤ 1000000) :
    Calls Tryz.prog 244 #[decV (d, p)] w fun e w' => e = .returned (decV (BD.formL d p)) ∧ Below w.heap.size w w' := by
  have TL := hid (fun s W => Tryz.strings_TrimLeft_one s 48 (by decide) W)
  have TR := hid (fun s W => Tryz.strings_TrimRight_one s 48 (by decide) W)
  obtain ⟨a, ha⟩ : ∃ a, BD.lead d = a := ⟨_, rfl⟩
  obtain ⟨b, hb⟩ : ∃ b, BD.foot a = b := ⟨_, rfl⟩
  have hal : a.length ≤ d.length := by rw [← ha]; exact BD.lead_len d
  have hbl : b.length ≤ a.length := by rw [← hb]; exact foot_len a
  have hf : BD.formL d p = if b = [] then ([], 0) else (b, p - ((d.length : Int) - (a.length : Int))) := by unfold BD.formL; rw [ha, hb]
  have HA := hid (show Lib.trimLeftB (bs d).data.toList 48 = a from ha)
  have HB := hid (show Lib.trimRightB (bs a).data.toList 48 = b from hb)
  have hza : (bs a).size = a.length := bs_size a
  have hzd : (bs d).size = d.length := bs_size d
  have HF := hid hf
  clear ha hb hf
  have hbx := (Below.refl w.heap.size w).alloc (Nat.le_refl _) (.cells #[.string (bs d), .int .i64 p] 306)
  go_enter Tryz.func244, Tryz.ntmps244
  by_cases h0 : b = []
  · subst h0
    go_wp2_with first
      | (refine (TL.out _ _).mono ?_; rintro e w' ⟨rfl, rfl⟩; rw [HA.out])
      | (refine (TR.out _ _ (by rw [bs_size]; omega)).mono ?_; rintro e w' ⟨rfl, rfl⟩; rw [HB.out])
    have hr : BD.formL d p = ([], 0) := by rw [HF.out]; rfl
    rw [hr]
    refine bodyPost_ret (v := decV ([], 0)) (by simp [results, Tryz.results244, go_sem]) rfl ⟨rfl, ?_⟩
    exact ((Below.refl _ _).alloc (Nat.le_refl _) _).alloc (by simp) _
  · have h0' : b.isEmpty = false := by
      cases b with
      | nil => exact absurd rfl h0
      | cons _ _ => rfl
    have hr : BD.formL d p = (b, p - ((d.length : Int) - (a.length : Int))) := by rw [HF.out, if_neg h0]
    rw [hr]
    go_wp2_with first
      | ((refine (TL.out _ _).mono ?_); rintro e w' ⟨rfl, rfl⟩; rw [HA.out])
      | ((refine (TR.out _ _ (by rw [bs_size]; omega)).mono ?_); rintro e w' ⟨rfl, rfl⟩; rw [HB.out])
    refine bodyPost_ret (v := decV (b, p - ((d.length : Int) - (a.length : Int)))) (by simp [results, Tryz.results244, go_sem]) rfl ⟨rfl, ?_⟩
    exact ((Below.refl _ _).alloc (Nat.le_refl _) _).alloc (by simp) _

theorem limbs_lim {m : Int} (h0 : 0 ≤ m) (h1 : m < 18446744073709551616) : BD.Lim (BD.limbs m) := by
  intro x hx
  simp only [BD.limbs, List.mem_cons, List.not_mem_nil, or_false] at hx
  rcases hx with rfl | rfl | rfl <;> omega
theorem own_cap {w : World} {B g n c z : Nat} {e : TypeId} {xs : List Value} (h : w.ownsRow B e z (.slice (some ⟨g, 0, none⟩) n c) n xs) : n ≤ c := by
  rcases h.2 with ⟨h', _⟩ | ⟨g', cap', cur, h', _, _, h4, _⟩
  · simp at h'
  · simp only [Value.slice.injEq] at h'
    omega
/-- The state of the loops: the limbs lie in a row of the call's own. -/
structure ExI (w : World) (l : List Int) (wr : World) (v : Value) : Prop where
  row : ∃ g c, v = .slice (some ⟨g, 0, none⟩) l.length c ∧ wr.ownsRow w.heap.size 26 1 (.slice (some ⟨g, 0, none⟩) l.length c) l.length (lc l)
  lim : BD.Lim l
  below : Below w.heap.size w wr
theorem ExI.times {w wr : World} {l : List Int} {v : Value} (h : ExI w l wr v) (m : Int) (hm : 0 ≤ m) (hm1 : m ≤ 390625) (hn : l.length ≤ 2000) :
    Calls Tryz.prog 246 #[v, .int .u64 m] wr fun e w' => ∃ v', e = .returned v' ∧ ExI w (BD.tmL m 0 l) w' v' := by
  obtain ⟨g, c, rfl, ho⟩ := h.row
  refine (times_any w.heap.size g l.length c m l wr ho h.below.size (by omega) hm hm1 h.lim).mono ?_
  rintro e w' ⟨⟨g', c', rfl, ho'⟩, hb⟩
  exact ⟨_, rfl, ⟨g', c', rfl, ho'⟩, BD.tm_lim hm hm1 l 0 (Int.le_refl _) hm h.lim, h.below.trans hb⟩
theorem row3_new {w : World} {a b c : Int} (B : Nat) (hB : B ≤ w.heap.size) : (w.alloc (.cells #[.int .u64 a, .int .u64 b, .int .u64 c] 26)).ownsRow B 26 1 (.slice (some ⟨w.heap.size, 0, none⟩) 3 3) 3 (lc [a, b, c]) :=
  ⟨rfl, Or.inr ⟨w.heap.size, 3, _, rfl, hB, heap_alloc_new w _, Nat.le_refl _, by unfold maxLen; omega, rfl, rfl⟩⟩
set_option maxRecDepth 100000 in
set_option maxHeartbeats 1000000 in
theorem exact_neg (m e : Int) (w : World) (hm0 : 0 ≤ m) (hm1 : m < 18446744073709551616) (he0 : -1200 ≤ e) (he1 : e < 0) :
    Calls Tryz.prog 232 #[.int .u64 m, .int .i64 e] w fun en w' => en = .returned (.tuple #[decV (BD.exactL m e), .int .i64 0]) ∧ Below w.heap.size w w' := by
  have hl := limbs_lim hm0 hm1
  obtain ⟨n, hn⟩ : ∃ n : Nat, n = (-e).toNat := ⟨_, rfl⟩
  have hne : -e = (n : Int) := by omega
  obtain ⟨F, hF⟩ : ∃ F, BD.itL 5 (n % 8) (BD.itL 390625 (n / 8) (BD.limbs m)) = F := ⟨_, rfl⟩
  have hex : BD.exactL m e = BD.formL (BD.lead (BD.allD F)) (((BD.lead (BD.allD F)).length : Int) + e) := by
    unfold BD.exactL BD.exL
    rw [if_pos he1, if_pos he1, ← hn, ← hF]
    rfl
  have HX := hid hex
  obtain ⟨w1, hw1⟩ : ∃ w1, w.alloc (.cells #[.string ⟨#[]⟩, .int .i64 0] 306) = w1 := ⟨_, rfl⟩
  have hR : Blk w1 w.heap.size #[.string ⟨#[]⟩, .int .i64 0] 306 := by rw [← hw1]; exact Blk.new _ _ _
  have hb1 : Below w.heap.size w w1 := by rw [← hw1]; exact (Below.refl _ _).alloc (Nat.le_refl _) _
  have hz1 : w1.heap.size = w.heap.size + 1 := by rw [← hw1]; simp
  have H0 := hid (show ExI w1 (BD.limbs m) (w1.alloc (.cells #[.int .u64 (m % 1000000000), .int .u64 (m / 1000000000 % 1000000000), .int .u64 (m / 1000000000 / 1000000000)] 26)) (.slice (some ⟨w1.heap.size, 0, none⟩) 3 3) from
    ⟨⟨_, 3, rfl, row3_new _ (Nat.le_refl _)⟩, hl, (Below.refl _ _).alloc (Nat.le_refl _) _⟩)
  rw [hz1] at H0
  have HR := hid hR
  have HB1 := hid hb1
  have HW := hid hw1
  have HF := hid hF
  have hml : (BD.limbs m).length = 3 := rfl
  clear hex hR hl hn hF
  go_enter Tryz.func232, Tryz.ntmps232
  go_upto_region 7 with fail
  go_loopw [1, 6] (fun ev lv wr => ∃ (E : Nat) (L : List Int), ev = .int .i64 E ∧ L.length + E ≤ 1300 ∧ Hid (BD.itL 5 (E % 8) (BD.itL 390625 (E / 8) L) = F) ∧ Hid (ExI w1 L wr lv)) (fun ev _ _ => (intOf ev).toNat)
  case atStart => exact ⟨n, BD.limbs m, rfl, by omega, HF, H0⟩
  case round =>
    obtain ⟨E, L, rfl, hEL, hG, hI⟩ := hrel
    by_cases h8 : 8 ≤ E
    · have ht := BD.tm_len 390625 L 0
      have HG := hid (show BD.itL 5 ((E - 8) % 8) (BD.itL 390625 ((E - 8) / 8) (BD.tmL 390625 0 L)) = F by
        rw [← hG.out, show E / 8 = (E - 8) / 8 + 1 by omega, show E % 8 = (E - 8) % 8 by omega]
        rfl)
      have TM := hid (hI.out.times 390625 (by decide) (by decide) (by omega))
      go_wp2_with ((refine TM.out.mono ?_); rintro e w' ⟨v', rfl, hI'⟩)
      go_roundw
      case rel => exact ⟨E - 8, _, by rw [show ((E - 8 : Nat) : Int) = (E : Int) - 8 by omega], by omega, HG, hid hI'⟩
      case measure => simp [intOf]; omega
    · have HG := hid (show BD.itL 5 E L = F by
        rw [← hG.out, show E / 8 = 0 by omega, show E % 8 = E by omega]
        rfl)
      go_wp2_with fail
      go_loopw [1, 6] (fun ev lv wr => ∃ (E : Nat) (L : List Int), ev = .int .i64 E ∧ L.length + E ≤ 1300 ∧ Hid (BD.itL 5 E L = F) ∧ Hid (ExI w1 L wr lv)) (fun ev _ _ => (intOf ev).toNat)
      case atStart => exact ⟨E, L, rfl, hEL, HG, hI⟩
      case round =>
        clear hG hI HG h8 hEL
        obtain ⟨E, L, rfl, hEL, hG, hI⟩ := hrel
        by_cases h1 : 0 < E
        · have ht := BD.tm_len 5 L 0
          have HG := hid (show BD.itL 5 (E - 1) (BD.tmL 5 0 L) = F by
            rw [← hG.out, show E = (E - 1) + 1 by omega]
            rfl)
          have TM := hid (hI.out.times 5 (by decide) (by decide) (by omega))
          go_wp2_with ((refine TM.out.mono ?_); rintro e w' ⟨v', rfl, hI'⟩)
          go_roundw
          case rel => exact ⟨E - 1, _, by rw [show ((E - 1 : Nat) : Int) = (E : Int) - 1 by omega], by omega, HG, hid hI'⟩
          case measure => simp [intOf]; omega
        · have hE : E = 0 := by omega
          subst hE
          have hLF : L = F := hG.out
          subst hLF
          obtain ⟨g, c, rfl, ho⟩ := hI.out.row
          have hcc := own_cap ho
          have ru := own_rowU ho
          have TX := hid (text_any g L.length c L wr ru rfl (by omega) hcc hI.out.lim)
          have hsl := BD.lead_len (BD.allD L)
          rw [BD.allD_len] at hsl
          obtain ⟨S, hS⟩ : ∃ S, BD.lead (BD.allD L) = S := ⟨_, rfl⟩
          have hX := HX.out
          rw [hS] at hX TX hsl
          have HX' := hid hX
          have hzs := bs_size S
          have bw := hI.out.below
          have HB := hid bw
          clear hX hS ho ru HX
          have FO := hid (fun W => form_any S ((S.length : Int) + e) W (by omega) (by omega) (by omega))
          go_wp2_with ((refine TX.out.mono ?_); rintro en w' ⟨rfl, hb2⟩)
          have hbb := (HB.out.trans (hb2.mono HB.out.size))
          have HB2 := hid hbb
          clear hb2
          refine (FO.out _).mono ?_
          rintro en w3 ⟨rfl, hb3⟩
          have hb4 := (HB2.out.trans (hb3.mono HB2.out.size))
          have hR := HR.out.below hb4 (by rw [hz1]; omega)
          have hc0 := hR.cell 0
          have hc1 := hR.cell 1
          have hf0 := hR.frozen 0
          have hf1 := hR.frozen 1
          have HB4 := hid (HB1.out.trans (hb4.mono (by rw [hz1]; omega)))
          have HRR := hid hR
          rw [← HX'.out]
          obtain ⟨o, hO⟩ : ∃ o, BD.exactL m e = o := ⟨_, rfl⟩
          rw [hO]
          obtain ⟨od, op⟩ := o
          clear hb3 hb4 hbb hR
          go_wp2_with fail
          have hR2 := (HRR.out.set_ 0 (.string (bs od))).set_ 1 (.int .i64 op)
          have q0 := hR2.cell 0
          have q1 := hR2.cell 1
          simp only [List.setIfInBounds_toArray, List.set_cons_zero, List.set_cons_succ, List.getElem?_toArray, List.getElem?_cons_zero, List.getElem?_cons_succ] at q0 q1
          refine bodyPost_ret (v := .tuple #[decV (od, op), .int .i64 0]) ?_ rfl ⟨by rw [hO], (HB4.out.setCell (Nat.le_refl _) _).setCell (Nat.le_refl _) _⟩
          simp [results, Tryz.results232, go_sem, q0, q1]
end Go.Proofs.YtdjhmanccoekjaaGreatDoor.FL
end
