/-
  Texts of this claim, joined: VR, VQ, VS, VU.
-/
import Derived.Laws.AppendOwnNone
import Derived.Test.YtdjhmanccoekjaaGreatDoorN17
import Derived.Test.YtdjhmanccoekjaaGreatDoorN19
import Derived.Test.YtdjhmanccoekjaaGreatDoorN18

section
namespace Go.Proofs.YtdjhmanccoekjaaGreatDoor
open Go.RowKit Go.Proofs

set_option maxRecDepth 100000 in
set_option maxHeartbeats 4000000 in
/-- As in TP, where what Begin leaves is not known ahead. -/
theorem pprintE (p q c s r F B : Nat) (A : Option Addr) (N cap : Nat) (m calls : Int) (sl : Sl) (fmt : ByteArray) (T : List UInt8) (w : World) (h : PressAt w p q c (.slice A N cap) s r m calls) (hB : B ≤ w.heap.size) (hp : B ≤ p) (hq : B ≤ q) (hc : B ≤ c)
    (hm : 0 ≤ m ∧ m ≤ 1000) (hcl : 0 ≤ calls ∧ calls ≤ 1000) (hF : w.cell? ⟨F, 0, none⟩ = some (.string fmt)) (hFp : F ≠ p) (hFq : F ≠ q)
    (RUN : ∀ b W, Below B w W → (∀ k, k < w.heap.size → k ≠ p → k ≠ q → W.heap[k]? = w.heap[k]?) → w.heap.size ≤ b → StAt W b ⟨[], 0, sliceN, [], 0, false⟩ sliceN sliceN → ∃ J : Value → St → World → Prop,
      Calls Tryz.prog 42 #[.pointer (some ⟨b, 0, none⟩), .int .i64 0, .slice A N cap, slV sl] W (fun e w' => e = .returned (.tuple #[]) ∧ ∃ va s1, StAt w' b s1 sliceN va ∧ J va s1 w' ∧ Below b W w') ∧
      ∀ W' va s1, StAt W' b s1 sliceN va → J va s1 W' → Below b W W' → Calls Tryz.prog 29 #[.pointer (some ⟨b, 0, none⟩), .string fmt] W' fun e w' => e = .returned (.tuple #[]) ∧ ∃ v' s2, s2.all = T ∧ StAt w' b s2 v' va ∧ Kp b W' w') :
    Calls Tryz.prog 27 #[.pointer (some ⟨p, 0, none⟩), slV sl, doF F] w fun e w' => e = .returned (.string ⟨(stText T).toArray⟩) ∧ Below B w w' := by
  have hmf : ∀ (fn : Fn) (first cap : Array Value) (w : World), (Instr.makeFunc fn first cap).run Tryz.prog w = .ok (.func fn first cap) w := fun _ _ _ _ => rfl
  have RUN := hid RUN
  have hpq : p ≠ q := fun e => by have h1 := h.pr; have h2 := h.fr; rw [e] at h1; exact absurd (blk_ty h1 h2) (by decide)
  have hpc : p ≠ c := fun e => by have h1 := h.pr; have h2 := h.ch; unfold Blk at h1; rw [e, h2] at h1; cases h1
  have hqc : q ≠ c := fun e => by have h1 := h.fr; have h2 := h.ch; unfold Blk at h1; rw [e, h2] at h1; cases h1
  have p0 : w.cell? ⟨p, 0, none⟩ = some (.slice A N cap) := h.pr.cell 0
  have p1 : w.cell? ⟨p, 1, none⟩ = some (.pointer (some ⟨q, 0, none⟩)) := h.pr.cell 1
  have p3 : w.cell? ⟨p, 3, none⟩ = some (.int .i64 calls) := h.pr.cell 3
  have pf : w.frozen? ⟨p, 3, none⟩ = false := h.pr.frozen 3
  have b1 := h.pr.set_ 3 (.int .i64 (calls + 1))
  have P1 : PressAt (w.setCell ⟨p, 3, none⟩ (.int .i64 (calls + 1))) p q c (.slice A N cap) s r m (calls + 1) := ⟨b1, h.fr.far (Ne.symm hpq) _, (Below.heap_setCell _ _ _ _ (Ne.symm hpc)).trans h.ch⟩
  have q0 : (w.setCell ⟨p, 3, none⟩ (.int .i64 (calls + 1))).cell? ⟨p, 0, none⟩ = some (.slice A N cap) := b1.cell 0
  have q1 : (w.setCell ⟨p, 3, none⟩ (.int .i64 (calls + 1))).cell? ⟨p, 1, none⟩ = some (.pointer (some ⟨q, 0, none⟩)) := b1.cell 1
  have L1 : Below B w (w.setCell ⟨p, 3, none⟩ (.int .i64 (calls + 1))) := (Below.refl B w).setCell hp _
  have F1 : (w.setCell ⟨p, 3, none⟩ (.int .i64 (calls + 1))).cell? ⟨F, 0, none⟩ = some (.string fmt) := (World.cell?_setCell_far _ _ _ _ (Ne.symm hFp)).trans hF
  have hz1 : (w.setCell ⟨p, 3, none⟩ (.int .i64 (calls + 1))).heap.size = w.heap.size := by simp [World.setCell]
  have H1 := hid (And.intro P1 (And.intro L1 (And.intro F1 hz1)))
  have MD := hid (fun W => made_any W)
  have HN := hid (And.intro hpq (And.intro hpc (And.intro hqc (And.intro hFp (And.intro hFq (And.intro hB (And.intro hq hc)))))))
  clear h b1 P1 L1 F1 hz1 hF hpq hpc hqc hFp hFq hB hq hc hp
  go_enter Tryz.func27, Tryz.ntmps27
  go_upto_region 5 with fail
  go_quiet (fail)
  go_wp2_with fail
  have HK1 := hid (fun k (hk : k ≠ p) => show (w.setCell ⟨p, 3, none⟩ (.int .i64 (calls + 1))).heap[k]? = w.heap[k]? from Below.heap_setCell _ _ _ _ hk)
  obtain ⟨W1, hW1⟩ : ∃ W1, (w.setCell ⟨p, 3, none⟩ (.int .i64 (calls + 1))) = W1 := ⟨_, rfl⟩
  rw [hW1] at H1 HK1 ⊢
  clear hW1 q0 q1 p0 p1 p3 pf
  refine (MD.out _).mono ?_
  rintro e W2 ⟨rfl, hw⟩
  have lo : Below W1.heap.size W1 W2 := by rw [hw]; exact (below_drewN (Below.refl W1.heap.size W1) _).alloc (Nat.le_refl _) _
  obtain ⟨hpq, hpc, hqc, hFp, hFq, hBw, hBq, hBc⟩ := HN.out
  have pl := H1.out.1.pr.lt
  have ql := H1.out.1.fr.lt
  have cl := heap_lt H1.out.1.ch
  have P2 := H1.out.1.below lo pl ql cl
  have L2 := H1.out.2.1.trans (lo.mono (by have := H1.out.2.2.2; omega))
  have F2 := cell_keep lo H1.out.2.2.1
  have S2 : w.heap.size ≤ W2.heap.size := by have := H1.out.2.2.2; have := lo.size; omega
  have HK2 := hid (fun k (hk : k < w.heap.size) (hkp : k ≠ p) => show W2.heap[k]? = w.heap[k]? from (lo.block k (by have := H1.out.2.2.2; omega)).trans (HK1.out k hkp))
  have p2 : W2.cell? ⟨p, 2, none⟩ = some (.bool false) := P2.pr.cell 2
  have H2 := hid (And.intro P2 (And.intro L2 (And.intro F2 (And.intro S2 (And.intro P2.pr.lt (And.intro P2.fr.lt (heap_lt P2.ch)))))))
  have GE := hid (get_any q c s r m W2 P2.fr P2.ch hm.1 (by omega))
  clear lo P2 L2 F2 S2 hw H1 pl ql cl
  go_wp2_with fail
  refine GE.out.mono ?_
  rintro e W3 ⟨rfl, hw⟩
  obtain ⟨P2, L2, F2, S2, pl, ql, cl⟩ := H2.out
  obtain ⟨b, hb⟩ : ∃ b, W2.heap.size = b := ⟨_, rfl⟩
  have hz : (W2.setCell ⟨q, 2, none⟩ (.int .i64 (m + 1))).heap.size = b := by rw [← hb]; simp [World.setCell]
  have st : StAt W3 b ⟨[], 0, sliceN, [], 0, false⟩ sliceN sliceN := by rw [hw, ← hz]; exact st0_at _
  have L3 : Below B w W3 := by rw [hw]; exact (L2.setCell (p := ⟨q, 2, none⟩) hBq _).alloc (by rw [hz]; omega) _
  have lo3 : Below b (W2.setCell ⟨q, 2, none⟩ (.int .i64 (m + 1))) W3 := by rw [hw]; exact (Below.refl _ _).alloc (by rw [hz]; exact Nat.le_refl _) _
  have P3 : PressAt W3 p q c (.slice A N cap) s r (m + 1) (calls + 1) := PressAt.below (W := W2.setCell ⟨q, 2, none⟩ (.int .i64 (m + 1))) ⟨P2.pr.far hpq _, P2.fr.set_ 2 _, (Below.heap_setCell _ _ _ _ (Ne.symm hqc)).trans P2.ch⟩ lo3 (by omega) (by omega) (by omega)
  have F3 : W3.cell? ⟨F, 0, none⟩ = some (.string fmt) := by
    have h1 : (W2.setCell ⟨q, 2, none⟩ (.int .i64 (m + 1))).cell? ⟨F, 0, none⟩ = some (.string fmt) := (World.cell?_setCell_far _ _ _ _ (Ne.symm hFq)).trans F2
    have : F < W2.heap.size := World.block_lt_of_cell? W2 _ F2
    exact (lo3.cell (p := ⟨F, 0, none⟩) (by show F < b; omega)).trans h1
  have hFb : F < b := by have : F < W2.heap.size := World.block_lt_of_cell? W2 _ F2; omega
  obtain ⟨J, BG, FO⟩ := RUN.out b W3 L3 (fun k hk h1 h2 => (lo3.block k (by omega)).trans ((Below.heap_setCell _ _ _ _ h2).trans (HK2.out k hk h1))) (by omega) st
  have H3 := hid (And.intro P3 (And.intro L3 (And.intro F3 (And.intro hFb (And.intro st (And.intro (show p < b by omega) (And.intro (show q < b by omega) (show c < b by omega))))))))
  have BG := hid BG
  have FO := hid FO
  rw [hb]
  clear st L3 lo3 P3 F3 hFb P2 L2 F2 S2 pl ql cl hw hz GE H2
  go_wp2_with fail
  refine BG.out.mono ?_
  rintro e W4 ⟨rfl, va, s1, t4, hJ, l4⟩
  have F4 : W4.cell? ⟨F, 0, none⟩ = some (.string fmt) := (l4.cell (p := ⟨F, 0, none⟩) H3.out.2.2.2.1).trans H3.out.2.2.1
  have FM := FO.out W4 va s1 t4 hJ l4
  have DO := hid (do_any F b fmt W4 _ F4 FM)
  have HL4 := hid l4
  clear t4 hJ l4 F4 FM
  go_wp2_with fail
  refine DO.out.mono ?_
  rintro e W5 ⟨rfl, v', s2, hT, t5, k5⟩
  have TX := hid (stext_any b s2 v' va W5 t5)
  have l5 : Below b W3 W5 := HL4.out.trans (k5.below (Nat.le_refl _))
  have P5 := H3.out.1.below l5 H3.out.2.2.2.2.2.1 H3.out.2.2.2.2.2.2.1 H3.out.2.2.2.2.2.2.2
  have L5 : Below B w W5 := H3.out.2.1.trans (l5.mono (by have := H3.out.2.2.2.2.2.2.2; omega))
  have p2' : W5.cell? ⟨p, 2, none⟩ = some (.bool false) := P5.pr.cell 2
  have PT := hid (fput_any q c s r (m + 1) (.pointer (some ⟨b, 0, none⟩)) W5 P5.fr P5.ch)
  have H5 := hid (And.intro P5 L5)
  rw [hT] at TX
  clear t5 k5 l5 P5 L5 p2 hT
  go_wp2_with fail
  refine TX.out.mono ?_
  rintro e W6 ⟨rfl, hw⟩
  subst hw
  obtain ⟨tx, htx⟩ : ∃ tx : ByteArray, (⟨(stText T).toArray⟩ : ByteArray) = tx := ⟨_, rfl⟩
  rw [htx]
  go_wp2_with fail
  refine PT.out.mono ?_
  rintro e W7 ⟨rfl, hw⟩
  have L7 : Below B w W7 := by rw [hw]; exact Go.Conc.below_setChan H5.out.2 hBc _ _ _ _ _ _
  have HL7 := hid L7
  clear L7 hw
  go_wp2_with fail
  go_ret
  exact ⟨by rw [htx]; rfl, HL7.out⟩
set_option maxRecDepth 100000 in
set_option maxHeartbeats 4000000 in
theorem sprintfE (p q c s r B : Nat) (A : Option Addr) (N cap : Nat) (m calls : Int) (sl : Sl) (fmt : ByteArray) (T : List UInt8) (w : World) (h : PressAt w p q c (.slice A N cap) s r m calls) (hB : B ≤ w.heap.size) (hp : B ≤ p) (hq : B ≤ q) (hc : B ≤ c)
    (hm : 0 ≤ m ∧ m ≤ 1000) (hcl : 0 ≤ calls ∧ calls ≤ 1000)
    (RUN : ∀ b W, Below B w W → (∀ k, k < w.heap.size → k ≠ p → k ≠ q → W.heap[k]? = w.heap[k]?) → w.heap.size ≤ b → StAt W b ⟨[], 0, sliceN, [], 0, false⟩ sliceN sliceN → ∃ J : Value → St → World → Prop,
      Calls Tryz.prog 42 #[.pointer (some ⟨b, 0, none⟩), .int .i64 0, .slice A N cap, slV sl] W (fun e w' => e = .returned (.tuple #[]) ∧ ∃ va s1, StAt w' b s1 sliceN va ∧ J va s1 w' ∧ Below b W w') ∧
      ∀ W' va s1, StAt W' b s1 sliceN va → J va s1 W' → Below b W W' → Calls Tryz.prog 29 #[.pointer (some ⟨b, 0, none⟩), .string fmt] W' fun e w' => e = .returned (.tuple #[]) ∧ ∃ v' s2, s2.all = T ∧ StAt w' b s2 v' va ∧ Kp b W' w') :
    Calls Tryz.prog 19 #[.pointer (some ⟨p, 0, none⟩), .string fmt, slV sl] w fun e w' => e = .returned (.string ⟨(stText T).toArray⟩) ∧ Below B w w' := by
  have hmf : ∀ (fn : Fn) (first cap : Array Value) (w : World), (Instr.makeFunc fn first cap).run Tryz.prog w = .ok (.func fn first cap) w := fun _ _ _ _ => rfl
  have l0 := (Below.refl w.heap.size w).alloc (Nat.le_refl _) (.cells #[.string fmt] 9)
  have f0 : (w.alloc (.cells #[.string fmt] 9)).cell? ⟨w.heap.size, 0, none⟩ = some (.string fmt) := (Blk.new w _ _).cell 0
  have P0 := h.below l0 h.pr.lt h.fr.lt (heap_lt h.ch)
  have pl := h.pr.lt
  have ql := h.fr.lt
  have PP0 := hid (pprintE p q c s r w.heap.size B A N cap m calls sl fmt T (w.alloc (.cells #[.string fmt] 9)) P0 (by simp; omega) hp hq hc hm hcl f0 (by omega) (by omega) (fun b W hW hk hb st => RUN b W (((l0.mono hB)).trans hW) (fun k h1 h2 h3 => (hk k (by simp; omega) h2 h3).trans (l0.block k h1)) (by simp at hb; omega) st))
  have LP := hid (l0.mono hB)
  obtain ⟨tx, htx⟩ : ∃ tx : ByteArray, (⟨(stText T).toArray⟩ : ByteArray) = tx := ⟨_, rfl⟩
  rw [htx] at PP0 ⊢
  clear l0 f0 P0 h RUN hB hp hq hc pl ql htx
  go_enter Tryz.func19, Tryz.ntmps19
  go_wp2_with fail
  refine PP0.out.mono ?_
  rintro e w1 ⟨rfl, hb⟩
  have HL := hid (LP.out.trans hb)
  clear hb
  go_wp2_with fail
  go_ret
  exact ⟨rfl, HL.out⟩
set_option maxRecDepth 100000 in
set_option maxHeartbeats 4000000 in
theorem tprintE (A : Option Addr) (N cap : Nat) (v : Value) (sl : Sl) (fmt : ByteArray) (T : List UInt8) (w : World) (CO : Calls Tryz.prog 24 #[v] w fun e w' => e = .returned (.slice A N cap) ∧ Below w.heap.size w w')
    (RUN : ∀ b W, Below w.heap.size w W → w.heap.size ≤ b → StAt W b ⟨[], 0, sliceN, [], 0, false⟩ sliceN sliceN → ∃ J : Value → St → World → Prop,
      Calls Tryz.prog 42 #[.pointer (some ⟨b, 0, none⟩), .int .i64 0, .slice A N cap, slV sl] W (fun e w' => e = .returned (.tuple #[]) ∧ ∃ va s1, StAt w' b s1 sliceN va ∧ J va s1 w' ∧ Below b W w') ∧
      ∀ W' va s1, StAt W' b s1 sliceN va → J va s1 W' → Below b W W' → Calls Tryz.prog 29 #[.pointer (some ⟨b, 0, none⟩), .string fmt] W' fun e w' => e = .returned (.tuple #[]) ∧ ∃ v' s2, s2.all = T ∧ StAt w' b s2 v' va ∧ Kp b W' w') :
    Calls Tryz.prog 9 #[v, .string fmt, slV sl] w fun e w' => e = .returned (.string ⟨(stText T).toArray⟩) ∧ Below w.heap.size w w' := by
  have PN := hid (press_new A N cap v w CO)
  have RUN := hid RUN
  clear CO
  obtain ⟨tx, htx⟩ : ∃ tx : ByteArray, (⟨(stText T).toArray⟩ : ByteArray) = tx := ⟨_, rfl⟩
  rw [htx]
  have HTX := hid htx
  clear htx
  go_enter Tryz.func9, Tryz.ntmps9
  go_wp2_with fail
  refine PN.out.mono ?_
  rintro e w1 ⟨p, q, c, rfl, P1, hp, hq, hc, hb⟩
  have SP := hid (sprintfE p q c 0 0 w.heap.size A N cap 0 0 sl fmt T w1 P1 hb.size hp hq hc (by decide) (by decide) (fun b W hW _ hb' st => RUN.out b W (hb.trans hW) (by have := hb.size; omega) st))
  rw [HTX.out] at SP
  have LP := hid hb
  clear hb P1 hp hq hc RUN
  go_wp2_with fail
  refine SP.out.mono ?_
  rintro e w2 ⟨rfl, hb⟩
  have HL := hid (LP.out.trans hb)
  clear hb
  go_wp2_with fail
  go_ret
  exact ⟨rfl, HL.out⟩
end Go.Proofs.YtdjhmanccoekjaaGreatDoor
end

section
namespace Go.Proofs.YtdjhmanccoekjaaGreatDoor
open Go.RowKit Go.Proofs

def pcM (F : List UInt8) (verb : Int) : PP.Pc := ⟨1, F, ⟨false, false, false, false, false⟩, -1, -1, verb, ⟨0, 0, ⟨0, 0⟩⟩, ⟨0, 0, ⟨0, 0⟩⟩, ⟨0, 0⟩⟩
def stM (u : Value) (t : ByteArray) : Nat → St
  | 0 => ⟨[], 0, sliceN, [u], 0, false⟩
  | _ => ⟨t.data.toList, 0, sliceN, [u], 1, false⟩
theorem VAt.kp {b : Nat} {W W' : World} {u : Value} {V : VT} (h : VAt W (fun k => b < k) u V) (hk : Kp b W W') : VAt W' (fun k => b < k) u V :=
  h.monoB fun k cur T hb hB hT => ⟨hb, hk.kept k cur T (by have : b < k := hb; omega) hT hB⟩
/-- A print of one value in memory, by one directive without width and precision. -/
theorem print_mem (F : List UInt8) (verb : Int) (hlen : F.length ≤ 100) (hparse : PP.parseL F = [pcM F verb]) (hpct : verb ≠ 37) (d : De) (V : VT) (t : ByteArray) (ht : t.size ≤ 3500) (sl : Sl) (w : World) (hT : Tabs w) (hA : ArgsAt w sl [d]) (hcap : 1 ≤ sl.cap)
    (BU : ∀ W, Below w.heap.size w W → Calls Tryz.prog 65 #[.agg (deV d)] W fun e w' => ∃ T x, e = .returned (.tuple #[.iface T x, .int .i64 0]) ∧ VAt w' (fun k => W.heap.size ≤ k) (.iface T x) V ∧ Below W.heap.size W w')
    (SH : ∀ bb s v' va u W S, TabsB bb W → StAt W bb s v' va → s.tab = .slice none 0 0 → VAt W S u V → Calls Tryz.prog 50 #[u, .agg (sp8 false false false false false (-1) (-1) verb), askF bb] W fun e w' => e = .returned (.string t) ∧ Below W.heap.size W w') :
    Calls Tryz.prog 9 #[sliceN, .string ⟨F.toArray⟩, slV sl] w fun e w' => e = .returned (.string t) ∧ Below w.heap.size w w' := by
  have hst : stText t.data.toList = t.data.toList := by unfold stText; rw [if_neg (by rw [← Utf.size_eq]; omega)]
  have key := tprintE none 0 0 sliceN sl ⟨F.toArray⟩ t.data.toList w ((copied_nil w).mono fun _ _ h => ⟨h.1, h.2 ▸ Below.refl _ _⟩) (fun b W hW hb st => by
    have hgb : ∀ g o, sl.a = some ⟨g, o, none⟩ → [d] ≠ [] → g < b := fun g o hg _ => by
      obtain ⟨g', o', e, hl, _⟩ := hA.2 (by simp)
      rw [hg] at e
      cases e
      omega
    have kb := begin_one b none 0 0 sl [d] W V st (hA.below hW) rfl hcap hgb (fun d' hd W2 hW2 => by
      simp only [List.getElem?_cons_zero, Option.some.injEq] at hd
      subst hd
      exact BU W2 (hW.trans (hW2.mono hb)))
    refine ⟨fun _ s1 w2 => ∃ u, s1 = stM u t 0 ∧ VAt w2 (fun k => b < k) u V, kb.mono fun e w' ⟨he, va, u, h1, h2, h3⟩ => ⟨he, va, stM u t 0, h1, ⟨u, rfl, h2⟩, h3⟩, fun W' va' s1 hs1 hJ hl => ?_⟩
    obtain ⟨u, rfl, h2⟩ := hJ
    have tb : TabsB b W' := ⟨w, hT, hb, hW.trans (hl.mono hb)⟩
    refine (format_any b ⟨F.toArray⟩ [pcM F verb] (stM u t) sliceN va' W' tb.tabs (by rw [Utf.size_eq]; show F.length ≤ _; omega) hparse (by simp) hs1 (fun i p hi => ?_) (Or.inr (by show (1 : Nat) ≤ (1 : Int); decide))).mono fun e w' ⟨he, v', h1, h2⟩ => ⟨he, v', stM u t 1, rfl, h1, h2⟩
    match i, hi with
    | 0, hi =>
      cases hi
      refine ⟨by show (0 : Nat) ≤ _; decide, by show F.length ≤ _; omega, Or.inr ⟨rfl, fun W2 v hs2 hk2 => ?_⟩⟩
      refine directive_plain b (stM u t 0) (stM u t 0) (stM u t 0) (takeSt (stM u t 0) ⟨0, 0⟩) v va' u 1 _ false false false false (-1) (-1) verb 0 0 0 0 0 0 0 t W2 hs2
        (fun W hW => number_unset b _ v va' 0 ⟨0, 0⟩ _ W hW) (fun W hW => number_unset b _ v va' 0 ⟨0, 0⟩ _ W hW)
        hpct 0 1 rfl rfl (by decide) (fun W hW => take_next b _ v va' _ 0 0 W hW rfl rfl (by show (1 : Nat) ≤ 16; decide)) (by show (0 : Nat) ≤ _; decide) (by omega) fun W3 hW3 hk3 => ?_
      exact SH b _ v va' u W3 _ ((tb.kp hk2).kp hk3) hW3 rfl ((h2.kp hk2).kp hk3)
    | i + 1, hi => simp at hi)
  rw [hst] at key
  exact key
def fV : List UInt8 := [37, 118]
def fD : List UInt8 := [37, 100]
theorem fV_parse : PP.parseL fV = [pcM fV 118] := by
  unfold fV
  rw [PP.parseL_pct (by decide), show PP.dirL [118] = (pcM fV 118, []) from rfl, PP.parseL_nil]
  rfl
theorem fD_parse : PP.parseL fD = [pcM fD 100] := by
  unfold fD
  rw [PP.parseL_pct (by decide), show PP.dirL [100] = (pcM fD 100, []) from rfl, PP.parseL_nil]
  rfl
/-- A map is printed. -/
theorem print_map (F : List UInt8) (verb : Int) (hlen : F.length ≤ 100) (hparse : PP.parseL F = [pcM F verb]) (hv : verb = 118 ∨ verb = 100) (pa : Sl) (ks l : List Int) (hl : ks.length ≤ 10) (hi : ∀ k ∈ ks, I64 k) (hp : l.Perm ks) (hs : l.Pairwise (· < ·)) (sl : Sl) (w : World) (hT : Tabs w) (hA : ArgsAt w sl [mapD pa]) (hcap : 1 ≤ sl.cap) (hD : DtAt w (mapT pa ks)) :
    Calls Tryz.prog 9 #[sliceN, .string ⟨F.toArray⟩, slV sl] w fun e w' => e = .returned (.string (mapS (l.map itemT))) ∧ Below w.heap.size w w' := by
  have hll : l.length ≤ 10 := by rw [hp.length_eq]; exact hl
  have hil : ∀ k ∈ l, I64 k := fun k hk => hi k (hp.mem_iff.1 hk)
  refine print_mem F verb hlen hparse (by omega) (mapD pa) (mapV l) (mapS (l.map itemT)) (by have := mapS_size l hll hil; omega) sl w hT hA hcap (fun W hW => ?_) (fun bb s v' va u W S _ hst htab hV => sh_map l hll hil verb hv bb s v' va u W S hst htab hV)
  refine (build_map pa ks l W (hD.keep hW) hi hl hp hs).mono fun e w' ⟨T, x, h1, h2, h3⟩ => ⟨T, x, h1, h2.mono fun b hb _ => ⟨?_, rfl⟩, h3⟩
  have : W.heap.size + 3 ≤ b := hb
  show W.heap.size ≤ b
  omega
/-- A whole number is printed. -/
theorem print_num (x : Int) (hx : I64 x) (sl : Sl) (w : World) (hT : Tabs w) (hA : ArgsAt w sl [deN x]) (hcap : 1 ≤ sl.cap) :
    Calls Tryz.prog 9 #[sliceN, .string ⟨fD.toArray⟩, slV sl] w fun e w' => e = .returned (.string (numS x)) ∧ Below w.heap.size w w' := by
  refine print_mem fD 100 (by decide) fD_parse (by decide) (deN x) (.leaf (intV (deN x) x)) (numS x) (by have := numS_size x hx; omega) sl w hT hA hcap (fun W hW => ?_) (fun bb s v' va u W S _ hst htab hV => ?_)
  · exact (build_num x W hx.1 hx.2).mono fun e w' he => ⟨_, _, he.1, .leaf _ _ _ rfl, he.2⟩
  · obtain rfl := hV.leaf_eq
    refine show_ok (known_int 6 ⟨#[]⟩ 0 x (by decide) (by decide) (by decide) (by decide)) none 0 0 htab (by decide) (by decide) false false false false false (-1) (-1) 100 (by decide) (numS x) ⟨#[]⟩ true (by decide) (by decide) W hst (fun W2 hW2 => ?_) (fun h => by cases h)
    have hk := kind_int 6 ⟨#[]⟩ 0 x false false false false false (-1) (-1) 100 (askF bb) 0 W2 hx.1 hx.2 (by decide) (by decide)
    rw [signed_v x 100 (Or.inr rfl)] at hk
    exact hk
end Go.Proofs.YtdjhmanccoekjaaGreatDoor
end

section
namespace Go.Proofs.YtdjhmanccoekjaaGreatDoor
open Go.RowKit Go.Proofs

/-- One more, at its place. -/
def insI (l : List Int) (p : Nat) (k : Int) : List Int := l.take p ++ k :: l.drop p
theorem insI_len (l : List Int) (p : Nat) (k : Int) (hp : p ≤ l.length) : (insI l p k).length = l.length + 1 := by
  simp only [insI, List.length_append, List.length_take, List.length_cons, List.length_drop]
  omega
theorem insI_sorted (l : List Int) (p : Nat) (k : Int) (hs : l.Pairwise (· < ·)) (h1 : ∀ x ∈ l.take p, x < k) (h2 : ∀ x ∈ l.drop p, k < x) : (insI l p k).Pairwise (· < ·) := by
  have hs2 := hs
  rw [← List.take_append_drop p l, List.pairwise_append] at hs2
  unfold insI
  rw [List.pairwise_append]
  refine ⟨hs2.1, List.pairwise_cons.2 ⟨h2, hs2.2.1⟩, fun a ha b hb => ?_⟩
  rcases List.mem_cons.1 hb with rfl | hb
  · exact h1 a ha
  · exact hs2.2.2 a ha b hb
theorem insI_perm (l ks : List Int) (p : Nat) (k : Int) (h : l.Perm ks) : (insI l p k).Perm (ks ++ [k]) := by
  unfold insI
  refine List.perm_middle.trans ?_
  rw [List.take_append_drop]
  exact (h.cons k).trans (List.perm_append_comm (l₁ := [k]) (l₂ := ks))
theorem drop_gt (l : List Int) (p : Nat) (k : Int) (hs : l.Pairwise (· < ·)) (hp : p = l.length ∨ ∃ x, l[p]? = some x ∧ k < x) : ∀ x ∈ l.drop p, k < x := by
  rcases hp with rfl | ⟨y, hy, hk⟩
  · simp
  · intro x hx
    rw [drop_cons hy] at hx
    rcases List.mem_cons.1 hx with rfl | hx
    · exact hk
    · have hs2 := hs
      rw [← List.take_append_drop p l, List.pairwise_append, drop_cons hy, List.pairwise_cons] at hs2
      have := hs2.2.1.1 x hx
      omega
abbrev dsK (ks : List Int) : List De := (pairs ks).map DT.de
theorem pairs_append (a b : List Int) : pairs (a ++ b) = pairs a ++ pairs b := by
  induction a with
  | nil => rfl
  | cons k r ih => simp [pairs, ih]
theorem dsK_snoc (ks : List Int) (k : Int) : dsK (ks ++ [k]) = dsK ks ++ [deN k, deN (negI k)] := by
  unfold dsK
  rw [pairs_append, List.map_append]
  rfl
theorem dsK_rev (ks : List Int) (k : Int) : dsK (ks ++ [k]).reverse = [deN k, deN (negI k)] ++ dsK ks.reverse := by
  rw [List.reverse_append]
  rfl
theorem rowL_append (a b : List De) : rowL (a ++ b) = rowL a ++ rowL b := by
  induction a with
  | nil => rfl
  | cons d r ih => simp [rowL, ih]
theorem rowL_len (ds : List De) : (rowL ds).length = ds.length * 8 := by
  induction ds with
  | nil => rfl
  | cons d r ih =>
    rw [rowL, List.length_append, ih, List.length_cons]
    show 8 + r.length * 8 = (r.length + 1) * 8
    omega
theorem rowL_one (ds : List De) : ∀ u ∈ rowL ds, u.oneCell' = true := by
  induction ds with
  | nil => simp [rowL]
  | cons d r ih =>
    intro u hu
    rw [rowL, List.mem_append] at hu
    rcases hu with hu | hu
    · have := deV_one d
      rw [Array.all_eq_true_iff_forall_mem] at this
      exact this u (by simpa using hu)
    · exact ih u hu
/-- What a value owns, where its block is as it was. -/
theorem own_same {w w' : World} {C n z : Nat} {e : TypeId} {v : Value} {xs : List Value} (h : w.ownsRow C e z v n xs) (hk : ∀ g, v.ownBlock = some g → g < w.heap.size → w'.heap[g]? = w.heap[g]?) : w'.ownsRow C e z v n xs :=
  ⟨h.1, h.2.imp id fun ⟨g, cap, cur, h1, h2, h3, h4⟩ => ⟨g, cap, cur, h1, h2, (hk g (by rw [h1]; rfl) (heap_lt h3)).trans h3, h4⟩⟩
theorem own_ne {w : World} {C C' n n' z z' : Nat} {e e' : TypeId} {v v' : Value} {xs xs' : List Value} (h : w.ownsRow C e z v n xs) (h' : w.ownsRow C' e' z' v' n' xs') (he : e ≠ e') : ∀ g, v.ownBlock = some g → v'.ownBlock ≠ some g := by
  intro g hg hg'
  rcases h.2 with ⟨rfl, _⟩ | ⟨g1, cap, cur, rfl, _, h3, _⟩
  · cases hg
  · rcases h'.2 with ⟨rfl, _⟩ | ⟨g2, cap', cur', rfl, _, h3', _⟩
    · cases hg'
    · simp only [Value.ownBlock, Option.some.injEq] at hg hg'
      subst hg
      subst hg'
      rw [h3] at h3'
      cases h3'
      exact he rfl
theorem own_geC {w : World} {C n z g : Nat} {e : TypeId} {v : Value} {xs : List Value} (h : w.ownsRow C e z v n xs) (hg : v.ownBlock = some g) : C ≤ g := by
  rcases h.2 with ⟨rfl, _⟩ | ⟨g1, cap, cur, rfl, h2, _⟩
  · cases hg
  · simp only [Value.ownBlock, Option.some.injEq] at hg
    omega
theorem num_at (w : World) (n : Int) : DtAt w (numT n) :=
  .mk _ _ _ ⟨rfl, fun h => absurd rfl h⟩ ⟨rfl, fun h => absurd rfl h⟩ (by simp) (by simp)
theorem args_own {w : World} {C : Nat} {sl : Sl} {ds : List De} (h : w.ownsRow C 29 8 (slV sl) ds.length (rowL ds)) : ArgsAt w sl ds := by
  obtain ⟨a, n, c⟩ := sl
  rcases h.2 with ⟨h1, h2⟩ | ⟨g, cap, cur, h1, h2, h3, h4⟩
  · have : ds = [] := List.eq_nil_of_length_eq_zero h2
    subst this
    cases h1
    exact ⟨rfl, fun h => absurd rfl h⟩
  · cases h1
    refine ⟨rfl, fun _ => ⟨g, 0, rfl, heap_lt h3, fun k d hd j v hv => ?_⟩⟩
    rw [Nat.zero_add]
    have := h.cells (g := g) rfl (k * 8 + j) v (rowL_at ds k d hd j v hv)
    simpa [Addr.add_mid] using this
theorem dsK_len (ks : List Int) : (dsK ks).length = 2 * ks.length := by unfold dsK; rw [List.length_map, pairs_len]
theorem map_at {w : World} {C : Nat} {pa : Sl} {ks : List Int} (h : w.ownsRow C 29 8 (slV pa) (dsK ks).length (rowL (dsK ks))) (hl : ks.length ≤ 10) : DtAt w (mapT pa ks) := by
  refine .mk _ _ _ ⟨rfl, fun h => absurd rfl h⟩ (args_own h) (by rw [pairs_len]; omega) fun x hx => ?_
  obtain ⟨n, rfl⟩ := pairs_mem ks x hx
  exact num_at w n
theorem mapT_perm (l ks : List Int) (h : l.Perm ks) : l.Perm ks.reverse := h.trans (List.reverse_perm ks).symm
/-- What holds in the loop over the keys. -/
structure MapM (w : World) (D B : Nat) (dD dB : List De) (l : List Int) (v : Value) (paD paB : Sl) (wr : World) : Prop where
  low : Below w.heap.size w wr
  hD : w.heap.size ≤ D
  hB : D < B
  dd : Blk wr D (deV (mapD paD)) 29
  bb : Blk wr B (deV (mapD paB)) 29
  lo : wr.ownsRow (B + 1) 3 1 v l.length (l.map (Value.int .i64))
  po : wr.ownsRow (B + 1) 29 8 (slV paD) dD.length (rowL dD)
  qo : wr.ownsRow (B + 1) 29 8 (slV paB) dB.length (rowL dB)
  ne : ∀ g, (slV paD).ownBlock = some g → (slV paB).ownBlock ≠ some g
theorem MapM.keep {w : World} {D B : Nat} {dD dB : List De} {l : List Int} {v : Value} {paD paB : Sl} {wr wr' : World} (h : MapM w D B dD dB l v paD paB wr) (hb : Below wr.heap.size wr wr') : MapM w D B dD dB l v paD paB wr' :=
  ⟨h.low.trans (hb.mono h.low.size), h.hD, h.hB, h.dd.below hb h.dd.lt, h.bb.below hb h.bb.lt, own_same h.lo fun g _ hg => hb.block g hg, own_same h.po fun g _ hg => hb.block g hg, own_same h.qo fun g _ hg => hb.block g hg, h.ne⟩
theorem own_far {w : World} {C n z : Nat} {e : TypeId} {v : Value} {xs : List Value} (h : w.ownsRow C e z v n xs) {p : Addr} (hp : p.block < C) (u : Value) : (w.setCell p u).ownsRow C e z v n xs :=
  own_same h fun g hg _ => Below.heap_setCell _ _ _ _ (by have := own_geC h hg; omega)
theorem own_ltC {w : World} {C n z g : Nat} {e : TypeId} {v : Value} {xs : List Value} (h : w.ownsRow C e z v n xs) (hg : v.ownBlock = some g) : g < w.heap.size := by
  rcases h.2 with ⟨rfl, _⟩ | ⟨g1, cap, cur, rfl, _, h3, _⟩
  · cases hg
  · simp only [Value.ownBlock, Option.some.injEq] at hg
    subst hg
    exact heap_lt h3
theorem MapM.push {w : World} {D B : Nat} {dD dB : List De} {l : List Int} {v : Value} {paD paB : Sl} {wr : World} (h : MapM w D B dD dB l v paD paB wr) {paD' : Sl} {new : List De} {W1 : World}
    (ho : W1.ownsRow (B + 1) 29 8 (slV paD') (dD ++ new).length (rowL (dD ++ new))) (hb : Below (B + 1) wr W1) (hg : wr.grownBy W1 (slV paD).ownBlock) (hn : NextBlock wr (slV paD) (slV paD')) :
    MapM w D B (dD ++ new) dB l v paD' paB (W1.setCell ⟨D, 6, none⟩ (slV paD')) := by
  have hDB := h.hB
  have hwD := h.hD
  have q1 : W1.ownsRow (B + 1) 3 1 v l.length (l.map (Value.int .i64)) := own_same h.lo fun g hvg hlt => hg.block g hlt fun e => own_ne h.lo h.po (by decide) g hvg e.symm
  have q2 : W1.ownsRow (B + 1) 29 8 (slV paB) dB.length (rowL dB) := own_same h.qo fun g hvg hlt => hg.block g hlt fun e => h.ne g e.symm hvg
  refine ⟨(h.low.trans (hb.mono (by omega))).setCell (p := ⟨D, 6, none⟩) hwD _, hwD, hDB, (h.dd.below hb (by omega)).set_ 6 _, (h.bb.below hb (by omega)).far (by show B ≠ D; omega) _, own_far q1 (by show D < B + 1; omega) _, own_far ho (by show D < B + 1; omega) _, own_far q2 (by show D < B + 1; omega) _, ?_⟩
  intro g hg1 hg2
  rcases hn with e | ⟨g2, e, hge⟩
  · exact h.ne g (e ▸ hg1) hg2
  · rw [e] at hg1
    simp only [Option.some.injEq] at hg1
    have := own_ltC h.qo hg2
    omega
theorem MapM.push2 {w : World} {D B : Nat} {dD dB : List De} {l : List Int} {v : Value} {paD paB : Sl} {wr : World} (h : MapM w D B dD dB l v paD paB wr) {paB' : Sl} {new : List De} {W1 : World}
    (ho : W1.ownsRow wr.heap.size 29 8 (slV paB') new.length (rowL new)) (hb : Below wr.heap.size wr W1) :
    MapM w D B dD new l v paD paB' (W1.setCell ⟨B, 6, none⟩ (slV paB')) := by
  have hDB := h.hB
  have hwD := h.hD
  have hBl := h.bb.lt
  have k := h.keep hb
  refine ⟨k.low.setCell (p := ⟨B, 6, none⟩) (by show _ ≤ B; omega) _, hwD, hDB, k.dd.far (by show D ≠ B; omega) _, k.bb.set_ 6 _, own_far k.lo (by show B < B + 1; omega) _, own_far k.po (by show B < B + 1; omega) _, own_far (ownsRow_base ho (by omega)) (by show B < B + 1; omega) _, ?_⟩
  intro g hg1 hg2
  have h1 := own_ltC h.po hg1
  have h2 := own_geC ho hg2
  omega
/-- What the numbers are. -/
structure Keys (ks l : List Int) : Prop where
  perm : l.Perm ks
  sort : l.Pairwise (· < ·)
  len : l.length ≤ 10
  i64 : ∀ k ∈ l, I64 k
theorem Keys.kslen {ks l : List Int} (h : Keys ks l) : ks.length ≤ 10 := by rw [← h.perm.length_eq]; exact h.len
theorem Keys.ksi {ks l : List Int} (h : Keys ks l) : ∀ k ∈ ks, I64 k := fun k hk => h.i64 k (h.perm.mem_iff.2 hk)
theorem Keys.rev {ks l : List Int} (h : Keys ks l) : Keys ks.reverse l := ⟨mapT_perm l ks h.perm, h.sort, h.len, h.i64⟩
theorem Keys.ins {ks l : List Int} (h : Keys ks l) (p : Nat) (k : Int) (hp : p ≤ l.length) (hl : l.length < 10) (hk : I64 k) (h1 : ∀ x ∈ l.take p, x ≤ k) (h2 : k ∉ l.take p) (h3 : p = l.length ∨ ∃ x, l[p]? = some x ∧ k < x) : Keys (ks ++ [k]) (insI l p k) := by
  refine ⟨insI_perm l ks p k h.perm, insI_sorted l p k h.sort (fun x hx => ?_) (drop_gt l p k h.sort h3), by rw [insI_len l p k hp]; omega, fun x hx => ?_⟩
  · have := h1 x hx
    have hne : x ≠ k := fun e => h2 (e ▸ hx)
    omega
  · have := (insI_perm l ks p k h.perm).mem_iff.1 hx
    rcases List.mem_append.1 this with h4 | h4
    · exact h.ksi x h4
    · rw [List.mem_singleton] at h4
      rw [h4]; exact hk
end Go.Proofs.YtdjhmanccoekjaaGreatDoor
end

section
namespace Go.Proofs.YtdjhmanccoekjaaGreatDoor
open Go.RowKit Go.Proofs

theorem info_i8 : (Tryz.prog.info? 3).map (fun i => (i.zero, i.size, i.bytes)) = some (some (.int .i64 0), 1, 8) := by kernel_rfl
theorem info_d8 : (Tryz.prog.info? 29).map (fun i => (i.zero, i.size, i.bytes)) = some (some (.agg de0), 8, 112) := by kernel_rfl
def adr (go : Option Nat) : Option Addr := go.map fun g => ⟨g, 0, none⟩
theorem own_adr {w : World} {C n z : Nat} {e : TypeId} {v : Value} {xs : List Value} (h : w.ownsRow C e z v n xs) : ∃ go c, v = .slice (adr go) n c ∧ n ≤ c ∧ c ≤ maxLen ∧ (go = none → n = 0 ∧ c = 0) := by
  rcases h.2 with ⟨rfl, rfl⟩ | ⟨g, cap, cur, rfl, h2, h3, h4, h5, _⟩
  · exact ⟨none, 0, rfl, Nat.le_refl _, by unfold maxLen; omega, fun _ => ⟨rfl, rfl⟩⟩
  · exact ⟨some g, cap, rfl, h4, h5, fun h => by cases h⟩
def tailA (go : Option Nat) (p c : Nat) : Option Addr := if c = p then adr go else (adr go).map (·.add (p * 1))
theorem ints_elem : Tryz.prog.elem 40 = 3 := by kernel_rfl
theorem cut_front (go : Option Nat) (n c p : Nat) (hp : p ≤ c) (W : World) : (Instr.sliceAt 40 (.slice (adr go) n c) none (some (.int .i64 p)) (some (.int .i64 p))).run Tryz.prog W = .ok (.slice (adr go) p p) W := by
  have hu : Tryz.prog.underlying 40 = some (.slice (Tryz.prog.elem 40)) := by rw [ints_elem]; exact Tryz.underlying40
  obtain ⟨i, hi, _, hz, _⟩ := info_partsV info_i8
  rw [run_sliceAt_slice W _ _ _ _ _ hu, run_slice_hm W _ _ _ _ hu .i64 .i64 p p (by omega) (by omega) (by omega), ints_elem]
  simp only [sizeOf, typeInfo, hi, Sem.run_bind, Sem.run_pure, Result.andThen_ok, hz, sliced, Int.toNat_natCast, Nat.sub_zero, Nat.zero_mul]
  cases go with
  | none => simp [adr, sizeOf, typeInfo, hi, go_sem]
  | some g => simp [adr, sizeOf, typeInfo, hi, go_sem]
theorem cut_back (go : Option Nat) (n c p : Nat) (hp : p ≤ n) (W : World) : (Instr.sliceAt 40 (.slice (adr go) n c) (some (.int .i64 p)) none none).run Tryz.prog W = .ok (.slice (tailA go p c) (n - p) (c - p)) W := by
  have hu : Tryz.prog.underlying 40 = some (.slice (Tryz.prog.elem 40)) := by rw [ints_elem]; exact Tryz.underlying40
  obtain ⟨i, hi, _, hz, _⟩ := info_partsV info_i8
  rw [run_sliceAt_slice W _ _ _ _ _ hu, run_slice_l W _ _ _ _ hu .i64 p (by omega) (by omega), ints_elem]
  simp [sizeOf, typeInfo, hi, hz, sliced, tailA, go_sem]
theorem tail_ok {w : World} {C n c p : Nat} {go : Option Nat} {xs : List Value} (h : w.ownsRow C 3 1 (.slice (adr go) n c) n xs) (hp : p ≤ n) (hnone : go = none → n = 0 ∧ c = 0) (hc : n ≤ c) :
    (∃ ad, tailA go p c = some ad ∧ ∀ (j : Nat) u, (xs.drop p)[j]? = some u → w.cell? (ad.add j) = some u) ∨ (tailA go p c = none ∧ n - p = 0 ∧ c - p = 0) := by
  cases go with
  | none =>
    obtain ⟨rfl, rfl⟩ := hnone rfl
    refine .inr ⟨?_, by omega, by omega⟩
    unfold tailA adr
    split <;> rfl
  | some g =>
    unfold tailA adr
    by_cases hcp : c = p
    · rw [if_pos hcp]
      refine .inl ⟨_, rfl, fun j u hu => ?_⟩
      have : xs.drop p = [] := List.drop_eq_nil_of_le (by have := h.1; omega)
      rw [this] at hu
      simp at hu
    · rw [if_neg hcp]
      refine .inl ⟨_, rfl, fun j u hu => ?_⟩
      rw [List.getElem?_drop] at hu
      have := h.cells (g := g) rfl (p + j) u hu
      simp only [Addr.add_lit, Nat.mul_one] at this ⊢
      rw [← this]
      congr 2
      omega
/-- append onto one's own row, as one step of a region that draws. -/
theorem step_join {ops : Array Oper} {o : Oper} {a : Act} {w : World} {K : Act → World → Prop} {Q : Exit → Act → World → Prop} {E : Prop} (hgd : o.guard = none) (s x : Operand) (t e : TypeId)
    (hop : o.op = .call { callee := .builtin .append, args := #[s, x], argTypes := #[t, t] }) (z : Value) (size bytes : Nat) (ht : Tryz.prog.underlying t = some (.slice e)) (hinfo : (Tryz.prog.info? e).map (fun i => (i.zero, i.size, i.bytes)) = some (some z, size, bytes))
    (hzs : z.cells.size = size) (hsz : 0 < size) (hby : bytes ≤ 1000) (B : Nat) (v : Value) (n : Nat) (xs : List Value) (hs : a.eval s = v) (hown : w.ownsRow B e size v n xs)
    (ao : Option Addr) (m c : Nat) (hx : a.eval x = .slice ao m c) (news : List Value) (hl : news.length = m * size) (h1 : ∀ u ∈ news, u.oneCell' = true)
    (hcase : (∃ ad, ao = some ad ∧ ∀ (j : Nat) u, news[j]? = some u → w.cell? (ad.add j) = some u) ∨ (ao = none ∧ m = 0 ∧ c = 0)) (hB : B ≤ w.heap.size) (hn : n + m ≤ 1000)
    (h : ∀ v' w', w'.ownsRow B e size v' (n + m) (xs ++ news) → Below B w w' → K (a.put o.dst v') w') :
    if Region.wanted o (yielded ops a.tmps) = true then Oper.wp Tryz.prog o a w K Q else E := by
  have hw : Region.wanted o (yielded ops a.tmps) = true := by simp [Region.wanted, hgd]
  rw [if_pos hw]
  obtain ⟨i0, hi, hz0, hz1, hz2⟩ := info_partsV hinfo
  rcases hcase with ⟨ad, rfl, hc⟩ | ⟨rfl, rfl, rfl⟩
  · refine wp_append_own (P := Tryz.prog) w s x t hop B e i0 z size bytes ht hi hz0 hz1 hz2 hzs hsz v n xs hs hown ad m c news hx hl hc h1 (by unfold maxLen; omega) ?_ hB ?_
    · have : (n + m) * bytes ≤ 1000 * 1000 := Nat.mul_le_mul hn hby
      omega
    · intro v' w' h2 h3 _
      exact h v' w' h2 (vown_grown hown (Below.refl B w) hB h3)
  · have hnil : news = [] := List.eq_nil_of_length_eq_zero (by omega)
    subst hnil
    have hr := run_append_owned_none (P := Tryz.prog) (w := w) B t o.type e i0 size ht hi v n xs hown
    unfold Oper.wp execOp
    simp only [hop, resolve, invoke, builtin, Sem.run_bind, Sem.run_pure, Result.andThen_ok, List.map_toArray, List.map_cons, List.map_nil, hs, hx, hr]
    exact h v w (by simpa using hown) (Below.refl _ _)
/-- append onto what was cut to its length. -/
theorem step_cut {ops : Array Oper} {o : Oper} {a : Act} {w : World} {K : Act → World → Prop} {Q : Exit → Act → World → Prop} {E : Prop} (hgd : o.guard = none) (s x : Operand)
    (hop : o.op = .call { callee := .builtin .append, args := #[s, x], argTypes := #[40, 40] }) (go : Option Nat) (p : Nat) (hs : a.eval s = .slice (adr go) p p) (olds : List Value) (hlo : olds.length = p) (hnone : go = none → p = 0)
    (holds : ∀ g, go = some g → ∀ (j : Nat) u, olds[j]? = some u → w.cell? ⟨g, j, none⟩ = some u)
    (B : Nat) (v : Value) (m : Nat) (news : List Value) (hx : a.eval x = v) (hown : w.ownsRow B 3 1 v m news) (hm : 0 < m) (h1 : ∀ u ∈ news, u.oneCell' = true) (hn : p + m ≤ 1000)
    (h : ∀ v' w', w'.ownsRow w.heap.size 3 1 v' (p + m) (olds ++ news) → Below w.heap.size w w' → K (a.put o.dst v') w') :
    if Region.wanted o (yielded ops a.tmps) = true then Oper.wp Tryz.prog o a w K Q else E := by
  have hw : Region.wanted o (yielded ops a.tmps) = true := by simp [Region.wanted, hgd]
  rw [if_pos hw]
  obtain ⟨i0, hi, hz0, hz1, hz2⟩ := info_partsV info_i8
  rcases hown.2 with ⟨_, h0⟩ | ⟨g, cap, cur, rfl, _⟩
  · omega
  have hnc := hown.cells (g := g) rfl
  cases go with
  | none =>
    obtain rfl := hnone rfl
    obtain rfl : olds = [] := List.eq_nil_of_length_eq_zero hlo
    refine wp_append_own (P := Tryz.prog) w s x 40 hop w.heap.size 3 i0 (.int .i64 0) 1 8 Tryz.underlying40 hi hz0 hz1 hz2 rfl (by decide) (.slice none 0 0) 0 [] hs (World.ownsRow_nil _ _ _ _) ⟨g, 0, none⟩ m cap news hx hown.1 hnc h1 (by unfold maxLen; omega) (by omega) (Nat.le_refl _) ?_
    intro v' w' h2 h3 _
    exact h v' w' h2 (Below.grown (Below.refl _ _) h3 (Nat.le_refl _) fun k hk => by cases hk)
  | some g2 =>
    obtain ⟨v', w', hr, h2, h3⟩ := run_append_arg_grows (P := Tryz.prog) w 40 o.type 3 i0 (.int .i64 0) 1 8 Tryz.underlying40 hi hz0 hz1 hz2 rfl (by decide) ⟨g2, 0, none⟩ p p olds (by omega) (fun j u hu => by
      have := holds g2 rfl j u hu
      simpa [Addr.add_lit] using this) ⟨g, 0, none⟩ m cap news hown.1 hnc (by omega) (by unfold maxLen; omega) (by omega)
    have hs' : a.eval s = .slice (some ⟨g2, 0, none⟩) p p := hs
    unfold Oper.wp execOp
    simp only [hop, resolve, invoke, builtin, Sem.run_bind, Sem.run_pure, Result.andThen_ok, List.map_toArray, List.map_cons, List.map_nil, hs', hx, hr]
    exact h v' w' h2 (Below.grown (Below.refl _ _) h3 (Nat.le_refl _) fun k hk => by cases hk)
/-- append of two descriptors that were just laid. -/
theorem step_two {ops : Array Oper} {o : Oper} {a : Act} {w : World} {K : Act → World → Prop} {Q : Exit → Act → World → Prop} {E : Prop} (hgd : o.guard = none) (s x : Operand)
    (hop : o.op = .call { callee := .builtin .append, args := #[s, x], argTypes := #[25, 25] }) (B : Nat) (v : Value) (n : Nat) (xs : List Value) (hs : a.eval s = v) (hown : w.ownsRow B 29 8 v n xs)
    (g : Nat) (cs : Array Value) (d1 d2 : De) (hx : a.eval x = .slice (some ⟨g, 0, none⟩) 2 2) (hc : Blk w g cs 29) (hcs : cs.toList = rowL [d1, d2]) (hB : B ≤ w.heap.size) (hn : n ≤ 900)
    (h : ∀ v' w', w'.ownsRow B 29 8 v' (n + 2) (xs ++ rowL [d1, d2]) → Below B w w' → w.grownBy w' v.ownBlock → NextBlock w v v' → K (a.put o.dst v') w') :
    if Region.wanted o (yielded ops a.tmps) = true then Oper.wp Tryz.prog o a w K Q else E := by
  have hw : Region.wanted o (yielded ops a.tmps) = true := by simp [Region.wanted, hgd]
  rw [if_pos hw]
  obtain ⟨i0, hi, hz0, hz1, hz2⟩ := info_partsV info_d8
  refine wp_append_own2 (P := Tryz.prog) w s x 25 hop B 29 i0 (.agg de0) 8 112 Tryz.underlying25 hi hz0 hz1 hz2 rfl (by decide) v n xs hs hown ⟨g, 0, none⟩ 2 2 (rowL [d1, d2]) hx rfl ?_ (rowL_one _) (by unfold maxLen; omega) (by omega) hB (by decide) ?_
  · intro j u hu
    rw [Addr.add_mid, Nat.zero_add, hc.cell, ← Array.getElem?_toList, hcs]
    exact hu
  · intro v' w' h2 h3 h4
    exact h v' w' h2 (vown_grown hown (Below.refl B w) hB h3) h3 h4
theorem ints_one (l : List Int) : ∀ u ∈ l.map (Value.int .i64), u.oneCell' = true := fun u hu => by
  obtain ⟨k, _, rfl⟩ := List.mem_map.1 hu
  rfl
theorem ints_one1 (k : Int) (l : List Int) : ∀ u ∈ [Value.int .i64 k] ++ l.map (Value.int .i64), u.oneCell' = true := ints_one (k :: l)
theorem neg_wrap (k : Int) : IntKind.i64.wrap (-k) = negI k := by
  rw [IntKind.wrap_i64]
  unfold negI wrap64
  omega
theorem own_src {w : World} {C n n' c z : Nat} {e : TypeId} {a : Option Addr} {xs : List Value} (h : w.ownsRow C e z (.slice a n' c) n xs) : n' = n ∧ ((∃ ad, a = some ad ∧ ∀ (j : Nat) u, xs[j]? = some u → w.cell? (ad.add j) = some u) ∨ (a = none ∧ n' = 0 ∧ c = 0)) := by
  rcases h.2 with ⟨h1, rfl⟩ | ⟨g, cap, cur, h1, _⟩
  · cases h1
    exact ⟨rfl, .inr ⟨rfl, rfl, rfl⟩⟩
  · cases h1
    exact ⟨rfl, .inl ⟨_, rfl, h.cells (g := g) rfl⟩⟩
/-- What is wanted, so far. -/
def wantS (l : List Int) : ByteArray := ⟨((⟨#[109, 97, 112, 91]⟩ : ByteArray).data.toList ++ joinT (l.map itemT)).toArray⟩
theorem want_nil : wantS [] = ⟨#[109, 97, 112, 91]⟩ := rfl
theorem want_snoc (l : List Int) (j : Nat) (k : Int) (h : l[j]? = some k) (hk : I64 k) : wantS (l.take (j + 1)) = (if j = 0 then wantS (l.take j) else wantS (l.take j) ++ ⟨#[32]⟩) ++ ((numS k ++ (⟨#[58]⟩ : ByteArray)) ++ numS (negI k)) := by
  have hlt : j < l.length := by
    rcases Nat.lt_or_ge j l.length with q | q
    · exact q
    · rw [List.getElem?_eq_none q] at h; cases h
  have e : l.take (j + 1) = l.take j ++ [k] := by rw [List.take_add_one, h]; rfl
  have hi : (itemT k).1 = (numS k ++ (⟨#[58]⟩ : ByteArray)) ++ numS (negI k) := itemT_val k hk
  rw [← hi]
  unfold wantS
  rw [e, List.map_append]
  show (⟨(_ ++ joinT ((l.take j).map itemT ++ [itemT k])).toArray⟩ : ByteArray) = _
  rw [joinT_snoc]
  by_cases h0 : j = 0
  · subst h0
    rw [if_pos rfl]
    refine bytes_ext ?_
    simp
  · have hne : (l.take j).map itemT ≠ [] := by
      intro e
      have := congrArg List.length e
      rw [List.length_map, List.length_take, List.length_nil] at this
      omega
    rw [if_neg h0, decide_eq_false hne]
    refine bytes_ext ?_
    simp
theorem want_end (l : List Int) : wantS l ++ (⟨#[93]⟩ : ByteArray) = mapS (l.map itemT) := by
  refine bytes_ext ?_
  simp [wantS, mapS]
theorem want_size (l : List Int) (j : Nat) (hj : j ≤ l.length) (hi : ∀ k ∈ l, I64 k) : (wantS (l.take j)).size ≤ 4 + j * 150 := by
  induction j with
  | zero => rw [List.take_zero, want_nil]; decide
  | succ j ih =>
    obtain ⟨k, hk⟩ : ∃ k, l[j]? = some k := ⟨_, List.getElem?_eq_getElem (by omega)⟩
    have hk64 := hi k (List.mem_of_getElem? hk)
    rw [want_snoc l j k hk hk64]
    have h1 := ih (by omega)
    have h2 := numS_size k hk64
    have h3 := numS_size (negI k) (negI_b k)
    split
    · rw [ByteArray.size_append, ByteArray.size_append, ByteArray.size_append]
      have : (⟨#[58]⟩ : ByteArray).size = 1 := rfl
      omega
    · rw [ByteArray.size_append, ByteArray.size_append, ByteArray.size_append, ByteArray.size_append]
      have : (⟨#[58]⟩ : ByteArray).size = 1 := rfl
      have : (⟨#[32]⟩ : ByteArray).size = 1 := rfl
      omega
end Go.Proofs.YtdjhmanccoekjaaGreatDoor
end
