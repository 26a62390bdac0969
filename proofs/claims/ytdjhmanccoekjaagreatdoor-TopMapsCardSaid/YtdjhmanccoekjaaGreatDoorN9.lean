/-
  Texts of this claim, joined: TI, TJ, Sh2, Bw, VJ, VL, VM.
-/
import Derived.Shelf.Strings.BuilderF
import Derived.Lib.FrozenHead
import Derived.Below
import Derived.Shelf.Strings.BuilderK
import Derived.RangeFuncNested
import Derived.RangeFuncBound
import Derived.RangeFuncCalls
import Derived.RangeFuncLeaves
import Derived.Shelf.Abstract
import Derived.Shelf.RegionOpen
import Derived.WalkKit
import Derived.OwnWalkIn
import Derived.TacticsInMore
import Derived.LoopNIn
import Derived.LoopIn
import Derived.Laws.EntriesVeiled
import Derived.Test.YtdjhmanccoekjaaGreatDoorN8
import Derived.Test.YtdjhmanccoekjaaGreatDoorProg

section
namespace Go.Proofs.YtdjhmanccoekjaaGreatDoor
open Go.RowKit Go.Proofs

set_option maxRecDepth 100000 in
set_option maxHeartbeats 4000000 in
theorem ask_no (b : Nat) (s : St) (vs va v : Value) (k hk : Int) (ty : ByteArray) (okb : Bool) (A : Option Addr) (N cap : Nat) (pl mi sh sp ze : Bool) (wid prec verb : Int) (w : World) (hs : StAt w b s vs va) (ht : s.tab = .slice A N cap) (hN : N ≤ 40)
    (hb : BaseIs v (base3 k ty hk) okb) (hn0 : -9223372036854775808 ≤ hk) (hn1 : hk ≤ 9223372036854775807) (h : ¬ (1 ≤ hk ∧ hk ≤ N ∧ hk ≤ 16)) :
    Calls Tryz.prog 52 #[.pointer (some ⟨b, 0, none⟩), v, .agg (sp8 pl mi sh sp ze wid prec verb)] w fun e w' => e = .returned (.tuple #[.string ⟨#[]⟩, .bool false]) ∧ Below w.heap.size w w' := by
  have HO := hid (fun W => hook_any v k ty hk okb W hb)
  have GE := hid (fun W => get_no A N cap hk W hN hn0 hn1 h)
  have CT := hid (fun W (hW : Below w.heap.size w W) => show W.cell? ⟨b, 3, none⟩ = some (.slice A N cap) by have := (hs.below hW).blk.cell 3; rw [ht] at this; exact this)
  have l0 := ((Below.refl w.heap.size w).alloc (Nat.le_refl _) (.cells (sp8 pl mi sh sp ze wid prec verb) 94))
  clear hs ht hb h
  go_enter Tryz.func52, Tryz.ntmps52
  go_upto_region 1 with fail
  obtain ⟨W0, hW0⟩ : ∃ W0, w.alloc (.cells (sp8 pl mi sh sp ze wid prec verb) 94) = W0 := ⟨_, rfl⟩
  obtain ⟨B, hB⟩ : ∃ B, w.heap.size = B := ⟨_, rfl⟩
  rw [hW0] at l0 ⊢
  have HBB := hid hB
  rw [show (World.heap w).size = B from hB]
  clear hB hW0
  refine wp_region_held_drew (S := fun w1 => Below w.heap.size w w1) (by kernel_rfl) l0.drew (fun h0 => ?_)
  generalize World.drew W0 = W1 at h0 ⊢
  refine wpAnyH_take (i := 0) (fuel := 12) (v := .pointer (some ⟨b, 0, none⟩)) rfl (by kernel_rfl) (by kernel_rfl) (by kernel_rfl) (fun _ _ _ h => h) (Or.inl ⟨by rfl, by intro w1 hw1; go_simp⟩) h0 ?_
  try simp only [Act.put, List.getElem_toArray, List.getElem_cons_zero, List.setIfInBounds_toArray, List.set_cons_zero, List.set_cons_succ]
  refine wpAnyH_take (i := 1) (fuel := 11) (v := .pointer (some ⟨b, 0, none⟩)) rfl (by kernel_rfl) (by kernel_rfl) (by kernel_rfl) (fun _ _ _ h => h) (Or.inl ⟨by rfl, by intro w1 hw1; go_simp⟩) h0 ?_
  try simp only [Act.put, List.getElem_toArray, List.getElem_cons_zero, List.getElem_cons_succ, List.setIfInBounds_toArray, List.set_cons_zero, List.set_cons_succ]
  refine wpAnyH_take (i := 2) (fuel := 10) (v := .pointer (some ⟨b, 3, none⟩)) rfl (by kernel_rfl) (by kernel_rfl) (by kernel_rfl) (fun _ _ _ h => h) (Or.inl ⟨by rfl, by intro w1 hw1; go_simp⟩) h0 ?_
  try simp only [Act.put, List.getElem_toArray, List.getElem_cons_zero, List.getElem_cons_succ, List.setIfInBounds_toArray, List.set_cons_zero, List.set_cons_succ]
  refine wpAnyH_take (i := 3) (fuel := 9) (v := .slice A N cap) rfl (by kernel_rfl) (by kernel_rfl) (by kernel_rfl) (fun _ _ _ h => h) (Or.inl ⟨by rfl, by intro w1 hw1; have hq := CT.out w1 hw1; go_simp⟩) h0 ?_
  try simp only [Act.put, List.getElem_toArray, List.getElem_cons_zero, List.getElem_cons_succ, List.setIfInBounds_toArray, List.set_cons_zero, List.set_cons_succ]
  refine wpAnyH_take (i := 4) (fuel := 8) (v := v) rfl (by kernel_rfl) (by kernel_rfl) (by kernel_rfl) (fun _ _ _ h => h) (Or.inl ⟨by rfl, by intro w1 hw1; go_simp⟩) h0 ?_
  try simp only [Act.put, List.getElem_toArray, List.getElem_cons_zero, List.getElem_cons_succ, List.setIfInBounds_toArray, List.set_cons_zero, List.set_cons_succ]
  refine wpAnyH_ready (fuel := 7) (rs := [5, 10]) (by kernel_rfl) (by simp) ?_
  refine AllReadyH.cons rfl (fun K hK => ?_) (AllReadyH.cons rfl (fun K hK => ?_) AllReadyH.nil)
  · rw [if_pos (by rfl)]
    go_wp2_with fail
    refine (HO.out _).mono ?_
    rintro e W5 ⟨rfl, hb⟩
    have nW5 : Below w.heap.size w W5 := h0.trans (hb.mono h0.size)
    clear hb
    refine hK.out _ _ nW5 (fun _ => ?_)
    clear hK
    try simp only [Act.put, List.getElem_toArray, List.getElem_cons_zero, List.getElem_cons_succ, List.setIfInBounds_toArray, List.set_cons_zero, List.set_cons_succ]
    refine wpAnyH_ready (fuel := 6) (rs := [6, 10]) (by kernel_rfl) (by simp) ?_
    refine AllReadyH.cons rfl (fun K hK => ?_) (AllReadyH.cons rfl (fun K hK => ?_) AllReadyH.nil)
    · rw [if_pos (by rfl)]
      go_wp2_with fail
      refine (GE.out _).mono ?_
      rintro e W6 ⟨rfl, hb⟩
      have nW6 : Below w.heap.size w W6 := nW5.trans (hb.mono nW5.size)
      clear hb
      refine hK.out _ _ nW6 (fun _ => ?_)
      clear hK
      try simp only [Act.put, List.getElem_toArray, List.getElem_cons_zero, List.getElem_cons_succ, List.setIfInBounds_toArray, List.set_cons_zero, List.set_cons_succ]
      refine wpAnyH_take (i := 7) (fuel := 5) (v := .tuple #[.agg (hkV hkZ0), .bool false]) rfl (by kernel_rfl) (by kernel_rfl) (by kernel_rfl) (fun _ _ _ h => h) (Or.inl ⟨by rfl, by intro w1 hw1; go_simp⟩) nW6 ?_
      try simp only [Act.put, List.getElem_toArray, List.getElem_cons_zero, List.getElem_cons_succ, List.setIfInBounds_toArray, List.set_cons_zero, List.set_cons_succ]
      refine wpAnyH_take (i := 8) (fuel := 4) (v := .agg (hkV hkZ0)) rfl (by kernel_rfl) (by kernel_rfl) (by kernel_rfl) (fun _ _ _ h => h) (Or.inl ⟨by rfl, by intro w1 hw1; go_simp⟩) nW6 ?_
      try simp only [Act.put, List.getElem_toArray, List.getElem_cons_zero, List.getElem_cons_succ, List.setIfInBounds_toArray, List.set_cons_zero, List.set_cons_succ]
      refine wpAnyH_take (i := 9) (fuel := 3) (v := .bool false) rfl (by kernel_rfl) (by kernel_rfl) (by kernel_rfl) (fun _ _ _ h => h) (Or.inl ⟨by rfl, by intro w1 hw1; go_simp⟩) nW6 ?_
      try simp only [Act.put, List.getElem_toArray, List.getElem_cons_zero, List.getElem_cons_succ, List.setIfInBounds_toArray, List.set_cons_zero, List.set_cons_succ]
      refine wpAnyH_ready (fuel := 2) (rs := [10]) (by kernel_rfl) (by simp) ?_
      refine AllReadyH.cons rfl (fun K hK => ?_) AllReadyH.nil
      · rw [if_pos (by rfl)]
        go_wp2_with fail
        have a0 := Blk.new W6 hk0 34
        have n0 : Below w.heap.size w (World.alloc W6 (.cells hk0 34)) := nW6.alloc nW6.size _
        have g0 : w.heap.size ≤ W6.heap.size := nW6.size
        obtain ⟨WA, hWA⟩ : ∃ WA, World.alloc W6 (.cells hk0 34) = WA := ⟨_, rfl⟩
        obtain ⟨H, hHH⟩ : ∃ H : Nat, (World.heap W6).size = H := ⟨_, rfl⟩
        rw [hWA] at a0 n0 ⊢
        rw [hHH] at a0 g0 ⊢
        have HR := hid a0
        have HG := hid g0
        clear a0 g0 hWA hHH
        refine hK.out _ _ n0 (fun _ => ?_)
        clear hK
        try simp only [Act.put, List.getElem_toArray, List.getElem_cons_zero, List.getElem_cons_succ, List.setIfInBounds_toArray, List.set_cons_zero, List.set_cons_succ]
        refine wpAnyH_ready (fuel := 1) (rs := [11]) (by kernel_rfl) (by simp) ?_
        refine AllReadyH.cons rfl (fun K hK => ?_) AllReadyH.nil
        · rw [if_pos (by rfl)]
          refine wp_store_mid 34 (.tmp 8) (.tmp 20) rfl H 0 (hkV hkZ0) rfl rfl (Blk.there HR.out 0 48 (by decide)) hook_size (hkV_one _) ?_
          have ns : Below w.heap.size w (World.setCells WA H 0 (hkV hkZ0).toList) := below_setCells n0 H HG.out _ _
          generalize World.setCells WA H 0 (hkV hkZ0).toList = WS at ns ⊢
          refine hK.out _ _ ns (fun _ => ?_)
          clear hK
          try simp only [Act.put, List.getElem_toArray, List.getElem_cons_zero, List.getElem_cons_succ]
          refine wpAnyH_take (i := 12) (fuel := 0) (v := .bool false) rfl (by kernel_rfl) (by kernel_rfl) (by kernel_rfl) (fun _ _ _ h => h) (Or.inl ⟨by rfl, by intro w1 hw1; go_simp⟩) ns ?_
          try simp only [Act.put, List.getElem_toArray, List.getElem_cons_zero, List.getElem_cons_succ, List.setIfInBounds_toArray, List.set_cons_zero, List.set_cons_succ]
          refine wpAnyH_done (by kernel_rfl) ?_ _
          have LP := hid ns
          clear ns
          go_wp2_with fail
          go_ret2
          exact ⟨rfl, LP.out⟩
    · rw [if_pos (by rfl)]
      go_wp2_with fail
      have a0 := Blk.new W5 hk0 34
      have n0 : Below w.heap.size w (World.alloc W5 (.cells hk0 34)) := nW5.alloc nW5.size _
      have g0 : w.heap.size ≤ W5.heap.size := nW5.size
      obtain ⟨WA, hWA⟩ : ∃ WA, World.alloc W5 (.cells hk0 34) = WA := ⟨_, rfl⟩
      obtain ⟨H, hHH⟩ : ∃ H : Nat, (World.heap W5).size = H := ⟨_, rfl⟩
      rw [hWA] at a0 n0 ⊢
      rw [hHH] at a0 g0 ⊢
      have HR := hid a0
      have HG := hid g0
      clear a0 g0 hWA hHH
      refine hK.out _ _ n0 (fun _ => ?_)
      clear hK
      try simp only [Act.put, List.getElem_toArray, List.getElem_cons_zero, List.getElem_cons_succ, List.setIfInBounds_toArray, List.set_cons_zero, List.set_cons_succ]
      refine wpAnyH_ready (fuel := 5) (rs := [6]) (by kernel_rfl) (by simp) ?_
      refine AllReadyH.cons rfl (fun K hK => ?_) AllReadyH.nil
      · rw [if_pos (by rfl)]
        go_wp2_with fail
        refine (GE.out _).mono ?_
        rintro e W7 ⟨rfl, hb⟩
        have nW7 : Below w.heap.size w W7 := n0.trans (hb.mono n0.size)
        have HR := hid (HR.out.below hb HR.out.lt)
        clear hb
        refine hK.out _ _ nW7 (fun _ => ?_)
        clear hK
        try simp only [Act.put, List.getElem_toArray, List.getElem_cons_zero, List.getElem_cons_succ, List.setIfInBounds_toArray, List.set_cons_zero, List.set_cons_succ]
        refine wpAnyH_take (i := 7) (fuel := 4) (v := .tuple #[.agg (hkV hkZ0), .bool false]) rfl (by kernel_rfl) (by kernel_rfl) (by kernel_rfl) (fun _ _ _ h => h) (Or.inl ⟨by rfl, by intro w1 hw1; go_simp⟩) nW7 ?_
        try simp only [Act.put, List.getElem_toArray, List.getElem_cons_zero, List.getElem_cons_succ, List.setIfInBounds_toArray, List.set_cons_zero, List.set_cons_succ]
        refine wpAnyH_take (i := 8) (fuel := 3) (v := .agg (hkV hkZ0)) rfl (by kernel_rfl) (by kernel_rfl) (by kernel_rfl) (fun _ _ _ h => h) (Or.inl ⟨by rfl, by intro w1 hw1; go_simp⟩) nW7 ?_
        try simp only [Act.put, List.getElem_toArray, List.getElem_cons_zero, List.getElem_cons_succ, List.setIfInBounds_toArray, List.set_cons_zero, List.set_cons_succ]
        refine wpAnyH_take (i := 9) (fuel := 2) (v := .bool false) rfl (by kernel_rfl) (by kernel_rfl) (by kernel_rfl) (fun _ _ _ h => h) (Or.inl ⟨by rfl, by intro w1 hw1; go_simp⟩) nW7 ?_
        try simp only [Act.put, List.getElem_toArray, List.getElem_cons_zero, List.getElem_cons_succ, List.setIfInBounds_toArray, List.set_cons_zero, List.set_cons_succ]
        refine wpAnyH_ready (fuel := 1) (rs := [11]) (by kernel_rfl) (by simp) ?_
        refine AllReadyH.cons rfl (fun K hK => ?_) AllReadyH.nil
        · rw [if_pos (by rfl)]
          refine wp_store_mid 34 (.tmp 8) (.tmp 20) rfl H 0 (hkV hkZ0) rfl rfl (Blk.there HR.out 0 48 (by decide)) hook_size (hkV_one _) ?_
          have ns : Below w.heap.size w (World.setCells W7 H 0 (hkV hkZ0).toList) := below_setCells nW7 H HG.out _ _
          generalize World.setCells W7 H 0 (hkV hkZ0).toList = WS at ns ⊢
          refine hK.out _ _ ns (fun _ => ?_)
          clear hK
          try simp only [Act.put, List.getElem_toArray, List.getElem_cons_zero, List.getElem_cons_succ]
          refine wpAnyH_take (i := 12) (fuel := 0) (v := .bool false) rfl (by kernel_rfl) (by kernel_rfl) (by kernel_rfl) (fun _ _ _ h => h) (Or.inl ⟨by rfl, by intro w1 hw1; go_simp⟩) ns ?_
          try simp only [Act.put, List.getElem_toArray, List.getElem_cons_zero, List.getElem_cons_succ, List.setIfInBounds_toArray, List.set_cons_zero, List.set_cons_succ]
          refine wpAnyH_done (by kernel_rfl) ?_ _
          have LP := hid ns
          clear ns
          go_wp2_with fail
          go_ret2
          exact ⟨rfl, LP.out⟩
  · rw [if_pos (by rfl)]
    go_wp2_with fail
    have a0 := Blk.new W1 hk0 34
    have n0 : Below w.heap.size w (World.alloc W1 (.cells hk0 34)) := h0.alloc h0.size _
    have g0 : w.heap.size ≤ W1.heap.size := h0.size
    obtain ⟨WA, hWA⟩ : ∃ WA, World.alloc W1 (.cells hk0 34) = WA := ⟨_, rfl⟩
    obtain ⟨H, hHH⟩ : ∃ H : Nat, (World.heap W1).size = H := ⟨_, rfl⟩
    rw [hWA] at a0 n0 ⊢
    rw [hHH] at a0 g0 ⊢
    have HR := hid a0
    have HG := hid g0
    clear a0 g0 hWA hHH
    refine hK.out _ _ n0 (fun _ => ?_)
    clear hK
    try simp only [Act.put, List.getElem_toArray, List.getElem_cons_zero, List.getElem_cons_succ, List.setIfInBounds_toArray, List.set_cons_zero, List.set_cons_succ]
    refine wpAnyH_ready (fuel := 6) (rs := [5]) (by kernel_rfl) (by simp) ?_
    refine AllReadyH.cons rfl (fun K hK => ?_) AllReadyH.nil
    · rw [if_pos (by rfl)]
      go_wp2_with fail
      refine (HO.out _).mono ?_
      rintro e W5 ⟨rfl, hb⟩
      have nW5 : Below w.heap.size w W5 := n0.trans (hb.mono n0.size)
      have HR := hid (HR.out.below hb HR.out.lt)
      clear hb
      refine hK.out _ _ nW5 (fun _ => ?_)
      clear hK
      try simp only [Act.put, List.getElem_toArray, List.getElem_cons_zero, List.getElem_cons_succ, List.setIfInBounds_toArray, List.set_cons_zero, List.set_cons_succ]
      refine wpAnyH_ready (fuel := 5) (rs := [6]) (by kernel_rfl) (by simp) ?_
      refine AllReadyH.cons rfl (fun K hK => ?_) AllReadyH.nil
      · rw [if_pos (by rfl)]
        go_wp2_with fail
        refine (GE.out _).mono ?_
        rintro e W6 ⟨rfl, hb⟩
        have nW6 : Below w.heap.size w W6 := nW5.trans (hb.mono nW5.size)
        have HR := hid (HR.out.below hb HR.out.lt)
        clear hb
        refine hK.out _ _ nW6 (fun _ => ?_)
        clear hK
        try simp only [Act.put, List.getElem_toArray, List.getElem_cons_zero, List.getElem_cons_succ, List.setIfInBounds_toArray, List.set_cons_zero, List.set_cons_succ]
        refine wpAnyH_take (i := 7) (fuel := 4) (v := .tuple #[.agg (hkV hkZ0), .bool false]) rfl (by kernel_rfl) (by kernel_rfl) (by kernel_rfl) (fun _ _ _ h => h) (Or.inl ⟨by rfl, by intro w1 hw1; go_simp⟩) nW6 ?_
        try simp only [Act.put, List.getElem_toArray, List.getElem_cons_zero, List.getElem_cons_succ, List.setIfInBounds_toArray, List.set_cons_zero, List.set_cons_succ]
        refine wpAnyH_take (i := 8) (fuel := 3) (v := .agg (hkV hkZ0)) rfl (by kernel_rfl) (by kernel_rfl) (by kernel_rfl) (fun _ _ _ h => h) (Or.inl ⟨by rfl, by intro w1 hw1; go_simp⟩) nW6 ?_
        try simp only [Act.put, List.getElem_toArray, List.getElem_cons_zero, List.getElem_cons_succ, List.setIfInBounds_toArray, List.set_cons_zero, List.set_cons_succ]
        refine wpAnyH_take (i := 9) (fuel := 2) (v := .bool false) rfl (by kernel_rfl) (by kernel_rfl) (by kernel_rfl) (fun _ _ _ h => h) (Or.inl ⟨by rfl, by intro w1 hw1; go_simp⟩) nW6 ?_
        try simp only [Act.put, List.getElem_toArray, List.getElem_cons_zero, List.getElem_cons_succ, List.setIfInBounds_toArray, List.set_cons_zero, List.set_cons_succ]
        refine wpAnyH_ready (fuel := 1) (rs := [11]) (by kernel_rfl) (by simp) ?_
        refine AllReadyH.cons rfl (fun K hK => ?_) AllReadyH.nil
        · rw [if_pos (by rfl)]
          refine wp_store_mid 34 (.tmp 8) (.tmp 20) rfl H 0 (hkV hkZ0) rfl rfl (Blk.there HR.out 0 48 (by decide)) hook_size (hkV_one _) ?_
          have ns : Below w.heap.size w (World.setCells W6 H 0 (hkV hkZ0).toList) := below_setCells nW6 H HG.out _ _
          generalize World.setCells W6 H 0 (hkV hkZ0).toList = WS at ns ⊢
          refine hK.out _ _ ns (fun _ => ?_)
          clear hK
          try simp only [Act.put, List.getElem_toArray, List.getElem_cons_zero, List.getElem_cons_succ]
          refine wpAnyH_take (i := 12) (fuel := 0) (v := .bool false) rfl (by kernel_rfl) (by kernel_rfl) (by kernel_rfl) (fun _ _ _ h => h) (Or.inl ⟨by rfl, by intro w1 hw1; go_simp⟩) ns ?_
          try simp only [Act.put, List.getElem_toArray, List.getElem_cons_zero, List.getElem_cons_succ, List.setIfInBounds_toArray, List.set_cons_zero, List.set_cons_succ]
          refine wpAnyH_done (by kernel_rfl) ?_ _
          have LP := hid ns
          clear ns
          go_wp2_with fail
          go_ret2
          exact ⟨rfl, LP.out⟩
end Go.Proofs.YtdjhmanccoekjaaGreatDoor
end

section
namespace Go.Proofs.YtdjhmanccoekjaaGreatDoor
open Go.RowKit Go.Proofs

abbrev askF (b : Nat) : Value := .func (.func 52) #[.pointer (some ⟨b, 0, none⟩)] #[]
/-- A value of some type, which is not nil. -/
structure NotNil (T : TypeId) (x : Value) : Prop where
  eq : ∀ w : World, (binOp BinOp.eql 103 (.iface T x) .nilIface).run Tryz.prog w = .ok (.bool false) w
  ta : ∀ w : World, (Instr.typeAssert (.iface T x) 103 217 true).run Tryz.prog w = .ok (.tuple #[.agg #[], .bool false]) w
theorem NotNil.is {T : TypeId} {x : Value} (h : NotNil T x) (w : World) : Calls Tryz.prog 112 #[.iface T x] w fun e w' => e = .returned (.bool false) ∧ w = w' := isnil_no T x w h.eq h.ta
set_option maxRecDepth 100000 in
set_option maxHeartbeats 4000000 in
theorem value_plain (T : TypeId) (x : Value) (pl mi sh sp ze : Bool) (wid prec verb dp : Int) (w : World) (t tb : ByteArray) (ok : Bool) (hn : NotNil T x)
    (KI : ∀ W, Below w.heap.size w W → Calls Tryz.prog 113 #[.agg (wrC pl mi sh sp ze wid prec verb (.nilFunc)), .iface T x, .int .i64 dp] W fun e w' => e = .returned (.tuple #[.string t, .bool ok]) ∧ Below W.heap.size W w')
    (BA : ok = false → ∀ W, Below w.heap.size w W → Calls Tryz.prog 114 #[.iface T x, .int .i32 verb] W fun e w' => e = .returned (.string tb) ∧ Below W.heap.size W w') :
    Calls Tryz.prog 78 #[.agg (wrC pl mi sh sp ze wid prec verb (.nilFunc)), .iface T x, .int .i64 dp] w fun e w' => e = .returned (.string (if ok then t else tb)) ∧ Below w.heap.size w w' := by
  have IS := hid (fun W => hn.is W)
  have KI := hid KI
  have BA := hid BA
  have hq : ∀ W : World, (binOp BinOp.neq 107 .nilFunc .nilFunc).run Tryz.prog W = .ok (.bool false) W := fun _ => by kernel_rfl
  have hA := Blk.new w (wrC pl mi sh sp ze wid prec verb (.nilFunc)) 142
  have lp := (Below.refl w.heap.size w).alloc (Nat.le_refl _) (.cells (wrC pl mi sh sp ze wid prec verb (.nilFunc)) 142)
  clear hn
  go_enter Tryz.func78, Tryz.ntmps78
  go_wp2_with fail
  obtain ⟨W0, hW0⟩ : ∃ W0, w.alloc (.cells (wrC pl mi sh sp ze wid prec verb (.nilFunc)) 142) = W0 := ⟨_, rfl⟩
  obtain ⟨B, hB⟩ : ∃ B, w.heap.size = B := ⟨_, rfl⟩
  rw [hW0] at hA lp ⊢
  rw [hB] at hA ⊢
  have HBB := hid hB
  have HA := hid hA
  have LP := hid lp
  clear hA lp hW0 hB
  refine (IS.out _).mono ?_
  rintro e W1 ⟨rfl, hw⟩
  subst hw
  have c0 := HA.out.cell 0
  have c1 := HA.out.cell 1
  have c2 := HA.out.cell 2
  have c3 := HA.out.cell 3
  have c4 := HA.out.cell 4
  have c5 := HA.out.cell 5
  have c6 := HA.out.cell 6
  have c7 := HA.out.cell 7
  have c8 := HA.out.cell 8

  go_wp2_with fail
  refine (KI.out _ LP.out).mono ?_
  rintro e W2 ⟨rfl, hb⟩
  have HA := hid (HA.out.below hb HA.out.lt)
  have LP := hid (LP.out.trans (hb.mono LP.out.size))
  clear hb
  clear c0 c1 c2 c3 c4 c5 c6 c7 c8
  have c0 := HA.out.cell 0
  have c1 := HA.out.cell 1
  have c2 := HA.out.cell 2
  have c3 := HA.out.cell 3
  have c4 := HA.out.cell 4
  have c5 := HA.out.cell 5
  have c6 := HA.out.cell 6
  have c7 := HA.out.cell 7
  have c8 := HA.out.cell 8
  cases ok
  · go_wp2_with fail
    refine (BA.out trivial _ LP.out).mono ?_
    rintro e W3 ⟨rfl, hb⟩
    have LP := hid (LP.out.trans (hb.mono LP.out.size))
    clear hb
    go_wp2_with fail
    go_ret
    exact ⟨rfl, LP.out⟩
  · go_wp2_with fail
    go_ret
    exact ⟨rfl, LP.out⟩
set_option maxRecDepth 100000 in
set_option maxHeartbeats 4000000 in
theorem value_asked (b : Nat) (s : ByteArray) (aok : Bool) (T : TypeId) (x : Value) (pl mi sh sp ze : Bool) (wid prec verb dp : Int) (w : World) (t tb : ByteArray) (ok : Bool) (hn : NotNil T x)
    (AS : ∀ W, Below w.heap.size w W → Calls Tryz.prog 52 #[.pointer (some ⟨b, 0, none⟩), .iface T x, .agg (sp8 pl mi sh sp ze wid prec verb)] W fun e w' => e = .returned (.tuple #[.string s, .bool aok]) ∧ Below W.heap.size W w') (ha : aok = false)
    (KI : ∀ W, Below w.heap.size w W → Calls Tryz.prog 113 #[.agg (wrC pl mi sh sp ze wid prec verb (askF b)), .iface T x, .int .i64 dp] W fun e w' => e = .returned (.tuple #[.string t, .bool ok]) ∧ Below W.heap.size W w')
    (BA : ok = false → ∀ W, Below w.heap.size w W → Calls Tryz.prog 114 #[.iface T x, .int .i32 verb] W fun e w' => e = .returned (.string tb) ∧ Below W.heap.size W w') :
    Calls Tryz.prog 78 #[.agg (wrC pl mi sh sp ze wid prec verb (askF b)), .iface T x, .int .i64 dp] w fun e w' => e = .returned (.string (if ok then t else tb)) ∧ Below w.heap.size w w' := by
  have IS := hid (fun W => hn.is W)
  have KI := hid KI
  have BA := hid BA
  have hq : ∀ W : World, (binOp BinOp.neq 107 (askF b) .nilFunc).run Tryz.prog W = .ok (.bool true) W := fun _ => by kernel_rfl
  subst ha
  have AS := hid AS
  have hA := Blk.new w (wrC pl mi sh sp ze wid prec verb (askF b)) 142
  have lp := (Below.refl w.heap.size w).alloc (Nat.le_refl _) (.cells (wrC pl mi sh sp ze wid prec verb (askF b)) 142)
  clear hn
  go_enter Tryz.func78, Tryz.ntmps78
  go_wp2_with fail
  obtain ⟨W0, hW0⟩ : ∃ W0, w.alloc (.cells (wrC pl mi sh sp ze wid prec verb (askF b)) 142) = W0 := ⟨_, rfl⟩
  obtain ⟨B, hB⟩ : ∃ B, w.heap.size = B := ⟨_, rfl⟩
  rw [hW0] at hA lp ⊢
  rw [hB] at hA ⊢
  have HBB := hid hB
  have HA := hid hA
  have LP := hid lp
  clear hA lp hW0 hB
  refine (IS.out _).mono ?_
  rintro e W1 ⟨rfl, hw⟩
  subst hw
  have c0 := HA.out.cell 0
  have c1 := HA.out.cell 1
  have c2 := HA.out.cell 2
  have c3 := HA.out.cell 3
  have c4 := HA.out.cell 4
  have c5 := HA.out.cell 5
  have c6 := HA.out.cell 6
  have c7 := HA.out.cell 7
  have c8 := HA.out.cell 8

  go_wp2_with fail
  refine (AS.out _ LP.out).mono ?_
  rintro e W1 ⟨rfl, hb⟩
  have HA := hid (HA.out.below hb HA.out.lt)
  have LP := hid (LP.out.trans (hb.mono LP.out.size))
  clear hb
  clear c0 c1 c2 c3 c4 c5 c6 c7 c8
  have c0 := HA.out.cell 0
  have c1 := HA.out.cell 1
  have c2 := HA.out.cell 2
  have c3 := HA.out.cell 3
  have c4 := HA.out.cell 4
  have c5 := HA.out.cell 5
  have c6 := HA.out.cell 6
  have c7 := HA.out.cell 7
  have c8 := HA.out.cell 8
  go_wp2_with fail
  refine (KI.out _ LP.out).mono ?_
  rintro e W2 ⟨rfl, hb⟩
  have HA := hid (HA.out.below hb HA.out.lt)
  have LP := hid (LP.out.trans (hb.mono LP.out.size))
  clear hb
  clear c0 c1 c2 c3 c4 c5 c6 c7 c8
  have c0 := HA.out.cell 0
  have c1 := HA.out.cell 1
  have c2 := HA.out.cell 2
  have c3 := HA.out.cell 3
  have c4 := HA.out.cell 4
  have c5 := HA.out.cell 5
  have c6 := HA.out.cell 6
  have c7 := HA.out.cell 7
  have c8 := HA.out.cell 8
  cases ok
  · go_wp2_with fail
    refine (BA.out trivial _ LP.out).mono ?_
    rintro e W3 ⟨rfl, hb⟩
    have LP := hid (LP.out.trans (hb.mono LP.out.size))
    clear hb
    go_wp2_with fail
    go_ret
    exact ⟨rfl, LP.out⟩
  · go_wp2_with fail
    go_ret
    exact ⟨rfl, LP.out⟩
set_option maxRecDepth 100000 in
set_option maxHeartbeats 4000000 in
theorem show_plain (v : Value) (pl mi sh sp ze : Bool) (wid prec verb : Int) (w : World) (t : ByteArray) (hv : verb ≠ 84)
    (VA : ∀ W, Below w.heap.size w W → Calls Tryz.prog 78 #[.agg (wrC pl mi sh sp ze wid prec verb (.nilFunc)), v, .int .i64 0] W fun e w' => e = .returned (.string t) ∧ Below W.heap.size W w') :
    Calls Tryz.prog 50 #[v, .agg (sp8 pl mi sh sp ze wid prec verb), .nilFunc] w fun e w' => e = .returned (.string t) ∧ Below w.heap.size w w' := by
  have lp := (Below.refl w.heap.size w).alloc (Nat.le_refl _) (.cells (sp8 pl mi sh sp ze wid prec verb) 94)
  have VA := hid (VA _ lp)
  have LP := hid lp
  have hb : (verb == 84) = false := by simpa using hv
  clear lp hv
  go_enter Tryz.func50, Tryz.ntmps50
  go_wp2_with fail
  refine VA.out.mono ?_
  rintro e w1 ⟨rfl, hb1⟩
  have LP := hid (LP.out.trans (hb1.mono LP.out.size))
  clear hb1
  go_wp2_with fail
  go_ret
  exact ⟨rfl, LP.out⟩
set_option maxRecDepth 100000 in
set_option maxHeartbeats 4000000 in
theorem show_asked (b : Nat) (v : Value) (pl mi sh sp ze : Bool) (wid prec verb : Int) (w : World) (t : ByteArray) (hv : verb ≠ 84)
    (VA : ∀ W, Below w.heap.size w W → Calls Tryz.prog 78 #[.agg (wrC pl mi sh sp ze wid prec verb (askF b)), v, .int .i64 0] W fun e w' => e = .returned (.string t) ∧ Below W.heap.size W w') :
    Calls Tryz.prog 50 #[v, .agg (sp8 pl mi sh sp ze wid prec verb), askF b] w fun e w' => e = .returned (.string t) ∧ Below w.heap.size w w' := by
  have lp := (Below.refl w.heap.size w).alloc (Nat.le_refl _) (.cells (sp8 pl mi sh sp ze wid prec verb) 94)
  have VA := hid (VA _ lp)
  have LP := hid lp
  have hb : (verb == 84) = false := by simpa using hv
  clear lp hv
  go_enter Tryz.func50, Tryz.ntmps50
  go_wp2_with fail
  refine VA.out.mono ?_
  rintro e w1 ⟨rfl, hb1⟩
  have LP := hid (LP.out.trans (hb1.mono LP.out.size))
  clear hb1
  go_wp2_with fail
  go_ret
  exact ⟨rfl, LP.out⟩
/-- What bad.Verb says. -/
def badV (verb : Int) (t s : ByteArray) : ByteArray := insS (Utf8.encode verb) ((t ++ (⟨#[61]⟩ : ByteArray)) ++ s)
set_option maxRecDepth 100000 in
set_option maxHeartbeats 4000000 in
theorem bad_any (T : TypeId) (x : Value) (verb : Int) (w : World) (t s : ByteArray) (hn : NotNil T x) (ht : t.size ≤ 10000) (hs : s.size ≤ 10000)
    (TY : ∀ W, Calls Tryz.prog 49 #[.iface T x] W fun e w' => e = .returned (.string t) ∧ Below W.heap.size W w')
    (SH : ∀ W, Below w.heap.size w W → Calls Tryz.prog 50 #[.iface T x, .agg (sp8 false false false false false (-1) (-1) 118), .nilFunc] W fun e w' => e = .returned (.string s) ∧ Below W.heap.size W w') :
    Calls Tryz.prog 114 #[.iface T x, .int .i32 verb] w fun e w' => e = .returned (.string (badV verb t s)) ∧ Below w.heap.size w w' := by
  have IS := hid (fun W => hn.is W)
  have VE := hid (fun W => verb_any verb t s W ht hs)
  obtain ⟨r, hr⟩ : ∃ r, badV verb t s = r := ⟨_, rfl⟩
  unfold badV at hr
  rw [hr] at VE
  rw [show badV verb t s = r from hr]
  have TY := hid TY
  have SH := hid SH
  clear hn hr ht hs
  go_enter Tryz.func114, Tryz.ntmps114
  go_wp2_with fail
  refine (IS.out _).mono ?_
  rintro e W1 ⟨rfl, hw⟩
  subst hw
  go_wp2_with fail

  refine (TY.out _).mono ?_
  rintro e W1 ⟨rfl, hb⟩
  have LP := hid hb
  clear hb
  go_wp2_with fail
  refine (SH.out _ LP.out).mono ?_
  rintro e W2 ⟨rfl, hb⟩
  have LP := hid (LP.out.trans (hb.mono LP.out.size))
  clear hb
  go_wp2_with fail
  refine (VE.out _).mono ?_
  rintro e W3 ⟨rfl, hb⟩
  have LP := hid (LP.out.trans (hb.mono LP.out.size))
  clear hb
  go_wp2_with fail
  go_ret
  exact ⟨rfl, LP.out⟩
end Go.Proofs.YtdjhmanccoekjaaGreatDoor
end

section
namespace Go.Proofs
open Go.Shelf Go.RowKit
def Tryz.lays166_ren : Go.Shelf.Ren := ⟨fun | 166 => 60 | 240 => 86 | 276 => 119 | n => n, fun | 0 => 0 | 3 => 3 | 4 => 4 | 5 => 5 | 9 => 9 | 20 => 20 | 37 => 50 | 70 => 112 | 72 => 114 | 75 => 117 | 80 => 89 | 164 => 211 | n => n, fun n => n⟩
theorem Tryz.lays166 : Go.Proofs.Lays.n166 Tryz.prog Tryz.lays166_ren := {
  mixed := by kernel_rfl
  f166 := Tryz.func60.trans (congrArg some (by kernel_rfl))
  f240 := Tryz.func86.trans (congrArg some (by kernel_rfl))
  f276 := Tryz.func119.trans (congrArg some (by kernel_rfl))
  t0 := Tryz.underlying0
  a0 := Tryz.isAgg0
  z0 := Tryz.sizeOf0
  v0 := Tryz.zeroValue0
  t3 := Tryz.underlying3
  a3 := Tryz.isAgg3
  z3 := Tryz.sizeOf3
  v3 := Tryz.zeroValue3
  t4 := Tryz.underlying4
  a4 := Tryz.isAgg4
  z4 := Tryz.sizeOf4
  v4 := Tryz.zeroValue4
  t9 := Tryz.underlying9
  a9 := Tryz.isAgg9
  z9 := Tryz.sizeOf9
  v9 := Tryz.zeroValue9
  t20 := Tryz.underlying20
  a20 := Tryz.isAgg20
  z20 := Tryz.sizeOf20
  v20 := Tryz.zeroValue20
  t37 := Tryz.underlying50
  a37 := Tryz.isAgg50
  z37 := Tryz.sizeOf50
  v37 := Tryz.zeroValue50
  t70 := Tryz.underlying112
  a70 := Tryz.isAgg112
  z70 := Tryz.sizeOf112
  v70 := Tryz.zeroValue112
  t72 := Tryz.underlying114
  a72 := Tryz.isAgg114
  z72 := Tryz.sizeOf114
  v72 := Tryz.zeroValue114
  t75 := Tryz.underlying117
  a75 := Tryz.isAgg117
  z75 := Tryz.sizeOf117
  v75 := Tryz.zeroValue117
  t164 := Tryz.underlying211
  a164 := Tryz.isAgg211
  z164 := Tryz.sizeOf211
  v164 := Tryz.zeroValue211 }
theorem Tryz.Builder_Extra_166 : Builder.Extra Tryz.prog Tryz.lays166_ren := {
  sizeBuilder := by kernel_rfl
  liesBuilder := by kernel_rfl
  t5 := Tryz.underlying5
  a5 := Tryz.isAgg5
  z5 := Tryz.sizeOf5
  v5 := Tryz.zeroValue5
  infoByte := by kernel_rfl
  cellsByte := by kernel_rfl
  sizeByte := by kernel_rfl
  neB5 := by decide }
/-- Builder.WriteString, of a builder that may have been read. -/
theorem Tryz.Builder_WriteString_f (B b : Nat) (bs : List Value) (s : ByteArray) (w : World) (h : Lib.IsBuilderF 114 5 B b bs w) (hlen : bs.length + s.size ≤ 140737488355328) (hBw : B ≤ w.heap.size) :
    Calls Tryz.prog 60 #[.pointer (some ⟨b, 0, none⟩), .string s] w fun e w' => e = .returned (.tuple #[.int .i64 s.size, .nilIface]) ∧ (Lib.BuilderAtF 114 5 B b (.pointer (some ⟨b, 0, none⟩)) (bs ++ Lib.strCells s) w' ∧ Below B w w') :=
  Any.Builder_WriteString_f Tryz.lays166 Tryz.Builder_Extra_166 B b bs s w h hlen hBw
end Go.Proofs
end

section
namespace Go.Proofs.YtdjhmanccoekjaaGreatDoor
open Go.RowKit Go.Proofs

theorem builder_below {T e : TypeId} {B b : Nat} {bs : List Value} {w W : World} (h : Lib.IsBuilderF T e B b bs w) (hb : Below w.heap.size w W) : Lib.IsBuilderF T e B b bs W := by
  have key : ∀ p, Lib.BuilderAtF T e B b p bs w → Lib.BuilderAtF T e B b p bs W := by
    intro p hp
    have hlt := hp.lt
    obtain ⟨hB, v, hbk, hown, hne⟩ := hp
    refine ⟨hB, v, (hb.block b hlt).trans hbk, ⟨hown.1, ?_⟩, hne⟩
    rcases hown.2 with h0 | ⟨g, cap, cur, fz, h1, h2, h3, h4⟩
    · exact Or.inl h0
    · exact Or.inr ⟨g, cap, cur, fz, h1, h2, (hb.block g (by
        rcases Nat.lt_or_ge g w.heap.size with q | q
        · exact q
        · rw [Array.getElem?_eq_none q] at h3; cases h3)).trans h3, h4⟩
  rcases h with h | h
  · exact Or.inl (key _ h)
  · exact Or.inr (key _ h)
end Go.Proofs.YtdjhmanccoekjaaGreatDoor
end

section
namespace Go.Proofs.YtdjhmanccoekjaaGreatDoor
open Go.RowKit Go.Proofs

/-- Texts with another one between each two. -/
def joinB (btw : List UInt8) : List ByteArray → List UInt8
  | [] => []
  | x :: r => x.data.toList ++ r.flatMap fun y => btw ++ y.data.toList
theorem joinB_snoc (btw : List UInt8) (pre : List ByteArray) (x : ByteArray) : joinB btw (pre ++ [x]) = joinB btw pre ++ ((if pre = [] then [] else btw) ++ x.data.toList) := by
  cases pre with
  | nil => simp [joinB]
  | cons y r => simp [joinB]
theorem u8_other {w w' : World} {b k : Nat} {cs : Array Value} {T : TypeId} (h : Lib.OthersKept 5 (some b) w w') (hk : Blk w k cs T) (hne : k ≠ b) (hT : T ≠ 5) : Blk w' k cs T :=
  h k _ hk (fun e => hne (Option.some.inj e)) fun c fz e => hT (by injection e)
/-- What group has in memory. -/
structure GpI (w : World) (b1 b2 : Nat) (btw txt : List UInt8) (first : Bool) (W : World) : Prop where
  bel : Below w.heap.size w W
  lo : w.heap.size ≤ b1 ∧ b1 < b2
  size : b2 + 3 ≤ W.heap.size
  bw : Blk W (b1) #[.string ⟨btw.toArray⟩] 9
  bu : Lib.IsBuilderF 114 5 w.heap.size (b2) (Lib.byteCells txt) W
  fi : Blk W (b2 + 1) #[.bool first] 4
  nx : Blk W (b2 + 2) #[.func (.func 171) #[] #[.pointer (some ⟨b2 + 1, 0, none⟩), .pointer (some ⟨b2, 0, none⟩), .pointer (some ⟨b1, 0, none⟩)]] 70
theorem GpI.kept {w : World} {b1 b2 : Nat} {btw txt : List UInt8} {first : Bool} {W W' : World} (h : GpI w b1 b2 btw txt first W) (hb : Below W.heap.size W W') : GpI w b1 b2 btw txt first W' :=
  ⟨h.bel.trans (hb.mono h.bel.size), h.lo, Nat.le_trans h.size hb.size, h.bw.below hb h.bw.lt, builder_below h.bu hb, h.fi.below hb h.fi.lt, h.nx.below hb h.nx.lt⟩
/-- One text is written. -/
theorem GpI.put {w : World} {b1 b2 : Nat} {btw txt : List UInt8} {first : Bool} {W W' : World} (s : ByteArray) (h : GpI w b1 b2 btw txt first W) (hk : Lib.OthersKept 5 (some (b2)) W W') (hb : Below w.heap.size W W') (hs : W.heap.size ≤ W'.heap.size)
    (hn : Lib.BuilderAtF 114 5 w.heap.size (b2) (.pointer (some ⟨b2, 0, none⟩)) (Lib.byteCells txt ++ Lib.strCells s) W') : GpI w b1 b2 btw (txt ++ s.data.toList) first W' := by
  refine ⟨h.bel.trans hb, h.lo, Nat.le_trans h.size hs, u8_other hk h.bw (by have := h.lo; omega) (by decide), Or.inr ?_, u8_other hk h.fi (by omega) (by decide), u8_other hk h.nx (by omega) (by decide)⟩
  have e : Lib.byteCells (txt ++ s.data.toList) = Lib.byteCells txt ++ Lib.strCells s := by
    unfold Lib.byteCells
    rw [List.map_append]
    rfl
  rw [e]
  exact hn
theorem others_of {b : Nat} {w w' : World} {cs : Array Value} {T : TypeId} (h : Lib.OthersKept 5 (some b) w w') (hb : Blk w b cs T) (hs : w.heap.size ≤ w'.heap.size) : KeepsOthers w w' := by
  refine ⟨hs, fun k o hk ho => h k o hk (fun e => ?_) fun c fz e => ?_⟩
  · cases e
    have : o = .cells cs T (0, 0) := Option.some.inj (hk.symm.trans hb)
    rw [this] at ho
    cases ho
  · rw [e] at ho
    cases ho
theorem bu_blk {w : World} {B b : Nat} {bs : List Value} (h : Lib.IsBuilderF 114 5 B b bs w) : ∃ cs, Blk w b cs 114 := by
  rcases h with h | h
  · obtain ⟨_, v, hb, _⟩ := h
    exact ⟨_, hb⟩
  · obtain ⟨_, v, hb, _⟩ := h
    exact ⟨_, hb⟩
theorem ws_any (w : World) (b1 b2 : Nat) (btw txt : List UInt8) (first : Bool) (s : ByteArray) (W : World) (h : GpI w b1 b2 btw txt first W) (hl : txt.length + s.size ≤ 1000000000) :
    Calls Tryz.prog 60 #[.pointer (some ⟨b2, 0, none⟩), .string s] W fun e W' => e = .returned (.tuple #[.int .i64 s.size, .nilIface]) ∧ GpI w b1 b2 btw (txt ++ s.data.toList) first W' ∧ KeepsOthers W W' ∧ Below w.heap.size W W' := by
  obtain ⟨cs, hcs⟩ := bu_blk h.bu
  refine (Any.Builder_WriteString_k Tryz.lays166 Tryz.Builder_Extra_166 w.heap.size (b2) (Lib.byteCells txt) s W h.bu (by unfold Lib.byteCells; rw [List.length_map]; omega) h.bel.size).mono ?_
  rintro e W' ⟨he, hB, hb, hk⟩
  exact ⟨he, h.put s hk hb hb.size hB, others_of hk hcs hb.size, hb⟩
set_option maxRecDepth 100000 in
set_option maxHeartbeats 1000000 in
theorem sharp_no (pl mi sp ze : Bool) (wid prec verb : Int) (A : Value) (w : World) : Calls Tryz.prog 170 #[.agg (wrC pl mi false sp ze wid prec verb A)] w fun e w' => e = .returned (.bool false) ∧ Below w.heap.size w w' := by
  by_cases hv : verb = 118
  · subst hv
    go_enter Tryz.func170, Tryz.ntmps170
    go_wp2_with fail
    go_ret
    exact ⟨rfl, (Below.refl _ _).alloc (Nat.le_refl _) _⟩
  · have hb : (verb == 118) = false := by simpa using hv
    go_enter Tryz.func170, Tryz.ntmps170
    go_wp2_with fail
    go_ret
    exact ⟨rfl, (Below.refl _ _).alloc (Nat.le_refl _) _⟩
theorem GpI.fi_set {w : World} {b1 b2 : Nat} {btw txt : List UInt8} {first x : Bool} {W : World} {B3 : Nat} (h : GpI w b1 b2 btw txt first W) (hB : b2 + 1 = B3) : GpI w b1 b2 btw txt x (W.setCell ⟨B3, 0, none⟩ (.bool x)) := by
  subst hB
  have hb : Lib.IsBuilderF 114 5 w.heap.size (b2) (Lib.byteCells txt) (W.setCell ⟨b2 + 1, 0, none⟩ (.bool x)) := by
    have key : ∀ p, Lib.BuilderAtF 114 5 w.heap.size (b2) p (Lib.byteCells txt) W → Lib.BuilderAtF 114 5 w.heap.size (b2) p (Lib.byteCells txt) (W.setCell ⟨b2 + 1, 0, none⟩ (.bool x)) := by
      intro p hp
      obtain ⟨hB, v, hbk, hown, hne⟩ := hp
      refine ⟨hB, v, (Below.heap_setCell W _ _ _ (by show b2 ≠ b2 + 1; omega)).trans hbk, ⟨hown.1, ?_⟩, hne⟩
      rcases hown.2 with h0 | ⟨g, cap, cur, fz, h1, h2, h3, h4⟩
      · exact Or.inl h0
      · refine Or.inr ⟨g, cap, cur, fz, h1, h2, (Below.heap_setCell W _ _ _ fun e => ?_).trans h3, h4⟩
        have hf := h.fi
        unfold Blk at hf
        have e' : g = b2 + 1 := e
        rw [← e', h3] at hf
        injection hf with hf
        injection hf with _ hf
        revert hf
        decide
    rcases h.bu with h | h
    · exact Or.inl (key _ h)
    · exact Or.inr (key _ h)
  exact ⟨h.bel.setCell (p := ⟨b2 + 1, 0, none⟩) (by have := h.lo; show w.heap.size ≤ b2 + 1; omega) _, h.lo, by have := h.size; simpa [World.setCell] using this, h.bw.far (by have := h.lo; show b1 ≠ b2 + 1; omega) _, hb, h.fi.set_ 0 _, h.nx.far (by show b2 + 2 ≠ b2 + 1; omega) _⟩
set_option maxRecDepth 100000 in
set_option maxHeartbeats 1000000 in
theorem next_any (w : World) (b1 b2 : Nat) (btw txt : List UInt8) (first : Bool) (s : ByteArray) (W : World) (h : GpI w b1 b2 btw txt first W) (hl : txt.length + btw.length + s.size ≤ 1000000000) :
    Calls Tryz.prog 171 #[.string s, .pointer (some ⟨b2 + 1, 0, none⟩), .pointer (some ⟨b2, 0, none⟩), .pointer (some ⟨b1, 0, none⟩)] W fun e W' => e = .returned (.tuple #[]) ∧
      GpI w b1 b2 btw (txt ++ ((if first then [] else btw) ++ s.data.toList)) false W' ∧ KeepsOthers W W' ∧ Below w.heap.size W W' := by
  obtain ⟨B3, hB3⟩ : ∃ B3, b2 + 1 = B3 := ⟨_, rfl⟩
  have HB := hid hB3
  have HLO := hid h.lo
  have HI := hid h
  have f3 : W.cell? ⟨B3, 0, none⟩ = some (.bool first) := by rw [← hB3]; exact h.fi.cell 0
  have f1 : W.cell? ⟨b1, 0, none⟩ = some (.string ⟨btw.toArray⟩) := h.bw.cell 0
  have HL := hid hl
  cases first
  · have WS := hid (ws_any w b1 b2 btw txt false ⟨btw.toArray⟩ W h (by rw [Utf.size_eq]; show _ + btw.length ≤ _; omega))
    rw [hB3]
    clear h hl hB3
    go_enter Tryz.func171, Tryz.ntmps171
    go_wp2_with fail
    refine WS.out.mono ?_
    rintro e W1 ⟨rfl, h1, k1, q1⟩
    have H1 := hid (And.intro h1 (And.intro k1 q1))
    have WS2 := hid (ws_any w b1 b2 btw _ false s (W1.setCell ⟨B3, 0, none⟩ (.bool false)) (h1.fi_set HB.out) (by rw [List.length_append]; have := HL.out; show txt.length + btw.length + s.size ≤ _; omega))
    have g3 : W1.cell? ⟨B3, 0, none⟩ = some (.bool false) := by rw [← HB.out]; exact h1.fi.cell 0
    have gf : W1.frozen? ⟨B3, 0, none⟩ = false := by rw [← HB.out]; exact h1.fi.frozen 0
    clear h1 k1 q1 f3 f1 WS
    go_wp2_with fail
    refine WS2.out.mono ?_
    rintro e W2 ⟨rfl, h2, k2, q2⟩
    have F := hid (And.intro h2 (And.intro (H1.out.2.1.trans ((KeepsOthers.setCell _ _ _).trans k2)) (H1.out.2.2.trans (((Below.refl w.heap.size W1).setCell (p := ⟨B3, 0, none⟩) (by have := HB.out; have := HLO.out; show w.heap.size ≤ B3; omega) (.bool false)).trans q2))))
    clear h2 k2 q2
    go_wp2_with fail
    go_end0
    refine ⟨rfl, ?_, F.out.2⟩
    have := F.out.1
    rw [List.append_assoc] at this
    exact this
  · have WS := hid (ws_any w b1 b2 btw txt false s (W.setCell ⟨B3, 0, none⟩ (.bool false)) (h.fi_set hB3) (by omega))
    have g3 : W.frozen? ⟨B3, 0, none⟩ = false := by rw [← hB3]; exact h.fi.frozen 0
    rw [hB3]
    clear h hl hB3
    go_enter Tryz.func171, Tryz.ntmps171
    go_wp2_with fail
    refine WS.out.mono ?_
    rintro e W1 ⟨rfl, h1, k1, q1⟩
    have F := hid (And.intro h1 (And.intro ((KeepsOthers.setCell _ _ _).trans k1) (((Below.refl w.heap.size W).setCell (p := ⟨B3, 0, none⟩) (by have := HB.out; have := HLO.out; show w.heap.size ≤ B3; omega) (.bool false)).trans q1)))
    clear h1 k1 q1
    go_wp2_with fail
    go_end0
    exact ⟨rfl, F.out⟩
end Go.Proofs.YtdjhmanccoekjaaGreatDoor
end

section
namespace Go.Proofs.YtdjhmanccoekjaaGreatDoor
open Go.RowKit Go.Proofs Go.Shelf
attribute [local go_sem] Oper.semAt_some

abbrev seqV (g : FuncId) (lb : Array Value) : Value := .func (.func g) #[] lb
/-- A text that is not too long. -/
abbrev Tx6 := { s : ByteArray // s.size ≤ 1000000 }
/-- An iterator that gives a row of texts, whatever a loop's body does behind n₀. -/
def SeqT (n₀ : Nat) (g : FuncId) (lb : Array Value) (ts : List Tx6) (w : World) : Prop :=
  ∀ n, 1 ≤ n → SeqStopsK Fence.wide n Tryz.prog g lb (fun s : Tx6 => #[.string s.1]) (Below n₀) (fun xs => xs = ts) (fun _ => True) ts.length w
def joinT (ts : List Tx6) : List UInt8 := joinB [32] (ts.map (·.1))
theorem joinT_len (ts : List Tx6) : (joinT ts).length ≤ ts.length * 1000001 := by
  unfold joinT
  cases ts with
  | nil => simp [joinB]
  | cons x r =>
    have hx := x.2
    rw [List.map_cons, joinB, List.length_append, ← Utf.size_eq]
    have : ((r.map (·.1)).flatMap fun y => [32] ++ y.data.toList).length ≤ r.length * 1000001 := by
      induction r with
      | nil => simp
      | cons y q ih =>
        have hy := y.2
        rw [List.map_cons, List.flatMap_cons, List.length_append, List.length_append, ← Utf.size_eq]
        show 1 + y.1.size + _ ≤ (q.length + 1) * 1000001
        rw [Nat.add_mul]
        omega
    rw [List.length_cons, Nat.add_mul]
    omega
theorem joinT_snoc (pre : List Tx6) (x : Tx6) : joinT (pre ++ [x]) = joinT pre ++ ((if decide (pre = []) then [] else [32]) ++ x.1.data.toList) := by
  unfold joinT
  rw [List.map_append]
  show joinB [32] (pre.map _ ++ [x.1]) = _
  rw [joinB_snoc]
  cases pre <;> rfl
theorem GpI.start (w W1 : World) (btw : List UInt8) (hb : Below w.heap.size w W1) (hB : Blk W1 (w.heap.size + 1) #[.string ⟨btw.toArray⟩] 9) :
    GpI w (w.heap.size + 1) W1.heap.size btw [] true (((W1.alloc (.cells #[.pointer none, .slice none 0 0] 114)).alloc (.cells #[.bool true] 4)).alloc (.cells #[.func (.func 171) #[] #[.pointer (some ⟨W1.heap.size + 1, 0, none⟩), .pointer (some ⟨W1.heap.size, 0, none⟩), .pointer (some ⟨w.heap.size + 1, 0, none⟩)]] 70)) := by
  have hlt := hB.lt
  have d1 := Blk.new W1 #[.pointer none, .slice none 0 0] 114
  have d2 := Blk.new (W1.alloc (.cells #[.pointer none, .slice none 0 0] 114)) #[.bool true] 4
  have d3 := Blk.new ((W1.alloc (.cells #[.pointer none, .slice none 0 0] 114)).alloc (.cells #[.bool true] 4)) #[.func (.func 171) #[] #[.pointer (some ⟨W1.heap.size + 1, 0, none⟩), .pointer (some ⟨W1.heap.size, 0, none⟩), .pointer (some ⟨w.heap.size + 1, 0, none⟩)]] 70
  rw [World.size_alloc] at d2
  rw [World.size_alloc, World.size_alloc] at d3
  refine ⟨((hb.alloc hb.size _).alloc (by have := hb.size; simp; omega) _).alloc (by have := hb.size; simp; omega) _, ⟨by omega, hlt⟩, by simp, ((hB.alloc _).alloc _).alloc _, Or.inl ⟨hb.size, .slice none 0 0, (d1.alloc _).alloc _, World.ownsRowF_of (World.ownsRow_nil _ _ _ _), by simp [Value.ownBlock]⟩, d2.alloc _, d3⟩
theorem blk_turn {W W' : World} {row : Option Nat} {k : Nat} {cs : Array Value} {T : TypeId} {f : Nat × Nat} (h : W.heap[k]? = some (.cells cs T f)) (hg : W.grownBy W' row) (hr : ∀ r, row = some r → ∃ o : Obj, W.heap[r]? = some o ∧ o.isCells = false) : W'.heap[k]? = some (.cells cs T f) := by
  have hlt : k < W.heap.size := by
    rcases Nat.lt_or_ge k W.heap.size with q | q
    · exact q
    · rw [Array.getElem?_eq_none q] at h; cases h
  rw [hg.block k hlt fun e => ?_]
  · exact h
  · obtain ⟨o, h1, h2⟩ := hr k e.symm
    rw [h] at h1
    cases h1
    cases h2
/-- It abides what the loop does. -/
theorem GpI.turn {w : World} {b1 b2 : Nat} {btw txt : List UInt8} {first : Bool} {W W' : World} {row : Option Nat} {B : Nat} (h : GpI w b1 b2 btw txt first W) (hg : W.grownBy W' row) (hB : w.heap.size ≤ B) (hr : ∀ r, row = some r → B ≤ r ∧ ∃ o : Obj, W.heap[r]? = some o ∧ o.isCells = false) : GpI w b1 b2 btw txt first W' := by
  have hr2 : ∀ r, row = some r → ∃ o : Obj, W.heap[r]? = some o ∧ o.isCells = false := fun r e => (hr r e).2
  have key : ∀ p, Lib.BuilderAtF 114 5 w.heap.size b2 p (Lib.byteCells txt) W → Lib.BuilderAtF 114 5 w.heap.size b2 p (Lib.byteCells txt) W' := by
    intro p hp
    obtain ⟨hB, v, hbk, hown, hne⟩ := hp
    refine ⟨hB, v, blk_turn hbk hg hr2, ⟨hown.1, ?_⟩, hne⟩
    rcases hown.2 with h0 | ⟨g, cap, cur, fz, h1, h2, h3, h4⟩
    · exact Or.inl h0
    · exact Or.inr ⟨g, cap, cur, fz, h1, h2, blk_turn h3 hg hr2, h4⟩
  exact ⟨h.bel.grown hg h.bel.size (fun k e => Nat.le_trans hB (hr k e).1), h.lo, Nat.le_trans h.size hg.size, blk_turn h.bw hg hr2, h.bu.elim (fun x => .inl (key _ x)) (fun x => .inr (key _ x)), blk_turn h.fi hg hr2, blk_turn h.nx hg hr2⟩
set_option maxRecDepth 100000 in
set_option maxHeartbeats 4000000 in
theorem group_any (pl mi sp ze : Bool) (wid prec verb : Int) (A v : Value) (front back : ByteArray) (g : FuncId) (lb : Array Value) (ts : List Tx6) (w : World)
    (eg : ∀ args w, (callFunc g args).run Tryz.prog w = .ok (.enter g args) w)
    (SQ : ∀ W, Below w.heap.size w W → SeqT w.heap.size g lb ts W) (hN : ts.length ≤ 100) (hf : front.size ≤ 1000000) (hbk : back.size ≤ 1000000) :
    Calls Tryz.prog 146 #[.agg (wrC pl mi false sp ze wid prec verb A), v, .string front, .string back, seqV g lb] w fun e w' =>
      e = .returned (.string ⟨(front.data.toList ++ joinT ts ++ back.data.toList).toArray⟩) ∧ Below w.heap.size w w' := by
  have SN := hid (fun W => sharp_no pl mi sp ze wid prec verb A W)
  have HL := hid (And.intro hN (And.intro hf hbk))
  have SQ := hid SQ
  have lp : Below w.heap.size w ((w.alloc (.cells (wrC pl mi false sp ze wid prec verb A) 142)).alloc (.cells #[.string ⟨#[32]⟩] 9)) := ((Below.refl _ _).alloc (Nat.le_refl _) _).alloc (by simp) _
  have bq : Blk ((w.alloc (.cells (wrC pl mi false sp ze wid prec verb A) 142)).alloc (.cells #[.string ⟨#[32]⟩] 9)) (w.heap.size + 1) #[.string ⟨#[32]⟩] 9 := by
    have := Blk.new (w.alloc (.cells (wrC pl mi false sp ze wid prec verb A) 142)) #[.string ⟨#[32]⟩] 9
    rw [World.size_alloc] at this
    exact this
  have LP := hid (And.intro lp bq)
  clear lp bq hN hf hbk
  refine (callsIn_wide (n := 6)).1 ?_
  refine callsIn_of_wp_marks Tryz.func146 rfl trivial ?_ rfl
  simp only [Tryz.ntmps146, List.size_toArray, List.length_cons, List.length_nil, Nat.reduceAdd, Nat.reduceSub, Array.replicate_succ, Array.replicate_zero, List.push_toArray, List.append_toArray, List.nil_append, List.cons_append]
  gi_wp2_with fail
  refine ⟨trivial, ?_⟩
  refine (callsIn_wide.2 (SN.out _)).mono ?_
  rintro e W1 ⟨rfl, hb⟩
  have H1 := hid (GpI.start w W1 [32] (LP.out.1.trans (hb.mono LP.out.1.size)) (LP.out.2.below hb LP.out.2.lt))
  clear hb
  gi_wp2_with fail
  obtain ⟨b2, hb2⟩ : ∃ b2, W1.heap.size = b2 := ⟨_, rfl⟩
  obtain ⟨b1, hb1⟩ : ∃ b1, w.heap.size + 1 = b1 := ⟨_, rfl⟩
  obtain ⟨W2, hW2⟩ : ∃ W2, (((W1.alloc (.cells #[.pointer none, .slice none 0 0] 114)).alloc (.cells #[.bool true] 4)).alloc (.cells #[.func (.func 171) #[] #[.pointer (some ⟨W1.heap.size + 1, 0, none⟩), .pointer (some ⟨W1.heap.size, 0, none⟩), .pointer (some ⟨w.heap.size + 1, 0, none⟩)]] 70)) = W2 := ⟨_, rfl⟩
  rw [hW2] at H1 ⊢
  rw [hb2, hb1] at H1
  rw [hb2, hb1]
  clear hW2 hb2 hb1 LP
  have WS := hid (ws_any w b1 b2 [32] [] true front W2 H1.out (by have := HL.out.2.1; show 0 + front.size ≤ _; omega))
  refine ⟨trivial, ?_⟩
  refine (callsIn_wide.2 WS.out).mono ?_
  rintro e W3 ⟨rfl, h3, _, _⟩
  have H3 := hid h3
  have SQ3 := hid (SQ.out W3 h3.bel 5 (by decide))
  have hsz3 := h3.bel.size
  have hlo := h3.lo
  clear h3 WS SQ H1
  gi_wp2_with fail
  refine wpIn_rangeFunc_ownG rfl (by decide) (gf := g) (lb := lb) rfl trivial eg SQ3.out belowK_t (belowK_b hsz3) (Below.refl _ _) (fun _ => rfl)
    (fun pre W => GpI w b1 b2 [32] (front.data.toList ++ joinT pre) (decide (pre = [])) W)
    (fun _ _ _ => False)
    (fun pre A B row hs hg hr => hs.turn hg hsz3 hr)
    (fun _ _ _ _ _ hs _ _ => hs)
    (by
      have := H3.out
      rw [List.nil_append] at this
      show GpI w b1 b2 [32] (front.data.toList ++ []) true W3
      rw [List.append_nil]
      exact this)
    (fun x => { tmps := #[.agg (wrC pl mi false sp ze wid prec verb A), v, .string front, .string back, seqV g lb, .pointer (some ⟨w.heap.size, 0, none⟩), undef, undef, undef, undef, .string ⟨#[]⟩, .pointer (some ⟨b1, 0, none⟩), .pointer (some ⟨b2, 0, none⟩), .pointer (some ⟨b2 + 1, 0, none⟩), .pointer (some ⟨b2 + 1 + 1, 0, none⟩), .string x.1, .agg #[.bool pl, .bool mi, .bool false, .bool sp, .bool ze, .int .i64 wid, .int .i64 prec, .int .i32 verb, A], .bool false, undef, undef, undef, .func (.func 171) #[] #[.pointer (some ⟨b2 + 1, 0, none⟩), .pointer (some ⟨b2, 0, none⟩), .pointer (some ⟨b1, 0, none⟩)], .string front, .tuple #[.int .i64 front.size, .nilIface], seqV g lb, .string x.1, undef, undef, undef, undef, undef, undef], defers := [] }) ?assign ?body ?done ?stop
  case assign =>
    intro l x W K hK
    gi_wp2
    exact hK
  case body =>
    rintro l pre x W hI hlen
    have hj := joinT_len pre
    have hx := x.2
    have NX := hid (next_any w b1 b2 [32] (front.data.toList ++ joinT pre) (decide (pre = [])) x.1 W hI (by rw [List.length_append, ← Utf.size_eq]; have := HL.out; simp only [List.length_singleton]; have h2 : pre.length * 1000001 ≤ 100 * 1000001 := Nat.mul_le_mul_right _ (by omega); omega))
    have cn : W.cell? ⟨b2 + 1 + 1, 0, none⟩ = some (.func (.func 171) #[] #[.pointer (some ⟨b2 + 1, 0, none⟩), .pointer (some ⟨b2, 0, none⟩), .pointer (some ⟨b1, 0, none⟩)]) := hI.nx.cell 0
    clear hI hj
    gi_wp2_with fail
    refine ⟨trivial, ?_⟩
    refine (CallsIn.inRound l (callsIn_wide.2 NX.out)).mono ?_
    rintro e W' ⟨rfl, h', k', b'⟩
    have N := hid (show GpI w b1 b2 [32] (front.data.toList ++ joinT (pre ++ [x])) (decide (pre ++ [x] = [])) W' by
      rw [joinT_snoc, ← List.append_assoc, decide_eq_false (List.append_ne_nil_of_right_ne_nil pre (List.cons_ne_nil x []))]
      exact h')
    clear h'
    gi_wp2_with fail
    exact ⟨k'.from _, b', N.out⟩
  case done =>
    rintro D xs W hD rfl hI hK
    have hj := joinT_len xs
    have WB := hid (ws_any w b1 b2 [32] (front.data.toList ++ joinT xs) (decide (xs = [])) back W hI (by rw [List.length_append, ← Utf.size_eq]; have := HL.out; have h2 : xs.length * 1000001 ≤ 100 * 1000001 := Nat.mul_le_mul_right _ (by omega); omega))
    clear hj hI
    gi_wp2_with fail
    refine ⟨trivial, ?_⟩
    refine (callsIn_wide.2 WB.out).mono ?_
    rintro e W4 ⟨rfl, h4, k4, _⟩
    have BS := hid (Tryz.Builder_String_any_k w.heap.size b2 _ W4 h4.bu h4.bel.size)
    have hK4 := k4.same D _ hK rfl
    obtain ⟨bcs, hbc⟩ := bu_blk h4.bu
    have HC := hid hbc
    have HB4 := hid h4.bel
    clear h4 k4 WB hbc
    gi_wp2_with fail
    refine ⟨trivial, ?_⟩
    refine (callsIn_wide.2 BS.out).mono ?_
    rintro e W5 ⟨rfl, _, b5, o5⟩
    have hK5 := (others_of o5 HC.out b5.size).same D _ hK4 rfl
    have HB5 := hid (HB4.out.trans b5)
    clear b5 o5 BS
    gi_wp2_with fail
    refine ⟨by simp, .inl ⟨_, _, rfl, run_takeDeferred hK5, ?_⟩⟩
    exact ⟨_, results_tmp rfl _ _ _, (by rw [List.append_assoc]; rfl), HB5.out.trans (belowK_b (w := W3) hsz3 W5 D _ _ hD hK5 rfl rfl)⟩
  case stop =>
    rintro D c pre W _ _ h _
    exact h.elim
end Go.Proofs.YtdjhmanccoekjaaGreatDoor
end

section
namespace Go.Proofs.YtdjhmanccoekjaaGreatDoor
open Go.RowKit Go.Proofs Go.Shelf
attribute [local go_sem] Oper.semAt_some

theorem grown_of {W W' : World} (h : Below W.heap.size W W') : W.grownBy W' none := ⟨h.os, h.tape, h.output, h.size, fun k hk _ => h.block k hk⟩
theorem abide {β : Type} {B : Nat} {J : β → World → Prop} (hJ : AbidesFrom B J) {s : β} {A C : World} (h : J s A) (hb : Below A.heap.size A C) : J s C := hJ s A C none h (grown_of hb) fun r e => by cases e
/-- A value is shown so, whatever lies behind. -/
def Shows (wn : World) (pl mi sh sp ze : Bool) (wid prec verb : Int) (A : Value) (dp : Int) (u : Value) (t : ByteArray) : Prop :=
  ∀ W, Below wn.heap.size wn W → Calls Tryz.prog 78 #[.agg (wrC pl mi sh sp ze wid prec verb A), u, .int .i64 dp] W fun e w' => e = .returned (.string t) ∧ Below W.heap.size W w'
theorem take_snoc {α : Type} {l : List α} {i : Nat} {x : α} (h : l[i]? = some x) : l.take (i + 1) = l.take i ++ [x] := by rw [List.take_add_one, h]; rfl
set_option maxRecDepth 100000 in
set_option maxHeartbeats 4000000 in
theorem entries_seq (pl mi sh sp ze : Bool) (wid prec verb : Int) (A : Value) (dp : Int) (k : Int) (ty : ByteArray) (hk : Int) (eA : Option Addr) (ec : Nat) (us : List Value) (ts : List Tx6) (bx bw bd : Nat) (wn w : World) (hdp : 0 ≤ dp) (hdp1 : dp ≤ 1000)
    (hx : Blk wn bx #[.int .i64 k, .string ty, .int .i64 hk, .slice eA ts.length ec] 198) (hw : Blk wn bw (wrC pl mi sh sp ze wid prec verb A) 142) (hd : Blk wn bd #[.int .i64 dp] 3) (hN : ts.length ≤ 100)
    (hE : ts ≠ [] → ∃ g, eA = some ⟨g, 0, none⟩ ∧ g < wn.heap.size ∧ ∀ (j : Nat) v, us[j]? = some v → wn.cell? ⟨g, j, none⟩ = some v)
    (TS : ∀ (i : Nat) t, ts[i]? = some t → ∃ u1 u2 a b, us[i * 2]? = some u1 ∧ us[i * 2 + 1]? = some u2 ∧ (∃ T y, u1 = .iface T y) ∧ (∃ T y, u2 = .iface T y) ∧ t.1 = (a ++ (⟨#[58]⟩ : ByteArray)) ++ b ∧ a.size ≤ 1000000 ∧ b.size ≤ 1000000 ∧ Shows wn pl mi sh sp ze wid prec verb A (dp + 1) u1 a ∧ Shows wn pl mi sh sp ze wid prec verb A (dp + 1) u2 b)
    (hb : Below wn.heap.size wn w) :
    SeqT wn.heap.size 174 #[.pointer (some ⟨bx, 0, none⟩), .pointer (some ⟨bw, 0, none⟩), .pointer (some ⟨bd, 0, none⟩)] ts w := by
  intro n hn l J Jx W hW hJ hJx hY h0
  have hbW := hb.trans (hW.mono hb.size)
  have c3 : W.cell? ⟨bx, 3, none⟩ = some (.slice eA ts.length ec) := (hx.below hbW hx.lt).cell 3
  obtain ⟨N, hNN⟩ : ∃ N, ts.length = N := ⟨_, rfl⟩
  have HN := hid hNN
  rw [hNN] at c3 hN hY
  have HX := hid hx
  have HW := hid hw
  have HD := hid hd
  have HE := hid hE
  have TS := hid TS
  have HBW := hid hbW
  have H0 := hid h0
  have HJ := hid hJ
  have HY := hid hY
  clear hx hw hd hE hbW h0 hNN hJ hY hJx hW hb
  refine callsIn_of_wp Tryz.func174 rfl trivial ?_ rfl
  simp only [Tryz.ntmps174, List.size_toArray, List.length_cons, List.length_nil, Nat.reduceAdd, Nat.reduceSub, Array.replicate_succ, Array.replicate_zero, List.push_toArray, List.append_toArray, List.nil_append, List.cons_append]
  gi_wp2_with fail
  gi_loopw [11] (fun iv wr => ∃ i : Nat, iv = .int .i64 i ∧ i ≤ N ∧ Hid (J (ts.take i) wr) ∧ Hid (Below wn.heap.size wn wr)) (fun iv _ => N - (intOf iv).toNat)
  case atStart => exact ⟨0, rfl, Nat.zero_le _, H0.out, HBW.out⟩
  case round =>
    obtain ⟨i, rfl, hi, hJi, hBi⟩ := hrel
    by_cases hlt : i < N
    · obtain ⟨t, ht⟩ : ∃ t, ts[i]? = some t := ⟨_, List.getElem?_eq_getElem (by rw [HN.out]; exact hlt)⟩
      obtain ⟨u1, u2, a, b, hu1, hu2, ⟨T1, y1, rfl⟩, ⟨T2, y2, rfl⟩, htx, haz, hbz, S1, S2⟩ := TS.out i t ht
      have hne : ts ≠ [] := by intro e; rw [e] at ht; simp at ht
      obtain ⟨g, rfl, hg, hgc⟩ := HE.out hne
      have d1 : wr.cell? ⟨g, i * 2, none⟩ = some (.iface T1 y1) := (hBi.out.cell (p := ⟨g, i * 2, none⟩) hg).trans (hgc _ _ hu1)
      have d2 : wr.cell? ⟨g, i * 2 + 1, none⟩ = some (.iface T2 y2) := (hBi.out.cell (p := ⟨g, i * 2 + 1, none⟩) hg).trans (hgc _ _ hu2)
      have hwb := HW.out.below hBi.out HW.out.lt
      have hdb := HD.out.below hBi.out HD.out.lt
      have S1 := hid S1
      have S2 := hid S2
      have HT := hid (And.intro ht htx)
      have HSZ := hid (And.intro haz hbz)
      have q0 : (wr.alloc (.cells #[.iface T1 y1, .iface T2 y2] 252)).cell? ⟨bw, 0, none⟩ = some (.bool pl) := (hwb.alloc _).cell 0
      have q1 : (wr.alloc (.cells #[.iface T1 y1, .iface T2 y2] 252)).cell? ⟨bw, 1, none⟩ = some (.bool mi) := (hwb.alloc _).cell 1
      have q2 : (wr.alloc (.cells #[.iface T1 y1, .iface T2 y2] 252)).cell? ⟨bw, 2, none⟩ = some (.bool sh) := (hwb.alloc _).cell 2
      have q3 : (wr.alloc (.cells #[.iface T1 y1, .iface T2 y2] 252)).cell? ⟨bw, 3, none⟩ = some (.bool sp) := (hwb.alloc _).cell 3
      have q4 : (wr.alloc (.cells #[.iface T1 y1, .iface T2 y2] 252)).cell? ⟨bw, 4, none⟩ = some (.bool ze) := (hwb.alloc _).cell 4
      have q5 : (wr.alloc (.cells #[.iface T1 y1, .iface T2 y2] 252)).cell? ⟨bw, 5, none⟩ = some (.int .i64 wid) := (hwb.alloc _).cell 5
      have q6 : (wr.alloc (.cells #[.iface T1 y1, .iface T2 y2] 252)).cell? ⟨bw, 6, none⟩ = some (.int .i64 prec) := (hwb.alloc _).cell 6
      have q7 : (wr.alloc (.cells #[.iface T1 y1, .iface T2 y2] 252)).cell? ⟨bw, 7, none⟩ = some (.int .i32 verb) := (hwb.alloc _).cell 7
      have q8 : (wr.alloc (.cells #[.iface T1 y1, .iface T2 y2] 252)).cell? ⟨bw, 8, none⟩ = some (A) := (hwb.alloc _).cell 8
      have qd : (wr.alloc (.cells #[.iface T1 y1, .iface T2 y2] 252)).cell? ⟨bd, 0, none⟩ = some (.int .i64 dp) := (hdb.alloc _).cell 0
      have ne1 : bw ≠ wr.heap.size := by have := hwb.lt; omega
      have ne2 : bd ≠ wr.heap.size := by have := hdb.lt; omega
      have hwd : wrap64 (dp + 1) = dp + 1 := by unfold wrap64; omega
      clear hu1 hu2 htx ht hne hgc hwb hdb haz hbz
      gi_wp2_with fail
      have lA : Below wr.heap.size wr (wr.alloc (.cells #[.iface T1 y1, .iface T2 y2] 252)) := (Below.refl _ _).alloc (Nat.le_refl _) _
      have bE := Blk.new wr #[.iface T1 y1, .iface T2 y2] 252
      obtain ⟨W1, hW1⟩ : ∃ W1, wr.alloc (.cells #[.iface T1 y1, .iface T2 y2] 252) = W1 := ⟨_, rfl⟩
      obtain ⟨G, hG⟩ : ∃ G, wr.heap.size = G := ⟨_, rfl⟩
      rw [hW1] at lA bE ⊢
      rw [hG] at bE ⊢
      have LA := hid lA
      have BE := hid bE
      have HG := hid hG
      clear hW1 hG lA bE ne1 ne2 d1 d2 q0 q1 q2 q3 q4 q5 q6 q7 q8 qd
      refine ⟨trivial, ?_⟩
      refine (callsIn_wide.2 (S1.out W1 (hBi.out.trans (LA.out.mono hBi.out.size)))).mono ?_
      rintro e W2 ⟨rfl, hb2⟩
      have B2 := hid (show Below wr.heap.size wr W2 from LA.out.trans (hb2.mono LA.out.size))
      have hbE := BE.out.below hb2 BE.out.lt
      have BN := hid (hBi.out.trans (B2.out.mono hBi.out.size))
      have hwb := HW.out.below BN.out HW.out.lt
      have hdb := HD.out.below BN.out HD.out.lt
      have q0 : W2.cell? ⟨bw, 0, none⟩ = some (.bool pl) := hwb.cell 0
      have q1 : W2.cell? ⟨bw, 1, none⟩ = some (.bool mi) := hwb.cell 1
      have q2 : W2.cell? ⟨bw, 2, none⟩ = some (.bool sh) := hwb.cell 2
      have q3 : W2.cell? ⟨bw, 3, none⟩ = some (.bool sp) := hwb.cell 3
      have q4 : W2.cell? ⟨bw, 4, none⟩ = some (.bool ze) := hwb.cell 4
      have q5 : W2.cell? ⟨bw, 5, none⟩ = some (.int .i64 wid) := hwb.cell 5
      have q6 : W2.cell? ⟨bw, 6, none⟩ = some (.int .i64 prec) := hwb.cell 6
      have q7 : W2.cell? ⟨bw, 7, none⟩ = some (.int .i32 verb) := hwb.cell 7
      have q8 : W2.cell? ⟨bw, 8, none⟩ = some (A) := hwb.cell 8
      have qd : W2.cell? ⟨bd, 0, none⟩ = some (.int .i64 dp) := hdb.cell 0
      have e1 : W2.cell? ⟨G, 1, none⟩ = some (.iface T2 y2) := hbE.cell 1
      have has : ¬ 9223372036854775807 < a.size + 1 := by have := HSZ.out.1; omega
      have hab : ¬ 9223372036854775807 < a.size + 1 + b.size := by have := HSZ.out; omega
      clear hb2 hbE hwb hdb
      gi_wp2_with fail
      refine ⟨trivial, ?_⟩
      refine (callsIn_wide.2 (S2.out W2 BN.out)).mono ?_
      rintro e W3 ⟨rfl, hb3⟩
      have B3 := hid (B2.out.trans (hb3.mono B2.out.size))
      have hj3 : J (ts.take i) W3 := abide HJ.out hJi.out B3.out
      obtain ⟨fn, tmps, assign, body, hy, hR⟩ := HY.out (ts.take i) t W3 hj3 (by rw [List.length_take, HN.out]; omega)
      have htk := HT.out.2
      obtain ⟨tv, htv⟩ := t
      simp only at htk
      subst htk
      have BN3 := hid (BN.out.trans (hb3.mono BN.out.size))
      clear hb3 q0 q1 q2 q3 q4 q5 q6 q7 q8 qd e1
      gi_wp2_with fail
      refine hR.mono ?_
      rintro e W4 (⟨rfl, hJ4, hk4⟩ | ⟨rfl, hJx4⟩)
      · have N4 := hid (And.intro hJ4 (BN3.out.trans hk4))
        clear hy hR hJ4 hk4 hj3
        gi_wp2_with fail
        go_roundw
        case rel => exact ⟨i + 1, by go_num, by omega, by rw [take_snoc HT.out.1]; exact N4.out.1, N4.out.2⟩
        case measure => simp [intOf]; omega
      · have N4 := hid hJx4
        clear hy hR hJx4 hj3
        gi_wp2_with fail
        refine bodyPost_ret (results_none rfl _ _ _) rfl ?_
        exact ⟨⟨_, rfl⟩, .inr ⟨_, trivial, N4.out⟩⟩
    · obtain rfl : i = N := by omega
      gi_wp2_with fail
      go_end0
      refine ⟨⟨_, rfl⟩, .inl ⟨ts, rfl, ?_⟩⟩
      have := hJi.out
      rw [List.take_of_length_le (by rw [HN.out]; exact Nat.le_refl _)] at this
      exact this
end Go.Proofs.YtdjhmanccoekjaaGreatDoor
end
