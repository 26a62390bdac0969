/-
  Texts of this claim, joined: TI, TJ, UA.
-/
import Derived.Defers
import Derived.Recover
import Derived.FnLit
import Derived.Test.YtdjhmanccoekjaaGreatDoorN8
import Derived.Test.YtdjhmanccoekjaaGreatDoorN4

section
namespace Go.Proofs.YtdjhmanccoekjaaGreatDoor
open Go.RowKit Go.Proofs

set_option maxRecDepth 100000 in
set_option maxHeartbeats 4000000 in
theorem ask_no (b : Nat) (s : St) (vs va v : Value) (k hk : Int) (ty : ByteArray) (okb : Bool) (A : Option Addr) (N cap : Nat) (pl mi sh sp ze : Bool) (wid prec verb : Int) (w : World) (hs : StAt w b s vs va) (ht : s.tab = .slice A N cap) (hN : N ≤ 40)
    (hb : BaseIs v (base3 k ty hk) okb) (hn0 : -9223372036854775808 ≤ hk) (hn1 : hk ≤ 9223372036854775807) (h : ¬ (1 ≤ hk ∧ hk ≤ N ∧ hk ≤ 16)) :
    Calls Tryz.prog 52 #[.pointer (some ⟨b, 0, none⟩), v, .agg (sp8 pl mi sh sp ze wid prec verb)] w fun e w' => e = .returned (.tuple #[.string ⟨#[]⟩, .bool false]) ∧ Below w.heap.size w w' := by
  have HO := hid (fun W => hook_any v k ty hk okb W hb)
  have GE := hid (fun W => get_no A N cap hk W hN hn0 hn1 h)
  have CT := hid (fun W (hW : Below w.heap.size w W) => show W.cell? ⟨b, 3, none⟩ = some (.slice A N cap) by have := (hs.below hW).blk.cell 3; rw [ht] at this; exact this)
  have l0 := ((Below.refl w.heap.size w).alloc (Nat.le_refl _) (.cells (sp8 pl mi sh sp ze wid prec verb) 94))
  clear hs ht hb h
  go_enter Tryz.func52, Tryz.ntmps52
  go_upto_region 1 with fail
  obtain ⟨W0, hW0⟩ : ∃ W0, w.alloc (.cells (sp8 pl mi sh sp ze wid prec verb) 94) = W0 := ⟨_, rfl⟩
  obtain ⟨B, hB⟩ : ∃ B, w.heap.size = B := ⟨_, rfl⟩
  rw [hW0] at l0 ⊢
  have HBB := hid hB
  rw [show (World.heap w).size = B from hB]
  clear hB hW0
  refine wp_region_held_drew (S := fun w1 => Below w.heap.size w w1) (by kernel_rfl) l0.drew (fun h0 => ?_)
  generalize World.drew W0 = W1 at h0 ⊢
  refine wpAnyH_take (i := 0) (fuel := 12) (v := .pointer (some ⟨b, 0, none⟩)) rfl (by kernel_rfl) (by kernel_rfl) (by kernel_rfl) (fun _ _ _ h => h) (Or.inl ⟨by rfl, by intro w1 hw1; go_simp⟩) h0 ?_
  try simp only [Act.put, List.getElem_toArray, List.getElem_cons_zero, List.setIfInBounds_toArray, List.set_cons_zero, List.set_cons_succ]
  refine wpAnyH_take (i := 1) (fuel := 11) (v := .pointer (some ⟨b, 0, none⟩)) rfl (by kernel_rfl) (by kernel_rfl) (by kernel_rfl) (fun _ _ _ h => h) (Or.inl ⟨by rfl, by intro w1 hw1; go_simp⟩) h0 ?_
  try simp only [Act.put, List.getElem_toArray, List.getElem_cons_zero, List.getElem_cons_succ, List.setIfInBounds_toArray, List.set_cons_zero, List.set_cons_succ]
  refine wpAnyH_take (i := 2) (fuel := 10) (v := .pointer (some ⟨b, 3, none⟩)) rfl (by kernel_rfl) (by kernel_rfl) (by kernel_rfl) (fun _ _ _ h => h) (Or.inl ⟨by rfl, by intro w1 hw1; go_simp⟩) h0 ?_
  try simp only [Act.put, List.getElem_toArray, List.getElem_cons_zero, List.getElem_cons_succ, List.setIfInBounds_toArray, List.set_cons_zero, List.set_cons_succ]
  refine wpAnyH_take (i := 3) (fuel := 9) (v := .slice A N cap) rfl (by kernel_rfl) (by kernel_rfl) (by kernel_rfl) (fun _ _ _ h => h) (Or.inl ⟨by rfl, by intro w1 hw1; have hq := CT.out w1 hw1; go_simp⟩) h0 ?_
  try simp only [Act.put, List.getElem_toArray, List.getElem_cons_zero, List.getElem_cons_succ, List.setIfInBounds_toArray, List.set_cons_zero, List.set_cons_succ]
  refine wpAnyH_take (i := 4) (fuel := 8) (v := v) rfl (by kernel_rfl) (by kernel_rfl) (by kernel_rfl) (fun _ _ _ h => h) (Or.inl ⟨by rfl, by intro w1 hw1; go_simp⟩) h0 ?_
  try simp only [Act.put, List.getElem_toArray, List.getElem_cons_zero, List.getElem_cons_succ, List.setIfInBounds_toArray, List.set_cons_zero, List.set_cons_succ]
  refine wpAnyH_ready (fuel := 7) (rs := [5, 10]) (by kernel_rfl) (by simp) ?_
  refine AllReadyH.cons rfl (fun K hK => ?_) (AllReadyH.cons rfl (fun K hK => ?_) AllReadyH.nil)
  · rw [if_pos (by rfl)]
    go_wp2_with fail
    refine (HO.out _).mono ?_
    rintro e W5 ⟨rfl, hb⟩
    have nW5 : Below w.heap.size w W5 := h0.trans (hb.mono h0.size)
    clear hb
    refine hK.out _ _ nW5 (fun _ => ?_)
    clear hK
    try simp only [Act.put, List.getElem_toArray, List.getElem_cons_zero, List.getElem_cons_succ, List.setIfInBounds_toArray, List.set_cons_zero, List.set_cons_succ]
    refine wpAnyH_ready (fuel := 6) (rs := [6, 10]) (by kernel_rfl) (by simp) ?_
    refine AllReadyH.cons rfl (fun K hK => ?_) (AllReadyH.cons rfl (fun K hK => ?_) AllReadyH.nil)
    · rw [if_pos (by rfl)]
      go_wp2_with fail
      refine (GE.out _).mono ?_
      rintro e W6 ⟨rfl, hb⟩
      have nW6 : Below w.heap.size w W6 := nW5.trans (hb.mono nW5.size)
      clear hb
      refine hK.out _ _ nW6 (fun _ => ?_)
      clear hK
      try simp only [Act.put, List.getElem_toArray, List.getElem_cons_zero, List.getElem_cons_succ, List.setIfInBounds_toArray, List.set_cons_zero, List.set_cons_succ]
      refine wpAnyH_take (i := 7) (fuel := 5) (v := .tuple #[.agg (hkV hkZ0), .bool false]) rfl (by kernel_rfl) (by kernel_rfl) (by kernel_rfl) (fun _ _ _ h => h) (Or.inl ⟨by rfl, by intro w1 hw1; go_simp⟩) nW6 ?_
      try simp only [Act.put, List.getElem_toArray, List.getElem_cons_zero, List.getElem_cons_succ, List.setIfInBounds_toArray, List.set_cons_zero, List.set_cons_succ]
      refine wpAnyH_take (i := 8) (fuel := 4) (v := .agg (hkV hkZ0)) rfl (by kernel_rfl) (by kernel_rfl) (by kernel_rfl) (fun _ _ _ h => h) (Or.inl ⟨by rfl, by intro w1 hw1; go_simp⟩) nW6 ?_
      try simp only [Act.put, List.getElem_toArray, List.getElem_cons_zero, List.getElem_cons_succ, List.setIfInBounds_toArray, List.set_cons_zero, List.set_cons_succ]
      refine wpAnyH_take (i := 9) (fuel := 3) (v := .bool false) rfl (by kernel_rfl) (by kernel_rfl) (by kernel_rfl) (fun _ _ _ h => h) (Or.inl ⟨by rfl, by intro w1 hw1; go_simp⟩) nW6 ?_
      try simp only [Act.put, List.getElem_toArray, List.getElem_cons_zero, List.getElem_cons_succ, List.setIfInBounds_toArray, List.set_cons_zero, List.set_cons_succ]
      refine wpAnyH_ready (fuel := 2) (rs := [10]) (by kernel_rfl) (by simp) ?_
      refine AllReadyH.cons rfl (fun K hK => ?_) AllReadyH.nil
      · rw [if_pos (by rfl)]
        go_wp2_with fail
        have a0 := Blk.new W6 hk0 34
        have n0 : Below w.heap.size w (World.alloc W6 (.cells hk0 34)) := nW6.alloc nW6.size _
        have g0 : w.heap.size ≤ W6.heap.size := nW6.size
        obtain ⟨WA, hWA⟩ : ∃ WA, World.alloc W6 (.cells hk0 34) = WA := ⟨_, rfl⟩
        obtain ⟨H, hHH⟩ : ∃ H : Nat, (World.heap W6).size = H := ⟨_, rfl⟩
        rw [hWA] at a0 n0 ⊢
        rw [hHH] at a0 g0 ⊢
        have HR := hid a0
        have HG := hid g0
        clear a0 g0 hWA hHH
        refine hK.out _ _ n0 (fun _ => ?_)
        clear hK
        try simp only [Act.put, List.getElem_toArray, List.getElem_cons_zero, List.getElem_cons_succ, List.setIfInBounds_toArray, List.set_cons_zero, List.set_cons_succ]
        refine wpAnyH_ready (fuel := 1) (rs := [11]) (by kernel_rfl) (by simp) ?_
        refine AllReadyH.cons rfl (fun K hK => ?_) AllReadyH.nil
        · rw [if_pos (by rfl)]
          refine wp_store_mid 34 (.tmp 8) (.tmp 20) rfl H 0 (hkV hkZ0) rfl rfl (Blk.there HR.out 0 48 (by decide)) hook_size (hkV_one _) ?_
          have ns : Below w.heap.size w (World.setCells WA H 0 (hkV hkZ0).toList) := below_setCells n0 H HG.out _ _
          generalize World.setCells WA H 0 (hkV hkZ0).toList = WS at ns ⊢
          refine hK.out _ _ ns (fun _ => ?_)
          clear hK
          try simp only [Act.put, List.getElem_toArray, List.getElem_cons_zero, List.getElem_cons_succ]
          refine wpAnyH_take (i := 12) (fuel := 0) (v := .bool false) rfl (by kernel_rfl) (by kernel_rfl) (by kernel_rfl) (fun _ _ _ h => h) (Or.inl ⟨by rfl, by intro w1 hw1; go_simp⟩) ns ?_
          try simp only [Act.put, List.getElem_toArray, List.getElem_cons_zero, List.getElem_cons_succ, List.setIfInBounds_toArray, List.set_cons_zero, List.set_cons_succ]
          refine wpAnyH_done (by kernel_rfl) ?_ _
          have LP := hid ns
          clear ns
          go_wp2_with fail
          go_ret2
          exact ⟨rfl, LP.out⟩
    · rw [if_pos (by rfl)]
      go_wp2_with fail
      have a0 := Blk.new W5 hk0 34
      have n0 : Below w.heap.size w (World.alloc W5 (.cells hk0 34)) := nW5.alloc nW5.size _
      have g0 : w.heap.size ≤ W5.heap.size := nW5.size
      obtain ⟨WA, hWA⟩ : ∃ WA, World.alloc W5 (.cells hk0 34) = WA := ⟨_, rfl⟩
      obtain ⟨H, hHH⟩ : ∃ H : Nat, (World.heap W5).size = H := ⟨_, rfl⟩
      rw [hWA] at a0 n0 ⊢
      rw [hHH] at a0 g0 ⊢
      have HR := hid a0
      have HG := hid g0
      clear a0 g0 hWA hHH
      refine hK.out _ _ n0 (fun _ => ?_)
      clear hK
      try simp only [Act.put, List.getElem_toArray, List.getElem_cons_zero, List.getElem_cons_succ, List.setIfInBounds_toArray, List.set_cons_zero, List.set_cons_succ]
      refine wpAnyH_ready (fuel := 5) (rs := [6]) (by kernel_rfl) (by simp) ?_
      refine AllReadyH.cons rfl (fun K hK => ?_) AllReadyH.nil
      · rw [if_pos (by rfl)]
        go_wp2_with fail
        refine (GE.out _).mono ?_
        rintro e W7 ⟨rfl, hb⟩
        have nW7 : Below w.heap.size w W7 := n0.trans (hb.mono n0.size)
        have HR := hid (HR.out.below hb HR.out.lt)
        clear hb
        refine hK.out _ _ nW7 (fun _ => ?_)
        clear hK
        try simp only [Act.put, List.getElem_toArray, List.getElem_cons_zero, List.getElem_cons_succ, List.setIfInBounds_toArray, List.set_cons_zero, List.set_cons_succ]
        refine wpAnyH_take (i := 7) (fuel := 4) (v := .tuple #[.agg (hkV hkZ0), .bool false]) rfl (by kernel_rfl) (by kernel_rfl) (by kernel_rfl) (fun _ _ _ h => h) (Or.inl ⟨by rfl, by intro w1 hw1; go_simp⟩) nW7 ?_
        try simp only [Act.put, List.getElem_toArray, List.getElem_cons_zero, List.getElem_cons_succ, List.setIfInBounds_toArray, List.set_cons_zero, List.set_cons_succ]
        refine wpAnyH_take (i := 8) (fuel := 3) (v := .agg (hkV hkZ0)) rfl (by kernel_rfl) (by kernel_rfl) (by kernel_rfl) (fun _ _ _ h => h) (Or.inl ⟨by rfl, by intro w1 hw1; go_simp⟩) nW7 ?_
        try simp only [Act.put, List.getElem_toArray, List.getElem_cons_zero, List.getElem_cons_succ, List.setIfInBounds_toArray, List.set_cons_zero, List.set_cons_succ]
        refine wpAnyH_take (i := 9) (fuel := 2) (v := .bool false) rfl (by kernel_rfl) (by kernel_rfl) (by kernel_rfl) (fun _ _ _ h => h) (Or.inl ⟨by rfl, by intro w1 hw1; go_simp⟩) nW7 ?_
        try simp only [Act.put, List.getElem_toArray, List.getElem_cons_zero, List.getElem_cons_succ, List.setIfInBounds_toArray, List.set_cons_zero, List.set_cons_succ]
        refine wpAnyH_ready (fuel := 1) (rs := [11]) (by kernel_rfl) (by simp) ?_
        refine AllReadyH.cons rfl (fun K hK => ?_) AllReadyH.nil
        · rw [if_pos (by rfl)]
          refine wp_store_mid 34 (.tmp 8) (.tmp 20) rfl H 0 (hkV hkZ0) rfl rfl (Blk.there HR.out 0 48 (by decide)) hook_size (hkV_one _) ?_
          have ns : Below w.heap.size w (World.setCells W7 H 0 (hkV hkZ0).toList) := below_setCells nW7 H HG.out _ _
          generalize World.setCells W7 H 0 (hkV hkZ0).toList = WS at ns ⊢
          refine hK.out _ _ ns (fun _ => ?_)
          clear hK
          try simp only [Act.put, List.getElem_toArray, List.getElem_cons_zero, List.getElem_cons_succ]
          refine wpAnyH_take (i := 12) (fuel := 0) (v := .bool false) rfl (by kernel_rfl) (by kernel_rfl) (by kernel_rfl) (fun _ _ _ h => h) (Or.inl ⟨by rfl, by intro w1 hw1; go_simp⟩) ns ?_
          try simp only [Act.put, List.getElem_toArray, List.getElem_cons_zero, List.getElem_cons_succ, List.setIfInBounds_toArray, List.set_cons_zero, List.set_cons_succ]
          refine wpAnyH_done (by kernel_rfl) ?_ _
          have LP := hid ns
          clear ns
          go_wp2_with fail
          go_ret2
          exact ⟨rfl, LP.out⟩
  · rw [if_pos (by rfl)]
    go_wp2_with fail
    have a0 := Blk.new W1 hk0 34
    have n0 : Below w.heap.size w (World.alloc W1 (.cells hk0 34)) := h0.alloc h0.size _
    have g0 : w.heap.size ≤ W1.heap.size := h0.size
    obtain ⟨WA, hWA⟩ : ∃ WA, World.alloc W1 (.cells hk0 34) = WA := ⟨_, rfl⟩
    obtain ⟨H, hHH⟩ : ∃ H : Nat, (World.heap W1).size = H := ⟨_, rfl⟩
    rw [hWA] at a0 n0 ⊢
    rw [hHH] at a0 g0 ⊢
    have HR := hid a0
    have HG := hid g0
    clear a0 g0 hWA hHH
    refine hK.out _ _ n0 (fun _ => ?_)
    clear hK
    try simp only [Act.put, List.getElem_toArray, List.getElem_cons_zero, List.getElem_cons_succ, List.setIfInBounds_toArray, List.set_cons_zero, List.set_cons_succ]
    refine wpAnyH_ready (fuel := 6) (rs := [5]) (by kernel_rfl) (by simp) ?_
    refine AllReadyH.cons rfl (fun K hK => ?_) AllReadyH.nil
    · rw [if_pos (by rfl)]
      go_wp2_with fail
      refine (HO.out _).mono ?_
      rintro e W5 ⟨rfl, hb⟩
      have nW5 : Below w.heap.size w W5 := n0.trans (hb.mono n0.size)
      have HR := hid (HR.out.below hb HR.out.lt)
      clear hb
      refine hK.out _ _ nW5 (fun _ => ?_)
      clear hK
      try simp only [Act.put, List.getElem_toArray, List.getElem_cons_zero, List.getElem_cons_succ, List.setIfInBounds_toArray, List.set_cons_zero, List.set_cons_succ]
      refine wpAnyH_ready (fuel := 5) (rs := [6]) (by kernel_rfl) (by simp) ?_
      refine AllReadyH.cons rfl (fun K hK => ?_) AllReadyH.nil
      · rw [if_pos (by rfl)]
        go_wp2_with fail
        refine (GE.out _).mono ?_
        rintro e W6 ⟨rfl, hb⟩
        have nW6 : Below w.heap.size w W6 := nW5.trans (hb.mono nW5.size)
        have HR := hid (HR.out.below hb HR.out.lt)
        clear hb
        refine hK.out _ _ nW6 (fun _ => ?_)
        clear hK
        try simp only [Act.put, List.getElem_toArray, List.getElem_cons_zero, List.getElem_cons_succ, List.setIfInBounds_toArray, List.set_cons_zero, List.set_cons_succ]
        refine wpAnyH_take (i := 7) (fuel := 4) (v := .tuple #[.agg (hkV hkZ0), .bool false]) rfl (by kernel_rfl) (by kernel_rfl) (by kernel_rfl) (fun _ _ _ h => h) (Or.inl ⟨by rfl, by intro w1 hw1; go_simp⟩) nW6 ?_
        try simp only [Act.put, List.getElem_toArray, List.getElem_cons_zero, List.getElem_cons_succ, List.setIfInBounds_toArray, List.set_cons_zero, List.set_cons_succ]
        refine wpAnyH_take (i := 8) (fuel := 3) (v := .agg (hkV hkZ0)) rfl (by kernel_rfl) (by kernel_rfl) (by kernel_rfl) (fun _ _ _ h => h) (Or.inl ⟨by rfl, by intro w1 hw1; go_simp⟩) nW6 ?_
        try simp only [Act.put, List.getElem_toArray, List.getElem_cons_zero, List.getElem_cons_succ, List.setIfInBounds_toArray, List.set_cons_zero, List.set_cons_succ]
        refine wpAnyH_take (i := 9) (fuel := 2) (v := .bool false) rfl (by kernel_rfl) (by kernel_rfl) (by kernel_rfl) (fun _ _ _ h => h) (Or.inl ⟨by rfl, by intro w1 hw1; go_simp⟩) nW6 ?_
        try simp only [Act.put, List.getElem_toArray, List.getElem_cons_zero, List.getElem_cons_succ, List.setIfInBounds_toArray, List.set_cons_zero, List.set_cons_succ]
        refine wpAnyH_ready (fuel := 1) (rs := [11]) (by kernel_rfl) (by simp) ?_
        refine AllReadyH.cons rfl (fun K hK => ?_) AllReadyH.nil
        · rw [if_pos (by rfl)]
          refine wp_store_mid 34 (.tmp 8) (.tmp 20) rfl H 0 (hkV hkZ0) rfl rfl (Blk.there HR.out 0 48 (by decide)) hook_size (hkV_one _) ?_
          have ns : Below w.heap.size w (World.setCells W6 H 0 (hkV hkZ0).toList) := below_setCells nW6 H HG.out _ _
          generalize World.setCells W6 H 0 (hkV hkZ0).toList = WS at ns ⊢
          refine hK.out _ _ ns (fun _ => ?_)
          clear hK
          try simp only [Act.put, List.getElem_toArray, List.getElem_cons_zero, List.getElem_cons_succ]
          refine wpAnyH_take (i := 12) (fuel := 0) (v := .bool false) rfl (by kernel_rfl) (by kernel_rfl) (by kernel_rfl) (fun _ _ _ h => h) (Or.inl ⟨by rfl, by intro w1 hw1; go_simp⟩) ns ?_
          try simp only [Act.put, List.getElem_toArray, List.getElem_cons_zero, List.getElem_cons_succ, List.setIfInBounds_toArray, List.set_cons_zero, List.set_cons_succ]
          refine wpAnyH_done (by kernel_rfl) ?_ _
          have LP := hid ns
          clear ns
          go_wp2_with fail
          go_ret2
          exact ⟨rfl, LP.out⟩
end Go.Proofs.YtdjhmanccoekjaaGreatDoor
end

section
namespace Go.Proofs.YtdjhmanccoekjaaGreatDoor
open Go.RowKit Go.Proofs

abbrev askF (b : Nat) : Value := .func (.func 52) #[.pointer (some ⟨b, 0, none⟩)] #[]
/-- A value of some type, which is not nil. -/
structure NotNil (T : TypeId) (x : Value) : Prop where
  eq : ∀ w : World, (binOp BinOp.eql 103 (.iface T x) .nilIface).run Tryz.prog w = .ok (.bool false) w
  ta : ∀ w : World, (Instr.typeAssert (.iface T x) 103 217 true).run Tryz.prog w = .ok (.tuple #[.agg #[], .bool false]) w
theorem NotNil.is {T : TypeId} {x : Value} (h : NotNil T x) (w : World) : Calls Tryz.prog 112 #[.iface T x] w fun e w' => e = .returned (.bool false) ∧ w = w' := isnil_no T x w h.eq h.ta
set_option maxRecDepth 100000 in
set_option maxHeartbeats 4000000 in
theorem value_plain (T : TypeId) (x : Value) (pl mi sh sp ze : Bool) (wid prec verb dp : Int) (w : World) (t tb : ByteArray) (ok : Bool) (hn : NotNil T x)
    (KI : ∀ W, Below w.heap.size w W → Calls Tryz.prog 113 #[.agg (wrC pl mi sh sp ze wid prec verb (.nilFunc)), .iface T x, .int .i64 dp] W fun e w' => e = .returned (.tuple #[.string t, .bool ok]) ∧ Below W.heap.size W w')
    (BA : ok = false → ∀ W, Below w.heap.size w W → Calls Tryz.prog 114 #[.iface T x, .int .i32 verb] W fun e w' => e = .returned (.string tb) ∧ Below W.heap.size W w') :
    Calls Tryz.prog 78 #[.agg (wrC pl mi sh sp ze wid prec verb (.nilFunc)), .iface T x, .int .i64 dp] w fun e w' => e = .returned (.string (if ok then t else tb)) ∧ Below w.heap.size w w' := by
  have IS := hid (fun W => hn.is W)
  have KI := hid KI
  have BA := hid BA
  have hq : ∀ W : World, (binOp BinOp.neq 107 .nilFunc .nilFunc).run Tryz.prog W = .ok (.bool false) W := fun _ => by kernel_rfl
  have hA := Blk.new w (wrC pl mi sh sp ze wid prec verb (.nilFunc)) 142
  have lp := (Below.refl w.heap.size w).alloc (Nat.le_refl _) (.cells (wrC pl mi sh sp ze wid prec verb (.nilFunc)) 142)
  clear hn
  go_enter Tryz.func78, Tryz.ntmps78
  go_wp2_with fail
  obtain ⟨W0, hW0⟩ : ∃ W0, w.alloc (.cells (wrC pl mi sh sp ze wid prec verb (.nilFunc)) 142) = W0 := ⟨_, rfl⟩
  obtain ⟨B, hB⟩ : ∃ B, w.heap.size = B := ⟨_, rfl⟩
  rw [hW0] at hA lp ⊢
  rw [hB] at hA ⊢
  have HBB := hid hB
  have HA := hid hA
  have LP := hid lp
  clear hA lp hW0 hB
  refine (IS.out _).mono ?_
  rintro e W1 ⟨rfl, hw⟩
  subst hw
  have c0 := HA.out.cell 0
  have c1 := HA.out.cell 1
  have c2 := HA.out.cell 2
  have c3 := HA.out.cell 3
  have c4 := HA.out.cell 4
  have c5 := HA.out.cell 5
  have c6 := HA.out.cell 6
  have c7 := HA.out.cell 7
  have c8 := HA.out.cell 8

  go_wp2_with fail
  refine (KI.out _ LP.out).mono ?_
  rintro e W2 ⟨rfl, hb⟩
  have HA := hid (HA.out.below hb HA.out.lt)
  have LP := hid (LP.out.trans (hb.mono LP.out.size))
  clear hb
  clear c0 c1 c2 c3 c4 c5 c6 c7 c8
  have c0 := HA.out.cell 0
  have c1 := HA.out.cell 1
  have c2 := HA.out.cell 2
  have c3 := HA.out.cell 3
  have c4 := HA.out.cell 4
  have c5 := HA.out.cell 5
  have c6 := HA.out.cell 6
  have c7 := HA.out.cell 7
  have c8 := HA.out.cell 8
  cases ok
  · go_wp2_with fail
    refine (BA.out trivial _ LP.out).mono ?_
    rintro e W3 ⟨rfl, hb⟩
    have LP := hid (LP.out.trans (hb.mono LP.out.size))
    clear hb
    go_wp2_with fail
    go_ret
    exact ⟨rfl, LP.out⟩
  · go_wp2_with fail
    go_ret
    exact ⟨rfl, LP.out⟩
set_option maxRecDepth 100000 in
set_option maxHeartbeats 4000000 in
theorem value_asked (b : Nat) (s : ByteArray) (aok : Bool) (T : TypeId) (x : Value) (pl mi sh sp ze : Bool) (wid prec verb dp : Int) (w : World) (t tb : ByteArray) (ok : Bool) (hn : NotNil T x)
    (AS : ∀ W, Below w.heap.size w W → Calls Tryz.prog 52 #[.pointer (some ⟨b, 0, none⟩), .iface T x, .agg (sp8 pl mi sh sp ze wid prec verb)] W fun e w' => e = .returned (.tuple #[.string s, .bool aok]) ∧ Below W.heap.size W w') (ha : aok = false)
    (KI : ∀ W, Below w.heap.size w W → Calls Tryz.prog 113 #[.agg (wrC pl mi sh sp ze wid prec verb (askF b)), .iface T x, .int .i64 dp] W fun e w' => e = .returned (.tuple #[.string t, .bool ok]) ∧ Below W.heap.size W w')
    (BA : ok = false → ∀ W, Below w.heap.size w W → Calls Tryz.prog 114 #[.iface T x, .int .i32 verb] W fun e w' => e = .returned (.string tb) ∧ Below W.heap.size W w') :
    Calls Tryz.prog 78 #[.agg (wrC pl mi sh sp ze wid prec verb (askF b)), .iface T x, .int .i64 dp] w fun e w' => e = .returned (.string (if ok then t else tb)) ∧ Below w.heap.size w w' := by
  have IS := hid (fun W => hn.is W)
  have KI := hid KI
  have BA := hid BA
  have hq : ∀ W : World, (binOp BinOp.neq 107 (askF b) .nilFunc).run Tryz.prog W = .ok (.bool true) W := fun _ => by kernel_rfl
  subst ha
  have AS := hid AS
  have hA := Blk.new w (wrC pl mi sh sp ze wid prec verb (askF b)) 142
  have lp := (Below.refl w.heap.size w).alloc (Nat.le_refl _) (.cells (wrC pl mi sh sp ze wid prec verb (askF b)) 142)
  clear hn
  go_enter Tryz.func78, Tryz.ntmps78
  go_wp2_with fail
  obtain ⟨W0, hW0⟩ : ∃ W0, w.alloc (.cells (wrC pl mi sh sp ze wid prec verb (askF b)) 142) = W0 := ⟨_, rfl⟩
  obtain ⟨B, hB⟩ : ∃ B, w.heap.size = B := ⟨_, rfl⟩
  rw [hW0] at hA lp ⊢
  rw [hB] at hA ⊢
  have HBB := hid hB
  have HA := hid hA
  have LP := hid lp
  clear hA lp hW0 hB
  refine (IS.out _).mono ?_
  rintro e W1 ⟨rfl, hw⟩
  subst hw
  have c0 := HA.out.cell 0
  have c1 := HA.out.cell 1
  have c2 := HA.out.cell 2
  have c3 := HA.out.cell 3
  have c4 := HA.out.cell 4
  have c5 := HA.out.cell 5
  have c6 := HA.out.cell 6
  have c7 := HA.out.cell 7
  have c8 := HA.out.cell 8

  go_wp2_with fail
  refine (AS.out _ LP.out).mono ?_
  rintro e W1 ⟨rfl, hb⟩
  have HA := hid (HA.out.below hb HA.out.lt)
  have LP := hid (LP.out.trans (hb.mono LP.out.size))
  clear hb
  clear c0 c1 c2 c3 c4 c5 c6 c7 c8
  have c0 := HA.out.cell 0
  have c1 := HA.out.cell 1
  have c2 := HA.out.cell 2
  have c3 := HA.out.cell 3
  have c4 := HA.out.cell 4
  have c5 := HA.out.cell 5
  have c6 := HA.out.cell 6
  have c7 := HA.out.cell 7
  have c8 := HA.out.cell 8
  go_wp2_with fail
  refine (KI.out _ LP.out).mono ?_
  rintro e W2 ⟨rfl, hb⟩
  have HA := hid (HA.out.below hb HA.out.lt)
  have LP := hid (LP.out.trans (hb.mono LP.out.size))
  clear hb
  clear c0 c1 c2 c3 c4 c5 c6 c7 c8
  have c0 := HA.out.cell 0
  have c1 := HA.out.cell 1
  have c2 := HA.out.cell 2
  have c3 := HA.out.cell 3
  have c4 := HA.out.cell 4
  have c5 := HA.out.cell 5
  have c6 := HA.out.cell 6
  have c7 := HA.out.cell 7
  have c8 := HA.out.cell 8
  cases ok
  · go_wp2_with fail
    refine (BA.out trivial _ LP.out).mono ?_
    rintro e W3 ⟨rfl, hb⟩
    have LP := hid (LP.out.trans (hb.mono LP.out.size))
    clear hb
    go_wp2_with fail
    go_ret
    exact ⟨rfl, LP.out⟩
  · go_wp2_with fail
    go_ret
    exact ⟨rfl, LP.out⟩
set_option maxRecDepth 100000 in
set_option maxHeartbeats 4000000 in
theorem show_plain (v : Value) (pl mi sh sp ze : Bool) (wid prec verb : Int) (w : World) (t : ByteArray) (hv : verb ≠ 84)
    (VA : ∀ W, Below w.heap.size w W → Calls Tryz.prog 78 #[.agg (wrC pl mi sh sp ze wid prec verb (.nilFunc)), v, .int .i64 0] W fun e w' => e = .returned (.string t) ∧ Below W.heap.size W w') :
    Calls Tryz.prog 50 #[v, .agg (sp8 pl mi sh sp ze wid prec verb), .nilFunc] w fun e w' => e = .returned (.string t) ∧ Below w.heap.size w w' := by
  have lp := (Below.refl w.heap.size w).alloc (Nat.le_refl _) (.cells (sp8 pl mi sh sp ze wid prec verb) 94)
  have VA := hid (VA _ lp)
  have LP := hid lp
  have hb : (verb == 84) = false := by simpa using hv
  clear lp hv
  go_enter Tryz.func50, Tryz.ntmps50
  go_wp2_with fail
  refine VA.out.mono ?_
  rintro e w1 ⟨rfl, hb1⟩
  have LP := hid (LP.out.trans (hb1.mono LP.out.size))
  clear hb1
  go_wp2_with fail
  go_ret
  exact ⟨rfl, LP.out⟩
set_option maxRecDepth 100000 in
set_option maxHeartbeats 4000000 in
theorem show_asked (b : Nat) (v : Value) (pl mi sh sp ze : Bool) (wid prec verb : Int) (w : World) (t : ByteArray) (hv : verb ≠ 84)
    (VA : ∀ W, Below w.heap.size w W → Calls Tryz.prog 78 #[.agg (wrC pl mi sh sp ze wid prec verb (askF b)), v, .int .i64 0] W fun e w' => e = .returned (.string t) ∧ Below W.heap.size W w') :
    Calls Tryz.prog 50 #[v, .agg (sp8 pl mi sh sp ze wid prec verb), askF b] w fun e w' => e = .returned (.string t) ∧ Below w.heap.size w w' := by
  have lp := (Below.refl w.heap.size w).alloc (Nat.le_refl _) (.cells (sp8 pl mi sh sp ze wid prec verb) 94)
  have VA := hid (VA _ lp)
  have LP := hid lp
  have hb : (verb == 84) = false := by simpa using hv
  clear lp hv
  go_enter Tryz.func50, Tryz.ntmps50
  go_wp2_with fail
  refine VA.out.mono ?_
  rintro e w1 ⟨rfl, hb1⟩
  have LP := hid (LP.out.trans (hb1.mono LP.out.size))
  clear hb1
  go_wp2_with fail
  go_ret
  exact ⟨rfl, LP.out⟩
/-- What bad.Verb says. -/
def badV (verb : Int) (t s : ByteArray) : ByteArray := insS (Utf8.encode verb) ((t ++ (⟨#[61]⟩ : ByteArray)) ++ s)
set_option maxRecDepth 100000 in
set_option maxHeartbeats 4000000 in
theorem bad_any (T : TypeId) (x : Value) (verb : Int) (w : World) (t s : ByteArray) (hn : NotNil T x) (ht : t.size ≤ 10000) (hs : s.size ≤ 10000)
    (TY : ∀ W, Calls Tryz.prog 49 #[.iface T x] W fun e w' => e = .returned (.string t) ∧ Below W.heap.size W w')
    (SH : ∀ W, Below w.heap.size w W → Calls Tryz.prog 50 #[.iface T x, .agg (sp8 false false false false false (-1) (-1) 118), .nilFunc] W fun e w' => e = .returned (.string s) ∧ Below W.heap.size W w') :
    Calls Tryz.prog 114 #[.iface T x, .int .i32 verb] w fun e w' => e = .returned (.string (badV verb t s)) ∧ Below w.heap.size w w' := by
  have IS := hid (fun W => hn.is W)
  have VE := hid (fun W => verb_any verb t s W ht hs)
  obtain ⟨r, hr⟩ : ∃ r, badV verb t s = r := ⟨_, rfl⟩
  unfold badV at hr
  rw [hr] at VE
  rw [show badV verb t s = r from hr]
  have TY := hid TY
  have SH := hid SH
  clear hn hr ht hs
  go_enter Tryz.func114, Tryz.ntmps114
  go_wp2_with fail
  refine (IS.out _).mono ?_
  rintro e W1 ⟨rfl, hw⟩
  subst hw
  go_wp2_with fail

  refine (TY.out _).mono ?_
  rintro e W1 ⟨rfl, hb⟩
  have LP := hid hb
  clear hb
  go_wp2_with fail
  refine (SH.out _ LP.out).mono ?_
  rintro e W2 ⟨rfl, hb⟩
  have LP := hid (LP.out.trans (hb.mono LP.out.size))
  clear hb
  go_wp2_with fail
  refine (VE.out _).mono ?_
  rintro e W3 ⟨rfl, hb⟩
  have LP := hid (LP.out.trans (hb.mono LP.out.size))
  clear hb
  go_wp2_with fail
  go_ret
  exact ⟨rfl, LP.out⟩
end Go.Proofs.YtdjhmanccoekjaaGreatDoor
end

section
namespace Go.Proofs.YtdjhmanccoekjaaGreatDoor
open Go.RowKit Go.Proofs

/-- Block X is as it is told. -/
def AskO (W : World) (X : Nat) (o : Option Obj) : Prop := X < W.heap.size ∧ W.heap[X]? = o
theorem AskO.lt {W : World} {X : Nat} {o : Option Obj} (h : AskO W X o) : X < W.heap.size := h.1
theorem AskO.below {W W' : World} {X : Nat} {o : Option Obj} (h : AskO W X o) {B : Nat} (hb : Below B W W') (hX : X < B) (hB : W.heap.size ≤ W'.heap.size) : AskO W' X o :=
  ⟨Nat.lt_of_lt_of_le h.1 hB, (hb.block X hX).trans h.2⟩
theorem AskO.far {W : World} {X : Nat} {o : Option Obj} (h : AskO W X o) {p : Addr} (hp : X ≠ p.block) (u : Value) : AskO (W.setCell p u) X o :=
  ⟨by simpa [World.setCell] using h.1, (Below.heap_setCell W p u X hp).trans h.2⟩
theorem AskO.all {W W' : World} {X : Nat} (h : AskO W' X W.heap[X]?) (ho : Only X W W') : Below W.heap.size W W' :=
  ⟨ho.os, ho.tape, ho.output, ho.size, fun k hk => by
    by_cases e : k = X
    · subst e; exact h.2
    · exact ho.block k hk e⟩
abbrev u_prF (X : Nat) : Value := .func (Fn.func 82) #[.pointer (some ⟨X, 0, none⟩)] #[]
abbrev u_shF (X : Nat) : Value := .func (Fn.func 83) #[.pointer (some ⟨X, 0, none⟩)] #[]
abbrev u_mtV (a : Ac) (X : Nat) : Array Value := #[.int .i64 a.k, .string a.t, .string a.f, slV a.ar, .int .i64 a.p.k, .string a.p.ty, .int .u64 a.p.b, .int .u64 a.p.im, .string a.p.t, slV a.p.nm, slV a.p.pa, .int .i64 a.p.hk, u_prF X]
theorem u_mtV_one (a : Ac) (X : Nat) : (u_mtV a X).all (·.oneCell') = true := by simp [u_mtV, Value.oneCell']
set_option maxRecDepth 100000 in
set_option maxHeartbeats 1000000 in
theorem u_run_tells (a : Ac) (X : Nat) (W : World) (h2 : (a.k == 2) = false) (h3 : (a.k == 3) = false) : Calls Tryz.prog 154 #[.agg (u_mtV a X)] W fun e w' => e = .returned (.string a.t) ∧ Below W.heap.size W w' := by
  have HB := Blk.new W (u_mtV a X) 240
  have c0 : (W.alloc (.cells (u_mtV a X) 240)).cell? ⟨W.heap.size, 0, none⟩ = some (.int .i64 a.k) := HB.cell 0
  have c1 : (W.alloc (.cells (u_mtV a X) 240)).cell? ⟨W.heap.size, 1, none⟩ = some (.string a.t) := HB.cell 1
  obtain ⟨cs, hcs⟩ : ∃ cs, u_mtV a X = cs := ⟨_, rfl⟩
  rw [hcs] at c0 c1 ⊢
  clear HB hcs
  go_enter Tryz.func154, Tryz.ntmps154
  go_wp2_with fail
  go_ret
  exact ⟨rfl, (Below.refl _ _).alloc (Nat.le_refl _) _⟩
abbrev u_rnF (a : Ac) (X : Nat) : Value := .func (Fn.func 154) #[.agg (u_mtV a X)] #[]
set_option maxRecDepth 100000 in
set_option maxHeartbeats 1000000 in
theorem u_caught_ret (a : Ac) (X : Nat) (o : Option Obj) (t : ByteArray) (W : World) (hX : X < W.heap.size)
    (RUN : ∀ W', Below W.heap.size W W' → Calls Tryz.prog 154 #[.agg (u_mtV a X)] W' fun e w' => e = .returned (.string t) ∧ AskO w' X o ∧ Only X W' w') :
    Calls Tryz.prog 153 #[u_rnF a X] W fun e w' => e = .returned (.tuple #[.string t, .pointer none]) ∧ AskO w' X o ∧ Only X W w' := by
  have hmf : ∀ (fn : Fn) (first cap : Array Value) (w : World), (Instr.makeFunc fn first cap).run Tryz.prog w = .ok (.func fn first cap) w := fun _ _ _ _ => rfl
  have B0 := hid ((Below.refl W.heap.size W).alloc (Nat.le_refl _) (.cells #[.pointer none] 241))
  have Y0 := hid (Blk.new W #[.pointer none] 241)
  have R0 := hid (RUN _ B0.out)
  obtain ⟨Y, hY⟩ : ∃ Y, W.heap.size = Y := ⟨_, rfl⟩
  rw [hY] at hX
  obtain ⟨W0, hW0⟩ : ∃ W0, W.alloc (.cells #[.pointer none] 241) = W0 := ⟨_, rfl⟩
  rw [hW0] at B0 R0
  rw [hW0, hY] at Y0
  have HY := hid hY
  clear RUN
  go_enter_defers Tryz.func153, Tryz.ntmps153
  go_wp2_with fail
  refine R0.out.mono ?_
  rintro e w1 ⟨rfl, hx, ho⟩
  have hYX : Y ≠ X := by omega
  have y1 : Blk w1 Y #[.pointer none] 241 := Y0.out.same (ho.block Y Y0.out.lt hYX)
  have yc : w1.cell? ⟨Y, 0, none⟩ = some (.pointer none) := y1.cell 0
  have yf : w1.frozen? ⟨Y, 0, none⟩ = false := y1.frozen 0
  have y2 := y1.set_ 0 (.pointer none)
  have N := hid (show AskO (w1.setCell ⟨Y, 0, none⟩ (.pointer none)) X o ∧ Only X W (w1.setCell ⟨Y, 0, none⟩ (.pointer none)) from
    ⟨hx.far (by show X ≠ Y; omega) _, ((Only.of_below B0.out : Only X W W0).trans ho).far_new (by show W.heap.size ≤ Y; have := HY.out; omega) _⟩)
  have yr : (w1.setCell ⟨Y, 0, none⟩ (.pointer none)).cell? ⟨Y, 0, none⟩ = some (.pointer none) := y2.cell 0
  clear hx ho y1 y2
  go_wp2_with fail
  refine leaves_cons (f := 176) (args := #[.pointer (some ⟨Y, 0, none⟩)]) (by simp) (by simp [go_sem]) ?_
  refine (catch_idle ⟨Y, 0, none⟩ _).mono ?_
  rintro e u' w'' ⟨rfl, rfl, rfl⟩
  simp [Leaves, settle, results, Tryz.results153, go_sem, yr]
  exact N.out
abbrev u_doArgs (a : Ac) (nil : Bool) (v : Int) (name : ByteArray) (X : Nat) : Array Value := #[.agg (acV a), .bool nil, .int .i32 v, .string name, u_prF X, u_shF X]

set_option maxRecDepth 100000 in
set_option maxHeartbeats 1000000 in
theorem do_lacks (a : Ac) (nil : Bool) (v : Int) (name : ByteArray) (X : Nat) (W : World) (hth : thereB a.k = false) : Calls Tryz.prog 116 (u_doArgs a nil v name X) W fun e w' => e = .returned (.tuple #[.string ⟨#[]⟩, .bool false]) ∧ Below W.heap.size W w' := by
  have B0 := (Below.refl W.heap.size W).alloc (Nat.le_refl _) (.cells (acV a) 31)
  have A0 := Blk.new W (acV a) 31
  obtain ⟨B, hB⟩ : ∃ B, W.heap.size = B := ⟨_, rfl⟩
  have HBB := hid hB
  have TH := hid (fun W => there_any a W)
  go_enter Tryz.func116, Tryz.ntmps116
  go_upto_region 1 with fail
  obtain ⟨W0, hW0⟩ : ∃ W0, W.alloc (.cells (acV a) 31) = W0 := ⟨_, rfl⟩
  rw [hW0] at B0 A0 ⊢
  rw [hB] at A0
  have BL := hid B0
  have AL := hid A0
  clear B0 A0 hW0 hB
  refine wp_region_list ?_
  refine wpList_load_mid rfl 31 (.tmp 6) rfl B 0 rfl (acV a).toList _ (fun j v hv => by rw [Nat.zero_add, AL.out.cell]; simpa using hv) Tryz.underlying31 rfl act_size ?_
  refine wpList_plain rfl fun K hK => ?_
  have HK := hid hK
  clear hK
  go_wp2_with fail
  refine (TH.out _).mono ?_
  rintro e W1 ⟨rfl, hb⟩
  have BL := hid (BL.out.trans (hb.mono BL.out.size))
  have AL := hid (AL.out.below hb AL.out.lt)
  rw [hth]
  clear hb
  refine HK.out _ _ ?_
  clear HK
  refine wpList_plain rfl fun K hK => ?_
  have HK := hid hK
  clear hK
  go_wp2_with fail
  refine HK.out _ _ ?_
  clear HK
  refine wpList_nil ?_
  go_wp2_with fail
  go_ret2
  exact ⟨rfl, BL.out⟩
set_option maxRecDepth 100000 in
set_option maxHeartbeats 1000000 in
theorem u_do_ret (a : Ac) (nil : Bool) (v : Int) (name : ByteArray) (X : Nat) (o : Option Obj) (t : ByteArray) (W : World) (hth : thereB a.k = true)
    (CA : ∀ W', Below W.heap.size W W' → Calls Tryz.prog 153 #[u_rnF a X] W' fun e w' => e = .returned (.tuple #[.string t, .pointer none]) ∧ AskO w' X o ∧ Only X W' w') :
    Calls Tryz.prog 116 (u_doArgs a nil v name X) W fun e w' => e = .returned (.tuple #[.string t, .bool true]) ∧ AskO w' X o ∧ Only X W w' := by
  have hmf : ∀ (fn : Fn) (first cap : Array Value) (w : World), (Instr.makeFunc fn first cap).run Tryz.prog w = .ok (.func fn first cap) w := fun _ _ _ _ => rfl
  have HCA := hid CA
  clear CA
  have B0 := (Below.refl W.heap.size W).alloc (Nat.le_refl _) (.cells (acV a) 31)
  have A0 := Blk.new W (acV a) 31
  obtain ⟨B, hB⟩ : ∃ B, W.heap.size = B := ⟨_, rfl⟩
  have HBB := hid hB
  have TH := hid (fun W => there_any a W)
  go_enter Tryz.func116, Tryz.ntmps116
  go_upto_region 1 with fail
  obtain ⟨W0, hW0⟩ : ∃ W0, W.alloc (.cells (acV a) 31) = W0 := ⟨_, rfl⟩
  rw [hW0] at B0 A0 ⊢
  rw [hB] at A0
  have BL := hid B0
  have AL := hid A0
  clear B0 A0 hW0 hB
  refine wp_region_list ?_
  refine wpList_load_mid rfl 31 (.tmp 6) rfl B 0 rfl (acV a).toList _ (fun j v hv => by rw [Nat.zero_add, AL.out.cell]; simpa using hv) Tryz.underlying31 rfl act_size ?_
  refine wpList_plain rfl fun K hK => ?_
  have HK := hid hK
  clear hK
  go_wp2_with fail
  refine (TH.out _).mono ?_
  rintro e W1 ⟨rfl, hb⟩
  have BL := hid (BL.out.trans (hb.mono BL.out.size))
  have AL := hid (AL.out.below hb AL.out.lt)
  rw [hth]
  clear hb
  refine HK.out _ _ ?_
  clear HK
  refine wpList_plain rfl fun K hK => ?_
  have HK := hid hK
  clear hK
  go_wp2_with fail
  refine HK.out _ _ ?_
  clear HK
  refine wpList_nil ?_
  go_upto_region 3 with fail
  refine wp_region_list ?_
  refine wpList_load_mid rfl 31 (.tmp 6) rfl B 0 rfl (acV a).toList _ (fun j v hv => by rw [Nat.zero_add, AL.out.cell]; simpa using hv) Tryz.underlying31 rfl act_size ?_
  refine wpList_plain rfl fun K hK => ?_
  have HK := hid hK
  clear hK
  go_wp2_with fail
  refine HK.out _ _ ?_
  clear HK
  refine wpList_buildTo rfl 240 _ rfl (some 22) rfl (u_mtV a X) (by kernel_rfl) ?_
  refine wpList_plain rfl fun K hK => ?_
  have HK := hid hK
  clear hK
  go_wp2_with fail
  refine HK.out _ _ ?_
  clear HK
  have hG := Blk.new W1 mt0 240
  refine wpList_store_rowTo rfl 240 _ _ rfl rfl W1.heap.size (u_mtV a X) rfl rfl 240 mt0 hG meth_size rfl (u_mtV_one _ _) ?_
  have hG2 := hG.setRow (u_mtV a X)
  have b3 : Below W1.heap.size W1 ((W1.alloc (.cells mt0 240)).setRow W1.heap.size (u_mtV a X)) := below_setRow ((Below.refl _ _).alloc (Nat.le_refl _) _) W1.heap.size (Nat.le_refl _) (u_mtV a X)
  obtain ⟨W2, hW2⟩ : ∃ W2, (W1.alloc (.cells mt0 240)).setRow W1.heap.size (u_mtV a X) = W2 := ⟨_, rfl⟩
  rw [hW2] at hG2 b3 ⊢
  obtain ⟨G, hGG⟩ : ∃ G, W1.heap.size = G := ⟨_, rfl⟩
  rw [hGG] at hG2 ⊢
  have ML := hid hG2
  have BL := hid (BL.out.trans (b3.mono BL.out.size))
  clear hG hG2 hW2 hGG b3
  refine wpList_nil ?_
  go_upto_region 4 with fail
  refine wp_region_list ?_
  refine wpList_load_mid rfl 240 (.tmp 14) rfl G 0 rfl (u_mtV a X).toList _ (fun j v hv => by rw [Nat.zero_add, ML.out.cell]; simpa using hv) Tryz.underlying240 rfl meth_size ?_
  refine wpList_plain rfl fun K hK => ?_
  have HK := hid hK
  clear hK
  go_wp2_with fail
  refine HK.out _ _ ?_
  clear HK
  refine wpList_plain rfl fun K hK => ?_
  have HK := hid hK
  clear hK
  go_wp2_with fail
  refine (HCA.out _ BL.out).mono ?_
  rintro e W3 ⟨rfl, hx, ho⟩
  have N := hid (And.intro hx ((Only.of_below BL.out : Only X W W2).trans ho))
  clear hx ho
  refine HK.out _ _ ?_
  clear HK
  refine wpList_plain rfl fun K hK => ?_
  have HK := hid hK
  clear hK
  go_wp2_with fail
  refine HK.out _ _ ?_
  clear HK
  go_wp2_with fail
  go_ret2
  exact ⟨rfl, N.out⟩

theorem u_do_tells (a : Ac) (nil : Bool) (v : Int) (name : ByteArray) (X : Nat) (o : Option Obj) (W : World) (h1 : a.k = 1) (hX : AskO W X o) :
    Calls Tryz.prog 116 (u_doArgs a nil v name X) W fun e w' => e = .returned (.tuple #[.string a.t, .bool true]) ∧ AskO w' X o ∧ Only X W w' :=
  u_do_ret a nil v name X o a.t W (by rw [h1]; rfl) fun W1 b1 => u_caught_ret a X o a.t W1 (Nat.lt_of_lt_of_le hX.lt b1.size) fun W2 b2 =>
    (u_run_tells a X W2 (by rw [h1]; rfl) (by rw [h1]; rfl)).mono fun _ _ ⟨he, hb⟩ =>
      have x1 : AskO W1 X o := hX.below b1 hX.lt b1.size
      have x2 : AskO W2 X o := x1.below b2 x1.lt b2.size
      ⟨he, x2.below hb x2.lt hb.size, Only.of_below hb⟩
end Go.Proofs.YtdjhmanccoekjaaGreatDoor
end
