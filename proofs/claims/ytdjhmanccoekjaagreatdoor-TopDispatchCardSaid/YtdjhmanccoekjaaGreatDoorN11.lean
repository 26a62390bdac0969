/-
  Texts of this claim, joined: UC, UD, UE, UF.
-/
import Derived.Great.BuildSlice
import Derived.Test.YtdjhmanccoekjaaGreatDoorN9
import Derived.Test.YtdjhmanccoekjaaGreatDoorN10

section
namespace Go.Proofs.YtdjhmanccoekjaaGreatDoor
open Go.RowKit Go.Proofs

theorem hk_all {W : World} {B : Nat} {c : Array Value} {T : TypeId} (hb : Blk W B c T) (hc : c.size = 48) (h : Hk) : Blk (W.setCells B 0 (hkV h).toList) B (hkV h) T := by
  have e := setMany_mid (hkV h).toList [] c.toList [] (by rw [Array.length_toList, Array.length_toList, hc]; rfl)
  have := hb.setCells (hkV h).toList 0 W c
  simp only [List.nil_append, List.append_nil, List.length_nil, Array.toArray_toList] at e
  rw [e] at this
  exact this
set_option maxRecDepth 100000 in
set_option maxHeartbeats 4000000 in
theorem ask_yes (b : Nat) (s : St) (vs va v : Value) (k : Int) (i : Nat) (ty : ByteArray) (okb : Bool) (A : Option Addr) (N cap : Nat) (hs : List Hk) (h : Hk) (r : ByteArray) (okk : Bool) (pl mi sh sp ze : Bool) (wid prec verb : Int) (w : World) (hst : StAt w b s vs va) (ht : s.tab = .slice A N cap) (hN : N ≤ 40)
    (hb : BaseIs v (base3 k ty ((i : Int) + 1)) okb) (hA : HksAt w ⟨A, N, cap⟩ hs) (hi : hs[i]? = some h) (h16 : i < 16)
    (hta : ∀ W : World, (Instr.typeAssert v 103 148 true).run Tryz.prog W = .ok (.tuple #[.agg #[.int .i64 0, .string ⟨#[]⟩, .int .i64 0, .int .u64 0, .nilIface], .bool false]) W)
    (SAY : ∀ W, Below w.heap.size w W → Calls Tryz.prog 81 (u_sayArgs h pl mi sh sp ze wid prec verb false b) W fun e w' => e = .returned (.tuple #[.string r, .bool okk]) ∧ Below W.heap.size W w') :
    Calls Tryz.prog 52 #[.pointer (some ⟨b, 0, none⟩), v, .agg (sp8 pl mi sh sp ze wid prec verb)] w fun e w' => e = .returned (.tuple #[.string r, .bool okk]) ∧ Below w.heap.size w w' := by
  have hmf : ∀ (fn : Fn) (first cap : Array Value) (w : World), (Instr.makeFunc fn first cap).run Tryz.prog w = .ok (.func fn first cap) w := fun _ _ _ _ => rfl
  have HO := hid (fun W => hook_any v k ty ((i : Int) + 1) okb W hb)
  have SAY := hid SAY
  have l0 := ((Below.refl w.heap.size w).alloc (Nat.le_refl _) (.cells (sp8 pl mi sh sp ze wid prec verb) 94))
  have f0 := Blk.new w (sp8 pl mi sh sp ze wid prec verb) 94
  obtain ⟨W0, hW0⟩ : ∃ W0, w.alloc (.cells (sp8 pl mi sh sp ze wid prec verb) 94) = W0 := ⟨_, rfl⟩
  obtain ⟨B, hB⟩ : ∃ B, w.heap.size = B := ⟨_, rfl⟩
  rw [hW0] at l0 f0
  have TRL := hid (fun W (hW : Below W0.heap.size W0 W) => (l0.trans (hW.mono l0.size) : Below w.heap.size w W))
  have GE := hid (fun W (hW : Below W0.heap.size W0 W) => get_yes A N cap hs i h W hN (hA.below (TRL.out W hW)) hi h16)
  have CT := hid (fun W (hW : Below W0.heap.size W0 W) => show W.cell? ⟨b, 3, none⟩ = some (.slice A N cap) by have := (hst.below (TRL.out W hW)).blk.cell 3; rw [ht] at this; exact this)
  rw [hB] at f0
  have FL := hid f0
  clear hst ht hb hA hi l0 f0
  go_enter Tryz.func52, Tryz.ntmps52
  go_upto_region 1 with fail
  have HBB := hid hB
  clear hB hW0
  refine wp_region_held_drew (S := fun w1 => Below W0.heap.size W0 w1) (by kernel_rfl) (Below.refl _ _).drew (fun h0 => ?_)
  generalize World.drew W0 = W1 at h0 ⊢
  refine wpAnyH_take (i := 0) (fuel := 12) (v := .pointer (some ⟨b, 0, none⟩)) rfl (by kernel_rfl) (by kernel_rfl) (by kernel_rfl) (fun _ _ _ h => h) (Or.inl ⟨by rfl, by intro w1 hw1; go_simp⟩) h0 ?_
  try simp only [Act.put, List.getElem_toArray, List.getElem_cons_zero, List.setIfInBounds_toArray, List.set_cons_zero, List.set_cons_succ]
  refine wpAnyH_take (i := 1) (fuel := 11) (v := .pointer (some ⟨b, 0, none⟩)) rfl (by kernel_rfl) (by kernel_rfl) (by kernel_rfl) (fun _ _ _ h => h) (Or.inl ⟨by rfl, by intro w1 hw1; go_simp⟩) h0 ?_
  try simp only [Act.put, List.getElem_toArray, List.getElem_cons_zero, List.getElem_cons_succ, List.setIfInBounds_toArray, List.set_cons_zero, List.set_cons_succ]
  refine wpAnyH_take (i := 2) (fuel := 10) (v := .pointer (some ⟨b, 3, none⟩)) rfl (by kernel_rfl) (by kernel_rfl) (by kernel_rfl) (fun _ _ _ h => h) (Or.inl ⟨by rfl, by intro w1 hw1; go_simp⟩) h0 ?_
  try simp only [Act.put, List.getElem_toArray, List.getElem_cons_zero, List.getElem_cons_succ, List.setIfInBounds_toArray, List.set_cons_zero, List.set_cons_succ]
  refine wpAnyH_take (i := 3) (fuel := 9) (v := .slice A N cap) rfl (by kernel_rfl) (by kernel_rfl) (by kernel_rfl) (fun _ _ _ h => h) (Or.inl ⟨by rfl, by intro w1 hw1; have hq := CT.out w1 hw1; go_simp⟩) h0 ?_
  try simp only [Act.put, List.getElem_toArray, List.getElem_cons_zero, List.getElem_cons_succ, List.setIfInBounds_toArray, List.set_cons_zero, List.set_cons_succ]
  refine wpAnyH_take (i := 4) (fuel := 8) (v := v) rfl (by kernel_rfl) (by kernel_rfl) (by kernel_rfl) (fun _ _ _ h => h) (Or.inl ⟨by rfl, by intro w1 hw1; go_simp⟩) h0 ?_
  try simp only [Act.put, List.getElem_toArray, List.getElem_cons_zero, List.getElem_cons_succ, List.setIfInBounds_toArray, List.set_cons_zero, List.set_cons_succ]
  refine wpAnyH_ready (fuel := 7) (rs := [5, 10]) (by kernel_rfl) (by simp) ?_
  refine AllReadyH.cons rfl (fun K hK => ?_) (AllReadyH.cons rfl (fun K hK => ?_) AllReadyH.nil)
  · rw [if_pos (by rfl)]
    go_wp2_with fail
    refine (HO.out _).mono ?_
    rintro e W5 ⟨rfl, hb⟩
    have nW5 : Below W0.heap.size W0 W5 := h0.trans (hb.mono h0.size)
    clear hb
    refine hK.out _ _ nW5 (fun _ => ?_)
    clear hK
    try simp only [Act.put, List.getElem_toArray, List.getElem_cons_zero, List.getElem_cons_succ, List.setIfInBounds_toArray, List.set_cons_zero, List.set_cons_succ]
    refine wpAnyH_ready (fuel := 6) (rs := [6, 10]) (by kernel_rfl) (by simp) ?_
    refine AllReadyH.cons rfl (fun K hK => ?_) (AllReadyH.cons rfl (fun K hK => ?_) AllReadyH.nil)
    · rw [if_pos (by rfl)]
      go_wp2_with fail
      refine (GE.out _ nW5).mono ?_
      rintro e W6 ⟨rfl, hb⟩
      have nW6 : Below W0.heap.size W0 W6 := nW5.trans (hb.mono nW5.size)
      clear hb
      refine hK.out _ _ nW6 (fun _ => ?_)
      clear hK
      try simp only [Act.put, List.getElem_toArray, List.getElem_cons_zero, List.getElem_cons_succ, List.setIfInBounds_toArray, List.set_cons_zero, List.set_cons_succ]
      refine wpAnyH_take (i := 7) (fuel := 5) (v := .tuple #[.agg (hkV h), .bool true]) rfl (by kernel_rfl) (by kernel_rfl) (by kernel_rfl) (fun _ _ _ h => h) (Or.inl ⟨by rfl, by intro w1 hw1; go_simp⟩) nW6 ?_
      try simp only [Act.put, List.getElem_toArray, List.getElem_cons_zero, List.getElem_cons_succ, List.setIfInBounds_toArray, List.set_cons_zero, List.set_cons_succ]
      refine wpAnyH_take (i := 8) (fuel := 4) (v := .agg (hkV h)) rfl (by kernel_rfl) (by kernel_rfl) (by kernel_rfl) (fun _ _ _ h => h) (Or.inl ⟨by rfl, by intro w1 hw1; go_simp⟩) nW6 ?_
      try simp only [Act.put, List.getElem_toArray, List.getElem_cons_zero, List.getElem_cons_succ, List.setIfInBounds_toArray, List.set_cons_zero, List.set_cons_succ]
      refine wpAnyH_take (i := 9) (fuel := 3) (v := .bool true) rfl (by kernel_rfl) (by kernel_rfl) (by kernel_rfl) (fun _ _ _ h => h) (Or.inl ⟨by rfl, by intro w1 hw1; go_simp⟩) nW6 ?_
      try simp only [Act.put, List.getElem_toArray, List.getElem_cons_zero, List.getElem_cons_succ, List.setIfInBounds_toArray, List.set_cons_zero, List.set_cons_succ]
      refine wpAnyH_ready (fuel := 2) (rs := [10]) (by kernel_rfl) (by simp) ?_
      refine AllReadyH.cons rfl (fun K hK => ?_) AllReadyH.nil
      · rw [if_pos (by rfl)]
        go_wp2_with fail
        have a0 := Blk.new W6 hk0 34
        have n0 : Below W0.heap.size W0 (World.alloc W6 (.cells hk0 34)) := nW6.alloc nW6.size _
        have g0 : W0.heap.size ≤ W6.heap.size := nW6.size
        obtain ⟨WA, hWA⟩ : ∃ WA, World.alloc W6 (.cells hk0 34) = WA := ⟨_, rfl⟩
        obtain ⟨H, hHH⟩ : ∃ H : Nat, (World.heap W6).size = H := ⟨_, rfl⟩
        rw [hWA] at a0 n0 ⊢
        rw [hHH] at a0 g0 ⊢
        have HR := hid a0
        have HG := hid g0
        clear a0 g0 hWA hHH
        refine hK.out _ _ n0 (fun _ => ?_)
        clear hK
        try simp only [Act.put, List.getElem_toArray, List.getElem_cons_zero, List.getElem_cons_succ, List.setIfInBounds_toArray, List.set_cons_zero, List.set_cons_succ]
        refine wpAnyH_ready (fuel := 1) (rs := [11]) (by kernel_rfl) (by simp) ?_
        refine AllReadyH.cons rfl (fun K hK => ?_) AllReadyH.nil
        · rw [if_pos (by rfl)]
          refine wp_store_mid 34 (.tmp 8) (.tmp 20) rfl H 0 (hkV h) rfl rfl (Blk.there HR.out 0 48 (by decide)) hook_size (hkV_one _) ?_
          have nr := hk_all HR.out (by rfl) h
          have ns : Below W0.heap.size W0 (World.setCells WA H 0 (hkV h).toList) := below_setCells n0 H HG.out _ _
          generalize World.setCells WA H 0 (hkV h).toList = WS at ns nr ⊢
          have HR := hid nr
          refine hK.out _ _ ns (fun _ => ?_)
          clear hK nr
          try simp only [Act.put, List.getElem_toArray, List.getElem_cons_zero, List.getElem_cons_succ]
          refine wpAnyH_take (i := 12) (fuel := 0) (v := .bool true) rfl (by kernel_rfl) (by kernel_rfl) (by kernel_rfl) (fun _ _ _ h => h) (Or.inl ⟨by rfl, by intro w1 hw1; go_simp⟩) ns ?_
          try simp only [Act.put, List.getElem_toArray, List.getElem_cons_zero, List.getElem_cons_succ, List.setIfInBounds_toArray, List.set_cons_zero, List.set_cons_succ]
          refine wpAnyH_done (by kernel_rfl) ?_ _
          have FL := hid (FL.out.below ns FL.out.lt)
          have NS := hid ns
          clear ns
          go_upto_region 5 with fail
          have hp := HR.out.alloc (Obj.cells #[Value.int IntKind.i64 0, Value.string ⟨#[]⟩, Value.int IntKind.i64 0, Value.int IntKind.u64 0, Value.nilIface] 148)
          have fp := FL.out.alloc (Obj.cells #[Value.int IntKind.i64 0, Value.string ⟨#[]⟩, Value.int IntKind.i64 0, Value.int IntKind.u64 0, Value.nilIface] 148)
          have np := NS.out.alloc NS.out.size (Obj.cells #[Value.int IntKind.i64 0, Value.string ⟨#[]⟩, Value.int IntKind.i64 0, Value.int IntKind.u64 0, Value.nilIface] 148)
          obtain ⟨WP, hWP⟩ : ∃ WP, World.alloc WS (Obj.cells #[Value.int IntKind.i64 0, Value.string ⟨#[]⟩, Value.int IntKind.i64 0, Value.int IntKind.u64 0, Value.nilIface] 148) = WP := ⟨_, rfl⟩
          rw [hWP] at hp fp np ⊢
          have HR := hid hp
          have FL := hid fp
          have NS := hid np
          clear hp fp np hWP
          refine wp_region_held_drew (S := fun w1 => Below WP.heap.size WP w1) (by kernel_rfl) (Below.refl _ _).drew (fun h1 => ?_)
          generalize World.drew WP = W1p at h1 ⊢
          refine wpAnyH_take (i := 0) (fuel := 16) (v := _) rfl (by kernel_rfl) (by kernel_rfl) (by kernel_rfl) (fun _ _ _ h => h) (yieldsIf_load_mid (by rfl) 34 (.tmp 8) rfl H 0 rfl (hkV h).toList _ (fun w1 h1 => fun j v hv => by rw [Nat.zero_add, (HR.out.below h1 HR.out.lt).cell]; simpa using hv) Tryz.underlying34 rfl hook_size) h1 ?_
          try simp only [Act.put, List.getElem_toArray, List.getElem_cons_zero, List.setIfInBounds_toArray, List.set_cons_zero, List.set_cons_succ]
          refine wpAnyH_take (i := 1) (fuel := 15) (v := _) rfl (by kernel_rfl) (by kernel_rfl) (by kernel_rfl) (fun _ _ _ h => h) (yieldsIf_load_mid (by rfl) 94 (.tmp 5) rfl B 0 rfl (sp8 pl mi sh sp ze wid prec verb).toList _ (fun w1 h1 => fun j v hv => by rw [Nat.zero_add, (FL.out.below h1 FL.out.lt).cell]; simpa using hv) Tryz.underlying94 rfl hspec_size) h1 ?_
          try simp only [Act.put, List.getElem_toArray, List.getElem_cons_zero, List.getElem_cons_succ, List.setIfInBounds_toArray, List.set_cons_zero, List.set_cons_succ]
          refine wpAnyH_take (i := 2) (fuel := 14) (v := .bool false) rfl (by kernel_rfl) (by kernel_rfl) (by kernel_rfl) (fun _ _ _ h => h) (Or.inl ⟨by rfl, by intro w1 hw1; go_simp⟩) h1 ?_
          try simp only [Act.put, List.getElem_toArray, List.getElem_cons_zero, List.getElem_cons_succ, List.setIfInBounds_toArray, List.set_cons_zero, List.set_cons_succ]
          refine wpAnyH_take (i := 3) (fuel := 13) (v := .bool false) rfl (by kernel_rfl) (by kernel_rfl) (by kernel_rfl) (fun _ _ _ h => h) (Or.inl ⟨by rfl, by intro w1 hw1; go_simp⟩) h1 ?_
          try simp only [Act.put, List.getElem_toArray, List.getElem_cons_zero, List.getElem_cons_succ, List.setIfInBounds_toArray, List.set_cons_zero, List.set_cons_succ]
          refine wpAnyH_take (i := 4) (fuel := 12) (v := undef) rfl (by kernel_rfl) (by kernel_rfl) (by kernel_rfl) (fun _ _ _ h => h) (Or.inr ⟨by rfl, rfl⟩) h1 ?_
          try simp only [Act.put, List.getElem_toArray, List.getElem_cons_zero, List.getElem_cons_succ, List.setIfInBounds_toArray, List.set_cons_zero, List.set_cons_succ]
          refine wpAnyH_take (i := 5) (fuel := 11) (v := undef) rfl (by kernel_rfl) (by kernel_rfl) (by kernel_rfl) (fun _ _ _ h => h) (Or.inr ⟨by rfl, rfl⟩) h1 ?_
          try simp only [Act.put, List.getElem_toArray, List.getElem_cons_zero, List.getElem_cons_succ, List.setIfInBounds_toArray, List.set_cons_zero, List.set_cons_succ]
          refine wpAnyH_take (i := 6) (fuel := 10) (v := undef) rfl (by kernel_rfl) (by kernel_rfl) (by kernel_rfl) (fun _ _ _ h => h) (Or.inr ⟨by rfl, rfl⟩) h1 ?_
          try simp only [Act.put, List.getElem_toArray, List.getElem_cons_zero, List.getElem_cons_succ, List.setIfInBounds_toArray, List.set_cons_zero, List.set_cons_succ]
          refine wpAnyH_take (i := 7) (fuel := 9) (v := .bool false) rfl (by kernel_rfl) (by kernel_rfl) (by kernel_rfl) (fun _ _ _ h => h) (Or.inl ⟨by rfl, by intro w1 hw1; go_simp⟩) h1 ?_
          try simp only [Act.put, List.getElem_toArray, List.getElem_cons_zero, List.getElem_cons_succ, List.setIfInBounds_toArray, List.set_cons_zero, List.set_cons_succ]
          refine wpAnyH_take (i := 8) (fuel := 8) (v := .pointer (some ⟨b, 0, none⟩)) rfl (by kernel_rfl) (by kernel_rfl) (by kernel_rfl) (fun _ _ _ h => h) (Or.inl ⟨by rfl, by intro w1 hw1; go_simp⟩) h1 ?_
          try simp only [Act.put, List.getElem_toArray, List.getElem_cons_zero, List.getElem_cons_succ, List.setIfInBounds_toArray, List.set_cons_zero, List.set_cons_succ]
          refine wpAnyH_take (i := 9) (fuel := 7) (v := u_prF b) rfl (by kernel_rfl) (by kernel_rfl) (by kernel_rfl) (fun _ _ _ h => h) (Or.inl ⟨by rfl, by intro w1 hw1; go_simp⟩) h1 ?_
          try simp only [Act.put, List.getElem_toArray, List.getElem_cons_zero, List.getElem_cons_succ, List.setIfInBounds_toArray, List.set_cons_zero, List.set_cons_succ]
          refine wpAnyH_take (i := 10) (fuel := 6) (v := .pointer (some ⟨b, 0, none⟩)) rfl (by kernel_rfl) (by kernel_rfl) (by kernel_rfl) (fun _ _ _ h => h) (Or.inl ⟨by rfl, by intro w1 hw1; go_simp⟩) h1 ?_
          try simp only [Act.put, List.getElem_toArray, List.getElem_cons_zero, List.getElem_cons_succ, List.setIfInBounds_toArray, List.set_cons_zero, List.set_cons_succ]
          refine wpAnyH_take (i := 11) (fuel := 5) (v := u_shF b) rfl (by kernel_rfl) (by kernel_rfl) (by kernel_rfl) (fun _ _ _ h => h) (Or.inl ⟨by rfl, by intro w1 hw1; go_simp⟩) h1 ?_
          try simp only [Act.put, List.getElem_toArray, List.getElem_cons_zero, List.getElem_cons_succ, List.setIfInBounds_toArray, List.set_cons_zero, List.set_cons_succ]
          refine wpAnyH_ready (fuel := 4) (rs := [12]) (by kernel_rfl) (by simp) ?_
          refine AllReadyH.cons rfl (fun K hK => ?_) AllReadyH.nil
          · rw [if_pos (by rfl)]
            go_wp2_with fail
            refine (SAY.out _ (TRL.out _ (NS.out.trans (h1.mono NS.out.size)))).mono ?_
            rintro e W9 ⟨rfl, hb⟩
            have n9 : Below WP.heap.size WP W9 := h1.trans (hb.mono h1.size)
            clear hb
            refine hK.out _ _ n9 (fun _ => ?_)
            clear hK
            try simp only [Act.put, List.getElem_toArray, List.getElem_cons_zero, List.getElem_cons_succ, List.setIfInBounds_toArray, List.set_cons_zero, List.set_cons_succ]
            refine wpAnyH_take (i := 13) (fuel := 3) (v := .string r) rfl (by kernel_rfl) (by kernel_rfl) (by kernel_rfl) (fun _ _ _ h => h) (Or.inl ⟨by rfl, by intro w1 hw1; go_simp⟩) n9 ?_
            try simp only [Act.put, List.getElem_toArray, List.getElem_cons_zero, List.getElem_cons_succ, List.setIfInBounds_toArray, List.set_cons_zero, List.set_cons_succ]
            refine wpAnyH_take (i := 14) (fuel := 2) (v := .bool okk) rfl (by kernel_rfl) (by kernel_rfl) (by kernel_rfl) (fun _ _ _ h => h) (Or.inl ⟨by rfl, by intro w1 hw1; go_simp⟩) n9 ?_
            try simp only [Act.put, List.getElem_toArray, List.getElem_cons_zero, List.getElem_cons_succ, List.setIfInBounds_toArray, List.set_cons_zero, List.set_cons_succ]
            refine wpAnyH_take (i := 15) (fuel := 1) (v := .string r) rfl (by kernel_rfl) (by kernel_rfl) (by kernel_rfl) (fun _ _ _ h => h) (Or.inl ⟨by rfl, by intro w1 hw1; go_simp⟩) n9 ?_
            try simp only [Act.put, List.getElem_toArray, List.getElem_cons_zero, List.getElem_cons_succ, List.setIfInBounds_toArray, List.set_cons_zero, List.set_cons_succ]
            refine wpAnyH_take (i := 16) (fuel := 0) (v := .bool okk) rfl (by kernel_rfl) (by kernel_rfl) (by kernel_rfl) (fun _ _ _ h => h) (Or.inl ⟨by rfl, by intro w1 hw1; go_simp⟩) n9 ?_
            try simp only [Act.put, List.getElem_toArray, List.getElem_cons_zero, List.getElem_cons_succ, List.setIfInBounds_toArray, List.set_cons_zero, List.set_cons_succ]
            refine wpAnyH_done (by kernel_rfl) ?_ _
            have LP := hid (TRL.out _ (NS.out.trans (n9.mono NS.out.size)))
            clear n9 h1
            go_wp2_with fail
            go_ret2
            exact ⟨rfl, LP.out⟩
    · rw [if_pos (by rfl)]
      go_wp2_with fail
      have a0 := Blk.new W5 hk0 34
      have n0 : Below W0.heap.size W0 (World.alloc W5 (.cells hk0 34)) := nW5.alloc nW5.size _
      have g0 : W0.heap.size ≤ W5.heap.size := nW5.size
      obtain ⟨WA, hWA⟩ : ∃ WA, World.alloc W5 (.cells hk0 34) = WA := ⟨_, rfl⟩
      obtain ⟨H, hHH⟩ : ∃ H : Nat, (World.heap W5).size = H := ⟨_, rfl⟩
      rw [hWA] at a0 n0 ⊢
      rw [hHH] at a0 g0 ⊢
      have HR := hid a0
      have HG := hid g0
      clear a0 g0 hWA hHH
      refine hK.out _ _ n0 (fun _ => ?_)
      clear hK
      try simp only [Act.put, List.getElem_toArray, List.getElem_cons_zero, List.getElem_cons_succ, List.setIfInBounds_toArray, List.set_cons_zero, List.set_cons_succ]
      refine wpAnyH_ready (fuel := 5) (rs := [6]) (by kernel_rfl) (by simp) ?_
      refine AllReadyH.cons rfl (fun K hK => ?_) AllReadyH.nil
      · rw [if_pos (by rfl)]
        go_wp2_with fail
        refine (GE.out _ n0).mono ?_
        rintro e W7 ⟨rfl, hb⟩
        have nW7 : Below W0.heap.size W0 W7 := n0.trans (hb.mono n0.size)
        have HR := hid (HR.out.below hb HR.out.lt)
        clear hb
        refine hK.out _ _ nW7 (fun _ => ?_)
        clear hK
        try simp only [Act.put, List.getElem_toArray, List.getElem_cons_zero, List.getElem_cons_succ, List.setIfInBounds_toArray, List.set_cons_zero, List.set_cons_succ]
        refine wpAnyH_take (i := 7) (fuel := 4) (v := .tuple #[.agg (hkV h), .bool true]) rfl (by kernel_rfl) (by kernel_rfl) (by kernel_rfl) (fun _ _ _ h => h) (Or.inl ⟨by rfl, by intro w1 hw1; go_simp⟩) nW7 ?_
        try simp only [Act.put, List.getElem_toArray, List.getElem_cons_zero, List.getElem_cons_succ, List.setIfInBounds_toArray, List.set_cons_zero, List.set_cons_succ]
        refine wpAnyH_take (i := 8) (fuel := 3) (v := .agg (hkV h)) rfl (by kernel_rfl) (by kernel_rfl) (by kernel_rfl) (fun _ _ _ h => h) (Or.inl ⟨by rfl, by intro w1 hw1; go_simp⟩) nW7 ?_
        try simp only [Act.put, List.getElem_toArray, List.getElem_cons_zero, List.getElem_cons_succ, List.setIfInBounds_toArray, List.set_cons_zero, List.set_cons_succ]
        refine wpAnyH_take (i := 9) (fuel := 2) (v := .bool true) rfl (by kernel_rfl) (by kernel_rfl) (by kernel_rfl) (fun _ _ _ h => h) (Or.inl ⟨by rfl, by intro w1 hw1; go_simp⟩) nW7 ?_
        try simp only [Act.put, List.getElem_toArray, List.getElem_cons_zero, List.getElem_cons_succ, List.setIfInBounds_toArray, List.set_cons_zero, List.set_cons_succ]
        refine wpAnyH_ready (fuel := 1) (rs := [11]) (by kernel_rfl) (by simp) ?_
        refine AllReadyH.cons rfl (fun K hK => ?_) AllReadyH.nil
        · rw [if_pos (by rfl)]
          refine wp_store_mid 34 (.tmp 8) (.tmp 20) rfl H 0 (hkV h) rfl rfl (Blk.there HR.out 0 48 (by decide)) hook_size (hkV_one _) ?_
          have nr := hk_all HR.out (by rfl) h
          have ns : Below W0.heap.size W0 (World.setCells W7 H 0 (hkV h).toList) := below_setCells nW7 H HG.out _ _
          generalize World.setCells W7 H 0 (hkV h).toList = WS at ns nr ⊢
          have HR := hid nr
          refine hK.out _ _ ns (fun _ => ?_)
          clear hK nr
          try simp only [Act.put, List.getElem_toArray, List.getElem_cons_zero, List.getElem_cons_succ]
          refine wpAnyH_take (i := 12) (fuel := 0) (v := .bool true) rfl (by kernel_rfl) (by kernel_rfl) (by kernel_rfl) (fun _ _ _ h => h) (Or.inl ⟨by rfl, by intro w1 hw1; go_simp⟩) ns ?_
          try simp only [Act.put, List.getElem_toArray, List.getElem_cons_zero, List.getElem_cons_succ, List.setIfInBounds_toArray, List.set_cons_zero, List.set_cons_succ]
          refine wpAnyH_done (by kernel_rfl) ?_ _
          have FL := hid (FL.out.below ns FL.out.lt)
          have NS := hid ns
          clear ns
          go_upto_region 5 with fail
          have hp := HR.out.alloc (Obj.cells #[Value.int IntKind.i64 0, Value.string ⟨#[]⟩, Value.int IntKind.i64 0, Value.int IntKind.u64 0, Value.nilIface] 148)
          have fp := FL.out.alloc (Obj.cells #[Value.int IntKind.i64 0, Value.string ⟨#[]⟩, Value.int IntKind.i64 0, Value.int IntKind.u64 0, Value.nilIface] 148)
          have np := NS.out.alloc NS.out.size (Obj.cells #[Value.int IntKind.i64 0, Value.string ⟨#[]⟩, Value.int IntKind.i64 0, Value.int IntKind.u64 0, Value.nilIface] 148)
          obtain ⟨WP, hWP⟩ : ∃ WP, World.alloc WS (Obj.cells #[Value.int IntKind.i64 0, Value.string ⟨#[]⟩, Value.int IntKind.i64 0, Value.int IntKind.u64 0, Value.nilIface] 148) = WP := ⟨_, rfl⟩
          rw [hWP] at hp fp np ⊢
          have HR := hid hp
          have FL := hid fp
          have NS := hid np
          clear hp fp np hWP
          refine wp_region_held_drew (S := fun w1 => Below WP.heap.size WP w1) (by kernel_rfl) (Below.refl _ _).drew (fun h1 => ?_)
          generalize World.drew WP = W1p at h1 ⊢
          refine wpAnyH_take (i := 0) (fuel := 16) (v := _) rfl (by kernel_rfl) (by kernel_rfl) (by kernel_rfl) (fun _ _ _ h => h) (yieldsIf_load_mid (by rfl) 34 (.tmp 8) rfl H 0 rfl (hkV h).toList _ (fun w1 h1 => fun j v hv => by rw [Nat.zero_add, (HR.out.below h1 HR.out.lt).cell]; simpa using hv) Tryz.underlying34 rfl hook_size) h1 ?_
          try simp only [Act.put, List.getElem_toArray, List.getElem_cons_zero, List.setIfInBounds_toArray, List.set_cons_zero, List.set_cons_succ]
          refine wpAnyH_take (i := 1) (fuel := 15) (v := _) rfl (by kernel_rfl) (by kernel_rfl) (by kernel_rfl) (fun _ _ _ h => h) (yieldsIf_load_mid (by rfl) 94 (.tmp 5) rfl B 0 rfl (sp8 pl mi sh sp ze wid prec verb).toList _ (fun w1 h1 => fun j v hv => by rw [Nat.zero_add, (FL.out.below h1 FL.out.lt).cell]; simpa using hv) Tryz.underlying94 rfl hspec_size) h1 ?_
          try simp only [Act.put, List.getElem_toArray, List.getElem_cons_zero, List.getElem_cons_succ, List.setIfInBounds_toArray, List.set_cons_zero, List.set_cons_succ]
          refine wpAnyH_take (i := 2) (fuel := 14) (v := .bool false) rfl (by kernel_rfl) (by kernel_rfl) (by kernel_rfl) (fun _ _ _ h => h) (Or.inl ⟨by rfl, by intro w1 hw1; go_simp⟩) h1 ?_
          try simp only [Act.put, List.getElem_toArray, List.getElem_cons_zero, List.getElem_cons_succ, List.setIfInBounds_toArray, List.set_cons_zero, List.set_cons_succ]
          refine wpAnyH_take (i := 3) (fuel := 13) (v := .bool false) rfl (by kernel_rfl) (by kernel_rfl) (by kernel_rfl) (fun _ _ _ h => h) (Or.inl ⟨by rfl, by intro w1 hw1; go_simp⟩) h1 ?_
          try simp only [Act.put, List.getElem_toArray, List.getElem_cons_zero, List.getElem_cons_succ, List.setIfInBounds_toArray, List.set_cons_zero, List.set_cons_succ]
          refine wpAnyH_take (i := 4) (fuel := 12) (v := undef) rfl (by kernel_rfl) (by kernel_rfl) (by kernel_rfl) (fun _ _ _ h => h) (Or.inr ⟨by rfl, rfl⟩) h1 ?_
          try simp only [Act.put, List.getElem_toArray, List.getElem_cons_zero, List.getElem_cons_succ, List.setIfInBounds_toArray, List.set_cons_zero, List.set_cons_succ]
          refine wpAnyH_take (i := 5) (fuel := 11) (v := undef) rfl (by kernel_rfl) (by kernel_rfl) (by kernel_rfl) (fun _ _ _ h => h) (Or.inr ⟨by rfl, rfl⟩) h1 ?_
          try simp only [Act.put, List.getElem_toArray, List.getElem_cons_zero, List.getElem_cons_succ, List.setIfInBounds_toArray, List.set_cons_zero, List.set_cons_succ]
          refine wpAnyH_take (i := 6) (fuel := 10) (v := undef) rfl (by kernel_rfl) (by kernel_rfl) (by kernel_rfl) (fun _ _ _ h => h) (Or.inr ⟨by rfl, rfl⟩) h1 ?_
          try simp only [Act.put, List.getElem_toArray, List.getElem_cons_zero, List.getElem_cons_succ, List.setIfInBounds_toArray, List.set_cons_zero, List.set_cons_succ]
          refine wpAnyH_take (i := 7) (fuel := 9) (v := .bool false) rfl (by kernel_rfl) (by kernel_rfl) (by kernel_rfl) (fun _ _ _ h => h) (Or.inl ⟨by rfl, by intro w1 hw1; go_simp⟩) h1 ?_
          try simp only [Act.put, List.getElem_toArray, List.getElem_cons_zero, List.getElem_cons_succ, List.setIfInBounds_toArray, List.set_cons_zero, List.set_cons_succ]
          refine wpAnyH_take (i := 8) (fuel := 8) (v := .pointer (some ⟨b, 0, none⟩)) rfl (by kernel_rfl) (by kernel_rfl) (by kernel_rfl) (fun _ _ _ h => h) (Or.inl ⟨by rfl, by intro w1 hw1; go_simp⟩) h1 ?_
          try simp only [Act.put, List.getElem_toArray, List.getElem_cons_zero, List.getElem_cons_succ, List.setIfInBounds_toArray, List.set_cons_zero, List.set_cons_succ]
          refine wpAnyH_take (i := 9) (fuel := 7) (v := u_prF b) rfl (by kernel_rfl) (by kernel_rfl) (by kernel_rfl) (fun _ _ _ h => h) (Or.inl ⟨by rfl, by intro w1 hw1; go_simp⟩) h1 ?_
          try simp only [Act.put, List.getElem_toArray, List.getElem_cons_zero, List.getElem_cons_succ, List.setIfInBounds_toArray, List.set_cons_zero, List.set_cons_succ]
          refine wpAnyH_take (i := 10) (fuel := 6) (v := .pointer (some ⟨b, 0, none⟩)) rfl (by kernel_rfl) (by kernel_rfl) (by kernel_rfl) (fun _ _ _ h => h) (Or.inl ⟨by rfl, by intro w1 hw1; go_simp⟩) h1 ?_
          try simp only [Act.put, List.getElem_toArray, List.getElem_cons_zero, List.getElem_cons_succ, List.setIfInBounds_toArray, List.set_cons_zero, List.set_cons_succ]
          refine wpAnyH_take (i := 11) (fuel := 5) (v := u_shF b) rfl (by kernel_rfl) (by kernel_rfl) (by kernel_rfl) (fun _ _ _ h => h) (Or.inl ⟨by rfl, by intro w1 hw1; go_simp⟩) h1 ?_
          try simp only [Act.put, List.getElem_toArray, List.getElem_cons_zero, List.getElem_cons_succ, List.setIfInBounds_toArray, List.set_cons_zero, List.set_cons_succ]
          refine wpAnyH_ready (fuel := 4) (rs := [12]) (by kernel_rfl) (by simp) ?_
          refine AllReadyH.cons rfl (fun K hK => ?_) AllReadyH.nil
          · rw [if_pos (by rfl)]
            go_wp2_with fail
            refine (SAY.out _ (TRL.out _ (NS.out.trans (h1.mono NS.out.size)))).mono ?_
            rintro e W9 ⟨rfl, hb⟩
            have n9 : Below WP.heap.size WP W9 := h1.trans (hb.mono h1.size)
            clear hb
            refine hK.out _ _ n9 (fun _ => ?_)
            clear hK
            try simp only [Act.put, List.getElem_toArray, List.getElem_cons_zero, List.getElem_cons_succ, List.setIfInBounds_toArray, List.set_cons_zero, List.set_cons_succ]
            refine wpAnyH_take (i := 13) (fuel := 3) (v := .string r) rfl (by kernel_rfl) (by kernel_rfl) (by kernel_rfl) (fun _ _ _ h => h) (Or.inl ⟨by rfl, by intro w1 hw1; go_simp⟩) n9 ?_
            try simp only [Act.put, List.getElem_toArray, List.getElem_cons_zero, List.getElem_cons_succ, List.setIfInBounds_toArray, List.set_cons_zero, List.set_cons_succ]
            refine wpAnyH_take (i := 14) (fuel := 2) (v := .bool okk) rfl (by kernel_rfl) (by kernel_rfl) (by kernel_rfl) (fun _ _ _ h => h) (Or.inl ⟨by rfl, by intro w1 hw1; go_simp⟩) n9 ?_
            try simp only [Act.put, List.getElem_toArray, List.getElem_cons_zero, List.getElem_cons_succ, List.setIfInBounds_toArray, List.set_cons_zero, List.set_cons_succ]
            refine wpAnyH_take (i := 15) (fuel := 1) (v := .string r) rfl (by kernel_rfl) (by kernel_rfl) (by kernel_rfl) (fun _ _ _ h => h) (Or.inl ⟨by rfl, by intro w1 hw1; go_simp⟩) n9 ?_
            try simp only [Act.put, List.getElem_toArray, List.getElem_cons_zero, List.getElem_cons_succ, List.setIfInBounds_toArray, List.set_cons_zero, List.set_cons_succ]
            refine wpAnyH_take (i := 16) (fuel := 0) (v := .bool okk) rfl (by kernel_rfl) (by kernel_rfl) (by kernel_rfl) (fun _ _ _ h => h) (Or.inl ⟨by rfl, by intro w1 hw1; go_simp⟩) n9 ?_
            try simp only [Act.put, List.getElem_toArray, List.getElem_cons_zero, List.getElem_cons_succ, List.setIfInBounds_toArray, List.set_cons_zero, List.set_cons_succ]
            refine wpAnyH_done (by kernel_rfl) ?_ _
            have LP := hid (TRL.out _ (NS.out.trans (n9.mono NS.out.size)))
            clear n9 h1
            go_wp2_with fail
            go_ret2
            exact ⟨rfl, LP.out⟩
  · rw [if_pos (by rfl)]
    go_wp2_with fail
    have a0 := Blk.new W1 hk0 34
    have n0 : Below W0.heap.size W0 (World.alloc W1 (.cells hk0 34)) := h0.alloc h0.size _
    have g0 : W0.heap.size ≤ W1.heap.size := h0.size
    obtain ⟨WA, hWA⟩ : ∃ WA, World.alloc W1 (.cells hk0 34) = WA := ⟨_, rfl⟩
    obtain ⟨H, hHH⟩ : ∃ H : Nat, (World.heap W1).size = H := ⟨_, rfl⟩
    rw [hWA] at a0 n0 ⊢
    rw [hHH] at a0 g0 ⊢
    have HR := hid a0
    have HG := hid g0
    clear a0 g0 hWA hHH
    refine hK.out _ _ n0 (fun _ => ?_)
    clear hK
    try simp only [Act.put, List.getElem_toArray, List.getElem_cons_zero, List.getElem_cons_succ, List.setIfInBounds_toArray, List.set_cons_zero, List.set_cons_succ]
    refine wpAnyH_ready (fuel := 6) (rs := [5]) (by kernel_rfl) (by simp) ?_
    refine AllReadyH.cons rfl (fun K hK => ?_) AllReadyH.nil
    · rw [if_pos (by rfl)]
      go_wp2_with fail
      refine (HO.out _).mono ?_
      rintro e W5 ⟨rfl, hb⟩
      have nW5 : Below W0.heap.size W0 W5 := n0.trans (hb.mono n0.size)
      have HR := hid (HR.out.below hb HR.out.lt)
      clear hb
      refine hK.out _ _ nW5 (fun _ => ?_)
      clear hK
      try simp only [Act.put, List.getElem_toArray, List.getElem_cons_zero, List.getElem_cons_succ, List.setIfInBounds_toArray, List.set_cons_zero, List.set_cons_succ]
      refine wpAnyH_ready (fuel := 5) (rs := [6]) (by kernel_rfl) (by simp) ?_
      refine AllReadyH.cons rfl (fun K hK => ?_) AllReadyH.nil
      · rw [if_pos (by rfl)]
        go_wp2_with fail
        refine (GE.out _ nW5).mono ?_
        rintro e W6 ⟨rfl, hb⟩
        have nW6 : Below W0.heap.size W0 W6 := nW5.trans (hb.mono nW5.size)
        have HR := hid (HR.out.below hb HR.out.lt)
        clear hb
        refine hK.out _ _ nW6 (fun _ => ?_)
        clear hK
        try simp only [Act.put, List.getElem_toArray, List.getElem_cons_zero, List.getElem_cons_succ, List.setIfInBounds_toArray, List.set_cons_zero, List.set_cons_succ]
        refine wpAnyH_take (i := 7) (fuel := 4) (v := .tuple #[.agg (hkV h), .bool true]) rfl (by kernel_rfl) (by kernel_rfl) (by kernel_rfl) (fun _ _ _ h => h) (Or.inl ⟨by rfl, by intro w1 hw1; go_simp⟩) nW6 ?_
        try simp only [Act.put, List.getElem_toArray, List.getElem_cons_zero, List.getElem_cons_succ, List.setIfInBounds_toArray, List.set_cons_zero, List.set_cons_succ]
        refine wpAnyH_take (i := 8) (fuel := 3) (v := .agg (hkV h)) rfl (by kernel_rfl) (by kernel_rfl) (by kernel_rfl) (fun _ _ _ h => h) (Or.inl ⟨by rfl, by intro w1 hw1; go_simp⟩) nW6 ?_
        try simp only [Act.put, List.getElem_toArray, List.getElem_cons_zero, List.getElem_cons_succ, List.setIfInBounds_toArray, List.set_cons_zero, List.set_cons_succ]
        refine wpAnyH_take (i := 9) (fuel := 2) (v := .bool true) rfl (by kernel_rfl) (by kernel_rfl) (by kernel_rfl) (fun _ _ _ h => h) (Or.inl ⟨by rfl, by intro w1 hw1; go_simp⟩) nW6 ?_
        try simp only [Act.put, List.getElem_toArray, List.getElem_cons_zero, List.getElem_cons_succ, List.setIfInBounds_toArray, List.set_cons_zero, List.set_cons_succ]
        refine wpAnyH_ready (fuel := 1) (rs := [11]) (by kernel_rfl) (by simp) ?_
        refine AllReadyH.cons rfl (fun K hK => ?_) AllReadyH.nil
        · rw [if_pos (by rfl)]
          refine wp_store_mid 34 (.tmp 8) (.tmp 20) rfl H 0 (hkV h) rfl rfl (Blk.there HR.out 0 48 (by decide)) hook_size (hkV_one _) ?_
          have nr := hk_all HR.out (by rfl) h
          have ns : Below W0.heap.size W0 (World.setCells W6 H 0 (hkV h).toList) := below_setCells nW6 H HG.out _ _
          generalize World.setCells W6 H 0 (hkV h).toList = WS at ns nr ⊢
          have HR := hid nr
          refine hK.out _ _ ns (fun _ => ?_)
          clear hK nr
          try simp only [Act.put, List.getElem_toArray, List.getElem_cons_zero, List.getElem_cons_succ]
          refine wpAnyH_take (i := 12) (fuel := 0) (v := .bool true) rfl (by kernel_rfl) (by kernel_rfl) (by kernel_rfl) (fun _ _ _ h => h) (Or.inl ⟨by rfl, by intro w1 hw1; go_simp⟩) ns ?_
          try simp only [Act.put, List.getElem_toArray, List.getElem_cons_zero, List.getElem_cons_succ, List.setIfInBounds_toArray, List.set_cons_zero, List.set_cons_succ]
          refine wpAnyH_done (by kernel_rfl) ?_ _
          have FL := hid (FL.out.below ns FL.out.lt)
          have NS := hid ns
          clear ns
          go_upto_region 5 with fail
          have hp := HR.out.alloc (Obj.cells #[Value.int IntKind.i64 0, Value.string ⟨#[]⟩, Value.int IntKind.i64 0, Value.int IntKind.u64 0, Value.nilIface] 148)
          have fp := FL.out.alloc (Obj.cells #[Value.int IntKind.i64 0, Value.string ⟨#[]⟩, Value.int IntKind.i64 0, Value.int IntKind.u64 0, Value.nilIface] 148)
          have np := NS.out.alloc NS.out.size (Obj.cells #[Value.int IntKind.i64 0, Value.string ⟨#[]⟩, Value.int IntKind.i64 0, Value.int IntKind.u64 0, Value.nilIface] 148)
          obtain ⟨WP, hWP⟩ : ∃ WP, World.alloc WS (Obj.cells #[Value.int IntKind.i64 0, Value.string ⟨#[]⟩, Value.int IntKind.i64 0, Value.int IntKind.u64 0, Value.nilIface] 148) = WP := ⟨_, rfl⟩
          rw [hWP] at hp fp np ⊢
          have HR := hid hp
          have FL := hid fp
          have NS := hid np
          clear hp fp np hWP
          refine wp_region_held_drew (S := fun w1 => Below WP.heap.size WP w1) (by kernel_rfl) (Below.refl _ _).drew (fun h1 => ?_)
          generalize World.drew WP = W1p at h1 ⊢
          refine wpAnyH_take (i := 0) (fuel := 16) (v := _) rfl (by kernel_rfl) (by kernel_rfl) (by kernel_rfl) (fun _ _ _ h => h) (yieldsIf_load_mid (by rfl) 34 (.tmp 8) rfl H 0 rfl (hkV h).toList _ (fun w1 h1 => fun j v hv => by rw [Nat.zero_add, (HR.out.below h1 HR.out.lt).cell]; simpa using hv) Tryz.underlying34 rfl hook_size) h1 ?_
          try simp only [Act.put, List.getElem_toArray, List.getElem_cons_zero, List.setIfInBounds_toArray, List.set_cons_zero, List.set_cons_succ]
          refine wpAnyH_take (i := 1) (fuel := 15) (v := _) rfl (by kernel_rfl) (by kernel_rfl) (by kernel_rfl) (fun _ _ _ h => h) (yieldsIf_load_mid (by rfl) 94 (.tmp 5) rfl B 0 rfl (sp8 pl mi sh sp ze wid prec verb).toList _ (fun w1 h1 => fun j v hv => by rw [Nat.zero_add, (FL.out.below h1 FL.out.lt).cell]; simpa using hv) Tryz.underlying94 rfl hspec_size) h1 ?_
          try simp only [Act.put, List.getElem_toArray, List.getElem_cons_zero, List.getElem_cons_succ, List.setIfInBounds_toArray, List.set_cons_zero, List.set_cons_succ]
          refine wpAnyH_take (i := 2) (fuel := 14) (v := .bool false) rfl (by kernel_rfl) (by kernel_rfl) (by kernel_rfl) (fun _ _ _ h => h) (Or.inl ⟨by rfl, by intro w1 hw1; go_simp⟩) h1 ?_
          try simp only [Act.put, List.getElem_toArray, List.getElem_cons_zero, List.getElem_cons_succ, List.setIfInBounds_toArray, List.set_cons_zero, List.set_cons_succ]
          refine wpAnyH_take (i := 3) (fuel := 13) (v := .bool false) rfl (by kernel_rfl) (by kernel_rfl) (by kernel_rfl) (fun _ _ _ h => h) (Or.inl ⟨by rfl, by intro w1 hw1; go_simp⟩) h1 ?_
          try simp only [Act.put, List.getElem_toArray, List.getElem_cons_zero, List.getElem_cons_succ, List.setIfInBounds_toArray, List.set_cons_zero, List.set_cons_succ]
          refine wpAnyH_take (i := 4) (fuel := 12) (v := undef) rfl (by kernel_rfl) (by kernel_rfl) (by kernel_rfl) (fun _ _ _ h => h) (Or.inr ⟨by rfl, rfl⟩) h1 ?_
          try simp only [Act.put, List.getElem_toArray, List.getElem_cons_zero, List.getElem_cons_succ, List.setIfInBounds_toArray, List.set_cons_zero, List.set_cons_succ]
          refine wpAnyH_take (i := 5) (fuel := 11) (v := undef) rfl (by kernel_rfl) (by kernel_rfl) (by kernel_rfl) (fun _ _ _ h => h) (Or.inr ⟨by rfl, rfl⟩) h1 ?_
          try simp only [Act.put, List.getElem_toArray, List.getElem_cons_zero, List.getElem_cons_succ, List.setIfInBounds_toArray, List.set_cons_zero, List.set_cons_succ]
          refine wpAnyH_take (i := 6) (fuel := 10) (v := undef) rfl (by kernel_rfl) (by kernel_rfl) (by kernel_rfl) (fun _ _ _ h => h) (Or.inr ⟨by rfl, rfl⟩) h1 ?_
          try simp only [Act.put, List.getElem_toArray, List.getElem_cons_zero, List.getElem_cons_succ, List.setIfInBounds_toArray, List.set_cons_zero, List.set_cons_succ]
          refine wpAnyH_take (i := 7) (fuel := 9) (v := .bool false) rfl (by kernel_rfl) (by kernel_rfl) (by kernel_rfl) (fun _ _ _ h => h) (Or.inl ⟨by rfl, by intro w1 hw1; go_simp⟩) h1 ?_
          try simp only [Act.put, List.getElem_toArray, List.getElem_cons_zero, List.getElem_cons_succ, List.setIfInBounds_toArray, List.set_cons_zero, List.set_cons_succ]
          refine wpAnyH_take (i := 8) (fuel := 8) (v := .pointer (some ⟨b, 0, none⟩)) rfl (by kernel_rfl) (by kernel_rfl) (by kernel_rfl) (fun _ _ _ h => h) (Or.inl ⟨by rfl, by intro w1 hw1; go_simp⟩) h1 ?_
          try simp only [Act.put, List.getElem_toArray, List.getElem_cons_zero, List.getElem_cons_succ, List.setIfInBounds_toArray, List.set_cons_zero, List.set_cons_succ]
          refine wpAnyH_take (i := 9) (fuel := 7) (v := u_prF b) rfl (by kernel_rfl) (by kernel_rfl) (by kernel_rfl) (fun _ _ _ h => h) (Or.inl ⟨by rfl, by intro w1 hw1; go_simp⟩) h1 ?_
          try simp only [Act.put, List.getElem_toArray, List.getElem_cons_zero, List.getElem_cons_succ, List.setIfInBounds_toArray, List.set_cons_zero, List.set_cons_succ]
          refine wpAnyH_take (i := 10) (fuel := 6) (v := .pointer (some ⟨b, 0, none⟩)) rfl (by kernel_rfl) (by kernel_rfl) (by kernel_rfl) (fun _ _ _ h => h) (Or.inl ⟨by rfl, by intro w1 hw1; go_simp⟩) h1 ?_
          try simp only [Act.put, List.getElem_toArray, List.getElem_cons_zero, List.getElem_cons_succ, List.setIfInBounds_toArray, List.set_cons_zero, List.set_cons_succ]
          refine wpAnyH_take (i := 11) (fuel := 5) (v := u_shF b) rfl (by kernel_rfl) (by kernel_rfl) (by kernel_rfl) (fun _ _ _ h => h) (Or.inl ⟨by rfl, by intro w1 hw1; go_simp⟩) h1 ?_
          try simp only [Act.put, List.getElem_toArray, List.getElem_cons_zero, List.getElem_cons_succ, List.setIfInBounds_toArray, List.set_cons_zero, List.set_cons_succ]
          refine wpAnyH_ready (fuel := 4) (rs := [12]) (by kernel_rfl) (by simp) ?_
          refine AllReadyH.cons rfl (fun K hK => ?_) AllReadyH.nil
          · rw [if_pos (by rfl)]
            go_wp2_with fail
            refine (SAY.out _ (TRL.out _ (NS.out.trans (h1.mono NS.out.size)))).mono ?_
            rintro e W9 ⟨rfl, hb⟩
            have n9 : Below WP.heap.size WP W9 := h1.trans (hb.mono h1.size)
            clear hb
            refine hK.out _ _ n9 (fun _ => ?_)
            clear hK
            try simp only [Act.put, List.getElem_toArray, List.getElem_cons_zero, List.getElem_cons_succ, List.setIfInBounds_toArray, List.set_cons_zero, List.set_cons_succ]
            refine wpAnyH_take (i := 13) (fuel := 3) (v := .string r) rfl (by kernel_rfl) (by kernel_rfl) (by kernel_rfl) (fun _ _ _ h => h) (Or.inl ⟨by rfl, by intro w1 hw1; go_simp⟩) n9 ?_
            try simp only [Act.put, List.getElem_toArray, List.getElem_cons_zero, List.getElem_cons_succ, List.setIfInBounds_toArray, List.set_cons_zero, List.set_cons_succ]
            refine wpAnyH_take (i := 14) (fuel := 2) (v := .bool okk) rfl (by kernel_rfl) (by kernel_rfl) (by kernel_rfl) (fun _ _ _ h => h) (Or.inl ⟨by rfl, by intro w1 hw1; go_simp⟩) n9 ?_
            try simp only [Act.put, List.getElem_toArray, List.getElem_cons_zero, List.getElem_cons_succ, List.setIfInBounds_toArray, List.set_cons_zero, List.set_cons_succ]
            refine wpAnyH_take (i := 15) (fuel := 1) (v := .string r) rfl (by kernel_rfl) (by kernel_rfl) (by kernel_rfl) (fun _ _ _ h => h) (Or.inl ⟨by rfl, by intro w1 hw1; go_simp⟩) n9 ?_
            try simp only [Act.put, List.getElem_toArray, List.getElem_cons_zero, List.getElem_cons_succ, List.setIfInBounds_toArray, List.set_cons_zero, List.set_cons_succ]
            refine wpAnyH_take (i := 16) (fuel := 0) (v := .bool okk) rfl (by kernel_rfl) (by kernel_rfl) (by kernel_rfl) (fun _ _ _ h => h) (Or.inl ⟨by rfl, by intro w1 hw1; go_simp⟩) n9 ?_
            try simp only [Act.put, List.getElem_toArray, List.getElem_cons_zero, List.getElem_cons_succ, List.setIfInBounds_toArray, List.set_cons_zero, List.set_cons_succ]
            refine wpAnyH_done (by kernel_rfl) ?_ _
            have LP := hid (TRL.out _ (NS.out.trans (n9.mono NS.out.size)))
            clear n9 h1
            go_wp2_with fail
            go_ret2
            exact ⟨rfl, LP.out⟩
end Go.Proofs.YtdjhmanccoekjaaGreatDoor
end

section
namespace Go.Proofs.YtdjhmanccoekjaaGreatDoor
open Go.RowKit Go.Proofs

set_option maxRecDepth 100000 in
set_option maxHeartbeats 4000000 in
theorem value_told (b : Nat) (s : ByteArray) (aok : Bool) (T : TypeId) (x : Value) (pl mi sh sp ze : Bool) (wid prec verb dp : Int) (w : World) (hn : NotNil T x)
    (AS : ∀ W, Below w.heap.size w W → Calls Tryz.prog 52 #[.pointer (some ⟨b, 0, none⟩), .iface T x, .agg (sp8 pl mi sh sp ze wid prec verb)] W fun e w' => e = .returned (.tuple #[.string s, .bool aok]) ∧ Below W.heap.size W w') (ha : aok = true) :
    Calls Tryz.prog 78 #[.agg (wrC pl mi sh sp ze wid prec verb (askF b)), .iface T x, .int .i64 dp] w fun e w' => e = .returned (.string s) ∧ Below w.heap.size w w' := by
  have IS := hid (fun W => hn.is W)
  have hq : ∀ W : World, (binOp BinOp.neq 107 (askF b) .nilFunc).run Tryz.prog W = .ok (.bool true) W := fun _ => by kernel_rfl
  subst ha
  have AS := hid AS
  have hA := Blk.new w (wrC pl mi sh sp ze wid prec verb (askF b)) 142
  have lp := (Below.refl w.heap.size w).alloc (Nat.le_refl _) (.cells (wrC pl mi sh sp ze wid prec verb (askF b)) 142)
  clear hn
  go_enter Tryz.func78, Tryz.ntmps78
  go_wp2_with fail
  obtain ⟨W0, hW0⟩ : ∃ W0, w.alloc (.cells (wrC pl mi sh sp ze wid prec verb (askF b)) 142) = W0 := ⟨_, rfl⟩
  obtain ⟨B, hB⟩ : ∃ B, w.heap.size = B := ⟨_, rfl⟩
  rw [hW0] at hA lp ⊢
  rw [hB] at hA ⊢
  have HBB := hid hB
  have HA := hid hA
  have LP := hid lp
  clear hA lp hW0 hB
  refine (IS.out _).mono ?_
  rintro e W1 ⟨rfl, hw⟩
  subst hw
  have c0 := HA.out.cell 0
  have c1 := HA.out.cell 1
  have c2 := HA.out.cell 2
  have c3 := HA.out.cell 3
  have c4 := HA.out.cell 4
  have c5 := HA.out.cell 5
  have c6 := HA.out.cell 6
  have c7 := HA.out.cell 7
  have c8 := HA.out.cell 8

  go_wp2_with fail
  refine (AS.out _ LP.out).mono ?_
  rintro e W1 ⟨rfl, hb⟩
  have LP := hid (LP.out.trans (hb.mono LP.out.size))
  clear hb
  clear c0 c1 c2 c3 c4 c5 c6 c7 c8
  go_wp2_with fail
  go_ret
  exact ⟨rfl, LP.out⟩
end Go.Proofs.YtdjhmanccoekjaaGreatDoor
end

section
namespace Go.Proofs.YtdjhmanccoekjaaGreatDoor
open Go.RowKit Go.Proofs

theorem desc_bytes : (Tryz.prog.info? 29).map (·.bytes) = some 112 := by kernel_rfl
theorem desc_zero : (Tryz.prog.info? 29).bind (·.zero) = some (.agg de0) := by kernel_rfl
theorem hook_bytes : (Tryz.prog.info? 34).map (·.bytes) = some 704 := by kernel_rfl
theorem hook_zero : (Tryz.prog.info? 34).bind (·.zero) = some (.agg hk0) := by kernel_rfl
/-- A row of one in a block: the first cells are its. -/
structure One (W : World) (T : TypeId) (G : Nat) (cap : Nat) (vs : Array Value) : Prop where
  at_ : ∃ cur, Blk W G cur T ∧ cur.toList.take vs.size = vs.toList
  cap1 : 1 ≤ cap
  capm : cap ≤ 9223372036854775807
set_option maxRecDepth 100000 in
set_option maxHeartbeats 4000000 in
theorem dclone_one (g : Nat) (d : De) (w : World) (hA : Blk w g (deV d) 29) :
    Calls Tryz.prog 62 #[.slice (some ⟨g, 0, none⟩) 1 1] w fun e w' => ∃ G cap, e = .returned (.slice (some ⟨G, 0, none⟩) 1 cap) ∧ w.heap.size ≤ G ∧ One w' 29 G cap (deV d) ∧ Below w.heap.size w w' := by
  have HA := hid hA
  clear hA
  have hq : ∀ W : World, (binOp BinOp.eql 25 (.slice (some ⟨g, 0, none⟩) 1 1) (.slice none 0 0)).run Tryz.prog W = .ok (.bool false) W := fun _ => by kernel_rfl
  go_enter Tryz.func62, Tryz.ntmps62
  go_upto_region 3 with fail
  refine wp_region_list ?_
  refine wpList_plain rfl fun K hK => ?_
  have HK := hid hK
  clear hK
  go_wp2_with fail
  refine HK.out _ _ ?_
  clear HK
  refine wpList_plain rfl fun K hK => ?_
  have HK := hid hK
  clear hK
  go_wp2_with fail
  refine HK.out _ _ ?_
  clear HK
  have hi0 := desc_bytes
  have hz0 := desc_zero
  have hs0 := desc_size
  cases hie : Tryz.prog.info? 29 with
  | none => simp [hie] at hs0
  | some ie =>
    rw [hie] at hi0 hz0 hs0
    simp only [Option.bind_some, Option.map_some, Option.some.injEq] at hi0 hz0 hs0
    refine wpList_append_own (P := Tryz.prog) (w := w.alloc (.cells #[] 29)) rfl (.tmp 5) (.tmp 6) 25 rfl w.heap.size 29 ie (.agg de0) 8 112 Tryz.underlying25 hie hz0 hs0 hi0 rfl (by decide) (.slice (some ⟨w.heap.size, 0, none⟩) 0 0) 0 [] rfl
      (World.ownsRow_made w #[] 0 (Nat.le_refl _) (by decide) (by simp)) ⟨g, 0, none⟩ 1 1 (deV d).toList rfl (by rfl) ?_ ?_ (by unfold maxLen; omega) (by omega) (by simp) ?_
    · intro j u hu
      rw [Addr.add_mid, Nat.zero_add, (HA.out.alloc _).cell]
      simpa using hu
    · exact fun u hu => (Array.all_eq_true_iff_forall_mem.1 (deV_one _)) u (by simpa using hu)
    · intro v' w' h2 h3 h4
      have hb : Below w.heap.size w w' := Below.grown ((Below.refl w.heap.size w).alloc (Nat.le_refl _) (.cells #[] 29)) h3 (by simp) (fun k hk => by
        have : (w.heap.size : Nat) = k := by simpa [Value.ownBlock] using hk
        omega)
      rcases h2.2 with ⟨h0, _⟩ | ⟨G, cap, cur, rfl, hg, hG, hn, hm, hsz, htk⟩
      · exact absurd (h4.1 h0).2 (by decide)
      · have RES := hid (And.intro hg (And.intro (One.mk (T := 29) (W := w') (G := G) (cap := cap) (vs := deV d) ⟨cur, hG, by simpa using htk⟩ hn (by simpa [maxLen] using hm)) hb))
        clear hg hG hn hm hsz htk h3 h4 hb h2 hie hi0 hz0 hs0
        refine wpList_plain rfl fun K hK => ?_
        have HK := hid hK
        clear hK
        go_wp2_with fail
        refine HK.out _ _ ?_
        clear HK
        refine wpList_nil ?_
        go_wp2_with fail
        go_ret
        exact ⟨G, cap, rfl, RES.out.1, RES.out.2.1, RES.out.2.2⟩
set_option maxRecDepth 100000 in
set_option maxHeartbeats 4000000 in
theorem hclone_one (g : Nat) (d : Hk) (w : World) (hA : Blk w g (hkV d) 34) :
    Calls Tryz.prog 38 #[.slice (some ⟨g, 0, none⟩) 1 1] w fun e w' => ∃ G cap, e = .returned (.slice (some ⟨G, 0, none⟩) 1 cap) ∧ w.heap.size ≤ G ∧ One w' 34 G cap (hkV d) ∧ Below w.heap.size w w' := by
  have HA := hid hA
  clear hA
  have hq : ∀ W : World, (binOp BinOp.eql 35 (.slice (some ⟨g, 0, none⟩) 1 1) (.slice none 0 0)).run Tryz.prog W = .ok (.bool false) W := fun _ => by kernel_rfl
  go_enter Tryz.func38, Tryz.ntmps38
  go_upto_region 3 with fail
  refine wp_region_list ?_
  refine wpList_plain rfl fun K hK => ?_
  have HK := hid hK
  clear hK
  go_wp2_with fail
  refine HK.out _ _ ?_
  clear HK
  refine wpList_plain rfl fun K hK => ?_
  have HK := hid hK
  clear hK
  go_wp2_with fail
  refine HK.out _ _ ?_
  clear HK
  have hi0 := hook_bytes
  have hz0 := hook_zero
  have hs0 := hook_size
  cases hie : Tryz.prog.info? 34 with
  | none => simp [hie] at hs0
  | some ie =>
    rw [hie] at hi0 hz0 hs0
    simp only [Option.bind_some, Option.map_some, Option.some.injEq] at hi0 hz0 hs0
    refine wpList_append_own (P := Tryz.prog) (w := w.alloc (.cells #[] 34)) rfl (.tmp 5) (.tmp 6) 35 rfl w.heap.size 34 ie (.agg hk0) 48 704 Tryz.underlying35 hie hz0 hs0 hi0 rfl (by decide) (.slice (some ⟨w.heap.size, 0, none⟩) 0 0) 0 [] rfl
      (World.ownsRow_made w #[] 0 (Nat.le_refl _) (by decide) (by simp)) ⟨g, 0, none⟩ 1 1 (hkV d).toList rfl (by rfl) ?_ ?_ (by unfold maxLen; omega) (by omega) (by simp) ?_
    · intro j u hu
      rw [Addr.add_mid, Nat.zero_add, (HA.out.alloc _).cell]
      simpa using hu
    · exact fun u hu => (Array.all_eq_true_iff_forall_mem.1 (hkV_one _)) u (by simpa using hu)
    · intro v' w' h2 h3 h4
      have hb : Below w.heap.size w w' := Below.grown ((Below.refl w.heap.size w).alloc (Nat.le_refl _) (.cells #[] 34)) h3 (by simp) (fun k hk => by
        have : (w.heap.size : Nat) = k := by simpa [Value.ownBlock] using hk
        omega)
      rcases h2.2 with ⟨h0, _⟩ | ⟨G, cap, cur, rfl, hg, hG, hn, hm, hsz, htk⟩
      · exact absurd (h4.1 h0).2 (by decide)
      · have RES := hid (And.intro hg (And.intro (One.mk (T := 34) (W := w') (G := G) (cap := cap) (vs := hkV d) ⟨cur, hG, (show (hkV d).size = 48 from rfl) ▸ (by simpa using htk)⟩ hn (by simpa [maxLen] using hm)) hb))
        clear hg hG hn hm hsz htk h3 h4 hb h2 hie hi0 hz0 hs0
        refine wpList_plain rfl fun K hK => ?_
        have HK := hid hK
        clear hK
        go_wp2_with fail
        refine HK.out _ _ ?_
        clear HK
        refine wpList_nil ?_
        go_wp2_with fail
        go_ret
        exact ⟨G, cap, rfl, RES.out.1, RES.out.2.1, RES.out.2.2⟩
end Go.Proofs.YtdjhmanccoekjaaGreatDoor
end

section
namespace Go.Proofs.YtdjhmanccoekjaaGreatDoor
open Go.RowKit Go.Proofs

/-- A descriptor without names and parts. -/
def deBare (d : De) : De := { d with nm := ⟨none, 0, 0⟩, pa := ⟨none, 0, 0⟩ }
theorem Only.setRow_new {R : Nat} {a c : World} (h : Only R a c) {g : Nat} (hg : a.heap.size ≤ g) (vs : Array Value) : Only R a (c.setRow g vs) :=
  ⟨h.os, h.tape, h.output, by rw [setRow_size]; exact h.size, fun k hk hne => (setRow_far (by omega) c vs).trans (h.block k hk hne)⟩
set_option maxRecDepth 100000 in
set_option maxHeartbeats 4000000 in
theorem one_plain (P : Nat) (n : Int) (d : De) (w : World) (hP : Blk w P #[.int .i64 n] 3) (h0 : 1 ≤ n) (h1 : n ≤ 1000) (hk : d.k < 18) :
    Calls Tryz.prog 63 #[.agg (deV d), .pointer (some ⟨P, 0, none⟩)] w fun e w' => e = .returned (.agg (deV (deBare d))) ∧ Only P w w' := by
  have hkk : decide (d.k < 18) = true := decide_eq_true hk
  have hn1 : IntKind.i64.wrap (n - 1) = n - 1 := IntWalk.i64_in _ (by omega)
  have hn0 : decide (n - 1 < 0) = false := decide_eq_false (by omega)
  have HP := hid hP
  have hPl := hP.lt
  obtain ⟨S, hS⟩ : ∃ S, w.heap.size = S := ⟨_, rfl⟩
  have HSS := hid hS
  go_enter Tryz.func63, Tryz.ntmps63
  go_upto_region 1 with fail
  have p0 := (HP.out.alloc (.cells (deV d) 29)).alloc (.cells de0 29)
  have d0 := (Blk.new w (deV d) 29).alloc (.cells de0 29)
  have r0 := Blk.new (w.alloc (.cells (deV d) 29)) de0 29
  have o0 : Only P w ((w.alloc (.cells (deV d) 29)).alloc (.cells de0 29)) := ((Only.refl P w).alloc _).alloc _
  rw [show (w.alloc (.cells (deV d) 29)).heap.size = S + 1 by rw [← hS]; simp] at r0
  rw [hS] at d0
  obtain ⟨W0, hW0⟩ : ∃ W0, (w.alloc (.cells (deV d) 29)).alloc (.cells de0 29) = W0 := ⟨_, rfl⟩
  rw [hW0] at p0 d0 r0 o0 ⊢
  obtain ⟨R, hR⟩ : ∃ R, S + 1 = R := ⟨_, rfl⟩
  rw [hR] at r0 ⊢
  have HR := hid hR
  have o1 := o0.set_ 0 (.int .i64 (n - 1))
  have p1 := p0.set_ 0 (.int .i64 (n - 1))
  have d1 := d0.far (p := ⟨P, 0, none⟩) (show S ≠ P by omega) (.int .i64 (n - 1))
  have r1 := r0.far (p := ⟨P, 0, none⟩) (show R ≠ P by omega) (.int .i64 (n - 1))
  have c0 := p0.cell 0
  have f0 := p0.frozen 0
  have P1 := hid p1
  have D1 := hid d1
  have R1 := hid r1
  have O1 := hid o1
  clear p0 d0 r0 o0 p1 d1 r1 o1 hW0 hS hR
  go_upto_region 2 with fail
  obtain ⟨W1, hW1⟩ : ∃ W1, W0.setCell ⟨P, 0, none⟩ (.int .i64 (n - 1)) = W1 := ⟨_, rfl⟩
  rw [hW1] at P1 D1 R1 O1 ⊢
  clear hW1 c0 f0
  have c1 := P1.out.cell 0
  have k1 := D1.out.cell 0
  have k5 := D1.out.cell 5
  have k6 := D1.out.cell 6
  have g5 := D1.out.frozen 5
  have g6 := D1.out.frozen 6
  go_upto_region 6 with fail
  clear c1 k1 k5 k6 g5 g6 hkk hn1 hn0
  have d2 : Blk ((W1.setCell ⟨S, 5, none⟩ (.slice none 0 0)).setCell ⟨S, 6, none⟩ (.slice none 0 0)) S (deV (deBare d)) 29 := (D1.out.set_ 5 (.slice none 0 0)).set_ 6 (.slice none 0 0)
  have r2 := (R1.out.far (p := ⟨S, 5, none⟩) (show R ≠ S by have := HR.out; omega) (.slice none 0 0)).far (p := ⟨S, 6, none⟩) (show R ≠ S by have := HR.out; omega) (.slice none 0 0)
  have o2 := (O1.out.far_new (p := ⟨S, 5, none⟩) (show w.heap.size ≤ S by have := HSS.out; omega) (.slice none 0 0)).far_new (p := ⟨S, 6, none⟩) (show w.heap.size ≤ S by have := HSS.out; omega) (.slice none 0 0)
  obtain ⟨W2, hW2⟩ : ∃ W2, (W1.setCell ⟨S, 5, none⟩ (.slice none 0 0)).setCell ⟨S, 6, none⟩ (.slice none 0 0) = W2 := ⟨_, rfl⟩
  rw [hW2] at d2 r2 o2 ⊢
  clear hW2 D1 R1 O1 P1 HP
  refine wp_region_list ?_
  refine wpList_load_mid rfl 29 (.tmp 2) rfl S 0 rfl (deV (deBare d)).toList _ (fun j v hv => by rw [Nat.zero_add, d2.cell]; simpa using hv) Tryz.underlying29 rfl desc_size ?_
  refine wpList_store_rowTo rfl 29 _ _ rfl rfl R (deV (deBare d)) rfl rfl 29 de0 r2 desc_size rfl (deV_one _) ?_
  have r3 := r2.setRow (deV (deBare d))
  have o3 : Only P w (W2.setRow R (deV (deBare d))) := o2.setRow_new (show w.heap.size ≤ R by have := HSS.out; have := HR.out; omega) _
  obtain ⟨W3, hW3⟩ : ∃ W3, W2.setRow R (deV (deBare d)) = W3 := ⟨_, rfl⟩
  rw [hW3] at r3 o3 ⊢
  have R3 := hid r3
  have O3 := hid o3
  clear d2 r2 o2 r3 o3 hW3
  refine wpList_nil ?_
  go_wp2_with fail
  have HL := run_loadVar_mid (P := Tryz.prog) W3 R 0 29 (deV (deBare d)).toList _ (fun j v hv => by rw [Nat.zero_add, R3.out.cell]; simpa using hv) Tryz.underlying29 rfl desc_size
  refine bodyPost_ret (v := .agg (deV (deBare d))) ?_ rfl ⟨rfl, O3.out⟩
  simp [results, Tryz.results63, asAddr, Act.put, HL]
set_option maxRecDepth 100000 in
set_option maxHeartbeats 4000000 in
theorem descs_nil (w : World) : Calls Tryz.prog 39 #[.slice none 0 0] w fun e w' => e = .returned (.slice none 0 0) ∧ Below w.heap.size w w' := by
  have CL : ∀ W, Calls Tryz.prog 62 #[sliceN] W fun e w' => e = .returned sliceN ∧ W = w' := fun W => by
    have hne : ∀ W : World, (binOp BinOp.eql 25 (.slice none 0 0) (.slice none 0 0)).run Tryz.prog W = .ok (.bool true) W := fun _ => by kernel_rfl
    go_enter Tryz.func62, Tryz.ntmps62
    go_wp2_with fail
    go_ret
    exact ⟨rfl, rfl⟩
  have CL := hid CL
  go_enter Tryz.func39, Tryz.ntmps39
  go_wp2_with fail
  refine (CL.out _).mono ?_
  rintro e W1 ⟨rfl, hw⟩
  subst hw
  go_wp2_with fail
  refine wp_loop_rounds 1 ?_
  repeat (rw [rounds_succ]; go_wp2_with fail)
  go_ret
  exact ⟨rfl, Below.refl _ _⟩
/-- The row of one is written anew. -/
theorem One.cur {W : World} {T : TypeId} {G cap : Nat} {vs : Array Value} (h : One W T G cap vs) : ∃ r : List Value, Blk W G (vs.toList ++ r).toArray T := by
  obtain ⟨cur, hb, ht⟩ := h.at_
  refine ⟨cur.toList.drop vs.size, ?_⟩
  rw [← ht, List.take_append_drop]
  exact hb
theorem One.put {W : World} {T : TypeId} {G cap : Nat} {vs : Array Value} (h : One W T G cap vs) (us : Array Value) (hl : us.size = vs.size) : One (W.setCells G 0 us.toList) T G cap us := by
  obtain ⟨r, hb⟩ := h.cur
  have e := setMany_mid us.toList [] vs.toList r (by simpa using hl)
  have := hb.setCells us.toList 0 W _
  simp only [List.nil_append, List.length_nil] at e
  rw [e] at this
  exact ⟨⟨_, this, by simp⟩, h.cap1, h.capm⟩
theorem One.cell {W : World} {T : TypeId} {G cap : Nat} {vs : Array Value} (h : One W T G cap vs) : ∀ j v, vs[j]? = some v → W.cell? ⟨G, j, none⟩ = some v := by
  intro j v hv
  obtain ⟨r, hb⟩ := h.cur
  have hj : j < vs.size := by
    rcases Nat.lt_or_ge j vs.size with q | q
    · exact q
    · rw [Array.getElem?_eq_none q] at hv; cases hv
  rw [hb.cell, List.getElem?_toArray, List.getElem?_append_left (by simpa using hj)]
  simpa using hv
theorem One.there {W : World} {T : TypeId} {G cap : Nat} {vs : Array Value} (h : One W T G cap vs) (o n : Nat) (hn : o + n ≤ vs.size) : W.there G o n := by
  obtain ⟨r, hb⟩ := h.cur
  exact hb.there o n (by simp; omega)
theorem One.below {W W' : World} {T : TypeId} {G cap : Nat} {vs : Array Value} (h : One W T G cap vs) {B : Nat} (hb : Below B W W') (hG : G < B) : One W' T G cap vs := by
  obtain ⟨cur, h1, h2⟩ := h.at_
  exact ⟨⟨cur, h1.below hb hG, h2⟩, h.cap1, h.capm⟩
theorem One.same {W W' : World} {T : TypeId} {G cap : Nat} {vs : Array Value} (h : One W T G cap vs) (hb : W'.heap[G]? = W.heap[G]?) : One W' T G cap vs := by
  obtain ⟨cur, h1, h2⟩ := h.at_
  exact ⟨⟨cur, h1.same hb, h2⟩, h.cap1, h.capm⟩
theorem One.lt {W : World} {T : TypeId} {G cap : Nat} {vs : Array Value} (h : One W T G cap vs) : G < W.heap.size := by
  obtain ⟨cur, h1, _⟩ := h.at_
  exact h1.lt
theorem One.alloc {W : World} {T : TypeId} {G cap : Nat} {vs : Array Value} (h : One W T G cap vs) (o : Obj) : One (W.alloc o) T G cap vs := by
  obtain ⟨cur, h1, h2⟩ := h.at_
  exact ⟨⟨cur, h1.alloc o, h2⟩, h.cap1, h.capm⟩
set_option maxRecDepth 100000 in
set_option maxHeartbeats 4000000 in
theorem descs_one (g : Nat) (d : De) (w : World) (hA : Blk w g (deV d) 29) (hk : d.k < 18) :
    Calls Tryz.prog 39 #[.slice (some ⟨g, 0, none⟩) 1 1] w fun e w' => ∃ G cap, e = .returned (.slice (some ⟨G, 0, none⟩) 1 cap) ∧ w.heap.size ≤ G ∧ One w' 29 G cap (deV (deBare d)) ∧ Below w.heap.size w w' := by
  have CL := hid (dclone_one g d w hA)
  have ON := hid (fun P W hP => one_plain P 65 d W hP (by decide) (by decide) hk)
  clear hA
  go_enter Tryz.func39, Tryz.ntmps39
  go_wp2_with fail
  refine (CL.out).mono ?_
  rintro e W1 ⟨G, cap, rfl, hg, hO, hb⟩
  have HG := hid hg
  have HO := hid hO
  have HB := hid hb
  clear hg hO hb CL
  go_wp2_with fail
  refine wp_loop_rounds 2 ?_
  rw [rounds_succ]
  go_upto_region 6 with fail
  have q0 := Blk.new W1 #[.int .i64 65] 3
  have b0 : Below W1.heap.size W1 (W1.alloc (.cells #[.int .i64 65] 3)) := (Below.refl _ _).alloc (Nat.le_refl _) _
  obtain ⟨W2, hW2⟩ : ∃ W2, W1.alloc (.cells #[.int .i64 65] 3) = W2 := ⟨_, rfl⟩
  rw [hW2] at q0 b0 ⊢
  obtain ⟨Q, hQ⟩ : ∃ Q, W1.heap.size = Q := ⟨_, rfl⟩
  rw [hQ] at q0 b0 ⊢
  have hGQ : G < Q := by have := HO.out.lt; omega
  have HO2 := hid (HO.out.below b0 hGQ)
  have HB2 := hid (HB.out.trans (b0.mono (by have := HB.out.size; omega)))
  have HQ2 := hid q0
  have HGQ := hid hGQ
  have HQW := hid (show w.heap.size ≤ Q by have := HB.out.size; omega)
  clear q0 b0 hW2 hQ hGQ HO HB
  refine wp_region_list ?_
  refine wpList_plain rfl fun K hK => ?_
  have HK := hid hK
  clear hK
  go_wp2_with fail
  refine HK.out _ _ ?_
  clear HK
  refine wpList_plain rfl fun K hK => ?_
  have HK := hid hK
  clear hK
  go_wp2_with fail
  refine HK.out _ _ ?_
  clear HK
  refine wpList_plain rfl fun K hK => ?_
  have HK := hid hK
  clear hK
  go_wp2_with fail
  refine HK.out _ _ ?_
  clear HK
  refine wpList_plain rfl fun K hK => ?_
  have HK := hid hK
  clear hK
  go_wp2_with fail
  refine HK.out _ _ ?_
  clear HK
  refine wpList_plain rfl fun K hK => ?_
  have HK := hid hK
  clear hK
  go_wp2_with fail
  refine HK.out _ _ ?_
  clear HK
  refine wpList_load_mid rfl 29 (.tmp 21) rfl G 0 rfl (deV d).toList _ (fun j v hv => by rw [Nat.zero_add]; exact HO2.out.cell j v (by simpa using hv)) Tryz.underlying29 rfl desc_size ?_
  refine wpList_plain rfl fun K hK => ?_
  have HK := hid hK
  clear hK
  go_wp2_with fail
  refine (ON.out _ _ HQ2.out).mono ?_
  rintro e W3 ⟨rfl, ho⟩
  have HO3 := hid (One.same HO2.out (ho.block G HO2.out.lt (by have := HGQ.out; omega)))
  have HB3 := hid (HB2.out.trans (ho.below (B := w.heap.size) HB2.out.size HQW.out))
  clear ho
  refine HK.out _ _ ?_
  clear HK
  refine wpList_plain rfl fun K hK => ?_
  have HK := hid hK
  clear hK
  go_wp2_with fail
  refine HK.out _ _ ?_
  clear HK
  refine wpList_store_mid rfl 29 (.tmp 24) (.tmp 23) rfl G 0 (deV (deBare d)) rfl rfl (HO3.out.there 0 8 (Nat.le_refl 8)) desc_size (deV_one _) ?_
  have HO4 := hid (HO3.out.put (deV (deBare d)) rfl)
  have HB4 := hid (below_setCells HB3.out G HG.out (deV (deBare d)).toList 0)
  obtain ⟨W4, hW4⟩ : ∃ W4, W3.setCells G 0 (deV (deBare d)).toList = W4 := ⟨_, rfl⟩
  rw [hW4] at HO4 HB4 ⊢
  clear hW4
  refine wpList_nil ?_
  go_wp2_with fail
  rw [rounds_succ]
  go_wp2_with fail
  go_ret
  exact ⟨G, cap, rfl, HG.out, HO4.out, HB4.out⟩
end Go.Proofs.YtdjhmanccoekjaaGreatDoor
end
