/-
  Walks of layer 11: what a method does.
-/
import Derived.Test.YtaniahkagmjkoaaDoorH8
namespace Go.Proofs.YtaniahkagmjkoaaDoor
open Go.RowKit Go.Proofs

abbrev mt0 : Array Value := #[.int .i64 0, .string ⟨#[]⟩, .string ⟨#[]⟩, .slice none 0 0, .int .i64 0, .string ⟨#[]⟩, .int .u64 0, .int .u64 0, .string ⟨#[]⟩, .slice none 0 0, .slice none 0 0, .int .i64 0, .nilFunc]
abbrev doArgs (a : Ac) (nil : Bool) (v : Int) (name : ByteArray) (X : Nat) : Array Value := #[.agg (acV a), .bool nil, .int .i32 v, .string name, prF X, shF X]

set_option maxRecDepth 100000 in
set_option maxHeartbeats 1000000 in
theorem do_lacks (a : Ac) (nil : Bool) (v : Int) (name : ByteArray) (X : Nat) (W : World) (hth : thereB a.k = false) : Calls Tryd.prog 16 (doArgs a nil v name X) W fun e w' => e = .returned (.tuple #[.string ⟨#[]⟩, .bool false]) ∧ Below W.heap.size W w' := by
  have B0 := (Below.refl W.heap.size W).alloc (Nat.le_refl _) (.cells (acV a) 28)
  have A0 := Blk.new W (acV a) 28
  obtain ⟨B, hB⟩ : ∃ B, W.heap.size = B := ⟨_, rfl⟩
  have HBB := hid hB
  have TH := hid (fun W => there_any a W)
  go_enter Tryd.func16, Tryd.ntmps16
  go_upto_region 1 with fail
  obtain ⟨W0, hW0⟩ : ∃ W0, W.alloc (.cells (acV a) 28) = W0 := ⟨_, rfl⟩
  rw [hW0] at B0 A0 ⊢
  rw [hB] at A0
  have BL := hid B0
  have AL := hid A0
  clear B0 A0 hW0 hB
  refine wp_region_list ?_
  refine wpList_load_mid rfl 28 (.tmp 6) rfl B 0 rfl (acV a).toList _ (fun j v hv => by rw [Nat.zero_add, AL.out.cell]; simpa using hv) Tryd.underlying28 rfl act_size ?_
  refine wpList_plain rfl fun K hK => ?_
  have HK := hid hK
  clear hK
  go_wp2_with fail
  refine (TH.out _).mono ?_
  rintro e W1 ⟨rfl, hb⟩
  have BL := hid (BL.out.trans (hb.mono BL.out.size))
  have AL := hid (AL.out.below hb AL.out.lt)
  rw [hth]
  clear hb
  refine HK.out _ _ ?_
  clear HK
  refine wpList_plain rfl fun K hK => ?_
  have HK := hid hK
  clear hK
  go_wp2_with fail
  refine HK.out _ _ ?_
  clear HK
  refine wpList_nil ?_
  go_wp2_with fail
  go_ret2
  exact ⟨rfl, BL.out⟩
set_option maxRecDepth 100000 in
set_option maxHeartbeats 1000000 in
theorem do_ret (a : Ac) (nil : Bool) (v : Int) (name : ByteArray) (X : Nat) (p s : Int) (t : ByteArray) (W : World) (hth : thereB a.k = true)
    (CA : ∀ W', Below W.heap.size W W' → Calls Tryd.prog 29 #[rnF a X] W' fun e w' => e = .returned (.tuple #[.string t, .pointer none]) ∧ AskB w' X p s ∧ Only X W' w') :
    Calls Tryd.prog 16 (doArgs a nil v name X) W fun e w' => e = .returned (.tuple #[.string t, .bool true]) ∧ AskB w' X p s ∧ Only X W w' := by
  have hmf : ∀ (fn : Fn) (first cap : Array Value) (w : World), (Instr.makeFunc fn first cap).run Tryd.prog w = .ok (.func fn first cap) w := fun _ _ _ _ => rfl
  have HCA := hid CA
  clear CA
  have B0 := (Below.refl W.heap.size W).alloc (Nat.le_refl _) (.cells (acV a) 28)
  have A0 := Blk.new W (acV a) 28
  obtain ⟨B, hB⟩ : ∃ B, W.heap.size = B := ⟨_, rfl⟩
  have HBB := hid hB
  have TH := hid (fun W => there_any a W)
  go_enter Tryd.func16, Tryd.ntmps16
  go_upto_region 1 with fail
  obtain ⟨W0, hW0⟩ : ∃ W0, W.alloc (.cells (acV a) 28) = W0 := ⟨_, rfl⟩
  rw [hW0] at B0 A0 ⊢
  rw [hB] at A0
  have BL := hid B0
  have AL := hid A0
  clear B0 A0 hW0 hB
  refine wp_region_list ?_
  refine wpList_load_mid rfl 28 (.tmp 6) rfl B 0 rfl (acV a).toList _ (fun j v hv => by rw [Nat.zero_add, AL.out.cell]; simpa using hv) Tryd.underlying28 rfl act_size ?_
  refine wpList_plain rfl fun K hK => ?_
  have HK := hid hK
  clear hK
  go_wp2_with fail
  refine (TH.out _).mono ?_
  rintro e W1 ⟨rfl, hb⟩
  have BL := hid (BL.out.trans (hb.mono BL.out.size))
  have AL := hid (AL.out.below hb AL.out.lt)
  rw [hth]
  clear hb
  refine HK.out _ _ ?_
  clear HK
  refine wpList_plain rfl fun K hK => ?_
  have HK := hid hK
  clear hK
  go_wp2_with fail
  refine HK.out _ _ ?_
  clear HK
  refine wpList_nil ?_
  go_upto_region 3 with fail
  refine wp_region_list ?_
  refine wpList_load_mid rfl 28 (.tmp 6) rfl B 0 rfl (acV a).toList _ (fun j v hv => by rw [Nat.zero_add, AL.out.cell]; simpa using hv) Tryd.underlying28 rfl act_size ?_
  refine wpList_plain rfl fun K hK => ?_
  have HK := hid hK
  clear hK
  go_wp2_with fail
  refine HK.out _ _ ?_
  clear HK
  refine wpList_buildTo rfl 63 _ rfl (some 22) rfl (mtV a X) (by kernel_rfl) ?_
  refine wpList_plain rfl fun K hK => ?_
  have HK := hid hK
  clear hK
  go_wp2_with fail
  refine HK.out _ _ ?_
  clear HK
  have hG := Blk.new W1 mt0 63
  refine wpList_store_rowTo rfl 63 _ _ rfl rfl W1.heap.size (mtV a X) rfl rfl 63 mt0 hG meth_size rfl (mtV_one _ _) ?_
  have hG2 := hG.setRow (mtV a X)
  have b3 : Below W1.heap.size W1 ((W1.alloc (.cells mt0 63)).setRow W1.heap.size (mtV a X)) := below_setRow ((Below.refl _ _).alloc (Nat.le_refl _) _) W1.heap.size (Nat.le_refl _) (mtV a X)
  obtain ⟨W2, hW2⟩ : ∃ W2, (W1.alloc (.cells mt0 63)).setRow W1.heap.size (mtV a X) = W2 := ⟨_, rfl⟩
  rw [hW2] at hG2 b3 ⊢
  obtain ⟨G, hGG⟩ : ∃ G, W1.heap.size = G := ⟨_, rfl⟩
  rw [hGG] at hG2 ⊢
  have ML := hid hG2
  have BL := hid (BL.out.trans (b3.mono BL.out.size))
  clear hG hG2 hW2 hGG b3
  refine wpList_nil ?_
  go_upto_region 4 with fail
  refine wp_region_list ?_
  refine wpList_load_mid rfl 63 (.tmp 14) rfl G 0 rfl (mtV a X).toList _ (fun j v hv => by rw [Nat.zero_add, ML.out.cell]; simpa using hv) Tryd.underlying63 rfl meth_size ?_
  refine wpList_plain rfl fun K hK => ?_
  have HK := hid hK
  clear hK
  go_wp2_with fail
  refine HK.out _ _ ?_
  clear HK
  refine wpList_plain rfl fun K hK => ?_
  have HK := hid hK
  clear hK
  go_wp2_with fail
  refine (HCA.out _ BL.out).mono ?_
  rintro e W3 ⟨rfl, hx, ho⟩
  have N := hid (And.intro hx ((Only.of_below BL.out : Only X W W2).trans ho))
  clear hx ho
  refine HK.out _ _ ?_
  clear HK
  refine wpList_plain rfl fun K hK => ?_
  have HK := hid hK
  clear hK
  go_wp2_with fail
  refine HK.out _ _ ?_
  clear HK
  go_wp2_with fail
  go_ret2
  exact ⟨rfl, N.out⟩
/-- What is said of a method that threw. -/
def panicS (v : Int) (name val : ByteArray) : ByteArray := insS (Utf8.encode v) ((((⟨#[80, 65, 78, 73, 67, 61]⟩ : ByteArray) ++ name) ++ (⟨#[32, 109, 101, 116, 104, 111, 100, 58, 32]⟩ : ByteArray)) ++ val)
theorem showS_size (d : De) : (showS d).size ≤ d.t.size + 12 := by
  have h := kindS_size d.k
  unfold showS
  rw [ByteArray.size_append, ByteArray.size_append, ByteArray.size_append]
  have h1 : (⟨#[123]⟩ : ByteArray).size = 1 := rfl
  have h2 : (⟨#[125]⟩ : ByteArray).size = 1 := rfl
  omega
set_option maxRecDepth 100000 in
set_option maxHeartbeats 1000000 in
theorem do_nil (a : Ac) (v : Int) (name : ByteArray) (X : Nat) (W : World) (h2 : a.k = 2) : Calls Tryd.prog 16 (doArgs a true v name X) W fun e w' => e = .returned (.tuple #[.string ⟨#[60, 110, 105, 108, 62]⟩, .bool false]) ∧ Below W.heap.size W w' := by
  have hmf : ∀ (fn : Fn) (first cap : Array Value) (w : World), (Instr.makeFunc fn first cap).run Tryd.prog w = .ok (.func fn first cap) w := fun _ _ _ _ => rfl
  have HCA := hid (fun W' => caught_thr a X W' h2)
  have hth : thereB a.k = true := by rw [h2]; rfl
  clear h2
  have B0 := (Below.refl W.heap.size W).alloc (Nat.le_refl _) (.cells (acV a) 28)
  have A0 := Blk.new W (acV a) 28
  obtain ⟨B, hB⟩ : ∃ B, W.heap.size = B := ⟨_, rfl⟩
  have HBB := hid hB
  have TH := hid (fun W => there_any a W)
  go_enter Tryd.func16, Tryd.ntmps16
  go_upto_region 1 with fail
  obtain ⟨W0, hW0⟩ : ∃ W0, W.alloc (.cells (acV a) 28) = W0 := ⟨_, rfl⟩
  rw [hW0] at B0 A0 ⊢
  rw [hB] at A0
  have BL := hid B0
  have AL := hid A0
  clear B0 A0 hW0 hB
  refine wp_region_list ?_
  refine wpList_load_mid rfl 28 (.tmp 6) rfl B 0 rfl (acV a).toList _ (fun j v hv => by rw [Nat.zero_add, AL.out.cell]; simpa using hv) Tryd.underlying28 rfl act_size ?_
  refine wpList_plain rfl fun K hK => ?_
  have HK := hid hK
  clear hK
  go_wp2_with fail
  refine (TH.out _).mono ?_
  rintro e W1 ⟨rfl, hb⟩
  have BL := hid (BL.out.trans (hb.mono BL.out.size))
  have AL := hid (AL.out.below hb AL.out.lt)
  rw [hth]
  clear hb
  refine HK.out _ _ ?_
  clear HK
  refine wpList_plain rfl fun K hK => ?_
  have HK := hid hK
  clear hK
  go_wp2_with fail
  refine HK.out _ _ ?_
  clear HK
  refine wpList_nil ?_
  go_upto_region 3 with fail
  refine wp_region_list ?_
  refine wpList_load_mid rfl 28 (.tmp 6) rfl B 0 rfl (acV a).toList _ (fun j v hv => by rw [Nat.zero_add, AL.out.cell]; simpa using hv) Tryd.underlying28 rfl act_size ?_
  refine wpList_plain rfl fun K hK => ?_
  have HK := hid hK
  clear hK
  go_wp2_with fail
  refine HK.out _ _ ?_
  clear HK
  refine wpList_buildTo rfl 63 _ rfl (some 22) rfl (mtV a X) (by kernel_rfl) ?_
  refine wpList_plain rfl fun K hK => ?_
  have HK := hid hK
  clear hK
  go_wp2_with fail
  refine HK.out _ _ ?_
  clear HK
  have hG := Blk.new W1 mt0 63
  refine wpList_store_rowTo rfl 63 _ _ rfl rfl W1.heap.size (mtV a X) rfl rfl 63 mt0 hG meth_size rfl (mtV_one _ _) ?_
  have hG2 := hG.setRow (mtV a X)
  have b3 : Below W1.heap.size W1 ((W1.alloc (.cells mt0 63)).setRow W1.heap.size (mtV a X)) := below_setRow ((Below.refl _ _).alloc (Nat.le_refl _) _) W1.heap.size (Nat.le_refl _) (mtV a X)
  obtain ⟨W2, hW2⟩ : ∃ W2, (W1.alloc (.cells mt0 63)).setRow W1.heap.size (mtV a X) = W2 := ⟨_, rfl⟩
  rw [hW2] at hG2 b3 ⊢
  obtain ⟨G, hGG⟩ : ∃ G, W1.heap.size = G := ⟨_, rfl⟩
  rw [hGG] at hG2 ⊢
  have ML := hid hG2
  have BL := hid (BL.out.trans (b3.mono BL.out.size))
  clear hG hG2 hW2 hGG b3
  refine wpList_nil ?_
  go_upto_region 4 with fail
  refine wp_region_list ?_
  refine wpList_load_mid rfl 63 (.tmp 14) rfl G 0 rfl (mtV a X).toList _ (fun j v hv => by rw [Nat.zero_add, ML.out.cell]; simpa using hv) Tryd.underlying63 rfl meth_size ?_
  refine wpList_plain rfl fun K hK => ?_
  have HK := hid hK
  clear hK
  go_wp2_with fail
  refine HK.out _ _ ?_
  clear HK
  refine wpList_plain rfl fun K hK => ?_
  have HK := hid hK
  clear hK
  go_wp2_with fail
  refine (HCA.out _).mono ?_
  rintro e W3 ⟨Z, rfl, hz, hb⟩
  have N := hid (BL.out.trans (hb.mono BL.out.size))
  clear hz hb
  refine HK.out _ _ ?_
  clear HK
  refine wpList_plain rfl fun K hK => ?_
  have HK := hid hK
  clear hK
  go_wp2_with fail
  refine HK.out _ _ ?_
  clear HK
  go_wp2_with fail
  go_ret2
  exact ⟨rfl, N.out⟩
set_option maxRecDepth 100000 in
set_option maxHeartbeats 1000000 in
theorem do_thr (a : Ac) (v : Int) (name : ByteArray) (X : Nat) (p s : Int) (W : World) (h2 : a.k = 2) (hX : AskB W X p s) (hs0 : 0 ≤ s) (hs1 : s ≤ 1000) (ht : a.p.t.size ≤ 9000) (hn : name.size ≤ 1000) :
    Calls Tryd.prog 16 (doArgs a false v name X) W fun e w' => e = .returned (.tuple #[.string (panicS v name (showS a.p)), .bool false]) ∧ AskB w' X p (s + 1) ∧ Only X W w' := by
  have hmf : ∀ (fn : Fn) (first cap : Array Value) (w : World), (Instr.makeFunc fn first cap).run Tryd.prog w = .ok (.func fn first cap) w := fun _ _ _ _ => rfl
  have HCA := hid (fun W' => caught_thr a X W' h2)
  have hth : thereB a.k = true := by rw [h2]; rfl
  have HX := hid hX
  have SH := hid (fun W' (h : Below W.heap.size W W') => show_any X p s a.p W' (hX.below h hX.lt) hs0 hs1 (by omega))
  have hsz := showS_size a.p
  have PN := hid (fun W' => panic_any v name (showS a.p) W' (by omega) (by omega))
  obtain ⟨R, hR⟩ : ∃ R, panicS v name (showS a.p) = R := ⟨_, rfl⟩
  rw [hR]
  unfold panicS at hR
  rw [hR] at PN
  obtain ⟨SV, hSV⟩ : ∃ SV, showS a.p = SV := ⟨_, rfl⟩
  rw [hSV] at SH PN
  clear h2 hX hR hSV hsz
  have B0 := (Below.refl W.heap.size W).alloc (Nat.le_refl _) (.cells (acV a) 28)
  have A0 := Blk.new W (acV a) 28
  obtain ⟨B, hB⟩ : ∃ B, W.heap.size = B := ⟨_, rfl⟩
  have HBB := hid hB
  have TH := hid (fun W => there_any a W)
  go_enter Tryd.func16, Tryd.ntmps16
  go_upto_region 1 with fail
  obtain ⟨W0, hW0⟩ : ∃ W0, W.alloc (.cells (acV a) 28) = W0 := ⟨_, rfl⟩
  rw [hW0] at B0 A0 ⊢
  rw [hB] at A0
  have BL := hid B0
  have AL := hid A0
  clear B0 A0 hW0 hB
  refine wp_region_list ?_
  refine wpList_load_mid rfl 28 (.tmp 6) rfl B 0 rfl (acV a).toList _ (fun j v hv => by rw [Nat.zero_add, AL.out.cell]; simpa using hv) Tryd.underlying28 rfl act_size ?_
  refine wpList_plain rfl fun K hK => ?_
  have HK := hid hK
  clear hK
  go_wp2_with fail
  refine (TH.out _).mono ?_
  rintro e W1 ⟨rfl, hb⟩
  have BL := hid (BL.out.trans (hb.mono BL.out.size))
  have AL := hid (AL.out.below hb AL.out.lt)
  rw [hth]
  clear hb
  refine HK.out _ _ ?_
  clear HK
  refine wpList_plain rfl fun K hK => ?_
  have HK := hid hK
  clear hK
  go_wp2_with fail
  refine HK.out _ _ ?_
  clear HK
  refine wpList_nil ?_
  go_upto_region 3 with fail
  refine wp_region_list ?_
  refine wpList_load_mid rfl 28 (.tmp 6) rfl B 0 rfl (acV a).toList _ (fun j v hv => by rw [Nat.zero_add, AL.out.cell]; simpa using hv) Tryd.underlying28 rfl act_size ?_
  refine wpList_plain rfl fun K hK => ?_
  have HK := hid hK
  clear hK
  go_wp2_with fail
  refine HK.out _ _ ?_
  clear HK
  refine wpList_buildTo rfl 63 _ rfl (some 22) rfl (mtV a X) (by kernel_rfl) ?_
  refine wpList_plain rfl fun K hK => ?_
  have HK := hid hK
  clear hK
  go_wp2_with fail
  refine HK.out _ _ ?_
  clear HK
  have hG := Blk.new W1 mt0 63
  refine wpList_store_rowTo rfl 63 _ _ rfl rfl W1.heap.size (mtV a X) rfl rfl 63 mt0 hG meth_size rfl (mtV_one _ _) ?_
  have hG2 := hG.setRow (mtV a X)
  have b3 : Below W1.heap.size W1 ((W1.alloc (.cells mt0 63)).setRow W1.heap.size (mtV a X)) := below_setRow ((Below.refl _ _).alloc (Nat.le_refl _) _) W1.heap.size (Nat.le_refl _) (mtV a X)
  obtain ⟨W2, hW2⟩ : ∃ W2, (W1.alloc (.cells mt0 63)).setRow W1.heap.size (mtV a X) = W2 := ⟨_, rfl⟩
  rw [hW2] at hG2 b3 ⊢
  obtain ⟨G, hGG⟩ : ∃ G, W1.heap.size = G := ⟨_, rfl⟩
  rw [hGG] at hG2 ⊢
  have ML := hid hG2
  have BL := hid (BL.out.trans (b3.mono BL.out.size))
  clear hG hG2 hW2 hGG b3
  refine wpList_nil ?_
  go_upto_region 4 with fail
  refine wp_region_list ?_
  refine wpList_load_mid rfl 63 (.tmp 14) rfl G 0 rfl (mtV a X).toList _ (fun j v hv => by rw [Nat.zero_add, ML.out.cell]; simpa using hv) Tryd.underlying63 rfl meth_size ?_
  refine wpList_plain rfl fun K hK => ?_
  have HK := hid hK
  clear hK
  go_wp2_with fail
  refine HK.out _ _ ?_
  clear HK
  refine wpList_plain rfl fun K hK => ?_
  have HK := hid hK
  clear hK
  go_wp2_with fail
  refine (HCA.out _).mono ?_
  rintro e W3 ⟨Z, rfl, hz, hb⟩
  have BL := hid (BL.out.trans (hb.mono BL.out.size))
  have ZL := hid hz
  clear hz hb
  refine HK.out _ _ ?_
  clear HK
  refine wpList_plain rfl fun K hK => ?_
  have HK := hid hK
  clear hK
  go_wp2_with fail
  refine HK.out _ _ ?_
  clear HK
  refine wpList_plain rfl fun K hK => ?_
  have HK := hid hK
  clear hK
  go_wp2_with fail
  refine HK.out _ _ ?_
  clear HK
  refine wpList_plain rfl fun K hK => ?_
  have HK := hid hK
  clear hK
  go_wp2_with fail
  refine HK.out _ _ ?_
  clear HK
  refine wpList_plain rfl fun K hK => ?_
  have HK := hid hK
  clear hK
  go_wp2_with fail
  refine HK.out _ _ ?_
  clear HK
  refine wpList_plain rfl fun K hK => ?_
  have HK := hid hK
  clear hK
  go_wp2_with fail
  refine HK.out _ _ ?_
  clear HK
  refine wpList_nil ?_
  go_upto_region 9 with fail
  refine wp_region_list ?_
  refine wpList_plain rfl fun K hK => ?_
  have HK := hid hK
  clear hK
  go_wp2_with fail
  refine HK.out _ _ ?_
  clear HK
  refine wpList_plain rfl fun K hK => ?_
  have HK := hid hK
  clear hK
  go_wp2_with fail
  refine HK.out _ _ ?_
  clear HK
  refine wpList_plain rfl fun K hK => ?_
  have HK := hid hK
  clear hK
  go_wp2_with fail
  refine HK.out _ _ ?_
  clear HK
  refine wpList_plain rfl fun K hK => ?_
  have HK := hid hK
  clear hK
  go_wp2_with fail
  refine HK.out _ _ ?_
  clear HK
  refine wpList_plain rfl fun K hK => ?_
  have HK := hid hK
  clear hK
  go_wp2_with fail
  refine HK.out _ _ ?_
  clear HK
  refine wpList_plain rfl fun K hK => ?_
  have HK := hid hK
  clear hK
  go_wp2_with fail
  refine HK.out _ _ ?_
  clear HK
  refine wpList_load_mid rfl 26 (.tmp 40) rfl Z 0 rfl (deV a.p).toList _ (fun j v hv => by rw [Nat.zero_add, ZL.out.cell]; simpa using hv) Tryd.underlying26 rfl desc_size ?_
  refine wpList_plain rfl fun K hK => ?_
  have HK := hid hK
  clear hK
  go_wp2_with fail
  refine (SH.out _ BL.out).mono ?_
  rintro e W4 ⟨rfl, hx, ho⟩
  have N := hid (And.intro hx ((Only.of_below BL.out : Only X W W3).trans ho))
  clear hx ho
  refine HK.out _ _ ?_
  clear HK
  refine wpList_plain rfl fun K hK => ?_
  have HK := hid hK
  clear hK
  go_wp2_with fail
  refine (PN.out _).mono ?_
  rintro e W5 ⟨rfl, hb⟩
  have N := hid (show AskB W5 X p (s + 1) ∧ Only X W W5 from ⟨N.out.1.below hb N.out.1.lt, N.out.2.trans (Only.of_below hb)⟩)
  clear hb
  refine HK.out _ _ ?_
  clear HK
  refine wpList_plain rfl fun K hK => ?_
  have HK := hid hK
  clear hK
  go_wp2_with fail
  refine HK.out _ _ ?_
  clear HK
  refine wpList_plain rfl fun K hK => ?_
  have HK := hid hK
  clear hK
  go_wp2_with fail
  refine HK.out _ _ ?_
  clear HK
  refine wpList_nil ?_
  go_wp2_with fail
  go_ret2
  exact ⟨rfl, N.out⟩
end Go.Proofs.YtaniahkagmjkoaaDoor
