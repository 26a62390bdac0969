/-
  The law HooksThrows, walked.
-/
import Derived.Test.YtaniahkagmjkoaaDoorHC
namespace Go.Proofs.YtaniahkagmjkoaaDoor
open Go.RowKit Go.Proofs

/-- A method that throws a text. -/
abbrev thAc (s : ByteArray) : Ac := ⟨2, ⟨#[]⟩, ⟨#[]⟩, sl0, { deZ with t := s }⟩
def thEnd (s : ByteArray) : ByteArray := ((⟨#[40, 80, 65, 78, 73, 67, 61, 83, 116, 114, 105, 110, 103, 32, 109, 101, 116, 104, 111, 100, 58, 32, 123, 48]⟩ : ByteArray) ++ s) ++ (⟨#[125, 41]⟩ : ByteArray)
theorem th_list (v : Int) (s : ByteArray) : (panicS v (methodS 4) (showS (thAc s).p)).data.toList = 37 :: 33 :: ((Utf8.encode v).data.toList ++ (thEnd s).data.toList) := by
  have h : showS (thAc s).p = (((⟨#[123]⟩ : ByteArray) ++ ⟨#[48]⟩) ++ s) ++ ⟨#[125]⟩ := by
    unfold showS
    rw [show (thAc s).p.k = 0 from rfl, kind_0]
  rw [h]
  unfold panicS insS thEnd
  rw [show methodS 4 = ⟨#[83, 116, 114, 105, 110, 103]⟩ from rfl]
  simp
theorem th_facts (v : Int) (s : ByteArray) : let S := panicS v (methodS 4) (showS (thAc s).p)
    (thEnd s).size < S.size ∧ 2 ≤ S.size ∧ S.size ≤ s.size + 40 ∧ S.extract (S.size - (thEnd s).size) S.size = thEnd s ∧ S.extract 0 2 = ⟨#[37, 33]⟩ := by
  intro S
  have hl := th_list v s
  have he := Utf.encL_pos v
  have hE : (Utf8.encode v).data.toList = Utf.encL v := by rw [← Lib.toList_data]; exact enc_list v
  have hend : (thEnd s).size = s.size + 26 := by
    unfold thEnd
    rw [ByteArray.size_append, ByteArray.size_append]
    have h1 : (⟨#[40, 80, 65, 78, 73, 67, 61, 83, 116, 114, 105, 110, 103, 32, 109, 101, 116, 104, 111, 100, 58, 32, 123, 48]⟩ : ByteArray).size = 24 := rfl
    have h2 : (⟨#[125, 41]⟩ : ByteArray).size = 2 := rfl
    omega
  have hS : S.size = 2 + ((Utf.encL v).length + (thEnd s).size) := by
    show (panicS v (methodS 4) (showS (thAc s).p)).size = _
    rw [Utf.size_eq, hl, List.length_cons, List.length_cons, List.length_append, hE, ← Utf.size_eq (thEnd s)]
    omega
  refine ⟨by omega, by omega, by omega, dbytes_ext ?_, dbytes_ext ?_⟩
  · rw [Lib.extract_data]
    show ((panicS v (methodS 4) (showS (thAc s).p)).data.toList.drop _).take _ = _
    rw [hl, hE, show S.size - (thEnd s).size = ((Utf.encL v).length + 1) + 1 by omega, List.drop_succ_cons, List.drop_succ_cons, List.drop_left]
    exact List.take_of_length_le (by rw [← Utf.size_eq]; omega)
  · rw [Lib.extract_data]
    show ((panicS v (methodS 4) (showS (thAc s).p)).data.toList.drop _).take _ = _
    rw [hl]
    rfl

set_option maxRecDepth 100000 in
set_option maxHeartbeats 2000000 in
theorem hooksThrows_law (s : ByteArray) (v : Int) (nil : Bool) (w : World) (hT : Tabs w) (hs : s.size ≤ 140737488355328) (_h0 : -2147483648 ≤ v) (_h1 : v ≤ 2147483647) :
    Calls Tryd.prog 7 #[.string s, .int .i32 v, .bool nil] w fun e w' => e = .returned (.bool true) ∧ Below w.heap.size w w' := by
  have hmf : ∀ (fn : Fn) (first cap : Array Value) (w : World), (Instr.makeFunc fn first cap).run Tryd.prog w = .ok (.func fn first cap) w := fun _ _ _ _ => rfl
  have LV := hid (fun W hT => hlives_any W hT)
  have HT := hid hT
  clear hT
  by_cases hz : 1000 < s.size
  · have BL := hid (Below.refl w.heap.size w)
    go_enter Tryd.func7, Tryd.ntmps7
    go_wp2_with fail
    refine (LV.out _ (HT.out.below BL.out)).mono ?_
    rintro e w9 ⟨rfl, b9⟩
    have BL := hid (BL.out.trans (b9.mono BL.out.size))
    clear b9
    go_wp2_with fail
    go_ret
    exact ⟨rfl, BL.out⟩
  obtain ⟨X, hX⟩ : ∃ X, w.heap.size = X := ⟨_, rfl⟩
  have x0 : AskB (w.alloc (.cells #[.int .i64 0, .int .i64 0] 37)) X 0 0 := hX ▸ Blk.new w _ _
  have b0 := (Below.refl w.heap.size w).alloc (Nat.le_refl _) (.cells #[.int .i64 0, .int .i64 0] 37)
  have DN := hid (fun W' => do_nil (thAc s) v (methodS 4) X W' rfl)
  have DT := hid (fun W' (x : AskB W' X 0 0) => do_thr (thAc s) v (methodS 4) X 0 0 W' rfl x (by decide) (by decide) (by show s.size ≤ 9000; omega) (by decide))
  obtain ⟨f1, f2, f3, f4, f5⟩ := th_facts v s
  obtain ⟨S, hS⟩ : ∃ S, panicS v (methodS 4) (showS (thAc s).p) = S := ⟨_, rfl⟩
  obtain ⟨E, hE⟩ : ∃ E, thEnd s = E := ⟨_, rfl⟩
  rw [hS, hE] at f1 f4
  rw [hS] at f2 f3 f5 DT
  have HE := hid hE
  have hE2 := hE
  unfold thEnd at hE2
  clear hS hE
  cases nil
  · go_enter Tryd.func7, Tryd.ntmps7
    go_upto_region 4 with fail
    obtain ⟨W0, hW0⟩ : ∃ W0, w.alloc (.cells #[.int .i64 0, .int .i64 0] 37) = W0 := ⟨_, rfl⟩
    rw [hW0] at x0 b0 ⊢
    have BL := hid b0
    have XL := hid x0
    have HX := hid hX
    have F4 := hid (And.intro f4 (And.intro f5 hE2))
    clear hW0 hX x0 b0 f4 f5 hE2
    refine wp_region_list ?_
    refine wpList_plain rfl fun K hK => ?_
    have HK := hid hK
    clear hK
    go_wp2_with fail
    refine HK.out _ _ ?_
    clear HK
    refine wpList_buildTo rfl 26 _ rfl (some 17) rfl (deV { deZ with t := s }) (by kernel_rfl) ?_
    refine wpList_buildTo rfl 28 _ rfl (some 18) rfl (acV (thAc s)) (by kernel_rfl) ?_
    refine wpList_plain rfl fun K hK => ?_
    have HK := hid hK
    clear hK
    go_wp2_with fail
    refine HK.out _ _ ?_
    clear HK
    refine wpList_plain rfl fun K hK => ?_
    have HK := hid hK
    clear hK
    go_wp2_with fail
    refine HK.out _ _ ?_
    clear HK
    refine wpList_plain rfl fun K hK => ?_
    have HK := hid hK
    clear hK
    go_wp2_with fail
    refine HK.out _ _ ?_
    clear HK
    refine wpList_plain rfl fun K hK => ?_
    have HK := hid hK
    clear hK
    go_wp2_with fail
    refine HK.out _ _ ?_
    clear HK
    refine wpList_plain rfl fun K hK => ?_
    have HK := hid hK
    clear hK
    go_wp2_with fail
    refine (DT.out W0 XL.out).mono ?_
    rintro e W1 ⟨rfl, hx, ho⟩
    have XL := hid hx
    have BL := hid (BL.out.trans (ho.below BL.out.size (by have := HX.out; omega)))
    clear hx ho
    refine HK.out _ _ ?_
    clear HK
    refine wpList_plain rfl fun K hK => ?_
    have HK := hid hK
    clear hK
    go_wp2_with fail
    refine HK.out _ _ ?_
    clear HK
    refine wpList_plain rfl fun K hK => ?_
    have HK := hid hK
    clear hK
    go_wp2_with fail
    refine HK.out _ _ ?_
    clear HK
    refine wpList_plain rfl fun K hK => ?_
    have HK := hid hK
    clear hK
    go_wp2_with fail
    refine HK.out _ _ ?_
    clear HK
    refine wpList_plain rfl fun K hK => ?_
    have HK := hid hK
    clear hK
    go_wp2_with fail
    refine HK.out _ _ ?_
    clear HK
    refine wpList_plain rfl fun K hK => ?_
    have HK := hid hK
    clear hK
    go_wp2_with fail
    refine HK.out _ _ ?_
    clear HK
    refine wpList_nil ?_
    have x0 : W1.cell? ⟨X, 0, none⟩ = some (.int .i64 0) := XL.out.cell 0
    have x1 : W1.cell? ⟨X, 1, none⟩ = some (.int .i64 1) := XL.out.cell 1
    obtain ⟨f4, f5, hE2⟩ := F4.out
    go_wp2_with fail
    refine (LV.out _ (HT.out.below BL.out)).mono ?_
    rintro e w9 ⟨rfl, b9⟩
    have BL := hid (BL.out.trans (b9.mono BL.out.size))
    clear b9
    go_wp2_with fail
    go_ret
    exact ⟨rfl, BL.out⟩
  · go_enter Tryd.func7, Tryd.ntmps7
    clear f1 f2 f3 f4 f5 hE2 DT
    go_upto_region 4 with fail
    obtain ⟨W0, hW0⟩ : ∃ W0, w.alloc (.cells #[.int .i64 0, .int .i64 0] 37) = W0 := ⟨_, rfl⟩
    rw [hW0] at x0 b0 ⊢
    have BL := hid b0
    have XL := hid x0
    clear hW0 hX x0 b0
    refine wp_region_list ?_
    refine wpList_plain rfl fun K hK => ?_
    have HK := hid hK
    clear hK
    go_wp2_with fail
    refine HK.out _ _ ?_
    clear HK
    refine wpList_buildTo rfl 26 _ rfl (some 17) rfl (deV { deZ with t := s }) (by kernel_rfl) ?_
    refine wpList_buildTo rfl 28 _ rfl (some 18) rfl (acV (thAc s)) (by kernel_rfl) ?_
    refine wpList_plain rfl fun K hK => ?_
    have HK := hid hK
    clear hK
    go_wp2_with fail
    refine HK.out _ _ ?_
    clear HK
    refine wpList_plain rfl fun K hK => ?_
    have HK := hid hK
    clear hK
    go_wp2_with fail
    refine HK.out _ _ ?_
    clear HK
    refine wpList_plain rfl fun K hK => ?_
    have HK := hid hK
    clear hK
    go_wp2_with fail
    refine HK.out _ _ ?_
    clear HK
    refine wpList_plain rfl fun K hK => ?_
    have HK := hid hK
    clear hK
    go_wp2_with fail
    refine HK.out _ _ ?_
    clear HK
    refine wpList_plain rfl fun K hK => ?_
    have HK := hid hK
    clear hK
    go_wp2_with fail
    refine (DN.out W0).mono ?_
    rintro e W1 ⟨rfl, hb⟩
    have XL := hid (XL.out.below hb XL.out.lt)
    have BL := hid (BL.out.trans (hb.mono BL.out.size))
    clear hb
    refine HK.out _ _ ?_
    clear HK
    refine wpList_plain rfl fun K hK => ?_
    have HK := hid hK
    clear hK
    go_wp2_with fail
    refine HK.out _ _ ?_
    clear HK
    refine wpList_plain rfl fun K hK => ?_
    have HK := hid hK
    clear hK
    go_wp2_with fail
    refine HK.out _ _ ?_
    clear HK
    refine wpList_plain rfl fun K hK => ?_
    have HK := hid hK
    clear hK
    go_wp2_with fail
    refine HK.out _ _ ?_
    clear HK
    refine wpList_plain rfl fun K hK => ?_
    have HK := hid hK
    clear hK
    go_wp2_with fail
    refine HK.out _ _ ?_
    clear HK
    refine wpList_plain rfl fun K hK => ?_
    have HK := hid hK
    clear hK
    go_wp2_with fail
    refine HK.out _ _ ?_
    clear HK
    refine wpList_nil ?_
    have x0 : W1.cell? ⟨X, 0, none⟩ = some (.int .i64 0) := XL.out.cell 0
    have x1 : W1.cell? ⟨X, 1, none⟩ = some (.int .i64 0) := XL.out.cell 1
    go_wp2_with fail
    refine (LV.out _ (HT.out.below BL.out)).mono ?_
    rintro e w9 ⟨rfl, b9⟩
    have BL := hid (BL.out.trans (b9.mono BL.out.size))
    clear b9
    go_wp2_with fail
    go_ret
    exact ⟨rfl, BL.out⟩
end Go.Proofs.YtaniahkagmjkoaaDoor
