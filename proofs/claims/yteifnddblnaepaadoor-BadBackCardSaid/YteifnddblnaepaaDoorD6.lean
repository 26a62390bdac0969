/-
  Walks of layer 10: the document's examples.
-/
import Derived.Test.YteifnddblnaepaaDoorD5
namespace Go.Proofs.YteifnddblnaepaaDoor
open Go.RowKit Go.Proofs

theorem readEx : readV [37, 33, 40, 40, 97, 61, 98, 41] = .tuple #[.int .i64 1, .int .i32 40, .string ⟨#[97, 61, 98]⟩] := by
  have : readA [37, 33, 40, 40, 97, 61, 98, 41] = (1, 40, [97, 61, 98]) := by decide
  unfold readV
  rw [this]
  rfl
theorem verbEx : insS (Utf8.encode 100) (((⟨#[115, 116, 114, 105, 110, 103]⟩ : ByteArray) ++ (⟨#[61]⟩ : ByteArray)) ++ (⟨#[104, 105]⟩ : ByteArray)) = ⟨#[37, 33, 100, 40, 115, 116, 114, 105, 110, 103, 61, 104, 105, 41]⟩ := by
  rw [enc_one (by decide) (by decide)]
  refine dbytes_ext ?_
  decide
theorem extraEx : insS ⟨#[]⟩ (extraJ [⟨#[105, 110, 116]⟩] [⟨#[53]⟩]) = ⟨#[37, 33, 40, 69, 88, 84, 82, 65, 32, 105, 110, 116, 61, 53, 41]⟩ := by
  refine dbytes_ext ?_
  decide

set_option maxRecDepth 100000 in
set_option maxHeartbeats 600000 in
theorem lives_any (w : World) (hT : TM w) : Calls Tryd.prog 12 #[] w fun e w' => e = .returned (.bool true) ∧ Below w.heap.size w w' := by
  have RD := hid (read_any ⟨#[37, 33, 40, 40, 97, 61, 98, 41]⟩ w hT (by decide))
  have e1 : readV (⟨#[37, 33, 40, 40, 97, 61, 98, 41]⟩ : ByteArray).data.toList = _ := readEx
  rw [e1] at RD
  have VE := hid (fun W => verb_any 100 ⟨#[115, 116, 114, 105, 110, 103]⟩ ⟨#[104, 105]⟩ W (by decide) (by decide))
  rw [verbEx] at VE
  have EX := hid (fun W va vb h1 h2 => extra_any [⟨#[105, 110, 116]⟩] [⟨#[53]⟩] va vb W h1 h2 (by decide) (by decide) (fun x hx => by rw [List.mem_singleton.1 hx]; decide) (fun x hx => by rw [List.mem_singleton.1 hx]; decide))
  rw [extraEx] at EX
  clear e1
  go_enter Tryd.func12, Tryd.ntmps12
  go_wp2_with fail
  refine RD.out.mono ?_
  rintro e w1 ⟨rfl, b1⟩
  have B1 := hid b1
  clear b1
  go_wp2_with fail
  refine (VE.out _).mono ?_
  rintro e w2 ⟨rfl, b2⟩
  have B2 := hid (B1.out.trans (b2.mono B1.out.size))
  clear b2
  go_wp2_with fail
  have s1 := SL_new w2 #[.string ⟨#[105, 110, 116]⟩] 9 [⟨#[105, 110, 116]⟩] 1 rfl rfl
  have s2 := SL_new (w2.alloc (.cells #[.string ⟨#[105, 110, 116]⟩] 9)) #[.string ⟨#[53]⟩] 9 [⟨#[53]⟩] 1 rfl rfl
  have s3 := s1.below ((Below.refl _ _).alloc (Nat.le_refl _) (.cells #[.string ⟨#[53]⟩] 9))
  have hsz : (w2.alloc (.cells #[.string ⟨#[105, 110, 116]⟩] 9)).heap.size = w2.heap.size + 1 := by simp
  rw [hsz] at s2
  refine (EX.out _ _ _ s3 s2).mono ?_
  rintro e w3 ⟨rfl, b3⟩
  have B3 := hid (((B2.out.alloc B2.out.size _).alloc (Nat.le_trans B2.out.size (Nat.le_of_lt (alloc_lt _ _))) _).trans (b3.mono (Nat.le_trans B2.out.size (Nat.le_trans (Nat.le_of_lt (alloc_lt _ _)) (Nat.le_of_lt (alloc_lt _ _))))))
  clear b3
  go_wp2_with fail
  go_ret
  exact ⟨rfl, B3.out⟩
end Go.Proofs.YteifnddblnaepaaDoor
