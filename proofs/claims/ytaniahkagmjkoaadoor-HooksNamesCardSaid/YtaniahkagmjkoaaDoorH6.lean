/-
  Walks of layer 11: a scripted method runs: it tells, it throws, it prints.
-/
import Derived.Test.YtaniahkagmjkoaaDoorH5
import Derived.Defers
import Derived.Recover
import Derived.FnLit
namespace Go.Proofs.YtaniahkagmjkoaaDoor
open Go.RowKit Go.Proofs

abbrev prF (X : Nat) : Value := .func (Fn.func 18) #[.pointer (some ⟨X, 0, none⟩)] #[]
abbrev shF (X : Nat) : Value := .func (Fn.func 19) #[.pointer (some ⟨X, 0, none⟩)] #[]
/-- A method that runs. -/
abbrev mtV (a : Ac) (X : Nat) : Array Value := #[.int .i64 a.k, .string a.t, .string a.f, slV a.ar, .int .i64 a.p.k, .string a.p.ty, .int .u64 a.p.b, .int .u64 a.p.im, .string a.p.t, slV a.p.nm, slV a.p.pa, .int .i64 a.p.hk, prF X]
theorem mtV_one (a : Ac) (X : Nat) : (mtV a X).all (·.oneCell') = true := by simp [mtV, Value.oneCell']
theorem meth_size : (Tryd.prog.info? 63).map (·.size) = some 13 := by kernel_rfl

theorem mt_mid (a : Ac) (X : Nat) (j : Nat) (v : Value) (hv : (deV a.p)[j]? = some v) : (mtV a X)[4 + j]? = some v := by
  have hj : j < 8 := by
    rcases Nat.lt_or_ge j 8 with q | q
    · exact q
    · rw [Array.getElem?_eq_none (by exact q)] at hv; cases hv
  rw [← hv]
  match j, hj with
  | 0, _ | 1, _ | 2, _ | 3, _ | 4, _ | 5, _ | 6, _ | 7, _ => rfl
set_option maxRecDepth 100000 in
set_option maxHeartbeats 1000000 in
theorem run_tells (a : Ac) (X : Nat) (W : World) (h2 : (a.k == 2) = false) (h3 : (a.k == 3) = false) : Calls Tryd.prog 30 #[.agg (mtV a X)] W fun e w' => e = .returned (.string a.t) ∧ Below W.heap.size W w' := by
  have HB := Blk.new W (mtV a X) 63
  have c0 : (W.alloc (.cells (mtV a X) 63)).cell? ⟨W.heap.size, 0, none⟩ = some (.int .i64 a.k) := HB.cell 0
  have c1 : (W.alloc (.cells (mtV a X) 63)).cell? ⟨W.heap.size, 1, none⟩ = some (.string a.t) := HB.cell 1
  obtain ⟨cs, hcs⟩ : ∃ cs, mtV a X = cs := ⟨_, rfl⟩
  rw [hcs] at c0 c1 ⊢
  clear HB hcs
  go_enter Tryd.func30, Tryd.ntmps30
  go_wp2_with fail
  go_ret
  exact ⟨rfl, (Below.refl _ _).alloc (Nat.le_refl _) _⟩
set_option maxRecDepth 100000 in
set_option maxHeartbeats 1000000 in
theorem run_throws (a : Ac) (X : Nat) (W : World) (h2 : a.k = 2) : Calls Tryd.prog 30 #[.agg (mtV a X)] W fun e w' => e = .panicked [{ v := .iface 70 (.agg (deV a.p)), recovered := false }] ∧ Below W.heap.size W w' := by
  have HB := Blk.new W (mtV a X) 63
  have c0 : (W.alloc (.cells (mtV a X) 63)).cell? ⟨W.heap.size, 0, none⟩ = some (.int .i64 a.k) := HB.cell 0
  rw [h2] at c0
  go_enter Tryd.func30, Tryd.ntmps30
  go_upto_region 3 with fail
  obtain ⟨B, hBB⟩ : ∃ B, W.heap.size = B := ⟨_, rfl⟩
  have BL := hid ((Below.refl W.heap.size W).alloc (Nat.le_refl _) (.cells (mtV a X) 63))
  obtain ⟨W0, hW0⟩ : ∃ W0, W.alloc (.cells (mtV a X) 63) = W0 := ⟨_, rfl⟩
  rw [hW0, hBB] at HB
  rw [hW0] at BL ⊢
  rw [hBB]
  have HBK := hid HB
  clear c0 hBB hW0 HB h2
  refine wp_region_list ?_
  refine wpList_plain rfl fun K hK => ?_
  have HK := hid hK
  clear hK
  go_wp2_with fail
  refine HK.out _ _ ?_
  clear HK
  refine wpList_plain rfl fun K hK => ?_
  have HK := hid hK
  clear hK
  go_wp2_with fail
  refine HK.out _ _ ?_
  clear HK
  refine wpList_load_mid rfl 26 (.tmp 9) rfl B 4 rfl (deV a.p).toList _ (fun j v hv => by rw [HBK.out.cell]; exact mt_mid a X j v (by simpa using hv)) Tryd.underlying26 rfl desc_size ?_
  refine wpList_buildTo rfl 70 _ rfl (some 11) rfl (deV a.p) (by kernel_rfl) ?_
  go_wp2_with fail
  exact ⟨rfl, rfl, BL.out⟩
set_option maxRecDepth 100000 in
set_option maxHeartbeats 1000000 in
theorem run_prints (a : Ac) (X : Nat) (p s : Int) (ds : List De) (W : World) (h2 : a.k = 3) (hX : AskB W X p s) (hp0 : 0 ≤ p) (hp1 : p ≤ 1000) (hf : a.f.size ≤ 100000) (hA : ArgsAt W a.ar ds) (hn : ds.length ≤ 1000) (hgX : ∀ g o, a.ar.a = some ⟨g, o, none⟩ → ds ≠ [] → g ≠ X) :
    Calls Tryd.prog 30 #[.agg (mtV a X)] W fun e w' => e = .returned (.string (printS a.f ds)) ∧ AskB w' X (p + 1) s ∧ Only X W w' := by
  have HB := Blk.new W (mtV a X) 63
  have b0 := (Below.refl W.heap.size W).alloc (Nat.le_refl _) (.cells (mtV a X) 63)
  have c0 : (W.alloc (.cells (mtV a X) 63)).cell? ⟨W.heap.size, 0, none⟩ = some (.int .i64 a.k) := HB.cell 0
  have c2 : (W.alloc (.cells (mtV a X) 63)).cell? ⟨W.heap.size, 2, none⟩ = some (.string a.f) := HB.cell 2
  have c3 : (W.alloc (.cells (mtV a X) 63)).cell? ⟨W.heap.size, 3, none⟩ = some (slV a.ar) := HB.cell 3
  have c12 : (W.alloc (.cells (mtV a X) 63)).cell? ⟨W.heap.size, 12, none⟩ = some (prF X) := HB.cell 12
  have PR := hid (fun W' (h : Below W.heap.size W W') => print_any X p s a.f a.ar ds W' (hX.below h hX.lt) hp0 hp1 hf (hA.below h) hn hgX)
  obtain ⟨cs, hcs⟩ : ∃ cs, mtV a X = cs := ⟨_, rfl⟩
  rw [hcs] at c0 c2 c3 c12 b0 ⊢
  rw [h2] at c0
  have B0 := hid b0
  clear HB hcs h2 hX hA hgX b0
  go_enter Tryd.func30, Tryd.ntmps30
  go_wp2_with fail
  refine (PR.out _ B0.out).mono ?_
  rintro e w1 ⟨rfl, hx, ho⟩
  have N := hid (And.intro hx ((Only.of_below B0.out : Only X W _).trans ho))
  clear hx ho
  go_wp2_with fail
  go_ret
  exact ⟨rfl, N.out.1, N.out.2⟩
end Go.Proofs.YtaniahkagmjkoaaDoor
