/-
  Walks of layer 3: the document's quotes.
-/
import Derived.Test.YtaniahkagmjkoaaDoorQ4
import Derived.Deep.RegionWith
namespace Go.Proofs.YtaniahkagmjkoaaDoor
open Go.RowKit Go.Proofs
theorem conv2d (w : World) (a b : Int) : (convert 90 9 (.slice (some ⟨w.heap.size, 0, none⟩) 2 2)).run Tryd.prog (w.alloc (.cells #[.int .u8 a, .int .u8 b] 5)).drew = .ok (.string (strOfNums [a, b])) (w.alloc (.cells #[.int .u8 a, .int .u8 b] 5)).drew :=
  run_convert_bytes_arg (w.alloc (.cells #[.int .u8 a, .int .u8 b] 5)).drew 90 5 Tryd.underlying90 Tryd.underlying5 w.heap.size 0 2 2 [a, b] rfl (fun i hi => by
    show (w.alloc (.cells #[.int .u8 a, .int .u8 b] 5)).cell? ⟨w.heap.size, 0 + i, none⟩ = _
    match i, hi with
    | 0, _ => rw [World.cell?_alloc_mark]; rfl
    | 1, _ => rw [World.cell?_alloc_mark]; rfl) 9 Tryd.underlying9
attribute [local go_sem] conv2 conv2d

theorem refdigit_any (d : Int) (g : Bool) (w : World) (h0 : 0 ≤ d) (h1 : d < 16) : Calls Tryd.prog 40 #[.int .i64 d, .bool g] w fun e w' => e = .returned (.string ⟨#[IP.hexd g d.toNat]⟩) ∧ w = w' := by
  rcases (show d = 0 ∨ d = 1 ∨ d = 2 ∨ d = 3 ∨ d = 4 ∨ d = 5 ∨ d = 6 ∨ d = 7 ∨ d = 8 ∨ d = 9 ∨ d = 10 ∨ d = 11 ∨ d = 12 ∨ d = 13 ∨ d = 14 ∨ d = 15 by omega) with rfl | rfl | rfl | rfl | rfl | rfl | rfl | rfl | rfl | rfl | rfl | rfl | rfl | rfl | rfl | rfl
  all_goals
    cases g
    all_goals
      go_enter Tryd.func40, Tryd.ntmps40
      go_wp2_with fail
      go_ret
      exact ⟨ret_str (bytes_ext (by rfl)), rfl⟩
theorem hexW_front (n : Nat) : ∀ i : Nat, IP.hexW n (i + 1) = IP.hexd false (n / 16 ^ i % 16) :: IP.hexW n i := by
  intro i
  induction i generalizing n with
  | zero => simp [IP.hexW]
  | succ i ih =>
    rw [IP.hexW, ih (n / 16)]
    conv => rhs; rw [IP.hexW]
    rw [Nat.div_div_eq_div_mul, Nat.pow_succ, Nat.mul_comm 16, List.cons_append]

theorem conv2_after {w w1 : World} {a b : Int} (hb : Below (w.alloc (.cells #[.int .u8 a, .int .u8 b] 5)).heap.size (w.alloc (.cells #[.int .u8 a, .int .u8 b] 5)) w1) :
    (convert 90 9 (.slice (some ⟨w.heap.size, 0, none⟩) 2 2)).run Tryd.prog w1 = .ok (.string (strOfNums [a, b])) w1 :=
  run_convert_bytes_arg w1 90 5 Tryd.underlying90 Tryd.underlying5 w.heap.size 0 2 2 [a, b] rfl (fun i hi => by
    rw [hb.cell (p := ⟨w.heap.size, 0 + i, none⟩) (by simp)]
    match i, hi with
    | 0, _ => rw [World.cell?_alloc_mark]; rfl
    | 1, _ => rw [World.cell?_alloc_mark]; rfl) 9 Tryd.underlying9

theorem nums2 (a b : Int) : (strOfNums [a, b]).data.toList = [UInt8.ofNat a.toNat, UInt8.ofNat b.toNat] := by
  unfold strOfNums
  simp
end Go.Proofs.YtaniahkagmjkoaaDoor
