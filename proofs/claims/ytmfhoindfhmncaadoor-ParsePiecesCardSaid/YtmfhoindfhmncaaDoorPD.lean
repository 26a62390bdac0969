/-
  Walks of layer 9: the document's examples.
-/
import Derived.Test.YtmfhoindfhmncaaDoorPC
namespace Go.Proofs.YtmfhoindfhmncaaDoor
open Go.RowKit Go.Proofs

def ex1 : ByteArray := ⟨#[97, 37, 45, 53, 46, 50, 102, 98]⟩
def ex2 : ByteArray := ⟨#[37, 91, 50, 93, 42, 46, 91, 49, 93, 42, 91, 51, 93, 100]⟩
theorem ex1_parse : PP.parseL ex1.data.toList = [PP.litP [97], ⟨1, [37, 45, 53, 46, 50, 102], ⟨false, true, false, false, false⟩, -1, -1, 102, ⟨1, 5, ⟨0, 0⟩⟩, ⟨1, 2, ⟨0, 0⟩⟩, ⟨0, 0⟩⟩, PP.litP [98]] := by
  show PP.parseL [97, 37, 45, 53, 46, 50, 102, 98] = _
  rw [PP.parseL_lit (by decide)]
  rw [show List.dropWhile PP.notPct [97, 37, 45, 53, 46, 50, 102, 98] = [37, 45, 53, 46, 50, 102, 98] by rfl, PP.parseL_pct (by decide)]
  rw [show PP.dirL [45, 53, 46, 50, 102, 98] = (⟨1, [37, 45, 53, 46, 50, 102], ⟨false, true, false, false, false⟩, -1, -1, 102, ⟨1, 5, ⟨0, 0⟩⟩, ⟨1, 2, ⟨0, 0⟩⟩, ⟨0, 0⟩⟩, [98]) by rfl]
  rw [PP.parseL_lit (by decide), show List.dropWhile PP.notPct [98] = [] by rfl, PP.parseL_nil]
  rfl
theorem ex2_parse : PP.parseL ex2.data.toList = [⟨1, ex2.data.toList, ⟨false, false, false, false, false⟩, -1, -1, 100, ⟨2, 0, ⟨1, 2⟩⟩, ⟨2, 0, ⟨1, 1⟩⟩, ⟨1, 3⟩⟩] := by
  show PP.parseL [37, 91, 50, 93, 42, 46, 91, 49, 93, 42, 91, 51, 93, 100] = _
  rw [PP.parseL_pct (by decide)]
  rw [show PP.dirL [91, 50, 93, 42, 46, 91, 49, 93, 42, 91, 51, 93, 100] = (⟨1, ex2.data.toList, ⟨false, false, false, false, false⟩, -1, -1, 100, ⟨2, 0, ⟨1, 2⟩⟩, ⟨2, 0, ⟨1, 1⟩⟩, ⟨1, 3⟩⟩, []) by rfl, PP.parseL_nil]

set_option maxRecDepth 100000 in
set_option maxHeartbeats 4000000 in
theorem lives_any (w : World) (hT : Tabs w) : Calls Tryd.prog 14 #[] w fun e w' => e = .returned (.bool true) ∧ Below w.heap.size w w' := by
  have P1 := hid (fun W hT => parse_any ex1 W (by decide) hT)
  have P2 := hid (fun W hT => parse_any ex2 W (by decide) hT)
  rw [ex1_parse] at P1
  rw [ex2_parse] at P2
  go_enter Tryd.func14, Tryd.ntmps14
  go_wp2_with fail
  refine (P1.out w hT).mono ?_
  rintro e W1 ⟨v1, rfl, o1, b1⟩
  obtain ⟨g1, c1, rfl, q1, q2, q3, q4, q5⟩ := own_open o1 (by decide)
  go_wp2_with fail
  refine (P2.out W1 (hT.below b1)).mono ?_
  rintro e W2 ⟨v2, rfl, o2, b2⟩
  obtain ⟨g2, c2, rfl, r1, r2, r3, r4, r5⟩ := own_open o2 (by decide)
  have k1 : W2.cell? ⟨g1, 23, none⟩ = some (.bool true) := (b2.cell (p := ⟨g1, 23, none⟩) q2).trans (q5 23 _ rfl)
  have k2 : W2.cell? ⟨g1, 31, none⟩ = some (.int .i64 5) := (b2.cell (p := ⟨g1, 31, none⟩) q2).trans (q5 31 _ rfl)
  have k3 : W2.cell? ⟨g1, 35, none⟩ = some (.int .i64 2) := (b2.cell (p := ⟨g1, 35, none⟩) q2).trans (q5 35 _ rfl)
  have k4 : W2.cell? ⟨g1, 29, none⟩ = some (.int .i32 102) := (b2.cell (p := ⟨g1, 29, none⟩) q2).trans (q5 29 _ rfl)
  have k5 : W2.cell? ⟨g2, 13, none⟩ = some (.int .i64 2) := r5 13 _ rfl
  have k6 : W2.cell? ⟨g2, 19, none⟩ = some (.int .i64 3) := r5 19 _ rfl
  have BB := hid (b1.trans (b2.mono b1.size))
  clear q5 r5 o1 o2 b1 b2
  go_wp2_with fail
  go_ret
  exact ⟨rfl, BB.out⟩
end Go.Proofs.YtmfhoindfhmncaaDoor
