/-
  The law IntsDigits, walked.
-/
import Derived.Test.YtampkhdlhhgneaaQH
namespace Go.Proofs.Ytampkhdlhhgneaa
open Go.RowKit Go.Proofs

set_option maxRecDepth 100000 in
set_option maxHeartbeats 1000000 in
theorem intsDigits_law (n b : Int) (w : World) (_hT : Tabs w) (h0 : 0 ≤ n) (h1 : n ≤ 18446744073709551615) (_hb0 : -9223372036854775808 ≤ b) (_hb1 : b ≤ 9223372036854775807) :
    Calls Try.prog 3 #[.int .u64 n, .int .i64 b] w fun e w' => e = .returned (.bool true) ∧ Below w.heap.size w w' := by
  have LV := hid (fun W => lives_any W)
  have DA := hid (fun W => idigits_any n b W h0 h1)
  have DB := hid (fun W => rdigits_any n b W h0 h1)
  obtain ⟨R, hR⟩ : ∃ R, digS n.toNat b = R := ⟨_, rfl⟩
  rw [hR] at DA DB
  clear hR
  go_enter Try.func3, Try.ntmps3
  go_wp2_with fail
  refine (DA.out _).mono ?_
  rintro e w1 ⟨rfl, b1⟩
  go_wp2_with fail
  refine (DB.out _).mono ?_
  rintro e w2 ⟨rfl, rfl⟩
  go_wp2_with fail
  refine (LV.out _).mono ?_
  rintro e w3 ⟨rfl, b3⟩
  have BB := hid (b1.trans (b3.mono b1.size))
  clear b1 b3
  go_wp2_with fail
  go_ret
  exact ⟨rfl, BB.out⟩
end Go.Proofs.Ytampkhdlhhgneaa
