/-
  The law QuoteBack, walked.
-/
import Derived.Test.YtfbekjgbijlcaaaDoorLV2
namespace Go.Proofs.YtfbekjgbijlcaaaDoor
open Go.RowKit Go.Proofs

set_option maxRecDepth 100000 in
set_option maxHeartbeats 1000000 in
theorem quoteBack_law (s : ByteArray) (ascii : Bool) (w : World) (hT : Tabs w) (hs : s.size ≤ 140737488355328) :
    Calls Tryd.prog 6 #[.string s, .bool ascii] w fun e w' => e = .returned (.bool true) ∧ Below w.heap.size w w' := by
  have LV := hid (fun W hT => lives_any W hT)
  have CU := hid (lcut_any s w hs)
  have hz := lcut_size s
  obtain ⟨c, hc⟩ : ∃ c, s.extract 0 1000 = c := ⟨_, rfl⟩
  rw [hc] at CU hz
  have QA := hid (fun W hT => quote_any c ascii W hT (by omega))
  have hqz := quote_size ascii c
  have hge := IP.quoteL_ge ascii c.data.toList
  obtain ⟨q, hq⟩ : ∃ q : ByteArray, (⟨(IP.quoteL ascii c.data.toList).toArray⟩ : ByteArray) = q := ⟨_, rfl⟩
  rw [hq] at QA hqz
  have hql : q.data.toList = IP.quoteL ascii c.data.toList := by rw [← hq]
  rw [← hql, ← Utf.size_eq, ← Utf.size_eq] at hge
  have hun : IP.unqP c4 q.data.toList = some c.data.toList := by rw [hql]; exact IP.unqP_quote c4 c4_small ascii _
  have hrd : IP.readN (IP.oneP c4) (IP.midL q.data.toList).length (IP.midL q.data.toList) = some c.data.toList := by
    rw [hql, IP.midL_quote]
    exact IP.readP_runs c4 c4_small ascii c.data.toList.length _ _ (Nat.le_refl _) (Nat.le_refl _)
  have UA := hid (fun W hT => unquote_gen q W hT (by omega) (Or.inr (fun t ht => by
    rw [hrd, Option.some.injEq] at ht
    rw [← ht, ← Utf.size_eq]
    omega)))
  have hback : (⟨c.data.toList.toArray⟩ : ByteArray) = c := bytes_ext (by simp)
  rw [hun] at UA
  simp only [uqT] at UA
  rw [hback] at UA
  have HT := hid hT
  have hge2 : (c.size : Int) + 2 ≤ q.size := by omega
  clear hc hq hql hun hrd hback hT
  go_enter Tryd.func6, Tryd.ntmps6
  go_wp2_with fail
  refine CU.out.mono ?_
  rintro e w0 ⟨rfl, rfl⟩
  go_wp2_with fail
  refine (QA.out _ HT.out).mono ?_
  rintro e w1 ⟨rfl, b1⟩
  have B1 := hid b1
  clear b1
  go_wp2_with fail
  refine (UA.out _ (HT.out.below B1.out)).mono ?_
  rintro e w2 ⟨rfl, b2⟩
  have B2 := hid (B1.out.trans (b2.mono B1.out.size))
  clear b2
  go_wp2_with fail
  refine (LV.out _ (HT.out.below B2.out)).mono ?_
  rintro e w3 ⟨rfl, b3⟩
  have B3 := hid (B2.out.trans (b3.mono B2.out.size))
  clear b3
  go_wp2_with fail
  go_ret
  exact ⟨rfl, B3.out⟩
end Go.Proofs.YtfbekjgbijlcaaaDoor
