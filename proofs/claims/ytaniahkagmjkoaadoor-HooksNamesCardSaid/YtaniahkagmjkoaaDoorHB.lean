/-
  Walks of layer 11: a method that tells, one that prints; a spec of a verb alone; what the document's examples are.
-/
import Derived.Test.YtaniahkagmjkoaaDoorHA
namespace Go.Proofs.YtaniahkagmjkoaaDoor
open Go.RowKit Go.Proofs

theorem do_tells (a : Ac) (nil : Bool) (v : Int) (name : ByteArray) (X : Nat) (p s : Int) (W : World) (h1 : a.k = 1) (hX : AskB W X p s) :
    Calls Tryd.prog 16 (doArgs a nil v name X) W fun e w' => e = .returned (.tuple #[.string a.t, .bool true]) ∧ AskB w' X p s ∧ Only X W w' :=
  do_ret a nil v name X p s a.t W (by rw [h1]; rfl) fun W1 b1 => caught_ret a X p s a.t W1 (Nat.lt_of_lt_of_le hX.lt b1.size) fun W2 b2 =>
    (run_tells a X W2 (by rw [h1]; rfl) (by rw [h1]; rfl)).mono fun _ _ ⟨he, hb⟩ =>
      have x2 : AskB W2 X p s := (hX.below b1 hX.lt).below b2 (Nat.lt_of_lt_of_le hX.lt b1.size)
      ⟨he, x2.below hb x2.lt, Only.of_below hb⟩
theorem do_prints (a : Ac) (nil : Bool) (v : Int) (name : ByteArray) (X : Nat) (p s : Int) (ds : List De) (W : World) (h3 : a.k = 3) (hX : AskB W X p s) (hp0 : 0 ≤ p) (hp1 : p ≤ 1000) (hf : a.f.size ≤ 100000) (hA : ArgsAt W a.ar ds) (hn : ds.length ≤ 1000)
    (hgX : ∀ g o, a.ar.a = some ⟨g, o, none⟩ → ds ≠ [] → g ≠ X) :
    Calls Tryd.prog 16 (doArgs a nil v name X) W fun e w' => e = .returned (.tuple #[.string (printS a.f ds), .bool true]) ∧ AskB w' X (p + 1) s ∧ Only X W w' :=
  do_ret a nil v name X (p + 1) s _ W (by rw [h3]; rfl) fun W1 b1 => caught_ret a X (p + 1) s _ W1 (Nat.lt_of_lt_of_le hX.lt b1.size) fun W2 b2 =>
    have x1 := hX.below b1 hX.lt
    have a1 := hA.below b1
    run_prints a X p s ds W2 h3 (x1.below b2 x1.lt) hp0 hp1 hf (a1.below b2) hn hgX
set_option maxHeartbeats 1000000 in
theorem hbare_any (v : Int) (w : World) : Calls Tryd.prog 28 #[.int .i32 v] w fun e w' => e = .returned (.agg (sp8 false false false false false (-1) (-1) v)) ∧ Below w.heap.size w w' := by
  go_enter Tryd.func28, Tryd.ntmps28
  go_wp2_with fail
  refine bodyPost_ret (v := .agg (sp8 false false false false false (-1) (-1) v)) (by simp [results, Tryd.results28, go_sem]) rfl ⟨rfl, ?_⟩
  exact (Below.refl _ _).alloc (Nat.le_refl _) _

abbrev sl0 : Sl := ⟨none, 0, 0⟩
abbrev deZ : De := ⟨0, ⟨#[]⟩, 0, 0, ⟨#[]⟩, sl0, sl0, 0⟩
abbrev acZ : Ac := ⟨0, ⟨#[]⟩, ⟨#[]⟩, sl0, deZ⟩
abbrev acHi : Ac := ⟨1, ⟨#[104, 105]⟩, ⟨#[]⟩, sl0, deZ⟩
abbrev acBoo : Ac := ⟨2, ⟨#[]⟩, ⟨#[]⟩, sl0, ⟨0, ⟨#[]⟩, 0, 0, ⟨#[98, 111, 111]⟩, sl0, sl0, 0⟩⟩
abbrev hkHi : Hk := ⟨acZ, acZ, acZ, acHi⟩
abbrev hkBoo : Hk := ⟨acZ, acZ, acZ, acBoo⟩
theorem which_hi : whichN hkHi 113 false = 4 := by decide
theorem which_boo : whichN hkBoo 115 false = 4 := by decide
theorem kind_0 : kindS 0 = ⟨#[48]⟩ := by
  unfold kindS
  rw [show ((0 : Int) % 4294967296).toNat = 0 from rfl, IP.dgb_small false (by decide)]
  rfl
theorem show_boo : showS acBoo.p = ⟨#[123, 48, 98, 111, 111, 125]⟩ := by
  unfold showS
  rw [kind_0]
  rfl
theorem panic_boo : panicS 115 (methodS 4) (showS acBoo.p) = ⟨#[37, 33, 115, 40, 80, 65, 78, 73, 67, 61, 83, 116, 114, 105, 110, 103, 32, 109, 101, 116, 104, 111, 100, 58, 32, 123, 48, 98, 111, 111, 125, 41]⟩ := by
  rw [show_boo]
  rfl
theorem quote_hi : IP.quoteL false [104, 105] = [34, 104, 105, 34] := by
  unfold IP.quoteL
  rw [IP.runsQ_cons _ _ (by simp), show List.drop (Utf.decL [104, 105]).2 ([104, 105] : List UInt8) = [105] from rfl, IP.runsQ_cons _ _ (by simp), show List.drop (Utf.decL [105]).2 ([105] : List UInt8) = [] from rfl, IP.runsQ_nil]
  rw [show IP.stepQ false [104, 105] = [104] by decide, show IP.stepQ false [105] = [105] by decide]
  rfl
theorem text_hi : textS false false false false false (-1) (-1) 113 ⟨#[104, 105]⟩ = some ⟨#[34, 104, 105, 34]⟩ := by
  unfold textS
  rw [if_neg (by decide), if_neg (by decide), if_pos rfl, if_neg (by simp)]
  rw [show cutS ⟨#[104, 105]⟩ (-1) = ⟨#[104, 105]⟩ from rfl]
  rw [show (⟨#[104, 105]⟩ : ByteArray).data.toList = [104, 105] from rfl, quote_hi]
  unfold padS
  rw [if_pos]
  show max (0 : Int) (min (-1) 1000) - _ ≤ 0
  have : (0 : Int) ≤ (Utf.count (⟨[34, 104, 105, 34].toArray⟩ : ByteArray).data.toList : Int) := Int.natCast_nonneg _
  omega
end Go.Proofs.YtaniahkagmjkoaaDoor
