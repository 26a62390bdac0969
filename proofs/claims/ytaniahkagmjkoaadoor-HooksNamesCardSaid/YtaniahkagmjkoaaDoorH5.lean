/-
  Walks of layer 11: what print answers.
-/
import Derived.Test.YtaniahkagmjkoaaDoorH4
import Derived.Great.BuildSlice
namespace Go.Proofs.YtaniahkagmjkoaaDoor
open Go.RowKit Go.Proofs

theorem Blk.setRow {W : World} {g : Nat} {cs : Array Value} {t : TypeId} (h : Blk W g cs t) (vs : Array Value) : Blk (W.setRow g vs) g vs t := by
  unfold Blk at h ⊢
  simp [World.setRow, Array.getElem?_modify, h]
theorem setRow_far {g k : Nat} (hk : k ≠ g) (W : World) (vs : Array Value) : (W.setRow g vs).heap[k]? = W.heap[k]? := by
  simp [World.setRow, Array.getElem?_modify, Ne.symm hk]
theorem setRow_size (g : Nat) (W : World) (vs : Array Value) : (W.setRow g vs).heap.size = W.heap.size := by simp [World.setRow]
theorem below_setRow {B : Nat} {a c : World} (h : Below B a c) (g : Nat) (hg : B ≤ g) (vs : Array Value) : Below B a (c.setRow g vs) :=
  ⟨h.os, h.tape, h.output, by rw [setRow_size]; exact h.size, fun k hk => (setRow_far (by omega) c vs).trans (h.block k hk)⟩

theorem cell_same {w w' : World} {g : Nat} (h : w'.heap[g]? = w.heap[g]?) (j : Nat) : w'.cell? ⟨g, j, none⟩ = w.cell? ⟨g, j, none⟩ := by simp only [World.cell?, h]
/-- A list of descriptors, as it is handed. -/
def ArgsAt (W : World) (sl : Sl) (ds : List De) : Prop := sl.n = ds.length ∧ (ds ≠ [] → ∃ g o, sl.a = some ⟨g, o, none⟩ ∧ g < W.heap.size ∧
  ∀ (k : Nat) d, ds[k]? = some d → ∀ (j : Nat) v, (deV d)[j]? = some v → W.cell? ⟨g, o + k * 8 + j, none⟩ = some v)
theorem ArgsAt.below {W W' : World} {sl : Sl} {ds : List De} (h : ArgsAt W sl ds) (hb : Below W.heap.size W W') : ArgsAt W' sl ds :=
  ⟨h.1, fun hn => by
    obtain ⟨g, o, h1, h2, h3⟩ := h.2 hn
    exact ⟨g, o, h1, Nat.lt_of_lt_of_le h2 hb.size, fun k d hd j v hv => (hb.cell (p := ⟨g, o + k * 8 + j, none⟩) h2).trans (h3 k d hd j v hv)⟩⟩
/-- What print answers, as bytes. -/
def printL (f : ByteArray) (ds : List De) : List UInt8 := 60 :: (f.data.toList ++ ds.flatMap fun d => 44 :: (kindS d.k).data.toList)
def printS (f : ByteArray) (ds : List De) : ByteArray := ⟨(printL f ds ++ [62]).toArray⟩
theorem kindS_size (k : Int) : (kindS k).size ≤ 10 := by
  unfold kindS
  have := IP.dgb_len 10 false (by decide) 10 (k % 4294967296).toNat (by decide) (by omega)
  rw [Utf.size_eq]
  simpa using this
theorem printL_size (f : ByteArray) (ds : List De) : (printL f ds).length ≤ 1 + f.size + 11 * ds.length := by
  unfold printL
  rw [List.length_cons, List.length_append, ← Utf.size_eq]
  have : (ds.flatMap fun d => 44 :: (kindS d.k).data.toList).length ≤ 11 * ds.length := by
    induction ds with
    | nil => simp
    | cons d r ih =>
      rw [List.flatMap_cons, List.length_append, List.length_cons, List.length_cons]
      have := kindS_size d.k
      rw [Utf.size_eq] at this
      omega
  omega
theorem printL_take (f : ByteArray) {ds : List De} {k : Nat} {d : De} (h : ds[k]? = some d) : printL f (ds.take (k + 1)) = printL f (ds.take k) ++ 44 :: (kindS d.k).data.toList := by
  unfold printL
  rw [List.take_add_one, h, List.flatMap_append]
  simp
abbrev de0 : Array Value := #[.int .i64 0, .string ⟨#[]⟩, .int .u64 0, .int .u64 0, .string ⟨#[]⟩, .slice none 0 0, .slice none 0 0, .int .i64 0]
/-- What holds within print. -/
structure PrI (X : Nat) (p s : Int) (W wr : World) (f : ByteArray) (ds : List De) (i : Nat) (t : ByteArray) : Prop where
  t : t.data.toList = printL f (ds.take i)
  x : AskB wr X (p + 1) s
  only : Only X W wr

set_option maxRecDepth 100000 in
set_option maxHeartbeats 2000000 in
theorem print_any (X : Nat) (p s : Int) (f : ByteArray) (sl : Sl) (ds : List De) (W : World) (hX : AskB W X p s) (hp0 : 0 ≤ p) (hp1 : p ≤ 1000) (hf : f.size ≤ 100000) (hA : ArgsAt W sl ds) (hn : ds.length ≤ 1000) (hgX : ∀ g o, sl.a = some ⟨g, o, none⟩ → ds ≠ [] → g ≠ X) :
    Calls Tryd.prog 18 #[.pointer (some ⟨X, 0, none⟩), .string f, slV sl] W fun e w' => e = .returned (.string (printS f ds)) ∧ AskB w' X (p + 1) s ∧ Only X W w' := by
  obtain ⟨A, n, cap⟩ := sl
  obtain ⟨hAn, hA2⟩ := hA
  simp only at hAn hA2 hgX
  subst hAn
  obtain ⟨N, hN⟩ : ∃ N, ds.length = N := ⟨_, rfl⟩
  have x0 : W.cell? ⟨X, 0, none⟩ = some (.int .i64 p) := hX.cell 0
  have xf : W.frozen? ⟨X, 0, none⟩ = false := hX.frozen 0
  have DG := hid (fun (k : Int) W => rdigits_10 (k % 4294967296) W (by omega) (by omega))
  have HX := hid (show AskB (W.setCell ⟨X, 0, none⟩ (.int .i64 (p + 1))) X (p + 1) s ∧ Only X W (W.setCell ⟨X, 0, none⟩ (.int .i64 (p + 1))) from ⟨hX.set_ 0 _, (Only.refl X W).set_ 0 _⟩)
  have HA := hid (And.intro hA2 hgX)
  clear hX hA2 hgX
  rw [hN] at hn ⊢
  have HN := hid hN
  clear hN
  show Calls Tryd.prog _ #[.pointer (some ⟨X, 0, none⟩), .string f, .slice A N cap] W _
  go_enter Tryd.func18, Tryd.ntmps18
  obtain ⟨t0, ht0⟩ : ∃ t : ByteArray, (⟨#[60]⟩ : ByteArray) ++ f = t := ⟨_, rfl⟩
  go_wp2_with fail
  have T0 : Hid (PrI X p s W (W.setCell ⟨X, 0, none⟩ (.int .i64 (p + 1))) f ds 0 t0) := ⟨by rw [← ht0]; simp [printL], HX.out.1, HX.out.2⟩
  obtain ⟨W1, hW1⟩ : ∃ W1, W.setCell ⟨X, 0, none⟩ (.int .i64 (p + 1)) = W1 := ⟨_, rfl⟩
  rw [hW1] at T0 ⊢
  clear hW1 x0 xf HX ht0
  go_loopw [7, 21] (fun tv iv wr => ∃ (i : Nat) (t : ByteArray), iv = .int .i64 i ∧ tv = .string t ∧ i ≤ N ∧ Hid (PrI X p s W wr f ds i t)) (fun _ iv _ => N - (intOf iv).toNat)
  case atStart => exact ⟨0, t0, rfl, rfl, Nat.zero_le _, T0.out⟩
  case round =>
    obtain ⟨i, t, rfl, rfl, hi, hI⟩ := hrel
    have htz : t.size ≤ 120000 := by
      have h1 := printL_size f (ds.take i)
      rw [← hI.out.t, ← Utf.size_eq, List.length_take] at h1
      have := HN.out
      omega
    by_cases hlt : i < N
    · obtain ⟨d, hd⟩ : ∃ d, ds[i]? = some d := ⟨_, List.getElem?_eq_getElem (by rw [HN.out]; exact hlt)⟩
      have hne : ds ≠ [] := by intro e; rw [e] at hd; simp at hd
      obtain ⟨g, o, rfl, hg, hc⟩ := HA.out.1 hne
      have hgX : g ≠ X := HA.out.2 g o rfl hne
      have HC := hid (fun (j : Nat) v (hv : (deV d)[j]? = some v) => (show wr.cell? ⟨g, o + i * 8 + j, none⟩ = some v from by
        have h1 := hc i d hd j v hv
        have h2 : wr.heap[g]? = W.heap[g]? := hI.out.only.block g hg hgX
        exact (cell_same h2 _).trans h1))
      have HD := hid hd
      have gl := hI.out.only.size
      clear hd hne hc hg
      obtain ⟨KD, hKD⟩ : ∃ KD : ByteArray, kindS d.k = KD := ⟨_, rfl⟩
      have hKs : KD.size ≤ 10 := hKD ▸ kindS_size d.k
      have DK := hid (fun W => DG.out d.k W)
      rw [show (⟨(IP.dgb 10 false (d.k % 4294967296).toNat).toArray⟩ : ByteArray) = KD from hKD] at DK
      obtain ⟨u, hu⟩ : ∃ u, d.k % 4294967296 = u := ⟨_, rfl⟩
      have hu0 : 0 ≤ u := by omega
      have hu1 : u ≤ 4294967295 := by omega
      rw [hu] at DK
      have w1 : IntKind.u32.wrap d.k = u := by rw [← hu]; rfl
      have w2 : IntKind.u64.wrap u = u := by
        show u % 18446744073709551616 = u
        exact Int.emod_eq_of_lt hu0 (by omega)
      have HK0 := hid hKD
      clear hu hKD
      go_upto_region 5 with fail
      refine wp_region_list ?_
      refine wpList_plain rfl fun K hK => ?_
      have HK := hid hK
      clear hK
      go_wp2_with fail
      refine HK.out _ _ ?_
      clear HK
      refine wpList_load_mid rfl 26 (.tmp 23) rfl g (o + i * 8) rfl (deV d).toList _ (fun j v hv => HC.out j v (by simpa using hv)) Tryd.underlying26 rfl desc_size ?_
      refine wpList_plain rfl fun K hK => ?_
      have HK := hid hK
      clear hK
      go_wp2_with fail
      refine HK.out _ _ ?_
      clear HK
      have hG := Blk.new wr de0 26
      refine wpList_store_rowTo rfl 26 _ _ rfl rfl wr.heap.size (deV d) rfl rfl 26 de0 hG desc_size rfl (deV_one _) ?_
      have hG2 := hG.setRow (deV d)
      have b3 : Below wr.heap.size wr ((wr.alloc (.cells de0 26)).setRow wr.heap.size (deV d)) := below_setRow ((Below.refl _ _).alloc (Nat.le_refl _) _) wr.heap.size (Nat.le_refl _) (deV d)
      obtain ⟨W2, hW2⟩ : ∃ W2, (wr.alloc (.cells de0 26)).setRow wr.heap.size (deV d) = W2 := ⟨_, rfl⟩
      rw [hW2] at hG2 b3 ⊢
      obtain ⟨G, hGG⟩ : ∃ G, wr.heap.size = G := ⟨_, rfl⟩
      rw [hGG] at hG2 ⊢
      have c0 : W2.cell? ⟨G, 0, none⟩ = some (.int .i64 d.k) := hG2.cell 0
      obtain ⟨t2, ht2⟩ : ∃ t2 : ByteArray, t ++ ((⟨#[44]⟩ : ByteArray) ++ KD) = t2 := ⟨_, rfl⟩
      have N2 := hid (show PrI X p s W W2 f ds (i + 1) t2 from ⟨by
          rw [printL_take f HD.out, ← hI.out.t, ← ht2, HK0.out]
          simp, hI.out.x.below b3 hI.out.x.lt, hI.out.only.trans (Only.of_below b3)⟩)
      clear hG hG2 hW2 hGG b3
      refine wpList_nil ?_
      go_wp2_with fail
      refine (DK.out _).mono ?_
      rintro e w9 ⟨rfl, hw⟩
      subst hw
      go_wp2_with fail
      try rw [ht2]
      go_roundw
      case rel => exact ⟨i + 1, t2, by go_num, rfl, by omega, N2.out⟩
      case measure => simp [intOf]; omega
    · have e : i = N := by omega
      have hR : Hid (t ++ (⟨#[62]⟩ : ByteArray) = printS f ds) := by
        refine hid (dbytes_ext ?_)
        rw [ByteArray.data_append, Array.toList_append, hI.out.t, e, ← HN.out, List.take_length]
        rfl
      have N2 := hid (And.intro hI.out.x hI.out.only)
      go_wp2_with fail
      go_ret
      exact ⟨by first | rfl | (rw [← hR.out]; rfl), N2.out.1, N2.out.2⟩
end Go.Proofs.YtaniahkagmjkoaaDoor
