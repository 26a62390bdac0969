/-
  Walks of layer 9: a star or digits.
-/
import Derived.Test.YtmfhoindfhmncaaDoorP4
import Derived.Deep.RegionHeld3
import Derived.Deep.QuietTactic
import Derived.BigQuiet
import Derived.BigRegion
import Derived.RegionTactic
import Derived.ChangeAlike
import Derived.Deep.RegionWith
namespace Go.Proofs.YtmfhoindfhmncaaDoor
open Go.RowKit Go.Proofs

/-- What holds while a number is read: the reader, the parameter's block, the two results' blocks. -/
structure St (w : World) (R V B C D : Nat) (xk xn : Int) (W : World) (u : ByteArray) : Prop where
  rd : Rd W R V u
  only : Only R w W
  b : Blk W B #[.int .i64 xk, .int .i64 xn] 36
  c : Blk W C #[.int .i64 0, .int .i64 0, .int .i64 0, .int .i64 0] 38
  d : Blk W D #[.int .i64 0, .int .i64 0] 36
def Cl (B C D : Nat) (xk xn : Int) (W : World) : Prop :=
  W.cell? ⟨B, 0, none⟩ = some (.int .i64 xk) ∧ W.cell? ⟨B, 1, none⟩ = some (.int .i64 xn) ∧ W.cell? ⟨C, 0, none⟩ = some (.int .i64 0) ∧ W.cell? ⟨C, 1, none⟩ = some (.int .i64 0) ∧ W.cell? ⟨C, 2, none⟩ = some (.int .i64 0) ∧ W.cell? ⟨C, 3, none⟩ = some (.int .i64 0) ∧
    W.cell? ⟨D, 0, none⟩ = some (.int .i64 0) ∧ W.cell? ⟨D, 1, none⟩ = some (.int .i64 0) ∧ (∀ i, W.frozen? ⟨C, i, none⟩ = false) ∧ (∀ i, W.frozen? ⟨D, i, none⟩ = false)
section
variable {w : World} {R V B C D : Nat} {xk xn : Int} {W : World} {u : ByteArray}
theorem St.cl (h : St w R V B C D xk xn W u) : Cl B C D xk xn W :=
  ⟨h.b.cell 0, h.b.cell 1, h.c.cell 0, h.c.cell 1, h.c.cell 2, h.c.cell 3, h.d.cell 0, h.d.cell 1, h.c.frozen, h.d.frozen⟩
theorem St.drew (h : St w R V B C D xk xn W u) : St w R V B C D xk xn W.drew u := ⟨h.rd.drew, h.only.drew, h.b, h.c, h.d⟩
theorem St.below (h : St w R V B C D xk xn W u) {W' : World} (hb : Below W.heap.size W W') : St w R V B C D xk xn W' u :=
  ⟨h.rd.below hb, h.only.trans (Only.of_below hb), h.b.below hb h.b.lt, h.c.below hb h.c.lt, h.d.below hb h.d.lt⟩
theorem St.moved (h : St w R V B C D xk xn W u) (nb : B ≠ R) (nc : C ≠ R) (nd : D ≠ R) {W' : World} {u' : ByteArray} (hr : Rd W' R V u') (ho : Only R W W') : St w R V B C D xk xn W' u' :=
  ⟨hr, h.only.trans ho, h.b.same (ho.block _ h.b.lt nb), h.c.same (ho.block _ h.c.lt nc), h.d.same (ho.block _ h.d.lt nd)⟩
end
/-- The two results are laid. -/
theorem bytes_ext {a b : ByteArray} (h : a.data.toList = b.data.toList) : a = b := by
  cases a; cases b; simp only at h; congr; exact Array.ext' h
theorem num_ends {w : World} {R V B C D : Nat} {xk xn : Int} {W : World} {u : ByteArray} (h : St w R V B C D xk xn W u) (n2 : R ≠ C) (n3 : R ≠ D) (n5 : V ≠ C) (n6 : V ≠ D) (n9 : C ≠ D) (hC : w.heap.size ≤ C) (hD : w.heap.size ≤ D) (k n ak an jk jn : Int) {W' : World}
    (hW : (((((W.setCell ⟨C, 0, none⟩ (.int .i64 k)).setCell ⟨C, 1, none⟩ (.int .i64 n)).setCell ⟨C, 2, none⟩ (.int .i64 ak)).setCell ⟨C, 3, none⟩ (.int .i64 an)).setCell ⟨D, 0, none⟩ (.int .i64 jk)).setCell ⟨D, 1, none⟩ (.int .i64 jn) = W') :
    (W'.cell? ⟨C, 0, none⟩ = some (.int .i64 k) ∧ W'.cell? ⟨C, 1, none⟩ = some (.int .i64 n) ∧ W'.cell? ⟨C, 2, none⟩ = some (.int .i64 ak) ∧ W'.cell? ⟨C, 3, none⟩ = some (.int .i64 an) ∧ W'.cell? ⟨D, 0, none⟩ = some (.int .i64 jk) ∧ W'.cell? ⟨D, 1, none⟩ = some (.int .i64 jn)) ∧ Rd W' R V u ∧ Only R w W' := by
  have hc : Blk W' C #[.int .i64 k, .int .i64 n, .int .i64 ak, .int .i64 an] 38 := hW ▸ ((((((h.c.set_ 0 _).set_ 1 _).set_ 2 _).set_ 3 _).far (by simpa using n9) _).far (by simpa using n9) _)
  have hd : Blk W' D #[.int .i64 jk, .int .i64 jn] 36 := hW ▸ ((((((h.d.far (by simpa using n9.symm) _).far (by simpa using n9.symm) _).far (by simpa using n9.symm) _).far (by simpa using n9.symm) _).set_ 0 _).set_ 1 _)
  have hr : Rd W' R V u := hW ▸ ((((((h.rd.far n2 n5 _).far n2 n5 _).far n2 n5 _).far n2 n5 _).far n3 n6 _).far n3 n6 _)
  have ho : Only R w W' := hW ▸ only_new (only_new (only_new (only_new (only_new (only_new h.only hC _) hC _) hC _) hC _) hD _) hD _
  exact ⟨⟨hc.cell 0, hc.cell 1, hc.cell 2, hc.cell 3, hd.cell 0, hd.cell 1⟩, hr, ho⟩

set_option maxRecDepth 100000 in
set_option maxHeartbeats 4000000 in
theorem num_any (R V : Nat) (t : ByteArray) (x : PP.Ix) (al : Bool) (w : World) (h : Rd w R V t) (hs : t.size ≤ 140737488355328) :
    Calls Tryd.prog 27 #[.pointer (some ⟨R, 0, none⟩), ixV x, .bool al] w fun e w' => e = .returned (.tuple #[nmV (PP.nmL x al t.data.toList).1, ixV (PP.nmL x al t.data.toList).2.1]) ∧
      ∃ t', t'.data.toList = (PP.nmL x al t.data.toList).2.2 ∧ Rd w' R V t' ∧ Only R w w' := by
  obtain ⟨xk, xn⟩ := x
  have hr0 : w.cell? ⟨R, 0, none⟩ = some (.string t) := h.1.cell 0
  have hr1 : w.cell? ⟨R, 1, none⟩ = some (clo V) := h.1.cell 1
  have hfr : ∀ i, w.frozen? ⟨R, i, none⟩ = false := h.1.frozen
  have hR : R < w.heap.size := h.1.lt
  have hV : V < w.heap.size := h.2.lt
  have hR1 : R < w.heap.size + 1 := by omega
  have hR2 : R < w.heap.size + 1 + 1 := by omega
  have HR := hid h
  obtain ⟨F, hF⟩ : ∃ F, PP.nmL ⟨xk, xn⟩ al t.data.toList = F := ⟨_, rfl⟩
  rw [hF]
  have HF := hid hF
  have PK := hid (peek_any R V t)
  have hpb := pk_bound t.data.toList
  have hpos' := hid (@pk_pos t)
  unfold PP.nmL at HF
  obtain ⟨c, hcc⟩ : ∃ c, PP.pk t.data.toList = c := ⟨_, rfl⟩
  simp only [hcc] at PK HF hpb hpos'
  clear hF h
  go_enter Tryd.func27, Tryd.ntmps27
  go_wp2_with fail
  obtain ⟨W1, hW1⟩ : ∃ W1, ((w.alloc (.cells #[.int .i64 xk, .int .i64 xn] 36)).alloc (.cells #[.int .i64 0, .int .i64 0, .int .i64 0, .int .i64 0] 38)).alloc (.cells #[.int .i64 0, .int .i64 0] 36) = W1 := ⟨_, rfl⟩
  have HR1 : Rd W1 R V t := hW1 ▸ ((HR.out.alloc _).alloc _).alloc _
  have HO1 : Only R w W1 := hW1 ▸ (((Only.refl R w).alloc _).alloc _).alloc _
  obtain ⟨B, hB⟩ : ∃ B, w.heap.size = B := ⟨_, rfl⟩
  have HB1 : Blk W1 B #[.int .i64 xk, .int .i64 xn] 36 := by
    rw [← hW1, ← hB]
    exact ((Blk.new _ _ _).alloc _).alloc _
  have HC1 : Blk W1 (B + 1) #[.int .i64 0, .int .i64 0, .int .i64 0, .int .i64 0] 38 := by
    rw [← hW1, ← hB]
    have := Blk.new (w.alloc (.cells #[.int .i64 xk, .int .i64 xn] 36)) #[.int .i64 0, .int .i64 0, .int .i64 0, .int .i64 0] 38
    rw [show (w.alloc (.cells #[.int .i64 xk, .int .i64 xn] 36)).heap.size = w.heap.size + 1 by simp] at this
    exact this.alloc _
  have HD1 : Blk W1 (B + 1 + 1) #[.int .i64 0, .int .i64 0] 36 := by
    rw [← hW1, ← hB]
    have := Blk.new ((w.alloc (.cells #[.int .i64 xk, .int .i64 xn] 36)).alloc (.cells #[.int .i64 0, .int .i64 0, .int .i64 0, .int .i64 0] 38)) #[.int .i64 0, .int .i64 0] 36
    rw [show ((w.alloc (.cells #[.int .i64 xk, .int .i64 xn] 36)).alloc (.cells #[.int .i64 0, .int .i64 0, .int .i64 0, .int .i64 0] 38)).heap.size = w.heap.size + 1 + 1 by simp] at this
    exact this
  rw [hW1, hB]
  obtain ⟨C, hC⟩ : ∃ C, B + 1 = C := ⟨_, rfl⟩
  rw [hC] at HC1 HD1 ⊢
  obtain ⟨D, hD⟩ : ∃ D, C + 1 = D := ⟨_, rfl⟩
  rw [hD] at HD1 ⊢
  have hN : R ≠ B ∧ R ≠ C ∧ R ≠ D ∧ V ≠ B ∧ V ≠ C ∧ V ≠ D ∧ B ≠ C ∧ B ≠ D ∧ C ≠ D ∧ B ≠ R ∧ C ≠ R ∧ D ≠ R ∧ C ≠ B ∧ D ≠ B ∧ D ≠ C := by omega
  have hG := hid (show w.heap.size ≤ B ∧ w.heap.size ≤ C ∧ w.heap.size ≤ D by omega)
  clear hW1 hr0 hr1 hfr hR hV hR1 hR2 hB hC hD
  refine (PK.out _ HR1).mono ?_
  rintro e w' ⟨rfl, rfl⟩
  have cr0 : W1.cell? ⟨R, 0, none⟩ = some (.string t) := HR1.1.cell 0
  have cr1 : W1.cell? ⟨R, 1, none⟩ = some (clo V) := HR1.1.cell 1
  have cb0 : W1.cell? ⟨B, 0, none⟩ = some (.int .i64 xk) := HB1.cell 0
  have cb1 : W1.cell? ⟨B, 1, none⟩ = some (.int .i64 xn) := HB1.cell 1
  have cc0 : W1.cell? ⟨C, 0, none⟩ = some (.int .i64 0) := HC1.cell 0
  have cc1 : W1.cell? ⟨C, 1, none⟩ = some (.int .i64 0) := HC1.cell 1
  have cc2 : W1.cell? ⟨C, 2, none⟩ = some (.int .i64 0) := HC1.cell 2
  have cc3 : W1.cell? ⟨C, 3, none⟩ = some (.int .i64 0) := HC1.cell 3
  have cd0 : W1.cell? ⟨D, 0, none⟩ = some (.int .i64 0) := HD1.cell 0
  have cd1 : W1.cell? ⟨D, 1, none⟩ = some (.int .i64 0) := HD1.cell 1
  have fr : ∀ i, W1.frozen? ⟨R, i, none⟩ = false := HR1.1.frozen
  have fc : ∀ i, W1.frozen? ⟨C, i, none⟩ = false := HC1.frozen
  have fd : ∀ i, W1.frozen? ⟨D, i, none⟩ = false := HD1.frozen
  have S1 := hid (St.mk (xk := xk) (xn := xn) HR1 HO1 HB1 HC1 HD1)
  clear HR1 HO1 HC1 HD1 HB1
  obtain ⟨n1, n2, n3, n4, n5, n6, n7, n8, n9, n10, n11, n12, n13, n14, n15⟩ := hN
  obtain ⟨d, hd0⟩ : ∃ d : ByteArray, d.data.toList = PP.dg t.data.toList := ⟨⟨(PP.dg t.data.toList).toArray⟩, by simp⟩
  obtain ⟨u, hu0⟩ : ∃ u : ByteArray, u.data.toList = PP.rs t.data.toList := ⟨⟨(PP.rs t.data.toList).toArray⟩, by simp⟩
  have hds : d.size ≤ 140737488355328 := by
    have h1 := congrArg List.length (PP.dg_rs t.data.toList)
    rw [List.length_append, ← Utf.size_eq] at h1
    rw [size_list hd0]
    omega
  have DG := hid (fun (W : World) (hW : St w R V B C D xk xn W t) => (digits_any R V t W hW.rd hs).mono (R' := fun e W' => e = .returned (.string d) ∧ St w R V B C D xk xn W' u ∧ Cl B C D xk xn W') (by
    rintro e W' ⟨d', rfl, hd', u', hu', hr', ho'⟩
    have e1 : d' = d := bytes_ext (hd'.trans hd0.symm)
    have e2 : u' = u := bytes_ext (hu'.trans hu0.symm)
    subst e1 e2
    have := hW.moved n10 n11 n12 hr' ho'
    exact ⟨rfl, this, this.cl⟩))
  obtain ⟨v, hv⟩ : ∃ v, PP.valL 1000 0 (PP.dg t.data.toList) = v := ⟨_, rfl⟩
  have NB := hid (fun (W : World) (z : ByteArray) (hW : St w R V B C D xk xn W z) => (number_any d 1000 W hds (by decide) (hd0 ▸ allD_dg _)).mono (R' := fun e W' => e = .returned (.int .i64 v) ∧ St w R V B C D xk xn W' z ∧ Cl B C D xk xn W') (by
    rintro e W' ⟨rfl, hb⟩
    rw [hd0, hv]
    exact ⟨rfl, hW.below hb, (hW.below hb).cl⟩))
  obtain ⟨⟨jk, jn⟩, hj⟩ : ∃ j, PP.spoil ⟨xk, xn⟩ = j := ⟨_, rfl⟩
  have SP := hid (fun (W : World) (z : ByteArray) (hW : St w R V B C D xk xn W z) => (spoilt_any ⟨xk, xn⟩ W).mono (R' := fun e W' => e = .returned (.agg #[.int .i64 jk, .int .i64 jn]) ∧ St w R V B C D xk xn W' z ∧ Cl B C D xk xn W') (by
    rintro e W' ⟨rfl, hb⟩
    rw [hj]
    exact ⟨rfl, hW.below hb, (hW.below hb).cl⟩))
  have HU := hid hu0
  rw [hv, hj] at HF
  clear hd0 hu0 hv hj hds
  have S0 : St w R V B C D xk xn W1.drew t := S1.out.drew
  by_cases hc : c = 42
  · subst hc
    have hpos : 0 < t.size := hpos'.out (by omega)
    obtain ⟨u, hu⟩ : ∃ u, t.extract 1 t.size = u := ⟨_, rfl⟩
    have HU := hid (show u.data.toList = t.data.toList.drop 1 by rw [← hu, ext_drop])
    have HZ := hid (show F = (⟨2, 0, ⟨xk, xn⟩⟩, ⟨0, 0⟩, t.data.toList.drop 1) by rw [← HF.out, if_pos rfl])
    clear HF
    have S2 := hid (St.moved S1.out n10 n11 n12 (S1.out.rd.put u) ((Only.refl R W1).set_ 0 _))
    go_wp2_with fail
    obtain ⟨W5, hW5⟩ : ∃ W5, ((((((W1.setCell ⟨R, 0, none⟩ (.string u)).setCell ⟨C, 0, none⟩ (.int .i64 (2))).setCell ⟨C, 1, none⟩ (.int .i64 (0))).setCell ⟨C, 2, none⟩ (.int .i64 (xk))).setCell ⟨C, 3, none⟩ (.int .i64 (xn))).setCell ⟨D, 0, none⟩ (.int .i64 (0))).setCell ⟨D, 1, none⟩ (.int .i64 (0)) = W5 := ⟨_, rfl⟩
    have HE := num_ends S2.out n2 n3 n5 n6 n9 hG.out.2.1 hG.out.2.2 _ _ _ _ _ _ hW5
    rw [hW5]
    obtain ⟨⟨e0, e1, e2, e3, e4, e5⟩, hre, hoe⟩ := HE
    clear hW5
    exact bodyPost_ret (v := .tuple #[.agg #[.int .i64 (2), .int .i64 (0), .int .i64 (xk), .int .i64 (xn)], .agg #[.int .i64 (0), .int .i64 (0)]]) (by simp [results, Tryd.results27, go_sem, e0, e1, e2, e3, e4, e5]) rfl ⟨by rw [HZ.out], u, by rw [HZ.out]; exact HU.out, hre, hoe⟩
  · have HF := hid (HF.out.symm.trans (if_neg hc))
    by_cases hd : 49 ≤ c ∧ c ≤ 57
    · have HZ := hid (show F = (⟨1, v, ⟨0, 0⟩⟩, ⟨jk, jn⟩, PP.rs t.data.toList) by rw [HF.out, if_pos (Or.inl hd)])
      clear HF
      obtain ⟨hd1, hd2⟩ := hd
      go_wp2_with fail
      go_region_with (first | (go_at_call 42; refine (DG.out _ (by assumption)).mono ?_; rintro e w9 ⟨rfl, st, k1, k2, k3, k4, k5, k6, k7, k8, k9, k10⟩) | (go_at_call 41; refine (NB.out _ _ (by assumption)).mono ?_; rintro e w9 ⟨rfl, st, k1, k2, k3, k4, k5, k6, k7, k8, k9, k10⟩) | (go_at_call 29; refine (SP.out _ _ (by assumption)).mono ?_; rintro e w9 ⟨rfl, st, k1, k2, k3, k4, k5, k6, k7, k8, k9, k10⟩))
      all_goals (
        go_wp2_with fail
        obtain ⟨W5, hW5⟩ : ∃ W5, (((((w9.setCell ⟨C, 0, none⟩ (.int .i64 1)).setCell ⟨C, 1, none⟩ (.int .i64 v)).setCell ⟨C, 2, none⟩ (.int .i64 0)).setCell ⟨C, 3, none⟩ (.int .i64 0)).setCell ⟨D, 0, none⟩ (.int .i64 jk)).setCell ⟨D, 1, none⟩ (.int .i64 jn) = W5 := ⟨_, rfl⟩
        have HE := num_ends st n2 n3 n5 n6 n9 hG.out.2.1 hG.out.2.2 _ _ _ _ _ _ hW5
        rw [hW5]
        obtain ⟨⟨e0, e1, e2, e3, e4, e5⟩, hre, hoe⟩ := HE
        clear hW5
        exact bodyPost_ret (v := .tuple #[.agg #[.int .i64 1, .int .i64 v, .int .i64 0, .int .i64 0], .agg #[.int .i64 jk, .int .i64 jn]]) (by simp [results, Tryd.results27, go_sem, e0, e1, e2, e3, e4, e5]) rfl ⟨by rw [HZ.out], u, by rw [HZ.out]; exact HU.out, hre, hoe⟩)
    · by_cases hz : al = true
      · subst hz
        by_cases hz : c = 48
        · have HZ := hid (show F = (⟨1, v, ⟨0, 0⟩⟩, ⟨jk, jn⟩, PP.rs t.data.toList) by rw [HF.out, if_pos (Or.inr ⟨rfl, hz⟩)])
          clear HF
          subst hz
          go_wp2_with fail
          go_region_with (first | (go_at_call 42; refine (DG.out _ (by assumption)).mono ?_; rintro e w9 ⟨rfl, st, k1, k2, k3, k4, k5, k6, k7, k8, k9, k10⟩) | (go_at_call 41; refine (NB.out _ _ (by assumption)).mono ?_; rintro e w9 ⟨rfl, st, k1, k2, k3, k4, k5, k6, k7, k8, k9, k10⟩) | (go_at_call 29; refine (SP.out _ _ (by assumption)).mono ?_; rintro e w9 ⟨rfl, st, k1, k2, k3, k4, k5, k6, k7, k8, k9, k10⟩))
          all_goals (
            go_wp2_with fail
            obtain ⟨W5, hW5⟩ : ∃ W5, (((((w9.setCell ⟨C, 0, none⟩ (.int .i64 1)).setCell ⟨C, 1, none⟩ (.int .i64 v)).setCell ⟨C, 2, none⟩ (.int .i64 0)).setCell ⟨C, 3, none⟩ (.int .i64 0)).setCell ⟨D, 0, none⟩ (.int .i64 jk)).setCell ⟨D, 1, none⟩ (.int .i64 jn) = W5 := ⟨_, rfl⟩
            have HE := num_ends st n2 n3 n5 n6 n9 hG.out.2.1 hG.out.2.2 _ _ _ _ _ _ hW5
            rw [hW5]
            obtain ⟨⟨e0, e1, e2, e3, e4, e5⟩, hre, hoe⟩ := HE
            clear hW5
            exact bodyPost_ret (v := .tuple #[.agg #[.int .i64 1, .int .i64 v, .int .i64 0, .int .i64 0], .agg #[.int .i64 jk, .int .i64 jn]]) (by simp [results, Tryd.results27, go_sem, e0, e1, e2, e3, e4, e5]) rfl ⟨by rw [HZ.out], u, by rw [HZ.out]; exact HU.out, hre, hoe⟩)
        · have HZ := hid (show F = (⟨1, 0, ⟨0, 0⟩⟩, ⟨xk, xn⟩, t.data.toList) by rw [HF.out, if_neg (by rintro (h | h); exact hd h; exact hz h.2), if_pos rfl])
          clear HF
          rcases (show c < 49 ∨ 57 < c by omega) with hlo | hlo
          · go_wp2_with fail
            go_region
            go_wp2_with fail
            obtain ⟨W5, hW5⟩ : ∃ W5, (((((W1.setCell ⟨C, 0, none⟩ (.int .i64 (1))).setCell ⟨C, 1, none⟩ (.int .i64 (0))).setCell ⟨C, 2, none⟩ (.int .i64 (0))).setCell ⟨C, 3, none⟩ (.int .i64 (0))).setCell ⟨D, 0, none⟩ (.int .i64 (xk))).setCell ⟨D, 1, none⟩ (.int .i64 (xn)) = W5 := ⟨_, rfl⟩
            have HE := num_ends S1.out n2 n3 n5 n6 n9 hG.out.2.1 hG.out.2.2 _ _ _ _ _ _ hW5
            rw [hW5]
            obtain ⟨⟨e0, e1, e2, e3, e4, e5⟩, hre, hoe⟩ := HE
            clear hW5
            exact bodyPost_ret (v := .tuple #[.agg #[.int .i64 (1), .int .i64 (0), .int .i64 (0), .int .i64 (0)], .agg #[.int .i64 (xk), .int .i64 (xn)]]) (by simp [results, Tryd.results27, go_sem, e0, e1, e2, e3, e4, e5]) rfl ⟨by rw [HZ.out], t, by rw [HZ.out], hre.drew, hoe.drew⟩
          · go_wp2_with fail
            go_region
            go_wp2_with fail
            obtain ⟨W5, hW5⟩ : ∃ W5, (((((W1.setCell ⟨C, 0, none⟩ (.int .i64 (1))).setCell ⟨C, 1, none⟩ (.int .i64 (0))).setCell ⟨C, 2, none⟩ (.int .i64 (0))).setCell ⟨C, 3, none⟩ (.int .i64 (0))).setCell ⟨D, 0, none⟩ (.int .i64 (xk))).setCell ⟨D, 1, none⟩ (.int .i64 (xn)) = W5 := ⟨_, rfl⟩
            have HE := num_ends S1.out n2 n3 n5 n6 n9 hG.out.2.1 hG.out.2.2 _ _ _ _ _ _ hW5
            rw [hW5]
            obtain ⟨⟨e0, e1, e2, e3, e4, e5⟩, hre, hoe⟩ := HE
            clear hW5
            exact bodyPost_ret (v := .tuple #[.agg #[.int .i64 (1), .int .i64 (0), .int .i64 (0), .int .i64 (0)], .agg #[.int .i64 (xk), .int .i64 (xn)]]) (by simp [results, Tryd.results27, go_sem, e0, e1, e2, e3, e4, e5]) rfl ⟨by rw [HZ.out], t, by rw [HZ.out], hre.drew, hoe.drew⟩
      · have hz : al = false := by simpa using hz
        subst hz
        have HZ := hid (show F = (⟨0, 0, ⟨0, 0⟩⟩, ⟨xk, xn⟩, t.data.toList) by rw [HF.out, if_neg (by rintro (h | h); exact hd h; exact absurd h.1 (by decide)), if_neg (by decide)])
        clear HF
        rcases (show c < 49 ∨ 57 < c by omega) with hlo | hlo
        · go_wp2_with fail
          go_region
          go_wp2_with fail
          obtain ⟨W5, hW5⟩ : ∃ W5, (((((W1.setCell ⟨C, 0, none⟩ (.int .i64 (0))).setCell ⟨C, 1, none⟩ (.int .i64 (0))).setCell ⟨C, 2, none⟩ (.int .i64 (0))).setCell ⟨C, 3, none⟩ (.int .i64 (0))).setCell ⟨D, 0, none⟩ (.int .i64 (xk))).setCell ⟨D, 1, none⟩ (.int .i64 (xn)) = W5 := ⟨_, rfl⟩
          have HE := num_ends S1.out n2 n3 n5 n6 n9 hG.out.2.1 hG.out.2.2 _ _ _ _ _ _ hW5
          rw [hW5]
          obtain ⟨⟨e0, e1, e2, e3, e4, e5⟩, hre, hoe⟩ := HE
          clear hW5
          exact bodyPost_ret (v := .tuple #[.agg #[.int .i64 (0), .int .i64 (0), .int .i64 (0), .int .i64 (0)], .agg #[.int .i64 (xk), .int .i64 (xn)]]) (by simp [results, Tryd.results27, go_sem, e0, e1, e2, e3, e4, e5]) rfl ⟨by rw [HZ.out], t, by rw [HZ.out], hre.drew, hoe.drew⟩
        · go_wp2_with fail
          go_region
          go_wp2_with fail
          obtain ⟨W5, hW5⟩ : ∃ W5, (((((W1.setCell ⟨C, 0, none⟩ (.int .i64 (0))).setCell ⟨C, 1, none⟩ (.int .i64 (0))).setCell ⟨C, 2, none⟩ (.int .i64 (0))).setCell ⟨C, 3, none⟩ (.int .i64 (0))).setCell ⟨D, 0, none⟩ (.int .i64 (xk))).setCell ⟨D, 1, none⟩ (.int .i64 (xn)) = W5 := ⟨_, rfl⟩
          have HE := num_ends S1.out n2 n3 n5 n6 n9 hG.out.2.1 hG.out.2.2 _ _ _ _ _ _ hW5
          rw [hW5]
          obtain ⟨⟨e0, e1, e2, e3, e4, e5⟩, hre, hoe⟩ := HE
          clear hW5
          exact bodyPost_ret (v := .tuple #[.agg #[.int .i64 (0), .int .i64 (0), .int .i64 (0), .int .i64 (0)], .agg #[.int .i64 (xk), .int .i64 (xn)]]) (by simp [results, Tryd.results27, go_sem, e0, e1, e2, e3, e4, e5]) rfl ⟨by rw [HZ.out], t, by rw [HZ.out], hre.drew, hoe.drew⟩
end Go.Proofs.YtmfhoindfhmncaaDoor
