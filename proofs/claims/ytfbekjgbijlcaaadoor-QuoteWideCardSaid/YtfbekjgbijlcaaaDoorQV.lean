/-
  Walks of layer 2: a quoted text is read.
-/
import Derived.Test.YtfbekjgbijlcaaaDoorQU
import Derived.Test.YtfbekjgbijlcaaaDoorSh2
import Derived.Test.YtfbekjgbijlcaaaDoorBw
namespace Go.Proofs.YtfbekjgbijlcaaaDoor
open Go.RowKit Go.Proofs

theorem escN_is (b : UInt8) : IP.escN b = 0 ∨ IP.escN b = 2 ∨ IP.escN b = 4 ∨ IP.escN b = 8 := by
  unfold IP.escN
  split
  · exact Or.inr (Or.inl rfl)
  · split
    · exact Or.inr (Or.inr (Or.inl rfl))
    · split
      · exact Or.inr (Or.inr (Or.inr rfl))
      · exact Or.inl rfl
theorem oneP_bound (f : Int → Int → Int) (l u : List UInt8) (n : Nat) (h : IP.oneP f l = some (u, n)) : 1 ≤ n ∧ n ≤ l.length ∧ u.length ≤ n := by
  match l with
  | [] => simp [IP.oneP] at h
  | a :: t =>
    simp only [IP.oneP] at h
    split at h
    · split at h
      · cases h
      · simp only [Option.some.injEq, Prod.mk.injEq] at h
        obtain ⟨rfl, rfl⟩ := h
        have h1 := Utf.dec_width (a :: t)
        have h2 := Utf.dec_le (a :: t) (by simp)
        exact ⟨h1.1, h2, by rw [List.length_take]; omega⟩
    · match t with
      | [] => cases h
      | b :: u' =>
        simp only [] at h
        split at h
        · simp only [Option.some.injEq, Prod.mk.injEq] at h
          obtain ⟨rfl, rfl⟩ := h
          simp
        · split at h
          · simp only [Option.some.injEq, Prod.mk.injEq] at h
            obtain ⟨rfl, rfl⟩ := h
            simp
          · split at h
            · cases h
            · rename_i hc
              cases hv : IP.valP f 0 (List.take (IP.escN b) u') with
              | none => rw [hv] at h; cases h
              | some c =>
                rw [hv] at h
                simp only [] at h
                have he := escN_is b
                split at h
                · simp only [Option.some.injEq, Prod.mk.injEq] at h
                  obtain ⟨rfl, rfl⟩ := h
                  simp only [List.length_cons, List.length_nil]
                  omega
                · simp only [Option.some.injEq, Prod.mk.injEq] at h
                  obtain ⟨rfl, rfl⟩ := h
                  have := Utf.encL_pos c
                  simp only [List.length_cons]
                  omega
theorem mid_list (s : ByteArray) : (s.extract 1 (s.size - 1)).data.toList = IP.midL s.data.toList := by
  rw [Lib.extract_data]
  unfold IP.midL
  rw [← Utf.size_eq, show s.size - 1 - 1 = s.size - 2 by omega]
/-- What 'Unquote' answers. -/
def uqT (r : Option (List UInt8)) : Value := match r with
  | none => .tuple #[.string ⟨#[]⟩, .bool false]
  | some t => .tuple #[.string ⟨t.toArray⟩, .bool true]
theorem bne_list {a b : ByteArray} (h : ¬ a = b) : (a.toList == b.toList) = false ∧ (a.toList != b.toList) = true := by
  have : ¬ a.toList = b.toList := by
    rw [Lib.toList_data, Lib.toList_data]
    exact fun e => h (bytes_ext e)
  exact ⟨beq_eq_false_iff_ne.2 this, by simpa using this⟩

set_option maxRecDepth 100000 in
set_option maxHeartbeats 4000000 in
theorem unquote_gen (s : ByteArray) (w : World) (hT : Tabs w) (hs : s.size ≤ 20000) (hRR : s.size ≤ 3000 ∨ ∀ t, IP.readN (IP.oneP c4) (IP.midL s.data.toList).length (IP.midL s.data.toList) = some t → t.length ≤ 3000) :
    Calls Tryd.prog 12 #[.string s] w fun e w' => e = .returned (uqT (IP.unqP c4 s.data.toList)) ∧ Below w.heap.size w w' := by
  by_cases h2 : s.size < 2
  · have hr : IP.unqP c4 s.data.toList = none := by
      unfold IP.unqP
      rw [if_pos (Or.inl (by rw [← Utf.size_eq]; exact h2))]
    rw [hr]
    have h2i : (s.size : Int) < 2 := by omega
    go_enter Tryd.func12, Tryd.ntmps12
    go_wp2_with fail
    go_ret2
    exact ⟨rfl, Below.refl _ _⟩
  · have h2i : (2 : Int) ≤ s.size := by omega
    have E0 := bt_at s 0 (by omega)
    have E1 := bt_at s (s.size - 1) (by omega)
    have hg0 : (s.data.toList[0]?.getD 0 = 34) ↔ bt s 0 = 34 := by
      unfold bt
      rw [← UInt8.toNat_inj]
      show _ = 34 ↔ _
      omega
    have hg1 : (s.data.toList[s.data.toList.length - 1]?.getD 0 = 34) ↔ bt s (s.size - 1) = 34 := by
      unfold bt
      rw [← UInt8.toNat_inj, ← Utf.size_eq]
      show _ = 34 ↔ _
      omega
    obtain ⟨x, hx⟩ : ∃ x, bt s 0 = x := ⟨_, rfl⟩
    obtain ⟨y, hy⟩ : ∃ y, bt s (s.size - 1) = y := ⟨_, rfl⟩
    rw [hx] at E0 hg0
    rw [hy] at E1 hg1
    by_cases hx34 : x = 34
    · by_cases hy34 : y = 34
      · have hr : IP.unqP c4 s.data.toList = (IP.readN (IP.oneP c4) (IP.midL s.data.toList).length (IP.midL s.data.toList)).bind fun t => if IP.isQ s.data.toList t then some t else none := by
          unfold IP.unqP
          rw [if_neg]
          rintro (q | q | q)
          · rw [← Utf.size_eq] at q; exact h2 q
          · exact q (hg0.2 hx34)
          · exact q (hg1.2 hy34)
        rw [hr]
        obtain ⟨R, hR⟩ : ∃ R, IP.readN (IP.oneP c4) (IP.midL s.data.toList).length (IP.midL s.data.toList) = R := ⟨_, rfl⟩
        rw [hR] at hRR ⊢
        have HRR := hid hRR
        clear hRR
        obtain ⟨m, hm⟩ : ∃ m, s.extract 1 (s.size - 1) = m := ⟨_, rfl⟩
        have hml := mid_list s
        rw [hm] at hml
        have hmz : m.size ≤ s.size := by rw [← hm, ByteArray.size_extract]; omega
        subst hx34 hy34
        have HT := hid hT
        have HR := hid (show IP.readN (IP.oneP c4) m.size m.data.toList = R by rw [Utf.size_eq, hml]; exact hR)
        have F0 : Lib.IsBuilderF 46 5 w.heap.size w.heap.size (Lib.byteCells []) (w.alloc (.cells #[.pointer none, .slice none 0 0] 46)) := Lib.IsBuilderF.of (Lib.fresh_isBuilder _ _ w)
        have B0 : Below w.heap.size w (w.alloc (.cells #[.pointer none, .slice none 0 0] 46)) := (Below.refl _ _).alloc (Nat.le_refl _) _
        have HS := hid (And.intro F0 B0)
        clear F0 B0 hr hg0 hg1 hR hx hy hT hml
        go_enter Tryd.func12, Tryd.ntmps12
        go_wp2_with fail
        go_loopw [5] (fun rv wr => ∃ (t : ByteArray) (acc : List UInt8) (k : Nat), rv = .string t ∧ t.size ≤ k ∧ acc.length + t.size ≤ s.size ∧ Hid ((IP.readN (IP.oneP c4) k t.data.toList).map (acc ++ ·) = R ∧ Lib.IsBuilderF 46 5 w.heap.size w.heap.size (Lib.byteCells acc) wr ∧ Below w.heap.size w wr)) (fun rv _ => strLen rv)
        case atStart => exact ⟨m, [], m.size, rfl, Nat.le_refl _, by simpa using hmz, by rw [HR.out]; simp, HS.out⟩
        case round =>
          obtain ⟨t, acc, k, rfl, hk, hsz, hrel⟩ := hrel
          by_cases hp : 0 < t.size
          · have he := isEmpty_of_pos hp
            have ON := hid (one_any t wr (HT.out.below hrel.out.2.2) hp (by omega))
            cases hone : IP.oneP c4 t.data.toList with
            | none =>
              rw [hone] at ON
              simp only [oneT] at ON
              have hfin : R = none := by
                rw [← hrel.out.1, IP.readN_none hone (by intro e; rw [Utf.size_eq, e] at hp; simp at hp)]
                rfl
              have HF := hid hfin
              clear hfin hone
              go_wp2_with fail
              refine ON.out.mono ?_
              rintro e w1 ⟨rfl, b1⟩
              have B1 := hid (hrel.out.2.2.trans (b1.mono hrel.out.2.2.size))
              clear b1
              go_wp2_with fail
              go_ret2
              exact ⟨by rw [HF.out]; rfl, B1.out⟩
            | some un =>
              obtain ⟨u, n⟩ := un
              rw [hone] at ON
              simp only [oneT] at ON
              obtain ⟨hn1, hn2, hn3⟩ := oneP_bound c4 _ _ _ hone
              rw [← Utf.size_eq] at hn2
              have hn0 : ((n : Int) == 0) = false := beq_eq_false_iff_ne.2 (by omega)
              obtain ⟨k', rfl⟩ : ∃ k', k = k' + 1 := ⟨k - 1, by omega⟩
              have hrd := hrel.out.1
              rw [IP.readN_some hone (by intro e; rw [Utf.size_eq, e] at hp; simp at hp), Option.map_map] at hrd
              obtain ⟨U, hU⟩ : ∃ U : ByteArray, (⟨u.toArray⟩ : ByteArray) = U := ⟨_, rfl⟩
              have hUl : U.data.toList = u := by rw [← hU]
              have hUz : U.size = u.length := by rw [Utf.size_eq, hUl]
              rw [hU] at ON
              obtain ⟨v, hv⟩ : ∃ v, t.extract n t.size = v := ⟨_, rfl⟩
              have hvl : v.data.toList = t.data.toList.drop n := by rw [← hv]; exact extract_drop t n
              have hvz : v.size = t.size - n := by rw [Utf.size_eq, hvl, List.length_drop, ← Utf.size_eq]
              have NX := hid (show (IP.readN (IP.oneP c4) k' v.data.toList).map ((acc ++ u) ++ ·) = R by
                rw [← hrd, hvl]
                congr 1
                funext z
                simp)
              have HU := hid (And.intro hUl hUz)
              have HVZ := hid hvz
              clear hone hU hrd hUl hUz hvl hvz
              go_wp2_with fail
              refine ON.out.mono ?_
              rintro e w1 ⟨rfl, b1⟩
              have I1 := hid (builder_below hrel.out.2.1 b1)
              have B1 := hid (hrel.out.2.2.trans (b1.mono hrel.out.2.2.size))
              clear b1
              have WS := hid (Tryd.Builder_WriteString_f w.heap.size w.heap.size _ U w1 I1.out (by rw [Lib.byteCells_length, HU.out.2]; omega) B1.out.size)
              go_wp2_with fail
              refine WS.out.mono ?_
              rintro e w2 ⟨rfl, q1, q2⟩
              have I2 := hid (show Lib.IsBuilderF 46 5 w.heap.size w.heap.size (Lib.byteCells (acc ++ u)) w2 by
                rw [Lib.byteCells_append, ← HU.out.1]
                exact Or.inr q1)
              have B2 := hid (B1.out.trans q2)
              clear q1 q2 WS
              go_wp2_with fail
              go_roundw
              case rel => exact ⟨v, acc ++ u, k', rfl, by rw [HVZ.out]; omega, by rw [HVZ.out, List.length_append]; omega, NX.out, I2.out, B2.out⟩
              case measure => show v.size < t.size; rw [HVZ.out]; omega
          · have he := isEmpty_of_zero hp
            have hfin : R = some acc := by
              rw [← hrel.out.1, show t.data.toList = [] from List.eq_nil_of_length_eq_zero (by rw [← Utf.size_eq]; omega), IP.readN_nil]
              simp
            have HF := hid hfin
            have BS := hid (Tryd.Builder_String_any_f w.heap.size w.heap.size _ wr hrel.out.2.1 hrel.out.2.2.size)
            clear hfin
            obtain ⟨T, hTT⟩ : ∃ T : ByteArray, (⟨acc.toArray⟩ : ByteArray) = T := ⟨_, rfl⟩
            rw [hTT] at BS
            have hTl : T.data.toList = acc := by rw [← hTT]
            have hTz : T.size ≤ 3000 := by
              rw [Utf.size_eq, hTl]
              rcases HRR.out with h | h
              · omega
              · exact h acc HF.out
            have QA := hid (fun a W hT => quote_any T a W hT hTz)
            obtain ⟨q1, hq1⟩ : ∃ q1 : ByteArray, (⟨(IP.quoteL false T.data.toList).toArray⟩ : ByteArray) = q1 := ⟨_, rfl⟩
            obtain ⟨q2, hq2⟩ : ∃ q2 : ByteArray, (⟨(IP.quoteL true T.data.toList).toArray⟩ : ByteArray) = q2 := ⟨_, rfl⟩
            have QF := hid (fun W hT => QA.out false W hT)
            have QG := hid (fun W hT => QA.out true W hT)
            rw [hq1] at QF
            rw [hq2] at QG
            have i1 : IP.quoteL false acc = s.data.toList ↔ q1 = s := by
              rw [← hTl, ← hq1]
              exact ⟨fun h => bytes_ext h, fun h => by rw [← h]⟩
            have i2 : IP.quoteL true acc = s.data.toList ↔ q2 = s := by
              rw [← hTl, ← hq2]
              exact ⟨fun h => bytes_ext h, fun h => by rw [← h]⟩
            have HTT := hid hTT
            clear QA hq1 hq2 hTl hTT hTz
            by_cases c1 : q1 = s
            · subst c1
              have HQ := hid (show IP.isQ q1.data.toList acc = true from decide_eq_true (Or.inl (i1.2 rfl)))
              clear i1 i2 QG
              go_wp2_with fail
              refine BS.out.mono ?_
              rintro e w3 ⟨rfl, q1, q2⟩
              have B3 := hid (hrel.out.2.2.trans q2)
              clear q1 q2 BS
              go_wp2_with fail
              refine (QF.out _ (HT.out.below B3.out)).mono ?_
              rintro e w4 ⟨rfl, b4⟩
              have B4 := hid (B3.out.trans (b4.mono B3.out.size))
              clear b4
              go_wp2_with fail
              go_ret2
              exact ⟨by rw [HF.out, Option.bind_some, if_pos HQ.out, ← HTT.out]; rfl, B4.out⟩
            · obtain ⟨n1, n2⟩ := bne_list c1
              by_cases c2 : q2 = s
              · subst c2
                have HQ := hid (show IP.isQ q2.data.toList acc = true from decide_eq_true (Or.inr (i2.2 rfl)))
                clear i1 i2 c1
                go_wp2_with fail
                refine BS.out.mono ?_
                rintro e w3 ⟨rfl, q1, q2⟩
                have B3 := hid (hrel.out.2.2.trans q2)
                clear q1 q2 BS
                go_wp2_with fail
                refine (QF.out _ (HT.out.below B3.out)).mono ?_
                rintro e w4 ⟨rfl, b4⟩
                have B4 := hid (B3.out.trans (b4.mono B3.out.size))
                clear b4
                go_wp2_with fail
                refine (QG.out _ (HT.out.below B4.out)).mono ?_
                rintro e w5 ⟨rfl, b5⟩
                have B5 := hid (B4.out.trans (b5.mono B4.out.size))
                clear b5
                go_wp2_with fail
                go_ret2
                exact ⟨by rw [HF.out, Option.bind_some, if_pos HQ.out, ← HTT.out]; rfl, B5.out⟩
              · obtain ⟨n3, n4⟩ := bne_list c2
                have HQ := hid (show ¬ IP.isQ s.data.toList acc = true from fun h => by
                  rcases of_decide_eq_true h with h | h
                  · exact c1 (i1.1 h)
                  · exact c2 (i2.1 h))
                clear i1 i2 c1 c2
                go_wp2_with fail
                refine BS.out.mono ?_
                rintro e w3 ⟨rfl, q1, q2⟩
                have B3 := hid (hrel.out.2.2.trans q2)
                clear q1 q2 BS
                go_wp2_with fail
                refine (QF.out _ (HT.out.below B3.out)).mono ?_
                rintro e w4 ⟨rfl, b4⟩
                have B4 := hid (B3.out.trans (b4.mono B3.out.size))
                clear b4
                go_wp2_with fail
                refine (QG.out _ (HT.out.below B4.out)).mono ?_
                rintro e w5 ⟨rfl, b5⟩
                have B5 := hid (B4.out.trans (b5.mono B4.out.size))
                clear b5
                go_wp2_with fail
                go_ret2
                exact ⟨by rw [HF.out, Option.bind_some, if_neg HQ.out]; rfl, B5.out⟩
      · have hr : IP.unqP c4 s.data.toList = none := by
          unfold IP.unqP
          rw [if_pos (Or.inr (Or.inr (fun q => hy34 (hg1.1 q))))]
        rw [hr]
        have hyb : (y != 34) = true := by simpa using hy34
        subst hx34
        clear hr hg0 hg1 hx hy
        go_enter Tryd.func12, Tryd.ntmps12
        go_wp2_with fail
        go_ret2
        exact ⟨rfl, Below.refl _ _⟩
    · have hr : IP.unqP c4 s.data.toList = none := by
        unfold IP.unqP
        rw [if_pos (Or.inr (Or.inl (fun q => hx34 (hg0.1 q))))]
      rw [hr]
      have hxb : (x != 34) = true := by simpa using hx34
      clear hr hg0 hg1 hx hy
      go_enter Tryd.func12, Tryd.ntmps12
      go_wp2_with fail
      go_ret2
      exact ⟨rfl, Below.refl _ _⟩
theorem unquote_any (s : ByteArray) (w : World) (hT : Tabs w) (hs : s.size ≤ 3000) :
    Calls Tryd.prog 12 #[.string s] w fun e w' => e = .returned (uqT (IP.unqP c4 s.data.toList)) ∧ Below w.heap.size w w' := unquote_gen s w hT (by omega) (Or.inl hs)
end Go.Proofs.YtfbekjgbijlcaaaDoor
