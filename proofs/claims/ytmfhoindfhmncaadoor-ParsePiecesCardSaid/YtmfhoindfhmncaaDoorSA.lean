/-
  Walks of layer 9: the document's Parse.
-/
import Derived.Test.YtmfhoindfhmncaaDoorS9
import Derived.Test.YtmfhoindfhmncaaDoorPB
namespace Go.Proofs.YtmfhoindfhmncaaDoor
open Go.RowKit Go.Proofs

theorem rpiece_zero : ((Tryd.prog.info? 34).bind (·.zero)) = some (.agg pc0) := by kernel_rfl
theorem rpiece_bytes : (Tryd.prog.info? 34).map (·.bytes) = some 136 := by kernel_rfl

theorem wpList_rpush {ops : Array Oper} {rest : List Oper} {ob oa : Oper} {a : Act} {w : World} {Q : Exit → Act → World → Prop} (hgb : ob.guard = none) (hga : oa.guard = none) (x y : Operand) (b : Tmp)
    (hob : ob.op = .buildSlice 25 1 #[(0, x)]) (hdb : ob.dst = some b) (hoa : oa.op = .call { callee := .builtin .append, args := #[y, .tmp b], argTypes := #[25, 25] })
    (CS : Array Value) (hx : a.eval x = .agg CS) (hCS : CS.size = 20) (h1 : CS.all (·.oneCell') = true)
    (hf : Instr.fill (fun i => some (i * 20, 20)) ((Array.range (1 * 20)).map (pc0[· % pc0.size]!)) [(0, .agg CS)] = some CS)
    (B : Nat) (v : Value) (n : Nat) (xs : List Value) (sl : Value) (hsl : sl = .slice (some ⟨w.heap.size, 0, none⟩) 1 1) (hy : (a.put (some b) sl).eval y = v) (hbt : (a.put (some b) sl).eval (.tmp b) = sl) (hown : w.ownsRow B 34 20 v n xs) (hB : B ≤ w.heap.size) (hn : n ≤ 100000)
    (h : ∀ v' w', w'.ownsRow B 34 20 v' (n + 1) (xs ++ CS.toList) → Below B w w' → wpList Tryd.prog ops Q rest ((a.put (some b) sl).put oa.dst v') w') : wpList Tryd.prog ops Q (ob :: oa :: rest) a w := by
  have hz := rpiece_zero
  have hb := rpiece_bytes
  have hs := rpiece_size
  cases hie : Tryd.prog.info? 34 with
  | none => simp [hie] at hs
  | some ie =>
    rw [hie] at hz hb hs
    simp only [Option.bind_some, Option.map_some, Option.some.injEq] at hz hb hs
    refine wpList_buildSlice hgb 25 34 1 #[(0, x)] hob CS ie (.agg pc0) Tryd.underlying25 hie hz (by rw [hs]; decide) (by rw [hs]; decide) ?_ ?_
    · rw [hs]
      simp only [List.map_toArray, List.map_cons, List.map_nil, hx]
      exact hf
    · rw [hdb, ← hsl]
      have hown1 : (w.alloc (.cells CS 34)).ownsRow B 34 20 v n xs := by
        refine ⟨hown.1, ?_⟩
        rcases hown.2 with h0 | ⟨g, cap, cur, h1, h2, h3, h4⟩
        · exact Or.inl h0
        · exact Or.inr ⟨g, cap, cur, h1, h2, (Below.heap_alloc w _ g (by
            rcases Nat.lt_or_ge g w.heap.size with q | q
            · exact q
            · rw [Array.getElem?_eq_none q] at h3; cases h3)).trans h3, h4⟩
      refine wpList_append_own (P := Tryd.prog) (w := w.alloc (.cells CS 34)) hga y (.tmp b) 25 hoa B 34 ie (.agg pc0) 20 136 Tryd.underlying25 hie hz hs hb rfl (by decide) v n xs hy hown1 ⟨w.heap.size, 0, none⟩ 1 1 CS.toList (by rw [hbt, hsl]) (by simpa using hCS) ?_ ?_ (by unfold maxLen; omega) (by omega) (by simp; omega) ?_
      · intro j u hu
        rw [Addr.add_mid, Nat.zero_add, (Blk.new w CS 34).cell]
        simpa using hu
      · exact fun u hu => (Array.all_eq_true_iff_forall_mem.1 h1) u (by simpa using hu)
      · intro v' w' h2 h3 _
        refine h v' w' h2 (Below.grown ((Below.refl B w).alloc hB _) h3 (by simp; omega) ?_)
        intro k hk
        rcases hown.2 with h0 | ⟨g, cap, cur, e1, e2, _⟩
        · rw [h0.1] at hk; simp [Value.ownBlock] at hk
        · rw [e1] at hk
          simp [Value.ownBlock] at hk
          omega

/-- What is still to come, with a literal begun. -/
def parseW (lit t : List UInt8) : List PP.Pc := if lit = [] then PP.parseL t else PP.litP (lit ++ t.takeWhile PP.notPct) :: PP.parseL (t.dropWhile PP.notPct)
theorem parseW_nil (t : List UInt8) : parseW [] t = PP.parseL t := by unfold parseW; rw [if_pos rfl]
theorem parseW_lit {a : UInt8} (lit r : List UInt8) (h : ¬ a.toNat = 37) : parseW lit (a :: r) = parseW (lit ++ [a]) r := by
  have hn : PP.notPct a = true := by simp [PP.notPct, h]
  have e : parseW (lit ++ [a]) r = PP.litP (lit ++ (a :: r).takeWhile PP.notPct) :: PP.parseL (r.dropWhile PP.notPct) := by
    unfold parseW
    rw [if_neg (by simp), List.takeWhile_cons, if_pos hn]
    simp
  rw [e]
  unfold parseW
  split
  · rename_i hl
    rw [hl, PP.parseL_lit h, List.dropWhile_cons, if_pos hn]
    rfl
  · rw [List.dropWhile_cons, if_pos hn]
theorem parseW_pct {a : UInt8} (lit r : List UInt8) (h : a.toNat = 37) (hl : lit ≠ []) : parseW lit (a :: r) = PP.litP lit :: parseW [] (a :: r) := by
  have hn : PP.notPct a = false := by simp [PP.notPct, h]
  rw [parseW_nil]
  unfold parseW
  rw [if_neg hl, List.takeWhile_cons, List.dropWhile_cons, hn]
  simp
theorem parseW_end (lit : List UInt8) : parseW lit [] = if lit = [] then [] else [PP.litP lit] := by
  unfold parseW
  split
  · exact PP.parseL_nil
  · simp [PP.parseL_nil]
theorem litp_cells (done : List PP.Pc) (lit : ByteArray) : cellsL (done ++ [PP.litP lit.data.toList]) = cellsL done ++ (pcV (PP.litP []) lit).toList := by
  rw [cellsL_append, cellsL_one]
  have : txt lit.data.toList = lit := txt_eq rfl
  simp only [PP.litP] at this ⊢
  try rw [this]
/-- What holds at each round's head. -/
structure SpI (w W : World) (ALL : List PP.Pc) (t lit : ByteArray) (done : List PP.Pc) (v : Value) : Prop where
  eq : done ++ parseW lit.data.toList t.data.toList = ALL
  own : W.ownsRow w.heap.size 34 20 v done.length (cellsL done)
  below : Below w.heap.size w W

set_option maxRecDepth 100000 in
set_option maxHeartbeats 4000000 in
theorem sparse_any (s : ByteArray) (w : World) (hs : s.size ≤ 10000) :
    Calls Tryd.prog 12 #[.string s] w fun e w' => ∃ v, e = .returned v ∧ w'.ownsRow w.heap.size 34 20 v (PP.parseL s.data.toList).length (cellsL (PP.parseL s.data.toList)) ∧ Below w.heap.size w w' := by
  obtain ⟨ALL, hALL⟩ : ∃ L, PP.parseL s.data.toList = L := ⟨_, rfl⟩
  rw [hALL]
  have HA := hid (show parseW [] s.data.toList = ALL by rw [parseW_nil]; exact hALL)
  clear hALL
  go_enter Tryd.func12, Tryd.ntmps12
  go_wp2_with fail
  go_loopw [0, 3, 4] (fun tv v lv wr => ∃ (t lit : ByteArray) (done : List PP.Pc), tv = .string t ∧ lv = .string lit ∧ t.size + lit.size + done.length ≤ s.size ∧ Hid (SpI w wr ALL t lit done v)) (fun tv _ _ _ => strLen9 tv)
  case atStart => exact ⟨s, ⟨#[]⟩, [], rfl, rfl, Nat.le_refl _, ⟨HA.out, ⟨rfl, Or.inl ⟨rfl, rfl⟩⟩, Below.refl _ _⟩⟩
  case round =>
    obtain ⟨t, lit, done, rfl, rfl, hsz, hI⟩ := hrel
    by_cases hp : 0 < t.size
    · have he := isE_pos hp
      have E0 := bt_at t 0 hp
      obtain ⟨a, r, hta⟩ := list_of_pos hp
      have hab : (a.toNat : Int) = bt t 0 := by
        unfold bt
        rw [hta]; rfl
      obtain ⟨q, hq⟩ : ∃ q, t.extract 1 t.size = q := ⟨_, rfl⟩
      have hql : q.data.toList = r := by rw [← hq, ext_drop, hta]; rfl
      have hts : t.size = r.length + 1 := size_list hta
      have hqs : q.size = r.length := size_list hql
      have h1 : 1 ≤ t.size := hp
      have HSZ := hid (And.intro hts hqs)
      have hq2 : q.size ≤ 10000 := by omega
      have hq3 : q.size < t.size := by omega
      have hq4 : q.size + 1 ≤ t.size := by omega
      clear hts hqs
      by_cases hc : bt t 0 = 37
      · rw [hc] at E0 hab
        have ha37 : a.toNat = 37 := by omega
        have HT := hid (And.intro hta (And.intro ha37 hql))
        have DI := hid (fun W => sdirective_any q W (by omega))
        rw [hql] at DI
        have hDL := PP.dirL_len r
        obtain ⟨⟨D, dl⟩, hD⟩ : ∃ F, PP.dirL r = F := ⟨_, rfl⟩
        rw [hD] at DI hDL
        have HD := hid hD
        clear hc hta hab ha37 hql hD
        have HQ := hid hq
        clear hq
        obtain ⟨lb, hlb⟩ : ∃ b : Bool, lit.toList.isEmpty = b := ⟨_, rfl⟩
        go_upto_if 19 with fail
        have HLB := hid hlb
        clear hlb
        go_cut [3, 4] (fun v lv wn => ∃ (dn : List PP.Pc), lv = .string ⟨#[]⟩ ∧ t.size + dn.length ≤ s.size ∧ Hid (SpI w wn ALL t ⟨#[]⟩ dn v))
        case first =>
          cases lb
          · have hl0 : 0 < lit.size := by
              rcases Nat.eq_zero_or_pos lit.size with h0 | h0
              · have := isE_zero (t := lit) (by omega)
                rw [HLB.out] at this
                cases this
              · exact h0
            have hln : lit.data.toList ≠ [] := by
              intro e
              have h2 : lit.size = 0 := by rw [Utf.size_eq, e]; rfl
              omega
            have HLN := hid hln
            clear hln
            go_upto_region 8 with fail
            refine wp_region_list ?_
            refine wpList_plain rfl fun K hK => ?_
            have HK := hid hK
            clear hK
            go_wp2_with fail
            refine HK.out _ _ ?_
            clear HK
            refine wpList_plain rfl fun K hK => ?_
            have HK := hid hK
            clear hK
            go_wp2_with fail
            refine HK.out _ _ ?_
            clear HK
            refine wpList_buildTo rfl 34 _ rfl (some 22) rfl (pcV (PP.litP []) lit) (by kernel_rfl) ?_
            refine wpList_rpush rfl rfl (.tmp 22) (.tmp 20) 23 rfl rfl rfl (pcV (PP.litP []) lit) rfl rfl (pcs_lit lit) (by kernel_rfl) w.heap.size _ done.length (cellsL done) _ rfl rfl rfl hI.out.own hI.out.below.size (by omega) ?_
            intro v' w' hown hb
            have N := hid (show SpI w w' ALL t ⟨#[]⟩ (done ++ [PP.litP lit.data.toList]) v' from ⟨by
                have h := hI.out.eq
                rw [HT.out.1, parseW_pct _ _ HT.out.2.1 HLN.out] at h
                rw [HT.out.1, ← h, List.append_assoc]
                rfl, by
                rw [litp_cells, List.length_append]
                exact hown, hI.out.below.trans hb⟩)
            clear hown hb
            go_wp2_with fail
            go_meet
            exact ⟨_, rfl, by rw [List.length_append, List.length_singleton]; omega, N.out⟩
          · have hl0 : ¬ 0 < lit.size := by
              intro h0
              have := isE_pos h0
              rw [HLB.out] at this
              cases this
            have N := hid (show SpI w wr ALL t ⟨#[]⟩ done _ from by
              have e : lit = ⟨#[]⟩ := bytes_ext (by
                have h2 : lit.data.toList = [] := List.eq_nil_of_length_eq_zero (by rw [← Utf.size_eq]; omega)
                rw [h2])
              rw [e] at hI
              exact hI.out)
            have HLE := hid (show lit = ⟨#[]⟩ from bytes_ext (by
                have h2 : lit.data.toList = [] := List.eq_nil_of_length_eq_zero (by rw [← Utf.size_eq]; omega)
                rw [h2]))
            go_wp2_with fail
            go_meet
            exact ⟨done, by rw [HLE.out], by omega, N.out⟩
        case rest =>
          obtain ⟨dn, rfl, hdn, hJ⟩ := hcut
          go_upto_region 10 with fail
          refine wp_region_list ?_
          refine wpList_plain rfl fun K hK => ?_
          have HK := hid hK
          clear hK
          go_wp2_with fail
          refine HK.out _ _ ?_
          clear HK
          refine wpList_plain rfl fun K hK => ?_
          have HK := hid hK
          clear hK
          go_wp2_with fail
          refine HK.out _ _ ?_
          clear HK
          refine wpList_plain rfl fun K hK => ?_
          have HK := hid hK
          clear hK
          go_wp2_with fail
          try rw [HQ.out]
          refine (DI.out _).mono ?_
          rintro e W1 ⟨text, m, rfl, h1, h2, h3, hb⟩
          refine HK.out _ _ ?_
          clear HK
          refine wpList_plain rfl fun K hK => ?_
          have HK := hid hK
          clear hK
          go_wp2_with fail
          refine HK.out _ _ ?_
          clear HK
          refine wpList_plain rfl fun K hK => ?_
          have HK := hid hK
          clear hK
          go_wp2_with fail
          refine HK.out _ _ ?_
          clear HK
          refine wpList_plain rfl fun K hK => ?_
          have HK := hid hK
          clear hK
          go_wp2_with fail
          refine HK.out _ _ ?_
          clear HK
          refine wpList_plain rfl fun K hK => ?_
          have HK := hid hK
          clear hK
          go_wp2_with fail
          refine HK.out _ _ ?_
          clear HK
          have b2 := hb.alloc hb.size (.cells pc0 34)
          have hG := Blk.new W1 pc0 34
          refine wpList_store_rowTo rfl 34 _ _ rfl rfl W1.heap.size (pcV D text) rfl rfl 34 pc0 hG rpiece_size rfl (pcV_one _ _) ?_
          have hG2 := hG.setRow (pcV D text)
          have b3 := below_setRow b2 W1.heap.size hb.size (pcV D text)
          obtain ⟨W2, hW2⟩ : ∃ W2, (W1.alloc (.cells pc0 34)).setRow W1.heap.size (pcV D text) = W2 := ⟨_, rfl⟩
          rw [hW2] at hG2 b3 ⊢
          obtain ⟨G, hGG⟩ : ∃ G, W1.heap.size = G := ⟨_, rfl⟩
          rw [hGG] at hG2 ⊢
          have X := hid (And.intro hG2 (And.intro b3 (And.intro h1 (And.intro h2 h3))))
          have hm : m ≤ q.size := h2
          clear hG hG2 b2 b3 hb h1 h2 h3 hW2 hGG DI
          refine wpList_plain rfl fun K hK => ?_
          have HK := hid hK
          clear hK
          go_wp2_with fail
          refine HK.out _ _ ?_
          clear HK
          refine wpList_nil ?_
          go_upto_region 11 with fail
          refine wp_region_list ?_
          refine wpList_plain rfl fun K hK => ?_
          have HK := hid hK
          clear hK
          go_wp2_with fail
          refine HK.out _ _ ?_
          clear HK
          refine wpList_load_mid rfl 34 (.tmp 5) rfl G 0 rfl (pcV D text).toList _ (fun j v hv => by rw [Nat.zero_add, X.out.1.cell]; simpa using hv) Tryd.underlying34 rfl rpiece_size ?_
          have own2 := own_calm hJ.out.own X.out.2.1
          have bel2 := hJ.out.below.trans (X.out.2.1.mono hJ.out.below.size)
          refine wpList_rpush rfl rfl (.tmp 32) (.tmp 31) 33 rfl rfl rfl (pcV D text) rfl rfl (pcV_one _ _) (by kernel_rfl) w.heap.size _ dn.length (cellsL dn) _ rfl rfl rfl own2 bel2.size (by omega) ?_
          intro v' w9 hown hb9
          obtain ⟨u, hu⟩ : ∃ u, t.extract (1 + m) t.size = u := ⟨_, rfl⟩
          have hul : u.data.toList = dl := by
            rw [← hu, ext_drop, HT.out.1, show 1 + m = m + 1 by omega, List.drop_succ_cons]
            exact X.out.2.2.2.2
          have hus : u.size = t.size - (1 + m) := by rw [← hu, ByteArray.size_extract]; omega
          have N := hid (show SpI w w9 ALL u ⟨#[]⟩ (dn ++ [D]) v' from ⟨by
              have h := hJ.out.eq
              rw [HT.out.1, show (⟨#[]⟩ : ByteArray).data.toList = [] from rfl, parseW_nil, PP.parseL_pct HT.out.2.1, HD.out] at h
              rw [show (⟨#[]⟩ : ByteArray).data.toList = [] from rfl, parseW_nil, hul, ← h, List.append_assoc]
              rfl, by
              have e : txt D.text = text := txt_eq X.out.2.2.1
              rw [cellsL_append, cellsL_one, e, List.length_append]
              exact hown, bel2.trans hb9⟩)
          have hm2 : 1 + m ≤ t.size := by omega
          have hU := hid (And.intro hus hu)
          clear hown hb9 own2 bel2 hul hus hu
          go_wp2_with fail
          try rw [show ((1 : Int) + (m : Int)).toNat = 1 + m by omega]
          try rw [hU.out.2]
          go_roundw
          case rel => exact ⟨u, ⟨#[]⟩, dn ++ [D], rfl, rfl, by have := hU.out.1; rw [List.length_append, List.length_singleton]; show u.size + 0 + _ ≤ _; omega, N.out⟩
          case measure => have := hU.out.1; show u.size < t.size; omega
      · have hc1 : (bt t 0 != 37) = true := by simpa using hc
        have ha37 : ¬ a.toNat = 37 := by omega
        obtain ⟨l2, hl2⟩ : ∃ l, lit ++ t.extract 0 1 = l := ⟨_, rfl⟩
        have hl2l : l2.data.toList = lit.data.toList ++ [a] := by
          rw [← hl2, ByteArray.data_append, Array.toList_append, ext_take, hta]; rfl
        have hl2s : l2.size = lit.size + 1 := by
          rw [Utf.size_eq, hl2l, List.length_append, ← Utf.size_eq]; rfl
        have N := hid (show SpI w wr ALL q l2 done _ from ⟨by rw [hql, hl2l, ← parseW_lit _ _ ha37, ← hta]; exact hI.out.eq, hI.out.own, hI.out.below⟩)
        obtain ⟨c, hcc⟩ : ∃ c, bt t 0 = c := ⟨_, rfl⟩
        rw [hcc] at E0 hc1
        clear hc hcc hab hta hql ha37 hl2l
        go_wp2_with fail
        try rw [hl2, hq]
        go_roundw
        case rel => exact ⟨q, l2, done, rfl, rfl, by omega, N.out⟩
        case measure => show q.size < t.size; omega
    · have he := isE_zero hp
      have e0 : t.data.toList = [] := List.eq_nil_of_length_eq_zero (by rw [← Utf.size_eq]; omega)
      have hE := hI.out.eq
      rw [e0, parseW_end] at hE
      by_cases hl0 : 0 < lit.size
      · have hle := isE_pos hl0
        have hln : lit.data.toList ≠ [] := by
          intro e
          have h2 : lit.size = 0 := by rw [Utf.size_eq, e]; rfl
          omega
        rw [if_neg hln] at hE
        have HE := hid hE
        clear hE hln e0
        go_upto_region 14 with fail
        refine wp_region_list ?_
        refine wpList_plain rfl fun K hK => ?_
        have HK := hid hK
        clear hK
        go_wp2_with fail
        refine HK.out _ _ ?_
        clear HK
        refine wpList_plain rfl fun K hK => ?_
        have HK := hid hK
        clear hK
        go_wp2_with fail
        refine HK.out _ _ ?_
        clear HK
        refine wpList_buildTo rfl 34 _ rfl (some 43) rfl (pcV (PP.litP []) lit) (by kernel_rfl) ?_
        refine wpList_rpush rfl rfl (.tmp 43) (.tmp 41) 44 rfl rfl rfl (pcV (PP.litP []) lit) rfl rfl (pcs_lit lit) (by kernel_rfl) w.heap.size _ done.length (cellsL done) _ rfl rfl rfl hI.out.own hI.out.below.size (by omega) ?_
        intro v' w' hown hb
        have N := hid (show w'.ownsRow w.heap.size 34 20 v' ALL.length (cellsL ALL) ∧ Below w.heap.size w w' from ⟨by
            rw [← HE.out, litp_cells, List.length_append]
            exact hown, hI.out.below.trans hb⟩)
        clear hown hb
        go_wp2_with fail
        go_ret
        exact ⟨_, rfl, N.out⟩
      · have hle := isE_zero hl0
        have h2 : lit.data.toList = [] := List.eq_nil_of_length_eq_zero (by rw [← Utf.size_eq]; omega)
        rw [if_pos h2, List.append_nil] at hE
        have N := hid (show wr.ownsRow w.heap.size 34 20 _ ALL.length (cellsL ALL) ∧ Below w.heap.size w wr from ⟨hE ▸ hI.out.own, hI.out.below⟩)
        clear hE h2 e0
        go_wp2_with fail
        go_ret
        exact ⟨_, rfl, N.out⟩
end Go.Proofs.YtmfhoindfhmncaaDoor
