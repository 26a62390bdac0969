/-
  Walks of layer 9: Parse.
-/
import Derived.Test.YtmfhoindfhmncaaDoorPA
import Derived.Deep.CutBlock
namespace Go.Proofs.YtmfhoindfhmncaaDoor
open Go.RowKit Go.Proofs

/-- A text out of its bytes. -/
abbrev txt (l : List UInt8) : ByteArray := ⟨l.toArray⟩
def cellsL : List PP.Pc → List Value
  | [] => []
  | p :: ps => (pcV p (txt p.text)).toList ++ cellsL ps
theorem cellsL_append (a b : List PP.Pc) : cellsL (a ++ b) = cellsL a ++ cellsL b := by
  induction a with
  | nil => rfl
  | cons p ps ih => simp only [List.cons_append, cellsL, ih, List.append_assoc]
theorem cellsL_one (p : PP.Pc) : cellsL [p] = (pcV p (txt p.text)).toList := by simp only [cellsL, List.append_nil]
theorem txt_eq {t : ByteArray} {l : List UInt8} (h : t.data.toList = l) : txt l = t := bytes_ext (by simpa using h.symm)
def strLen9 : Value → Nat | .string t => t.size | _ => 0

theorem pct_index (l : List UInt8) : Lib.indexByte l 37 = if (l.takeWhile PP.notPct).length = l.length then (-1 : Int) else ((l.takeWhile PP.notPct).length : Int) := by
  induction l with
  | nil => rfl
  | cons a r ih =>
    have hle : (r.takeWhile PP.notPct).length ≤ r.length := (List.takeWhile_prefix PP.notPct).length_le
    unfold Lib.indexByte
    by_cases e : a = 37
    · subst e
      have hb : PP.notPct 37 = false := by decide
      rw [if_pos (by decide : ((37 : UInt8) == 37) = true), List.takeWhile_cons, hb]
      simp
    · have hn : PP.notPct a = true := by
        simp only [PP.notPct, Bool.not_eq_true', decide_eq_false_iff_not]
        intro h
        exact e (UInt8.toNat_inj.mp h)
      rw [List.takeWhile_cons, if_pos hn, if_neg (by simpa using e), ih]
      simp only [List.length_cons]
      by_cases h2 : (r.takeWhile PP.notPct).length = r.length
      · rw [if_pos h2, if_pos (by decide), if_pos (by omega)]
      · rw [if_neg h2, if_neg (by simp), if_neg (by omega)]
        omega

theorem lit_step {t d u : ByteArray} {done ALL : List PP.Pc} (hm : (t.data.toList.takeWhile PP.notPct).length ≠ 0) (HD : d.data.toList = t.data.toList.takeWhile PP.notPct) (HU : u.data.toList = t.data.toList.dropWhile PP.notPct) (h : done ++ PP.parseL t.data.toList = ALL) :
    (done ++ [PP.litP d.data.toList]) ++ PP.parseL u.data.toList = ALL ∧ cellsL (done ++ [PP.litP d.data.toList]) = cellsL done ++ (pcV (PP.litP []) d).toList := by
  constructor
  · rw [← h, HD, HU]
    cases e : t.data.toList with
    | nil => rw [e] at hm; exact absurd rfl hm
    | cons a r =>
      have ha : ¬ a.toNat = 37 := by
        intro ha
        rw [e, List.takeWhile_cons, if_neg (by simp [PP.notPct, ha])] at hm
        exact hm rfl
      rw [PP.parseL_lit ha, List.append_assoc]; try rfl
  · rw [cellsL_append, cellsL_one]
    have : txt d.data.toList = d := txt_eq rfl
    simp only [PP.litP] at this ⊢
    try rw [this]
theorem pcV_one (p : PP.Pc) (d : ByteArray) : (pcV p d).all (·.oneCell') = true := by simp [pcV, Value.oneCell']
theorem own_below {w W : World} {B n : Nat} {v : Value} {xs : List Value} (h : w.ownsRow B 40 20 v n xs) (hb : Below w.heap.size w W) : W.ownsRow B 40 20 v n xs := by
  refine ⟨h.1, ?_⟩
  rcases h.2 with h0 | ⟨g, cap, cur, h1, h2, h3, h4⟩
  · exact Or.inl h0
  · exact Or.inr ⟨g, cap, cur, h1, h2, (hb.block g (by
      rcases Nat.lt_or_ge g w.heap.size with q | q
      · exact q
      · rw [Array.getElem?_eq_none q] at h3; cases h3)).trans h3, h4⟩
theorem pcs_lit (d : ByteArray) : (pcV (PP.litP []) d).all (·.oneCell') = true := by simp [pcV, PP.litP, Value.oneCell']

set_option maxRecDepth 100000 in
set_option maxHeartbeats 4000000 in
theorem parse_any (s : ByteArray) (w : World) (hs : s.size ≤ 100000) (hT : Tabs w) :
    Calls Tryd.prog 11 #[.string s] w fun e w' => ∃ v, e = .returned v ∧ w'.ownsRow w.heap.size 40 20 v (PP.parseL s.data.toList).length (cellsL (PP.parseL s.data.toList)) ∧ Below w.heap.size w w' := by
  obtain ⟨ALL, hALL⟩ : ∃ L, PP.parseL s.data.toList = L := ⟨_, rfl⟩
  rw [hALL]
  have HA := hid hALL
  clear hALL
  go_enter Tryd.func11, Tryd.ntmps11
  go_wp2_with fail
  go_loopw [0, 3] (fun tv v wr => ∃ (t : ByteArray) (done : List PP.Pc), tv = .string t ∧ t.size + done.length ≤ s.size ∧ Hid (done ++ PP.parseL t.data.toList = ALL ∧ wr.ownsRow w.heap.size 40 20 v done.length (cellsL done) ∧ Below w.heap.size w wr)) (fun tv _ _ => strLen9 tv)
  case atStart => exact ⟨s, [], rfl, by simp, ⟨HA.out, ⟨rfl, Or.inl ⟨rfl, rfl⟩⟩, Below.refl _ _⟩⟩
  case round =>
    obtain ⟨t, done, rfl, hsz, hrel⟩ := hrel
    by_cases hp : 0 < t.size
    · have he := isE_pos hp
      have IB := hid (Tryd.strings_IndexByte t 37 wr)
      rw [show (37 : Int).toNat.toUInt8 = 37 from rfl, pct_index, ← Utf.size_eq] at IB
      have hmle : (t.data.toList.takeWhile PP.notPct).length ≤ t.size := by rw [Utf.size_eq]; exact (List.takeWhile_prefix PP.notPct).length_le
      obtain ⟨m, hm⟩ : ∃ m, (t.data.toList.takeWhile PP.notPct).length = m := ⟨_, rfl⟩
      rw [hm] at IB hmle
      have HM := hid hm
      obtain ⟨d, hd⟩ : ∃ d, t.extract 0 m = d := ⟨_, rfl⟩
      obtain ⟨u, hu⟩ : ∃ u, t.extract m t.size = u := ⟨_, rfl⟩
      have HD := hid (show d.data.toList = t.data.toList.takeWhile PP.notPct by
        have hw := List.takeWhile_append_dropWhile (p := PP.notPct) (l := t.data.toList)
        rw [← hd, ext_take, ← hm]
        conv => lhs; rw [← hw]
        rw [show (List.takeWhile PP.notPct (List.takeWhile PP.notPct t.data.toList ++ List.dropWhile PP.notPct t.data.toList)).length = (t.data.toList.takeWhile PP.notPct).length by rw [hw], List.take_left])
      have HU := hid (show u.data.toList = t.data.toList.dropWhile PP.notPct by
        have hw := List.takeWhile_append_dropWhile (p := PP.notPct) (l := t.data.toList)
        rw [← hu, ext_drop, ← hm]
        conv => lhs; rw [← hw]
        rw [show (List.takeWhile PP.notPct (List.takeWhile PP.notPct t.data.toList ++ List.dropWhile PP.notPct t.data.toList)).length = (t.data.toList.takeWhile PP.notPct).length by rw [hw], List.drop_left])
      have HUS := hid (show u.size = t.size - m by rw [← hu]; simp)
      clear hm
      by_cases hz : m = 0
      · have hpk : ∃ a r, t.data.toList = a :: r ∧ a.toNat = 37 := by
          obtain ⟨a, r, e⟩ := list_of_pos hp
          refine ⟨a, r, e, ?_⟩
          have := HM.out
          rw [hz, e, List.takeWhile_cons] at this
          by_cases h37 : a.toNat = 37
          · exact h37
          · rw [if_pos (by simp [PP.notPct, h37])] at this
            simp at this
        obtain ⟨a0, r0, hta, ha37⟩ := hpk
        subst hz
        have hne : ¬ 0 = t.size := by omega
        simp only [if_neg hne] at IB
        obtain ⟨q, hq⟩ : ∃ q, t.extract 1 t.size = q := ⟨_, rfl⟩
        have hql : q.data.toList = r0 := by rw [← hq, ext_drop, hta]; rfl
        have hqs : q.size ≤ 140737488355328 := by rw [← hq]; simp; omega
        have DI := hid (directive_any q wr hqs (hT.below hrel.out.2.2))
        have HQ := hid (And.intro hta (And.intro ha37 hql))
        clear hd hu HD HU HUS HM hta ha37 hql
        go_upto_region 3 with fail
        go_wp2_with fail
        refine IB.out.mono ?_
        rintro e w' ⟨rfl, rfl⟩
        go_upto_region 9 with fail
        refine wp_region_list ?_
        refine wpList_plain rfl fun K hK => ?_
        have HK := hid hK
        clear hK
        go_wp2_with fail
        refine HK.out _ _ ?_
        clear HK
        refine wpList_plain rfl fun K hK => ?_
        have HK := hid hK
        clear hK
        go_wp2_with fail
        refine HK.out _ _ ?_
        clear HK
        refine wpList_plain rfl fun K hK => ?_
        have HK := hid hK
        clear hK
        go_wp2_with fail
        refine DI.out.mono ?_
        rintro e W1 ⟨text, rest, rfl, h1, h2, hb⟩
        refine HK.out _ _ ?_
        clear HK
        refine wpList_plain rfl fun K hK => ?_
        have HK := hid hK
        clear hK
        go_wp2_with fail
        refine HK.out _ _ ?_
        clear HK
        refine wpList_plain rfl fun K hK => ?_
        have HK := hid hK
        clear hK
        go_wp2_with fail
        refine HK.out _ _ ?_
        clear HK
        refine wpList_plain rfl fun K hK => ?_
        have HK := hid hK
        clear hK
        go_wp2_with fail
        refine HK.out _ _ ?_
        clear HK
        refine wpList_plain rfl fun K hK => ?_
        have HK := hid hK
        clear hK
        go_wp2_with fail
        refine HK.out _ _ ?_
        clear HK
        obtain ⟨⟨D, dl⟩, hD⟩ : ∃ F, PP.dirL q.data.toList = F := ⟨_, rfl⟩
        rw [hD] at h1 h2 ⊢
        have b2 := hb.alloc hb.size (.cells pc0 40)
        have hG := Blk.new W1 pc0 40
        refine wpList_store_rowTo rfl 40 _ _ rfl rfl W1.heap.size (pcV D text) rfl rfl 40 pc0 hG piece_size rfl (pcV_one _ _) ?_
        have hG2 := hG.setRow (pcV D text)
        have b3 := below_setRow b2 W1.heap.size hb.size (pcV D text)
        obtain ⟨W2, hW2⟩ : ∃ W2, (W1.alloc (.cells pc0 40)).setRow W1.heap.size (pcV D text) = W2 := ⟨_, rfl⟩
        rw [hW2] at hG2 b3 ⊢
        obtain ⟨G, hGG⟩ : ∃ G, W1.heap.size = G := ⟨_, rfl⟩
        rw [hGG] at hG2 ⊢
        have X := hid (And.intro hG2 (And.intro b3 (And.intro h1 (And.intro h2 hD))))
        clear hG hG2 b2 b3 hb h1 h2 hW2 hGG hD DI
        refine wpList_plain rfl fun K hK => ?_
        have HK := hid hK
        clear hK
        go_wp2_with fail
        refine HK.out _ _ ?_
        clear HK
        refine wpList_nil ?_
        go_upto_region 10 with fail
        refine wp_region_list ?_
        refine wpList_plain rfl fun K hK => ?_
        have HK := hid hK
        clear hK
        go_wp2_with fail
        refine HK.out _ _ ?_
        clear HK
        refine wpList_load_mid rfl 40 (.tmp 5) rfl G 0 rfl (pcV D text).toList _ (fun j v hv => by rw [Nat.zero_add, X.out.1.cell]; simpa using hv) Tryd.underlying40 rfl piece_size ?_
        have own2 := own_below hrel.out.2.1 X.out.2.1
        have bel2 := hrel.out.2.2.trans (X.out.2.1.mono hrel.out.2.2.size)
        refine wpList_push rfl rfl (.tmp 34) (.tmp 33) 35 rfl rfl rfl (pcV D text) rfl rfl (pcV_one _ _) (by kernel_rfl) w.heap.size _ done.length (cellsL done) _ rfl rfl rfl own2 bel2.size (by omega) ?_
        intro v' w9 hown hb9
        obtain ⟨hG2, b3, h1, h2, hD⟩ := X.out
        obtain ⟨hta, ha37, hql⟩ := HQ.out
        have hlen := PP.dirL_len q.data.toList
        rw [hD, hql] at hlen
        have hrs : rest.size = dl.length := size_list h2
        have hts : t.size = r0.length + 1 := size_list hta
        have hlen' : dl.length ≤ r0.length := hlen
        have PA : Hid ((done ++ [D]) ++ PP.parseL rest.data.toList = ALL) := by
          have h := hrel.out.1
          rw [hta, PP.parseL_pct ha37, ← hql, hD] at h
          rw [h2, ← h, List.append_assoc]
          rfl
        have CE : Hid (cellsL (done ++ [D]) = cellsL done ++ (pcV D text).toList) := by
          have : txt D.text = text := txt_eq h1
          unfold Hid
          rw [cellsL_append, cellsL_one, this]
        have BE := hid (bel2.trans hb9)
        clear hG2 b3 h1 h2 hD hta ha37 hql hlen own2 bel2 hb9
        go_wp2_with fail
        refine ⟨⟨rest, done ++ [D], rfl, ?_, ⟨PA.out, ?_, BE.out⟩⟩, ?_⟩
        · simp; omega
        · rw [CE.out, List.length_append]
          exact hown
        · show rest.size < t.size
          omega
      · by_cases hall : m = t.size
        · have hdt : d = t := by rw [← hd, hall]; exact bytes_ext (by rw [ext_take, List.take_of_length_le (by rw [← Utf.size_eq]; omega)])
          have hue : u = ByteArray.empty := by rw [← hu, hall]; exact bytes_ext (by rw [ext_drop, List.drop_eq_nil_of_le (by rw [← Utf.size_eq]; omega)]; rfl)
          have LS := hid (lit_step (t := t) (d := d) (u := u) (by rw [HM.out]; exact hz) HD.out HU.out hrel.out.1)
          rw [hdt, hue] at LS
          simp only [if_pos hall] at IB
          clear hd hu hdt hue HD HU
          go_upto_region 3 with fail
          go_wp2_with fail
          refine IB.out.mono ?_
          rintro e w' ⟨rfl, rfl⟩
          go_upto_region 7 with fail
          refine wp_region_list ?_
          refine wpList_plain rfl fun K hK => ?_
          have HK := hid hK
          clear hK
          go_wp2_with fail
          refine HK.out _ _ ?_
          clear HK
          refine wpList_plain rfl fun K hK => ?_
          have HK := hid hK
          clear hK
          go_wp2_with fail
          refine HK.out _ _ ?_
          clear HK
          refine wpList_plain rfl fun K hK => ?_
          have HK := hid hK
          clear hK
          go_wp2_with fail
          refine HK.out _ _ ?_
          clear HK
          refine wpList_plain rfl fun K hK => ?_
          have HK := hid hK
          clear hK
          go_wp2_with fail
          refine HK.out _ _ ?_
          clear HK
          refine wpList_buildTo rfl 40 _ rfl (some 21) rfl (pcV (PP.litP []) t) (by kernel_rfl) ?_
          refine wpList_push rfl rfl (.tmp 21) (.tmp 17) 22 rfl rfl rfl (pcV (PP.litP []) t) rfl rfl (pcs_lit t) (by kernel_rfl) w.heap.size _ done.length (cellsL done) _ rfl rfl rfl hrel.out.2.1 hrel.out.2.2.size (by omega) ?_
          intro v' w' hown hb
          go_wp2_with fail
          refine ⟨⟨ByteArray.empty, done ++ [PP.litP t.data.toList], rfl, ?_, ⟨LS.out.1, ?_, hrel.out.2.2.trans hb⟩⟩, ?_⟩
          · simp; omega
          · rw [LS.out.2, List.length_append]
            exact hown
          · exact hp
        · have LS := hid (lit_step (t := t) (d := d) (u := u) (by rw [HM.out]; exact hz) HD.out HU.out hrel.out.1)
          have hlt : m < t.size := by omega
          simp only [if_neg hall] at IB
          clear HD HU
          go_upto_region 3 with fail
          go_wp2_with fail
          refine IB.out.mono ?_
          rintro e w' ⟨rfl, rfl⟩
          go_upto_region 7 with fail
          refine wp_region_list ?_
          refine wpList_plain rfl fun K hK => ?_
          have HK := hid hK
          clear hK
          go_wp2_with fail
          refine HK.out _ _ ?_
          clear HK
          refine wpList_plain rfl fun K hK => ?_
          have HK := hid hK
          clear hK
          go_wp2_with fail
          refine HK.out _ _ ?_
          clear HK
          refine wpList_plain rfl fun K hK => ?_
          have HK := hid hK
          clear hK
          go_wp2_with fail
          refine HK.out _ _ ?_
          clear HK
          refine wpList_plain rfl fun K hK => ?_
          have HK := hid hK
          clear hK
          go_wp2_with fail
          refine HK.out _ _ ?_
          clear HK
          refine wpList_buildTo rfl 40 _ rfl (some 21) rfl (pcV (PP.litP []) d) (by kernel_rfl) ?_
          refine wpList_push rfl rfl (.tmp 21) (.tmp 17) 22 rfl rfl rfl (pcV (PP.litP []) d) rfl rfl (pcs_lit d) (by kernel_rfl) w.heap.size _ done.length (cellsL done) _ rfl rfl rfl hrel.out.2.1 hrel.out.2.2.size (by omega) ?_
          intro v' w' hown hb
          go_wp2_with fail
          refine ⟨⟨u, done ++ [PP.litP d.data.toList], rfl, ?_, ⟨LS.out.1, ?_, hrel.out.2.2.trans hb⟩⟩, ?_⟩
          · have := HUS.out
            simp; omega
          · rw [LS.out.2, List.length_append]
            exact hown
          · have := HUS.out
            show u.size < t.size
            omega
    · have he := isE_zero hp
      go_wp2_with fail
      go_ret
      have e0 : t.data.toList = [] := List.eq_nil_of_length_eq_zero (by rw [← Utf.size_eq]; omega)
      have h := hrel.out.1
      rw [e0, PP.parseL_nil, List.append_nil] at h
      rw [← h]
      exact ⟨_, rfl, hrel.out.2.1, hrel.out.2.2⟩
end Go.Proofs.YtmfhoindfhmncaaDoor
