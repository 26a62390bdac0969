/-
  Walks of layer 2: bytes in hexadecimal digits.
-/
import Derived.Test.YtaniahkagmjkoaaDoorQ4
import Derived.Test.YtaniahkagmjkoaaDoorQR
import Derived.Lib.AppendStr
import Derived.StillTailTactics
import Derived.Deep.RegionLaw
import Derived.Laws.BitsLemmas
import Derived.Deep.CutBlock
namespace Go.Proofs.YtaniahkagmjkoaaDoor
open Go.RowKit Go.Proofs

abbrev sp8 (pl mi sh sp ze : Bool) (wid prec verb : Int) : Array Value := #[.bool pl, .bool mi, .bool sh, .bool sp, .bool ze, .int .i64 wid, .int .i64 prec, .int .i32 verb]
theorem blk_cells {W : World} {H : Nat} (pl mi sh sp ze : Bool) (wid prec verb : Int) (h : Blk W H (sp8 pl mi sh sp ze wid prec verb) 48) :
    W.cell? ⟨H, 0, none⟩ = some (.bool pl) ∧ W.cell? ⟨H, 1, none⟩ = some (.bool mi) ∧ W.cell? ⟨H, 2, none⟩ = some (.bool sh) ∧ W.cell? ⟨H, 3, none⟩ = some (.bool sp) ∧ W.cell? ⟨H, 4, none⟩ = some (.bool ze) ∧ W.cell? ⟨H, 5, none⟩ = some (.int .i64 wid) ∧ W.cell? ⟨H, 6, none⟩ = some (.int .i64 prec) ∧ W.cell? ⟨H, 7, none⟩ = some (.int .i32 verb) :=
  ⟨h.cell 0, h.cell 1, h.cell 2, h.cell 3, h.cell 4, h.cell 5, h.cell 6, h.cell 7⟩
/-- Bytes of a text put to a row of bytes that the call owns. -/
theorem wpList_str {ops : Array Oper} {rest : List Oper} {oa : Oper} {a : Act} {w : World} {Q : Exit → Act → World → Prop} (hga : oa.guard = none) (y x : Operand)
    (hoa : oa.op = .call { callee := .builtin .append, args := #[y, x], argTypes := #[90, 9] })
    (B : Nat) (v : Value) (n : Nat) (xs : List Value) (s : ByteArray) (hy : a.eval y = v) (hx : a.eval x = .string s) (hown : w.ownsRow B 5 1 v n xs) (hB : B ≤ w.heap.size) (hn : n + s.size ≤ 100000)
    (h : ∀ v' w', w'.ownsRow B 5 1 v' (n + s.data.toList.length) (xs ++ bc s.data.toList) → KB B w w' → wpList Tryd.prog ops Q rest (a.put oa.dst v') w') : wpList Tryd.prog ops Q (oa :: rest) a w := by
  obtain ⟨i0, hi, hz0, hz1, hz2⟩ := info_parts info_u8
  refine Lib.wpList_append_own_string (P := Tryd.prog) w hga y x 90 9 hoa B 5 i0 Tryd.underlying90 Tryd.underlying9 hi hz0 hz1 hz2 v n xs hy hown s hx (by unfold maxLen; omega) (by omega) hB ?_
  intro v' w' h2 h3 _
  rw [Utf.size_eq] at h2
  exact h v' w' h2 ⟨own_grown hown (Below.refl B w) hB h3, (Lib.OthersKept.refl _ none w).grown h3 (own_cells hown)⟩
theorem hexL_take (g sp : Bool) (mark : List UInt8) (S : ByteArray) (i : Nat) (h : i < S.size) :
    IP.hexL g sp mark (S.data.toList.take (i + 1)) = IP.hexL g sp mark (S.data.toList.take i) ++ ((if sp = true ∧ 0 < i then [32] else []) ++ (if sp = true ∨ i = 0 then mark else []) ++ IP.twoH g (S.data.toList[i]?.getD 0)) := by
  have hl : i < S.data.toList.length := by rw [← Utf.size_eq]; exact h
  rw [List.take_add_one, List.getElem?_eq_getElem hl]
  simp only [Option.toList_some, Option.getD_some]
  by_cases h0 : i = 0
  · subst h0
    rw [List.take_zero, List.nil_append, IP.hexL_one]
    simp [IP.hexL]
  · have hne : S.data.toList.take i ≠ [] := by
      intro e
      have := congrArg List.length e
      rw [List.length_take, List.length_nil] at this
      omega
    rw [IP.hexL_snoc _ _ _ _ _ hne]
    cases sp
    · simp [h0]
    · simp [show 0 < i by omega]
/-- What holds at the head of a round. -/
structure HxI (w : World) (g sp : Bool) (M S : ByteArray) (F : Array Value) (wr : World) (v : Value) (i : Nat) : Prop where
  own : wr.ownsRow (w.heap.size + 1) 5 1 v (IP.hexL g sp M.data.toList (S.data.toList.take i)).length (bc (IP.hexL g sp M.data.toList (S.data.toList.take i)))
  blk : Blk wr w.heap.size F 48
  below : Below w.heap.size w wr
theorem HxI.size {w wr : World} {g sp : Bool} {M S : ByteArray} {F : Array Value} {v : Value} {i : Nat} (h : HxI w g sp M S F wr v i) : w.heap.size + 1 ≤ wr.heap.size := h.blk.lt
theorem HxI.len {w wr : World} {g sp : Bool} {M S : ByteArray} {F : Array Value} {v : Value} {i : Nat} (_ : HxI w g sp M S F wr v i) (hM : M.size ≤ 2) : (IP.hexL g sp M.data.toList (S.data.toList.take i)).length ≤ 5 * S.size := by
  have h1 := IP.hexL_len g sp M.data.toList (by rw [← Utf.size_eq]; exact hM) (S.data.toList.take i)
  have h2 : (S.data.toList.take i).length ≤ S.size := by rw [List.length_take, ← Utf.size_eq]; omega
  omega
theorem blk_kb {w W : World} {H : Nat} {F : Array Value} {t : TypeId} (h : Blk w H F t) (hk : KB (H + 1) w W) : Blk W H F t := (hk.below.block H (Nat.lt_succ_self H)).trans h
/-- A round's pieces put. -/
theorem HxI.step {w wr W : World} {g sp : Bool} {M S : ByteArray} {F : Array Value} {v v' : Value} {i : Nat} (h : HxI w g sp M S F wr v i) (hi : i < S.size) (P : List UInt8) (n : Nat) (xs : List Value)
    (hP : (if sp = true ∧ 0 < i then [32] else []) ++ (if sp = true ∨ i = 0 then M.data.toList else []) ++ IP.twoH g (S.data.toList[i]?.getD 0) = P)
    (ho : W.ownsRow (w.heap.size + 1) 5 1 v' n xs) (hn : n = (IP.hexL g sp M.data.toList (S.data.toList.take i)).length + P.length) (hxs : xs = bc (IP.hexL g sp M.data.toList (S.data.toList.take i)) ++ bc P) (hk : KB (w.heap.size + 1) wr W) : HxI w g sp M S F W v' (i + 1) := by
  refine ⟨?_, blk_kb h.blk hk, h.below.trans (hk.below.mono (Nat.le_succ _))⟩
  rw [hexL_take _ _ _ _ _ hi, hP, bc_append, List.length_append, ← hn, ← hxs]
  exact ho

theorem KB.drew {B : Nat} {a b : World} (h : KB B a b) : KB B a b.drew := ⟨h.below.drew, h.kept⟩
/-- append of bytes that were just laid, as one step of a region that draws. -/
theorem step_put {ops : Array Oper} {o : Oper} {a : Act} {w : World} {K : Act → World → Prop} {Q : Exit → Act → World → Prop} {E : Prop} (hgd : o.guard = none) (s x : Operand)
    (hop : o.op = .call { callee := .builtin .append, args := #[s, x], argTypes := #[90, 90] }) (B : Nat) (v : Value) (n : Nat) (xs : List Value) (hs : a.eval s = v) (hown : w.ownsRow B 5 1 v n xs)
    (g m : Nat) (l : List UInt8) (hx : a.eval x = .slice (some ⟨g, 0, none⟩) m m) (hm : l.length = m) (hc : ∀ j u, (bc l)[j]? = some u → w.cell? ⟨g, j, none⟩ = some u) (hB : B ≤ w.heap.size) (hn : n + m ≤ 100000)
    (h : ∀ v' w', w'.ownsRow B 5 1 v' (n + l.length) (xs ++ bc l) → KB B w w' → K (a.put o.dst v') w') :
    if Region.wanted o (yielded ops a.tmps) = true then Oper.wp Tryd.prog o a w K Q else E := by
  have hw : Region.wanted o (yielded ops a.tmps) = true := by simp [Region.wanted, hgd]
  rw [if_pos hw]
  obtain ⟨i0, hi, hz0, hz1, hz2⟩ := info_parts info_u8
  refine wp_append_own (P := Tryd.prog) w s x 90 hop B 5 i0 (.int .u8 0) 1 1 Tryd.underlying90 hi hz0 hz1 hz2 rfl (by decide) v n xs hs hown ⟨g, 0, none⟩ m m (bc l) hx (by rw [bc_length, hm, Nat.mul_one]) (fun j u hu => by rw [Addr.add_mid, Nat.zero_add]; exact hc j u hu) (bc_one l) (by unfold maxLen; omega) (by omega) hB ?_
  intro v' w' h2 h3 _
  refine h v' w' (by rw [hm]; exact h2) ⟨own_grown hown (Below.refl B w) hB h3, (Lib.OthersKept.refl _ none w).grown h3 (own_cells hown)⟩
theorem pair_cells (W : World) (y1 y2 : Int) (l : List UInt8) (hl : bc l = [.int .u8 y1, .int .u8 y2]) : ∀ (j : Nat) (u : Value), (bc l)[j]? = some u → (W.alloc (.cells #[.int .u8 y1, .int .u8 y2] 5)).cell? ⟨W.heap.size, j, none⟩ = some u := by
  intro j u hu
  rw [hl] at hu
  rw [Lib.cell_of_heap (heap_alloc_new W _)]
  simpa using hu
theorem kb_drew {B : Nat} {a b : World} (h : KB B a.drew b) : KB B a b := ⟨⟨h.below.os, h.below.tape, h.below.output, h.below.size, h.below.block⟩, h.kept⟩
/-- The text cut at a precision. -/
def preS (prec : Int) (s : ByteArray) : ByteArray := if 0 ≤ prec ∧ prec < s.size then s.extract 0 prec.toNat else s
theorem preS_list (prec : Int) (s : ByteArray) : (preS prec s).data.toList = IP.preL prec s.data.toList := by
  unfold preS IP.preL
  rw [Utf.size_eq]
  split
  · rw [Lib.extract_data]
    simp
  · rfl
theorem preS_size (prec : Int) (s : ByteArray) : (preS prec s).size ≤ s.size := by
  rw [Utf.size_eq, preS_list, Utf.size_eq]
  exact IP.preL_le _ _

set_option maxRecDepth 100000 in
set_option maxHeartbeats 4000000 in
theorem hex_any (s : ByteArray) (pl mi sh sp ze : Bool) (wid prec verb : Int) (w : World) (hs : s.size ≤ 3000) (hw0 : -9223372036854775808 ≤ wid) (hw1 : wid ≤ 9223372036854775807) :
    Calls Tryd.prog 46 #[.string s, .agg #[.bool pl, .bool mi, .bool sh, .bool sp, .bool ze, .int .i64 wid, .int .i64 prec, .int .i32 verb]] w fun e w' => e = .returned (.string (padS ⟨(IP.hexS sh sp prec verb s.data.toList).toArray⟩ mi ze wid)) ∧ Below w.heap.size w w' := by
  obtain ⟨g, hg⟩ : ∃ g : Bool, decide (verb = 88) = g := ⟨_, rfl⟩
  obtain ⟨S, hS⟩ : ∃ S, preS prec s = S := ⟨_, rfl⟩
  have hSz : S.size ≤ 3000 := by have := preS_size prec s; rw [hS] at this; omega
  obtain ⟨M, hM⟩ : ∃ M : ByteArray, (⟨(IP.markH sh g).toArray⟩ : ByteArray) = M := ⟨_, rfl⟩
  have hMz : M.size ≤ 2 := by rw [← hM]; cases sh <;> cases g <;> decide
  obtain ⟨DG, hDG⟩ : ∃ D : ByteArray, signsS g = D := ⟨_, rfl⟩
  have hDz : DG.size = 16 := by rw [← hDG]; cases g <;> rfl
  have HSG := hid (show ∀ d, d < 16 → bt DG d = ((IP.hexd g d).toNat : Int) from fun d hd => by rw [← hDG]; exact signs_at g d hd)
  have HRES := hid (show IP.hexS sh sp prec verb s.data.toList = IP.hexL g sp M.data.toList S.data.toList by
    unfold IP.hexS
    rw [hg, ← preS_list, hS, ← hM])
  have hverb : (verb = 88 ∧ g = true) ∨ ((verb == 88) = false ∧ g = false) := by
    by_cases h : verb = 88
    · exact Or.inl ⟨h, by rw [← hg]; exact decide_eq_true h⟩
    · exact Or.inr ⟨beq_eq_false_iff_ne.2 h, by rw [← hg]; exact decide_eq_false h⟩
  have HV := hid hverb
  have HS := hid hS
  have HM := hid hM
  have HD := hid hDG
  obtain ⟨inr, hinr⟩ : ∃ b : Bool, decide (0 ≤ prec ∧ prec < s.size) = b := ⟨_, rfl⟩
  have HI := hid hinr
  have hB0 := Blk.new w (sp8 pl mi sh sp ze wid prec verb) 48
  have hb0 : Below w.heap.size w (w.alloc (.cells (sp8 pl mi sh sp ze wid prec verb) 48)) := (Below.refl _ _).alloc (Nat.le_refl _) _
  have HB := hid (And.intro hB0 hb0)
  clear hg hS hM hDG hverb hinr hB0 hb0
  go_enter Tryd.func46, Tryd.ntmps46
  go_upto_region 1 with fail
  obtain ⟨W0, hW0⟩ : ∃ W0, w.alloc (.cells (sp8 pl mi sh sp ze wid prec verb) 48) = W0 := ⟨_, rfl⟩
  rw [hW0] at HB ⊢
  clear hW0
  obtain ⟨c0, c1, c2, c3, c4, c5, c6, c7⟩ := blk_cells _ _ _ _ _ _ _ _ HB.out.1
  go_cut [18] (fun v18 wn => v18 = .bool inr ∧ W0 = wn)
  case first =>
    rcases (show (prec < 0 ∧ inr = false) ∨ (0 ≤ prec ∧ prec < s.size ∧ inr = true) ∨ (0 ≤ prec ∧ (s.size : Int) ≤ prec ∧ inr = false) by
      have h := HI.out
      by_cases h1 : prec < 0
      · exact Or.inl ⟨h1, by rw [← h]; exact decide_eq_false (by omega)⟩
      · by_cases h2 : prec < s.size
        · exact Or.inr (Or.inl ⟨by omega, h2, by rw [← h]; exact decide_eq_true (by omega)⟩)
        · exact Or.inr (Or.inr ⟨by omega, by omega, by rw [← h]; exact decide_eq_false (by omega)⟩)) with ⟨h1, rfl⟩ | ⟨h1, h2, rfl⟩ | ⟨h1, h2, rfl⟩
    · go_wp2_with fail
      go_meet
      exact ⟨rfl, rfl⟩
    · go_wp2_with fail
      go_meet
      exact ⟨rfl, rfl⟩
    · have hdf : decide (prec < (s.size : Int)) = false := decide_eq_false (by omega)
      go_wp2_with fail
      go_meet
      exact ⟨rfl, rfl⟩
  case rest =>
    obtain ⟨rfl, rfl⟩ := hcut
    go_upto_if 18 with fail
    go_cut [0] (fun v0 wn => v0 = .string S ∧ W0 = wn)
    case first =>
      cases inr
      · have h := HS.out
        unfold preS at h
        rw [if_neg (of_decide_eq_false HI.out)] at h
        subst h
        go_wp2_with fail
        go_meet
        exact ⟨rfl, rfl⟩
      · have h := HS.out
        have hi := of_decide_eq_true HI.out
        unfold preS at h
        rw [if_pos hi] at h
        obtain ⟨h1, h2⟩ := hi
        go_wp2_with fail
        go_meet
        exact ⟨rfl, rfl⟩
    case rest =>
      obtain ⟨rfl, rfl⟩ := hcut
      go_upto_if 25 with fail
      go_cut [5] (fun v5 wn => v5 = .string DG ∧ W0 = wn)
      case first =>
        rcases HV.out with ⟨rfl, rfl⟩ | ⟨hv, rfl⟩
        · have h := HD.out
          subst h
          go_wp2_with fail
          go_meet
          exact ⟨rfl, rfl⟩
        · have h := HD.out
          subst h
          go_wp2_with fail
          go_meet
          exact ⟨rfl, rfl⟩
      case rest =>
        obtain ⟨rfl, rfl⟩ := hcut
        go_upto_if 27 with fail
        go_cut [6] (fun v6 wn => v6 = .string M ∧ W0 = wn)
        case first =>
          cases sh
          · have h := HM.out
            subst h
            go_wp2_with fail
            go_meet
            exact ⟨rfl, rfl⟩
          · rcases HV.out with ⟨rfl, rfl⟩ | ⟨hv, rfl⟩
            · have h := HM.out
              subst h
              go_wp2_with fail
              go_meet
              exact ⟨rfl, rfl⟩
            · have h := HM.out
              subst h
              go_wp2_with fail
              go_meet
              exact ⟨rfl, rfl⟩
        case rest =>
          obtain ⟨rfl, rfl⟩ := hcut
          have H0 := hid (show HxI w g sp M S (sp8 pl mi sh sp ze wid prec verb) W0 (.slice none 0 0) 0 from
            ⟨⟨by simp [IP.hexL, bc], Or.inl ⟨rfl, by simp [IP.hexL]⟩⟩, HB.out.1, HB.out.2⟩)
          clear c0 c1 c2 c3 c4 c5 c6 c7
          go_wp2_with fail
          go_loopw [7, 33] (fun ov iv wr => ∃ i : Nat, iv = .int .i64 i ∧ i ≤ S.size ∧ Hid (HxI w g sp M S (sp8 pl mi sh sp ze wid prec verb) wr ov i)) (fun _ iv _ => S.size - (intOf iv).toNat)
          case atStart => exact ⟨0, rfl, Nat.zero_le _, H0.out⟩
          case round =>
            obtain ⟨i, rfl, hi, hI⟩ := hrel
            obtain ⟨c0, c1, c2, c3, c4, c5, c6, c7⟩ := blk_cells _ _ _ _ _ _ _ _ hI.out.blk
            by_cases hlt : i < S.size
            · have E0 := bt_at S i hlt
              have hbb := bt_bound S i
              have hxx : Hid ((S.data.toList[i]?.getD 0).toNat = (bt S i).toNat) := by unfold bt Hid; rw [Int.toNat_natCast]
              obtain ⟨x, hx⟩ : ∃ x, bt S i = x := ⟨_, rfl⟩
              rw [hx] at E0 hbb hxx
              obtain ⟨hx0, hx1⟩ := hbb
              obtain ⟨up, hhi⟩ : ∃ q : Nat, x.toNat / 16 = q := ⟨_, rfl⟩
              obtain ⟨lo, hlo⟩ : ∃ q : Nat, x.toNat % 16 = q := ⟨_, rfl⟩
              have hq : x / 16 = (up : Int) := by omega
              have h16 : up < 16 := by omega
              have l16 : lo < 16 := by omega
              have an : bits .and .u8 x 15 = (lo : Int) := by
                have h := bits_mask .u8 8 (by decide) wraps_u8 4 (by decide) x hx0 hx1
                have e : (2 : Int) ^ 4 - 1 = 15 := by decide
                rw [e] at h
                rw [h, show (2 : Int) ^ 4 = 16 by decide]
                omega
              have h16i : (up : Int) < 16 := by omega
              have l16i : (lo : Int) < 16 := by omega
              have i1 : up < DG.size := by omega
              have i2 : lo < DG.size := by omega
              have HTW : Hid (IP.twoH g (S.data.toList[i]?.getD 0) = [IP.hexd g up, IP.hexd g lo]) := by
                unfold IP.twoH Hid
                rw [hxx.out, hhi, hlo]
              obtain ⟨y1, hy1⟩ : ∃ y : Int, ((IP.hexd g up).toNat : Int) = y := ⟨_, rfl⟩
              obtain ⟨y2, hy2⟩ : ∃ y : Int, ((IP.hexd g lo).toNat : Int) = y := ⟨_, rfl⟩
              have E1 : ((DG[up]'i1).toNat : Int) = y1 := (bt_at DG up i1).trans ((HSG.out _ h16).trans hy1)
              have E2 : ((DG[lo]'i2).toNat : Int) = y2 := (bt_at DG lo i2).trans ((HSG.out _ l16).trans hy2)
              have HX := hid (And.intro hy1 hy2)
              clear hhi hlo hy1 hy2 hx
              cases sp
              · by_cases h0 : i = 0
                · subst h0
                  go_upto_region 17 with fail
                  refine wp_region_list ?_
                  refine wpList_plain rfl fun K hK => ?_
                  have HK := hid hK
                  clear hK
                  go_wp2_with fail
                  refine HK.out _ _ ?_
                  clear HK
                  refine wpList_plain rfl fun K hK => ?_
                  have HK := hid hK
                  clear hK
                  go_wp2_with fail
                  refine HK.out _ _ ?_
                  clear HK
                  refine wpList_str rfl (.tmp 51) (.tmp 52) rfl (w.heap.size + 1) _ _ _ M rfl rfl hI.out.own hI.out.size (by have h1 := hI.out.len hMz; omega) ?_
                  intro v2 w2 ho2 hk2
                  have K2 := hid hk2
                  have O2 := hid ho2
                  clear hk2 ho2 c0 c1 c2 c3 c4 c5 c6 c7
                  have hz2 := Nat.le_trans hI.out.size K2.out.size
                  go_upto_region 18 with fail
                  have hn := hI.out.len hMz
                  have hM2 := hMz
                  rw [Utf.size_eq] at hM2
                  have HN := hid (And.intro hn hM2)
                  clear hn hM2
                  go_region_law ((refine step_put rfl (.tmp 54) (.tmp 67) rfl (w.heap.size + 1) _ _ _ rfl (World.ownsRow.alloc (World.ownsRow.drew O2.out) _) _ 2 [IP.hexd g up, IP.hexd g lo] rfl rfl (pair_cells _ y1 y2 _ (by simp [bc, HX.out.1, HX.out.2])) (by have := hz2; simp; omega) (by obtain ⟨q1, q2⟩ := HN.out; first | omega | (simp only [List.length_cons, List.length_nil]; omega)) ?_; intro v3 w3 ho3 hk3))
                  all_goals
                    have N := hid (hI.out.step hlt (M.data.toList ++ [IP.hexd g up, IP.hexd g lo]) _ _ (by rw [HTW.out]; simp) ho3 (by first | rfl | (simp only [List.length_append, List.length_cons, List.length_nil]; omega)) (by first | rfl | simp only [bc_append, List.append_assoc]) ((KB.alloc (KB.drew ((KB.refl _ _).trans K2.out)) (by simpa using hz2) _).trans hk3))
                    clear ho3 hk3
                    go_wp2_with fail
                    go_roundw
                    case rel => exact ⟨1, by go_num, by omega, N.out⟩
                    case measure => simp [intOf]; omega
                · have h0i : 0 < (i : Int) := by omega
                  have h0b : ((i : Int) == 0) = false := beq_eq_false_iff_ne.2 (by omega)
                  go_upto_region 18 with fail
                  have hn := hI.out.len hMz
                  have hM2 := hMz
                  rw [Utf.size_eq] at hM2
                  have HN := hid (And.intro hn hM2)
                  clear hn hM2
                  go_region_law ((refine step_put rfl (.tmp 54) (.tmp 67) rfl (w.heap.size + 1) _ _ _ rfl (World.ownsRow.alloc (World.ownsRow.drew hI.out.own) _) _ 2 [IP.hexd g up, IP.hexd g lo] rfl rfl (pair_cells _ y1 y2 _ (by simp [bc, HX.out.1, HX.out.2])) (by have := hI.out.size; simp; omega) (by obtain ⟨q1, q2⟩ := HN.out; first | omega | (simp only [List.length_cons, List.length_nil]; omega)) ?_; intro v3 w3 ho3 hk3))
                  all_goals
                    have N := hid (hI.out.step hlt ([IP.hexd g up, IP.hexd g lo]) _ _ (by rw [HTW.out]; simp [h0]) ho3 (by first | rfl | (simp only [List.length_append, List.length_cons, List.length_nil]; omega)) (by first | rfl | simp only [bc_append, List.append_assoc]) ((KB.alloc (KB.drew (KB.refl _ _)) (by simpa using hI.out.size) _).trans hk3))
                    clear ho3 hk3
                    go_wp2_with fail
                    go_roundw
                    case rel => exact ⟨i + 1, by go_num, by omega, N.out⟩
                    case measure => simp [intOf]; omega
              · by_cases h0 : i = 0
                · subst h0
                  go_upto_region 17 with fail
                  refine wp_region_list ?_
                  refine wpList_plain rfl fun K hK => ?_
                  have HK := hid hK
                  clear hK
                  go_wp2_with fail
                  refine HK.out _ _ ?_
                  clear HK
                  refine wpList_plain rfl fun K hK => ?_
                  have HK := hid hK
                  clear hK
                  go_wp2_with fail
                  refine HK.out _ _ ?_
                  clear HK
                  refine wpList_str rfl (.tmp 51) (.tmp 52) rfl (w.heap.size + 1) _ _ _ M rfl rfl hI.out.own hI.out.size (by have h1 := hI.out.len hMz; omega) ?_
                  intro v2 w2 ho2 hk2
                  have K2 := hid hk2
                  have O2 := hid ho2
                  clear hk2 ho2 c0 c1 c2 c3 c4 c5 c6 c7
                  have hz2 := Nat.le_trans hI.out.size K2.out.size
                  go_upto_region 18 with fail
                  have hn := hI.out.len hMz
                  have hM2 := hMz
                  rw [Utf.size_eq] at hM2
                  have HN := hid (And.intro hn hM2)
                  clear hn hM2
                  go_region_law ((refine step_put rfl (.tmp 54) (.tmp 67) rfl (w.heap.size + 1) _ _ _ rfl (World.ownsRow.alloc (World.ownsRow.drew O2.out) _) _ 2 [IP.hexd g up, IP.hexd g lo] rfl rfl (pair_cells _ y1 y2 _ (by simp [bc, HX.out.1, HX.out.2])) (by have := hz2; simp; omega) (by obtain ⟨q1, q2⟩ := HN.out; first | omega | (simp only [List.length_cons, List.length_nil]; omega)) ?_; intro v3 w3 ho3 hk3))
                  all_goals
                    have N := hid (hI.out.step hlt (M.data.toList ++ [IP.hexd g up, IP.hexd g lo]) _ _ (by rw [HTW.out]; simp) ho3 (by first | rfl | (simp only [List.length_append, List.length_cons, List.length_nil]; omega)) (by first | rfl | simp only [bc_append, List.append_assoc]) ((KB.alloc (KB.drew ((KB.refl _ _).trans K2.out)) (by simpa using hz2) _).trans hk3))
                    clear ho3 hk3
                    go_wp2_with fail
                    go_roundw
                    case rel => exact ⟨1, by go_num, by omega, N.out⟩
                    case measure => simp [intOf]; omega
                · have h0i : 0 < (i : Int) := by omega
                  have h0b : ((i : Int) == 0) = false := beq_eq_false_iff_ne.2 (by omega)
                  go_upto_region 15 with fail
                  refine wp_region_list ?_
                  refine wpList_plain rfl fun K hK => ?_
                  have HK := hid hK
                  clear hK
                  go_wp2_with fail
                  refine HK.out _ _ ?_
                  clear HK
                  refine wpList_bytes rfl rfl 1 _ (.tmp 42) 43 rfl rfl rfl [32] rfl (by decide) (by decide) (by kernel_rfl) (w.heap.size + 1) _ _ _ _ rfl rfl rfl hI.out.own hI.out.size (by have h1 := hI.out.len hMz; omega) ?_
                  intro v1 w1 ho1 hk1
                  have K1 := hid hk1
                  have O1 := hid ho1
                  clear hk1 ho1 c0 c1 c2 c3 c4 c5 c6 c7
                  have hz1 := Nat.le_trans hI.out.size K1.out.size
                  obtain ⟨c0, c1, c2, c3, c4, c5, c6, c7⟩ := blk_cells _ _ _ _ _ _ _ _ (blk_kb hI.out.blk K1.out)
                  go_upto_region 17 with fail
                  refine wp_region_list ?_
                  refine wpList_plain rfl fun K hK => ?_
                  have HK := hid hK
                  clear hK
                  go_wp2_with fail
                  refine HK.out _ _ ?_
                  clear HK
                  refine wpList_plain rfl fun K hK => ?_
                  have HK := hid hK
                  clear hK
                  go_wp2_with fail
                  refine HK.out _ _ ?_
                  clear HK
                  refine wpList_str rfl (.tmp 51) (.tmp 52) rfl (w.heap.size + 1) _ _ _ M rfl rfl O1.out hz1 (by have h1 := hI.out.len hMz; first | omega | (simp only [List.length_cons, List.length_nil]; omega)) ?_
                  intro v2 w2 ho2 hk2
                  have K2 := hid hk2
                  have O2 := hid ho2
                  clear hk2 ho2 c0 c1 c2 c3 c4 c5 c6 c7
                  have hz2 := Nat.le_trans hz1 K2.out.size
                  go_upto_region 18 with fail
                  have hn := hI.out.len hMz
                  have hM2 := hMz
                  rw [Utf.size_eq] at hM2
                  have HN := hid (And.intro hn hM2)
                  clear hn hM2
                  go_region_law ((refine step_put rfl (.tmp 54) (.tmp 67) rfl (w.heap.size + 1) _ _ _ rfl (World.ownsRow.alloc (World.ownsRow.drew O2.out) _) _ 2 [IP.hexd g up, IP.hexd g lo] rfl rfl (pair_cells _ y1 y2 _ (by simp [bc, HX.out.1, HX.out.2])) (by have := hz2; simp; omega) (by obtain ⟨q1, q2⟩ := HN.out; first | omega | (simp only [List.length_cons, List.length_nil]; omega)) ?_; intro v3 w3 ho3 hk3))
                  all_goals
                    have N := hid (hI.out.step hlt ([32] ++ M.data.toList ++ [IP.hexd g up, IP.hexd g lo]) _ _ (by rw [HTW.out]; simp [show 0 < i by omega]) ho3 (by first | rfl | (simp only [List.length_append, List.length_cons, List.length_nil]; omega)) (by first | rfl | simp only [bc_append, List.append_assoc]) ((KB.alloc (KB.drew (((KB.refl _ _).trans K1.out).trans K2.out)) (by simpa using hz2) _).trans hk3))
                    clear ho3 hk3
                    go_wp2_with fail
                    go_roundw
                    case rel => exact ⟨i + 1, by go_num, by omega, N.out⟩
                    case measure => simp [intOf]; omega
            · have hiS : i = S.size := by omega
              have hfin : IP.hexL g sp M.data.toList (S.data.toList.take i) = IP.hexS sh sp prec verb s.data.toList := by
                rw [HRES.out, List.take_of_length_le (by rw [← Utf.size_eq]; omega)]
              have own := hI.out.own
              rw [hfin] at own
              have cv := conv_own own
              have hlz : (⟨(IP.hexS sh sp prec verb s.data.toList).toArray⟩ : ByteArray).size ≤ 140737488355328 := by
                rw [Utf.size_eq]
                show (IP.hexS sh sp prec verb s.data.toList).length ≤ _
                have := IP.hexS_len sh sp prec verb s.data.toList
                rw [← Utf.size_eq] at this
                omega
              obtain ⟨T, hT⟩ : ∃ T : ByteArray, (⟨(IP.hexS sh sp prec verb s.data.toList).toArray⟩ : ByteArray) = T := ⟨_, rfl⟩
              rw [hT] at cv hlz
              have HT := hid hT
              have PD := hid (fun W => pad_any T pl mi sh sp ze wid prec verb W hlz hw0 hw1)
              clear own hfin hT
              go_wp2_with fail
              refine (PD.out _).mono ?_
              rintro e w1 ⟨rfl, b1⟩
              have B1 := hid (hI.out.below.trans (b1.mono hI.out.below.size))
              clear b1
              go_wp2_with fail
              go_ret
              exact ⟨by rw [HT.out]; rfl, B1.out⟩
end Go.Proofs.YtaniahkagmjkoaaDoor
