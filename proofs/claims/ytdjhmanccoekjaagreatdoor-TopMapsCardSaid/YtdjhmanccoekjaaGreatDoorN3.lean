/-
  Texts of this claim, joined: QH2, Q5, QH3, QS, Sh3, QW, QTx.
-/
import Derived.Lib.AppendStr
import Derived.StillTailTactics
import Derived.Deep.RegionLaw
import Derived.Laws.BitsLemmas
import Derived.Deep.CutBlock
import Derived.Deep.RegionWith
import Derived.Lib.OthersKept
import Derived.Shelf.Unicode.ValidAny
import Derived.Test.YtdjhmanccoekjaaGreatDoorN2
import Derived.Test.YtdjhmanccoekjaaGreatDoorN1

section
namespace Go.Proofs.YtdjhmanccoekjaaGreatDoor
open Go.RowKit Go.Proofs

abbrev sp8 (pl mi sh sp ze : Bool) (wid prec verb : Int) : Array Value := #[.bool pl, .bool mi, .bool sh, .bool sp, .bool ze, .int .i64 wid, .int .i64 prec, .int .i32 verb]
theorem blk_cells {W : World} {H : Nat} (pl mi sh sp ze : Bool) (wid prec verb : Int) (h : Blk W H (sp8 pl mi sh sp ze wid prec verb) 94) :
    W.cell? ⟨H, 0, none⟩ = some (.bool pl) ∧ W.cell? ⟨H, 1, none⟩ = some (.bool mi) ∧ W.cell? ⟨H, 2, none⟩ = some (.bool sh) ∧ W.cell? ⟨H, 3, none⟩ = some (.bool sp) ∧ W.cell? ⟨H, 4, none⟩ = some (.bool ze) ∧ W.cell? ⟨H, 5, none⟩ = some (.int .i64 wid) ∧ W.cell? ⟨H, 6, none⟩ = some (.int .i64 prec) ∧ W.cell? ⟨H, 7, none⟩ = some (.int .i32 verb) :=
  ⟨h.cell 0, h.cell 1, h.cell 2, h.cell 3, h.cell 4, h.cell 5, h.cell 6, h.cell 7⟩
/-- Bytes of a text put to a row of bytes that the call owns. -/
theorem wpList_str {ops : Array Oper} {rest : List Oper} {oa : Oper} {a : Act} {w : World} {Q : Exit → Act → World → Prop} (hga : oa.guard = none) (y x : Operand)
    (hoa : oa.op = .call { callee := .builtin .append, args := #[y, x], argTypes := #[50, 9] })
    (B : Nat) (v : Value) (n : Nat) (xs : List Value) (s : ByteArray) (hy : a.eval y = v) (hx : a.eval x = .string s) (hown : w.ownsRow B 5 1 v n xs) (hB : B ≤ w.heap.size) (hn : n + s.size ≤ 100000)
    (h : ∀ v' w', w'.ownsRow B 5 1 v' (n + s.data.toList.length) (xs ++ bc s.data.toList) → KB B w w' → wpList Tryz.prog ops Q rest (a.put oa.dst v') w') : wpList Tryz.prog ops Q (oa :: rest) a w := by
  obtain ⟨i0, hi, hz0, hz1, hz2⟩ := info_parts info_u8
  refine Lib.wpList_append_own_string (P := Tryz.prog) w hga y x 50 9 hoa B 5 i0 Tryz.underlying50 Tryz.underlying9 hi hz0 hz1 hz2 v n xs hy hown s hx (by unfold maxLen; omega) (by omega) hB ?_
  intro v' w' h2 h3 _
  rw [Utf.size_eq] at h2
  exact h v' w' h2 ⟨own_grown hown (Below.refl B w) hB h3, (Lib.OthersKept.refl _ none w).grown h3 (own_cells hown)⟩
theorem hexL_take (g sp : Bool) (mark : List UInt8) (S : ByteArray) (i : Nat) (h : i < S.size) :
    IP.hexL g sp mark (S.data.toList.take (i + 1)) = IP.hexL g sp mark (S.data.toList.take i) ++ ((if sp = true ∧ 0 < i then [32] else []) ++ (if sp = true ∨ i = 0 then mark else []) ++ IP.twoH g (S.data.toList[i]?.getD 0)) := by
  have hl : i < S.data.toList.length := by rw [← Utf.size_eq]; exact h
  rw [List.take_add_one, List.getElem?_eq_getElem hl]
  simp only [Option.toList_some, Option.getD_some]
  by_cases h0 : i = 0
  · subst h0
    rw [List.take_zero, List.nil_append, IP.hexL_one]
    simp [IP.hexL]
  · have hne : S.data.toList.take i ≠ [] := by
      intro e
      have := congrArg List.length e
      rw [List.length_take, List.length_nil] at this
      omega
    rw [IP.hexL_snoc _ _ _ _ _ hne]
    cases sp
    · simp [h0]
    · simp [show 0 < i by omega]
/-- What holds at the head of a round. -/
structure HxI (w : World) (g sp : Bool) (M S : ByteArray) (F : Array Value) (wr : World) (v : Value) (i : Nat) : Prop where
  own : wr.ownsRow (w.heap.size + 1) 5 1 v (IP.hexL g sp M.data.toList (S.data.toList.take i)).length (bc (IP.hexL g sp M.data.toList (S.data.toList.take i)))
  blk : Blk wr w.heap.size F 94
  below : Below w.heap.size w wr
theorem HxI.size {w wr : World} {g sp : Bool} {M S : ByteArray} {F : Array Value} {v : Value} {i : Nat} (h : HxI w g sp M S F wr v i) : w.heap.size + 1 ≤ wr.heap.size := h.blk.lt
theorem HxI.len {w wr : World} {g sp : Bool} {M S : ByteArray} {F : Array Value} {v : Value} {i : Nat} (_ : HxI w g sp M S F wr v i) (hM : M.size ≤ 2) : (IP.hexL g sp M.data.toList (S.data.toList.take i)).length ≤ 5 * S.size := by
  have h1 := IP.hexL_len g sp M.data.toList (by rw [← Utf.size_eq]; exact hM) (S.data.toList.take i)
  have h2 : (S.data.toList.take i).length ≤ S.size := by rw [List.length_take, ← Utf.size_eq]; omega
  omega
theorem blk_kb {w W : World} {H : Nat} {F : Array Value} {t : TypeId} (h : Blk w H F t) (hk : KB (H + 1) w W) : Blk W H F t := (hk.below.block H (Nat.lt_succ_self H)).trans h
/-- A round's pieces put. -/
theorem HxI.step {w wr W : World} {g sp : Bool} {M S : ByteArray} {F : Array Value} {v v' : Value} {i : Nat} (h : HxI w g sp M S F wr v i) (hi : i < S.size) (P : List UInt8) (n : Nat) (xs : List Value)
    (hP : (if sp = true ∧ 0 < i then [32] else []) ++ (if sp = true ∨ i = 0 then M.data.toList else []) ++ IP.twoH g (S.data.toList[i]?.getD 0) = P)
    (ho : W.ownsRow (w.heap.size + 1) 5 1 v' n xs) (hn : n = (IP.hexL g sp M.data.toList (S.data.toList.take i)).length + P.length) (hxs : xs = bc (IP.hexL g sp M.data.toList (S.data.toList.take i)) ++ bc P) (hk : KB (w.heap.size + 1) wr W) : HxI w g sp M S F W v' (i + 1) := by
  refine ⟨?_, blk_kb h.blk hk, h.below.trans (hk.below.mono (Nat.le_succ _))⟩
  rw [hexL_take _ _ _ _ _ hi, hP, bc_append, List.length_append, ← hn, ← hxs]
  exact ho

theorem KB.drew {B : Nat} {a b : World} (h : KB B a b) : KB B a b.drew := ⟨h.below.drew, h.kept⟩
/-- append of bytes that were just laid, as one step of a region that draws. -/
theorem step_put {ops : Array Oper} {o : Oper} {a : Act} {w : World} {K : Act → World → Prop} {Q : Exit → Act → World → Prop} {E : Prop} (hgd : o.guard = none) (s x : Operand)
    (hop : o.op = .call { callee := .builtin .append, args := #[s, x], argTypes := #[50, 50] }) (B : Nat) (v : Value) (n : Nat) (xs : List Value) (hs : a.eval s = v) (hown : w.ownsRow B 5 1 v n xs)
    (g m : Nat) (l : List UInt8) (hx : a.eval x = .slice (some ⟨g, 0, none⟩) m m) (hm : l.length = m) (hc : ∀ j u, (bc l)[j]? = some u → w.cell? ⟨g, j, none⟩ = some u) (hB : B ≤ w.heap.size) (hn : n + m ≤ 100000)
    (h : ∀ v' w', w'.ownsRow B 5 1 v' (n + l.length) (xs ++ bc l) → KB B w w' → K (a.put o.dst v') w') :
    if Region.wanted o (yielded ops a.tmps) = true then Oper.wp Tryz.prog o a w K Q else E := by
  have hw : Region.wanted o (yielded ops a.tmps) = true := by simp [Region.wanted, hgd]
  rw [if_pos hw]
  obtain ⟨i0, hi, hz0, hz1, hz2⟩ := info_parts info_u8
  refine wp_append_own (P := Tryz.prog) w s x 50 hop B 5 i0 (.int .u8 0) 1 1 Tryz.underlying50 hi hz0 hz1 hz2 rfl (by decide) v n xs hs hown ⟨g, 0, none⟩ m m (bc l) hx (by rw [bc_length, hm, Nat.mul_one]) (fun j u hu => by rw [Addr.add_mid, Nat.zero_add]; exact hc j u hu) (bc_one l) (by unfold maxLen; omega) (by omega) hB ?_
  intro v' w' h2 h3 _
  refine h v' w' (by rw [hm]; exact h2) ⟨own_grown hown (Below.refl B w) hB h3, (Lib.OthersKept.refl _ none w).grown h3 (own_cells hown)⟩
theorem pair_cells (W : World) (y1 y2 : Int) (l : List UInt8) (hl : bc l = [.int .u8 y1, .int .u8 y2]) : ∀ (j : Nat) (u : Value), (bc l)[j]? = some u → (W.alloc (.cells #[.int .u8 y1, .int .u8 y2] 5)).cell? ⟨W.heap.size, j, none⟩ = some u := by
  intro j u hu
  rw [hl] at hu
  rw [Lib.cell_of_heap (heap_alloc_new W _)]
  simpa using hu
theorem kb_drew {B : Nat} {a b : World} (h : KB B a.drew b) : KB B a b := ⟨⟨h.below.os, h.below.tape, h.below.output, h.below.size, h.below.block⟩, h.kept⟩
/-- The text cut at a precision. -/
def preS (prec : Int) (s : ByteArray) : ByteArray := if 0 ≤ prec ∧ prec < s.size then s.extract 0 prec.toNat else s
theorem preS_list (prec : Int) (s : ByteArray) : (preS prec s).data.toList = IP.preL prec s.data.toList := by
  unfold preS IP.preL
  rw [Utf.size_eq]
  split
  · rw [Lib.extract_data]
    simp
  · rfl
theorem preS_size (prec : Int) (s : ByteArray) : (preS prec s).size ≤ s.size := by
  rw [Utf.size_eq, preS_list, Utf.size_eq]
  exact IP.preL_le _ _

set_option maxRecDepth 100000 in
set_option maxHeartbeats 4000000 in
theorem hex_any (s : ByteArray) (pl mi sh sp ze : Bool) (wid prec verb : Int) (w : World) (hs : s.size ≤ 3000) (hw0 : -9223372036854775808 ≤ wid) (hw1 : wid ≤ 9223372036854775807) :
    Calls Tryz.prog 111 #[.string s, .agg #[.bool pl, .bool mi, .bool sh, .bool sp, .bool ze, .int .i64 wid, .int .i64 prec, .int .i32 verb]] w fun e w' => e = .returned (.string (padS ⟨(IP.hexS sh sp prec verb s.data.toList).toArray⟩ mi ze wid)) ∧ Below w.heap.size w w' := by
  obtain ⟨g, hg⟩ : ∃ g : Bool, decide (verb = 88) = g := ⟨_, rfl⟩
  obtain ⟨S, hS⟩ : ∃ S, preS prec s = S := ⟨_, rfl⟩
  have hSz : S.size ≤ 3000 := by have := preS_size prec s; rw [hS] at this; omega
  obtain ⟨M, hM⟩ : ∃ M : ByteArray, (⟨(IP.markH sh g).toArray⟩ : ByteArray) = M := ⟨_, rfl⟩
  have hMz : M.size ≤ 2 := by rw [← hM]; cases sh <;> cases g <;> decide
  obtain ⟨DG, hDG⟩ : ∃ D : ByteArray, signsS g = D := ⟨_, rfl⟩
  have hDz : DG.size = 16 := by rw [← hDG]; cases g <;> rfl
  have HSG := hid (show ∀ d, d < 16 → bt DG d = ((IP.hexd g d).toNat : Int) from fun d hd => by rw [← hDG]; exact signs_at g d hd)
  have HRES := hid (show IP.hexS sh sp prec verb s.data.toList = IP.hexL g sp M.data.toList S.data.toList by
    unfold IP.hexS
    rw [hg, ← preS_list, hS, ← hM])
  have hverb : (verb = 88 ∧ g = true) ∨ ((verb == 88) = false ∧ g = false) := by
    by_cases h : verb = 88
    · exact Or.inl ⟨h, by rw [← hg]; exact decide_eq_true h⟩
    · exact Or.inr ⟨beq_eq_false_iff_ne.2 h, by rw [← hg]; exact decide_eq_false h⟩
  have HV := hid hverb
  have HS := hid hS
  have HM := hid hM
  have HD := hid hDG
  obtain ⟨inr, hinr⟩ : ∃ b : Bool, decide (0 ≤ prec ∧ prec < s.size) = b := ⟨_, rfl⟩
  have HI := hid hinr
  have hB0 := Blk.new w (sp8 pl mi sh sp ze wid prec verb) 94
  have hb0 : Below w.heap.size w (w.alloc (.cells (sp8 pl mi sh sp ze wid prec verb) 94)) := (Below.refl _ _).alloc (Nat.le_refl _) _
  have HB := hid (And.intro hB0 hb0)
  clear hg hS hM hDG hverb hinr hB0 hb0
  go_enter Tryz.func111, Tryz.ntmps111
  go_upto_region 1 with fail
  obtain ⟨W0, hW0⟩ : ∃ W0, w.alloc (.cells (sp8 pl mi sh sp ze wid prec verb) 94) = W0 := ⟨_, rfl⟩
  rw [hW0] at HB ⊢
  clear hW0
  obtain ⟨c0, c1, c2, c3, c4, c5, c6, c7⟩ := blk_cells _ _ _ _ _ _ _ _ HB.out.1
  go_cut [18] (fun v18 wn => v18 = .bool inr ∧ W0 = wn)
  case first =>
    rcases (show (prec < 0 ∧ inr = false) ∨ (0 ≤ prec ∧ prec < s.size ∧ inr = true) ∨ (0 ≤ prec ∧ (s.size : Int) ≤ prec ∧ inr = false) by
      have h := HI.out
      by_cases h1 : prec < 0
      · exact Or.inl ⟨h1, by rw [← h]; exact decide_eq_false (by omega)⟩
      · by_cases h2 : prec < s.size
        · exact Or.inr (Or.inl ⟨by omega, h2, by rw [← h]; exact decide_eq_true (by omega)⟩)
        · exact Or.inr (Or.inr ⟨by omega, by omega, by rw [← h]; exact decide_eq_false (by omega)⟩)) with ⟨h1, rfl⟩ | ⟨h1, h2, rfl⟩ | ⟨h1, h2, rfl⟩
    · go_wp2_with fail
      go_meet
      exact ⟨rfl, rfl⟩
    · go_wp2_with fail
      go_meet
      exact ⟨rfl, rfl⟩
    · have hdf : decide (prec < (s.size : Int)) = false := decide_eq_false (by omega)
      go_wp2_with fail
      go_meet
      exact ⟨rfl, rfl⟩
  case rest =>
    obtain ⟨rfl, rfl⟩ := hcut
    go_upto_if 18 with fail
    go_cut [0] (fun v0 wn => v0 = .string S ∧ W0 = wn)
    case first =>
      cases inr
      · have h := HS.out
        unfold preS at h
        rw [if_neg (of_decide_eq_false HI.out)] at h
        subst h
        go_wp2_with fail
        go_meet
        exact ⟨rfl, rfl⟩
      · have h := HS.out
        have hi := of_decide_eq_true HI.out
        unfold preS at h
        rw [if_pos hi] at h
        obtain ⟨h1, h2⟩ := hi
        go_wp2_with fail
        go_meet
        exact ⟨rfl, rfl⟩
    case rest =>
      obtain ⟨rfl, rfl⟩ := hcut
      go_upto_if 25 with fail
      go_cut [5] (fun v5 wn => v5 = .string DG ∧ W0 = wn)
      case first =>
        rcases HV.out with ⟨rfl, rfl⟩ | ⟨hv, rfl⟩
        · have h := HD.out
          subst h
          go_wp2_with fail
          go_meet
          exact ⟨rfl, rfl⟩
        · have h := HD.out
          subst h
          go_wp2_with fail
          go_meet
          exact ⟨rfl, rfl⟩
      case rest =>
        obtain ⟨rfl, rfl⟩ := hcut
        go_upto_if 27 with fail
        go_cut [6] (fun v6 wn => v6 = .string M ∧ W0 = wn)
        case first =>
          cases sh
          · have h := HM.out
            subst h
            go_wp2_with fail
            go_meet
            exact ⟨rfl, rfl⟩
          · rcases HV.out with ⟨rfl, rfl⟩ | ⟨hv, rfl⟩
            · have h := HM.out
              subst h
              go_wp2_with fail
              go_meet
              exact ⟨rfl, rfl⟩
            · have h := HM.out
              subst h
              go_wp2_with fail
              go_meet
              exact ⟨rfl, rfl⟩
        case rest =>
          obtain ⟨rfl, rfl⟩ := hcut
          have H0 := hid (show HxI w g sp M S (sp8 pl mi sh sp ze wid prec verb) W0 (.slice none 0 0) 0 from
            ⟨⟨by simp [IP.hexL, bc], Or.inl ⟨rfl, by simp [IP.hexL]⟩⟩, HB.out.1, HB.out.2⟩)
          clear c0 c1 c2 c3 c4 c5 c6 c7
          go_wp2_with fail
          go_loopw [7, 33] (fun ov iv wr => ∃ i : Nat, iv = .int .i64 i ∧ i ≤ S.size ∧ Hid (HxI w g sp M S (sp8 pl mi sh sp ze wid prec verb) wr ov i)) (fun _ iv _ => S.size - (intOf iv).toNat)
          case atStart => exact ⟨0, rfl, Nat.zero_le _, H0.out⟩
          case round =>
            obtain ⟨i, rfl, hi, hI⟩ := hrel
            obtain ⟨c0, c1, c2, c3, c4, c5, c6, c7⟩ := blk_cells _ _ _ _ _ _ _ _ hI.out.blk
            by_cases hlt : i < S.size
            · have E0 := bt_at S i hlt
              have hbb := bt_bound S i
              have hxx : Hid ((S.data.toList[i]?.getD 0).toNat = (bt S i).toNat) := by unfold bt Hid; rw [Int.toNat_natCast]
              obtain ⟨x, hx⟩ : ∃ x, bt S i = x := ⟨_, rfl⟩
              rw [hx] at E0 hbb hxx
              obtain ⟨hx0, hx1⟩ := hbb
              obtain ⟨up, hhi⟩ : ∃ q : Nat, x.toNat / 16 = q := ⟨_, rfl⟩
              obtain ⟨lo, hlo⟩ : ∃ q : Nat, x.toNat % 16 = q := ⟨_, rfl⟩
              have hq : x / 16 = (up : Int) := by omega
              have h16 : up < 16 := by omega
              have l16 : lo < 16 := by omega
              have an : bits .and .u8 x 15 = (lo : Int) := by
                have h := bits_mask .u8 8 (by decide) wraps_u8 4 (by decide) x hx0 hx1
                have e : (2 : Int) ^ 4 - 1 = 15 := by decide
                rw [e] at h
                rw [h, show (2 : Int) ^ 4 = 16 by decide]
                omega
              have h16i : (up : Int) < 16 := by omega
              have l16i : (lo : Int) < 16 := by omega
              have i1 : up < DG.size := by omega
              have i2 : lo < DG.size := by omega
              have HTW : Hid (IP.twoH g (S.data.toList[i]?.getD 0) = [IP.hexd g up, IP.hexd g lo]) := by
                unfold IP.twoH Hid
                rw [hxx.out, hhi, hlo]
              obtain ⟨y1, hy1⟩ : ∃ y : Int, ((IP.hexd g up).toNat : Int) = y := ⟨_, rfl⟩
              obtain ⟨y2, hy2⟩ : ∃ y : Int, ((IP.hexd g lo).toNat : Int) = y := ⟨_, rfl⟩
              have E1 : ((DG[up]'i1).toNat : Int) = y1 := (bt_at DG up i1).trans ((HSG.out _ h16).trans hy1)
              have E2 : ((DG[lo]'i2).toNat : Int) = y2 := (bt_at DG lo i2).trans ((HSG.out _ l16).trans hy2)
              have HX := hid (And.intro hy1 hy2)
              clear hhi hlo hy1 hy2 hx
              cases sp
              · by_cases h0 : i = 0
                · subst h0
                  go_upto_region 17 with fail
                  refine wp_region_list ?_
                  refine wpList_plain rfl fun K hK => ?_
                  have HK := hid hK
                  clear hK
                  go_wp2_with fail
                  refine HK.out _ _ ?_
                  clear HK
                  refine wpList_plain rfl fun K hK => ?_
                  have HK := hid hK
                  clear hK
                  go_wp2_with fail
                  refine HK.out _ _ ?_
                  clear HK
                  refine wpList_str rfl (.tmp 51) (.tmp 52) rfl (w.heap.size + 1) _ _ _ M rfl rfl hI.out.own hI.out.size (by have h1 := hI.out.len hMz; omega) ?_
                  intro v2 w2 ho2 hk2
                  have K2 := hid hk2
                  have O2 := hid ho2
                  clear hk2 ho2 c0 c1 c2 c3 c4 c5 c6 c7
                  have hz2 := Nat.le_trans hI.out.size K2.out.size
                  go_upto_region 18 with fail
                  have hn := hI.out.len hMz
                  have hM2 := hMz
                  rw [Utf.size_eq] at hM2
                  have HN := hid (And.intro hn hM2)
                  clear hn hM2
                  go_region_law ((refine step_put rfl (.tmp 54) (.tmp 67) rfl (w.heap.size + 1) _ _ _ rfl (World.ownsRow.alloc (World.ownsRow.drew O2.out) _) _ 2 [IP.hexd g up, IP.hexd g lo] rfl rfl (pair_cells _ y1 y2 _ (by simp [bc, HX.out.1, HX.out.2])) (by have := hz2; simp; omega) (by obtain ⟨q1, q2⟩ := HN.out; first | omega | (simp only [List.length_cons, List.length_nil]; omega)) ?_; intro v3 w3 ho3 hk3))
                  all_goals
                    have N := hid (hI.out.step hlt (M.data.toList ++ [IP.hexd g up, IP.hexd g lo]) _ _ (by rw [HTW.out]; simp) ho3 (by first | rfl | (simp only [List.length_append, List.length_cons, List.length_nil]; omega)) (by first | rfl | simp only [bc_append, List.append_assoc]) ((KB.alloc (KB.drew ((KB.refl _ _).trans K2.out)) (by simpa using hz2) _).trans hk3))
                    clear ho3 hk3
                    go_wp2_with fail
                    go_roundw
                    case rel => exact ⟨1, by go_num, by omega, N.out⟩
                    case measure => simp [intOf]; omega
                · have h0i : 0 < (i : Int) := by omega
                  have h0b : ((i : Int) == 0) = false := beq_eq_false_iff_ne.2 (by omega)
                  go_upto_region 18 with fail
                  have hn := hI.out.len hMz
                  have hM2 := hMz
                  rw [Utf.size_eq] at hM2
                  have HN := hid (And.intro hn hM2)
                  clear hn hM2
                  go_region_law ((refine step_put rfl (.tmp 54) (.tmp 67) rfl (w.heap.size + 1) _ _ _ rfl (World.ownsRow.alloc (World.ownsRow.drew hI.out.own) _) _ 2 [IP.hexd g up, IP.hexd g lo] rfl rfl (pair_cells _ y1 y2 _ (by simp [bc, HX.out.1, HX.out.2])) (by have := hI.out.size; simp; omega) (by obtain ⟨q1, q2⟩ := HN.out; first | omega | (simp only [List.length_cons, List.length_nil]; omega)) ?_; intro v3 w3 ho3 hk3))
                  all_goals
                    have N := hid (hI.out.step hlt ([IP.hexd g up, IP.hexd g lo]) _ _ (by rw [HTW.out]; simp [h0]) ho3 (by first | rfl | (simp only [List.length_append, List.length_cons, List.length_nil]; omega)) (by first | rfl | simp only [bc_append, List.append_assoc]) ((KB.alloc (KB.drew (KB.refl _ _)) (by simpa using hI.out.size) _).trans hk3))
                    clear ho3 hk3
                    go_wp2_with fail
                    go_roundw
                    case rel => exact ⟨i + 1, by go_num, by omega, N.out⟩
                    case measure => simp [intOf]; omega
              · by_cases h0 : i = 0
                · subst h0
                  go_upto_region 17 with fail
                  refine wp_region_list ?_
                  refine wpList_plain rfl fun K hK => ?_
                  have HK := hid hK
                  clear hK
                  go_wp2_with fail
                  refine HK.out _ _ ?_
                  clear HK
                  refine wpList_plain rfl fun K hK => ?_
                  have HK := hid hK
                  clear hK
                  go_wp2_with fail
                  refine HK.out _ _ ?_
                  clear HK
                  refine wpList_str rfl (.tmp 51) (.tmp 52) rfl (w.heap.size + 1) _ _ _ M rfl rfl hI.out.own hI.out.size (by have h1 := hI.out.len hMz; omega) ?_
                  intro v2 w2 ho2 hk2
                  have K2 := hid hk2
                  have O2 := hid ho2
                  clear hk2 ho2 c0 c1 c2 c3 c4 c5 c6 c7
                  have hz2 := Nat.le_trans hI.out.size K2.out.size
                  go_upto_region 18 with fail
                  have hn := hI.out.len hMz
                  have hM2 := hMz
                  rw [Utf.size_eq] at hM2
                  have HN := hid (And.intro hn hM2)
                  clear hn hM2
                  go_region_law ((refine step_put rfl (.tmp 54) (.tmp 67) rfl (w.heap.size + 1) _ _ _ rfl (World.ownsRow.alloc (World.ownsRow.drew O2.out) _) _ 2 [IP.hexd g up, IP.hexd g lo] rfl rfl (pair_cells _ y1 y2 _ (by simp [bc, HX.out.1, HX.out.2])) (by have := hz2; simp; omega) (by obtain ⟨q1, q2⟩ := HN.out; first | omega | (simp only [List.length_cons, List.length_nil]; omega)) ?_; intro v3 w3 ho3 hk3))
                  all_goals
                    have N := hid (hI.out.step hlt (M.data.toList ++ [IP.hexd g up, IP.hexd g lo]) _ _ (by rw [HTW.out]; simp) ho3 (by first | rfl | (simp only [List.length_append, List.length_cons, List.length_nil]; omega)) (by first | rfl | simp only [bc_append, List.append_assoc]) ((KB.alloc (KB.drew ((KB.refl _ _).trans K2.out)) (by simpa using hz2) _).trans hk3))
                    clear ho3 hk3
                    go_wp2_with fail
                    go_roundw
                    case rel => exact ⟨1, by go_num, by omega, N.out⟩
                    case measure => simp [intOf]; omega
                · have h0i : 0 < (i : Int) := by omega
                  have h0b : ((i : Int) == 0) = false := beq_eq_false_iff_ne.2 (by omega)
                  go_upto_region 15 with fail
                  refine wp_region_list ?_
                  refine wpList_plain rfl fun K hK => ?_
                  have HK := hid hK
                  clear hK
                  go_wp2_with fail
                  refine HK.out _ _ ?_
                  clear HK
                  refine wpList_bytes rfl rfl 1 _ (.tmp 42) 43 rfl rfl rfl [32] rfl (by decide) (by decide) (by kernel_rfl) (w.heap.size + 1) _ _ _ _ rfl rfl rfl hI.out.own hI.out.size (by have h1 := hI.out.len hMz; omega) ?_
                  intro v1 w1 ho1 hk1
                  have K1 := hid hk1
                  have O1 := hid ho1
                  clear hk1 ho1 c0 c1 c2 c3 c4 c5 c6 c7
                  have hz1 := Nat.le_trans hI.out.size K1.out.size
                  obtain ⟨c0, c1, c2, c3, c4, c5, c6, c7⟩ := blk_cells _ _ _ _ _ _ _ _ (blk_kb hI.out.blk K1.out)
                  go_upto_region 17 with fail
                  refine wp_region_list ?_
                  refine wpList_plain rfl fun K hK => ?_
                  have HK := hid hK
                  clear hK
                  go_wp2_with fail
                  refine HK.out _ _ ?_
                  clear HK
                  refine wpList_plain rfl fun K hK => ?_
                  have HK := hid hK
                  clear hK
                  go_wp2_with fail
                  refine HK.out _ _ ?_
                  clear HK
                  refine wpList_str rfl (.tmp 51) (.tmp 52) rfl (w.heap.size + 1) _ _ _ M rfl rfl O1.out hz1 (by have h1 := hI.out.len hMz; first | omega | (simp only [List.length_cons, List.length_nil]; omega)) ?_
                  intro v2 w2 ho2 hk2
                  have K2 := hid hk2
                  have O2 := hid ho2
                  clear hk2 ho2 c0 c1 c2 c3 c4 c5 c6 c7
                  have hz2 := Nat.le_trans hz1 K2.out.size
                  go_upto_region 18 with fail
                  have hn := hI.out.len hMz
                  have hM2 := hMz
                  rw [Utf.size_eq] at hM2
                  have HN := hid (And.intro hn hM2)
                  clear hn hM2
                  go_region_law ((refine step_put rfl (.tmp 54) (.tmp 67) rfl (w.heap.size + 1) _ _ _ rfl (World.ownsRow.alloc (World.ownsRow.drew O2.out) _) _ 2 [IP.hexd g up, IP.hexd g lo] rfl rfl (pair_cells _ y1 y2 _ (by simp [bc, HX.out.1, HX.out.2])) (by have := hz2; simp; omega) (by obtain ⟨q1, q2⟩ := HN.out; first | omega | (simp only [List.length_cons, List.length_nil]; omega)) ?_; intro v3 w3 ho3 hk3))
                  all_goals
                    have N := hid (hI.out.step hlt ([32] ++ M.data.toList ++ [IP.hexd g up, IP.hexd g lo]) _ _ (by rw [HTW.out]; simp [show 0 < i by omega]) ho3 (by first | rfl | (simp only [List.length_append, List.length_cons, List.length_nil]; omega)) (by first | rfl | simp only [bc_append, List.append_assoc]) ((KB.alloc (KB.drew (((KB.refl _ _).trans K1.out).trans K2.out)) (by simpa using hz2) _).trans hk3))
                    clear ho3 hk3
                    go_wp2_with fail
                    go_roundw
                    case rel => exact ⟨i + 1, by go_num, by omega, N.out⟩
                    case measure => simp [intOf]; omega
            · have hiS : i = S.size := by omega
              have hfin : IP.hexL g sp M.data.toList (S.data.toList.take i) = IP.hexS sh sp prec verb s.data.toList := by
                rw [HRES.out, List.take_of_length_le (by rw [← Utf.size_eq]; omega)]
              have own := hI.out.own
              rw [hfin] at own
              have cv := conv_own own
              have hlz : (⟨(IP.hexS sh sp prec verb s.data.toList).toArray⟩ : ByteArray).size ≤ 140737488355328 := by
                rw [Utf.size_eq]
                show (IP.hexS sh sp prec verb s.data.toList).length ≤ _
                have := IP.hexS_len sh sp prec verb s.data.toList
                rw [← Utf.size_eq] at this
                omega
              obtain ⟨T, hT⟩ : ∃ T : ByteArray, (⟨(IP.hexS sh sp prec verb s.data.toList).toArray⟩ : ByteArray) = T := ⟨_, rfl⟩
              rw [hT] at cv hlz
              have HT := hid hT
              have PD := hid (fun W => pad_any T pl mi sh sp ze wid prec verb W hlz hw0 hw1)
              clear own hfin hT
              go_wp2_with fail
              refine (PD.out _).mono ?_
              rintro e w1 ⟨rfl, b1⟩
              have B1 := hid (hI.out.below.trans (b1.mono hI.out.below.size))
              clear b1
              go_wp2_with fail
              go_ret
              exact ⟨by rw [HT.out]; rfl, B1.out⟩
end Go.Proofs.YtdjhmanccoekjaaGreatDoor
end

section
namespace Go.Proofs.YtdjhmanccoekjaaGreatDoor
open Go.RowKit Go.Proofs
theorem conv2d (w : World) (a b : Int) : (convert 50 9 (.slice (some ⟨w.heap.size, 0, none⟩) 2 2)).run Tryz.prog (w.alloc (.cells #[.int .u8 a, .int .u8 b] 5)).drew = .ok (.string (strOfNums [a, b])) (w.alloc (.cells #[.int .u8 a, .int .u8 b] 5)).drew :=
  run_convert_bytes_arg (w.alloc (.cells #[.int .u8 a, .int .u8 b] 5)).drew 50 5 Tryz.underlying50 Tryz.underlying5 w.heap.size 0 2 2 [a, b] rfl (fun i hi => by
    show (w.alloc (.cells #[.int .u8 a, .int .u8 b] 5)).cell? ⟨w.heap.size, 0 + i, none⟩ = _
    match i, hi with
    | 0, _ => rw [World.cell?_alloc_mark]; rfl
    | 1, _ => rw [World.cell?_alloc_mark]; rfl) 9 Tryz.underlying9
attribute [local go_sem] conv2 conv2d

theorem hexW_front (n : Nat) : ∀ i : Nat, IP.hexW n (i + 1) = IP.hexd false (n / 16 ^ i % 16) :: IP.hexW n i := by
  intro i
  induction i generalizing n with
  | zero => simp [IP.hexW]
  | succ i ih =>
    rw [IP.hexW, ih (n / 16)]
    conv => rhs; rw [IP.hexW]
    rw [Nat.div_div_eq_div_mul, Nat.pow_succ, Nat.mul_comm 16, List.cons_append]

theorem conv2_after {w w1 : World} {a b : Int} (hb : Below (w.alloc (.cells #[.int .u8 a, .int .u8 b] 5)).heap.size (w.alloc (.cells #[.int .u8 a, .int .u8 b] 5)) w1) :
    (convert 50 9 (.slice (some ⟨w.heap.size, 0, none⟩) 2 2)).run Tryz.prog w1 = .ok (.string (strOfNums [a, b])) w1 :=
  run_convert_bytes_arg w1 50 5 Tryz.underlying50 Tryz.underlying5 w.heap.size 0 2 2 [a, b] rfl (fun i hi => by
    rw [hb.cell (p := ⟨w.heap.size, 0 + i, none⟩) (by simp)]
    match i, hi with
    | 0, _ => rw [World.cell?_alloc_mark]; rfl
    | 1, _ => rw [World.cell?_alloc_mark]; rfl) 9 Tryz.underlying9

theorem nums2 (a b : Int) : (strOfNums [a, b]).data.toList = [UInt8.ofNat a.toNat, UInt8.ofNat b.toNat] := by
  unfold strOfNums
  simp
end Go.Proofs.YtdjhmanccoekjaaGreatDoor
end

section
namespace Go.Proofs.YtdjhmanccoekjaaGreatDoor
open Go.RowKit Go.Proofs

/-- The document's round: what is written so far. -/
structure RhI (w : World) (g sp : Bool) (M S : ByteArray) (F : Array Value) (wr : World) (o : ByteArray) (i : Nat) : Prop where
  txt : o.data.toList = IP.hexL g sp M.data.toList (S.data.toList.take i)
  blk : Blk wr w.heap.size F 94
  below : Below w.heap.size w wr
theorem RhI.len {w wr : World} {g sp : Bool} {M S o : ByteArray} {F : Array Value} {i : Nat} (h : RhI w g sp M S F wr o i) (hM : M.size ≤ 2) : o.size ≤ 5 * S.size := by
  have h1 := IP.hexL_len g sp M.data.toList (by rw [← Utf.size_eq]; exact hM) (S.data.toList.take i)
  have h2 : (S.data.toList.take i).length ≤ S.size := by rw [List.length_take, ← Utf.size_eq]; omega
  rw [Utf.size_eq, h.txt]
  omega
theorem RhI.step {w wr W : World} {g sp : Bool} {M S o : ByteArray} {F : Array Value} {i : Nat} (h : RhI w g sp M S F wr o i) (hi : i < S.size) (p : ByteArray)
    (hP : (if sp = true ∧ 0 < i then [32] else []) ++ (if sp = true ∨ i = 0 then M.data.toList else []) ++ IP.twoH g (S.data.toList[i]?.getD 0) = p.data.toList) (o' : ByteArray) (ho : o'.data.toList = o.data.toList ++ p.data.toList)
    (hW : W.heap = wr.heap) (hb : Below w.heap.size w W) : RhI w g sp M S F W o' (i + 1) := by
  refine ⟨?_, ?_, hb⟩
  · rw [hexL_take _ _ _ _ _ hi, hP, ho, h.txt]
  · have := h.blk
    unfold Blk at this ⊢
    rw [hW]
    exact this

end Go.Proofs.YtdjhmanccoekjaaGreatDoor
end

section
namespace Go.Proofs.YtdjhmanccoekjaaGreatDoor
open Go.RowKit Go.Proofs

theorem own_iter {w : World} {B n : Nat} {e : TypeId} {v : Value} {xs : List Value} (h : w.ownsRow B e 1 v n xs) {k : Nat} {s : ByteArray} {pos : Nat} (hk : w.heap[k]? = some (.stringIter s pos)) (pos' : Nat) : (w.iterAt k s pos').ownsRow B e 1 v n xs := by
  refine ⟨h.1, ?_⟩
  rcases h.2 with h0 | ⟨g, cap, cur, h1, h2, h3, h4⟩
  · exact Or.inl h0
  · refine Or.inr ⟨g, cap, cur, h1, h2, ?_, h4⟩
    rw [Lib.iterAt_other w k g s pos' (by intro e1; rw [e1, hk] at h3; cases h3)]
    exact h3
theorem own_keep {w W : World} {B n : Nat} {e : TypeId} {v : Value} {xs : List Value} (h : w.ownsRow B e 1 v n xs) (hb : Below w.heap.size w W) : W.ownsRow B e 1 v n xs := by
  refine ⟨h.1, ?_⟩
  rcases h.2 with h0 | ⟨g, cap, cur, h1, h2, h3, h4⟩
  · exact Or.inl h0
  · refine Or.inr ⟨g, cap, cur, h1, h2, ?_, h4⟩
    rw [hb.block g (Array.getElem?_eq_some_iff.1 h3).1]
    exact h3
theorem decstr_any (s : ByteArray) (w : World) (hp : 0 < s.size) (hT : Tabs w) : Calls Tryz.prog 134 #[.string s] w fun e w' =>
    e = .returned (.tuple #[.int .i32 (Utf.decL s.data.toList).1, .int .i64 (Utf.decL s.data.toList).2]) ∧ Below w.heap.size w w' := by
  have hd : Lib.decodeGo s = Utf.decL s.data.toList := by
    unfold Lib.decodeGo
    rw [if_neg (by omega), Utf.decode_eq, List.drop_zero]
  have hc := Tryz.utf8_DecodeRuneInString s w hT
  rw [hd] at hc
  exact hc

/-- What holds at the head of a round: what is written, where the iterator stands. -/
def QInv (w : World) (s : ByteArray) (ascii : Bool) (wr : World) (v : Value) (pos : Nat) (l : List UInt8) : Prop :=
  wr.ownsRow w.heap.size 5 1 v (l.length + 1) (bc (34 :: l)) ∧ l ++ IP.runsQ ascii (s.data.toList.drop pos) = IP.runsQ ascii s.data.toList ∧ wr.heap[w.heap.size + 1]? = some (.stringIter s pos) ∧ Below w.heap.size w wr
theorem QInv.len {w wr : World} {s : ByteArray} {ascii : Bool} {v : Value} {pos : Nat} {l : List UInt8} (h : QInv w s ascii wr v pos l) : l.length ≤ 10 * s.size := by
  have h1 := congrArg List.length h.2.1
  have h2 := IP.runsQ_len ascii s.data.toList.length s.data.toList (Nat.le_refl _)
  rw [← Utf.size_eq] at h2
  rw [List.length_append] at h1
  omega
theorem iterPos_at {w : World} {k : Nat} {s : ByteArray} {pos : Nat} (h : w.heap[k]? = some (.stringIter s pos)) : w.iterPos k = pos := by simp [World.iterPos, h]
/-- A step put. -/
theorem QInv.step {w wr W2 W3 : World} {s : ByteArray} {ascii : Bool} {v v3 : Value} {pos K : Nat} {l st : List UInt8} (h : QInv w s ascii wr v pos l) (hp : pos < s.size) (hK : (Utf.decL (s.data.toList.drop pos)).2 = K) (hst : IP.stepQ ascii (s.data.toList.drop pos) = st)
    (hit : W2.heap[w.heap.size + 1]? = some (.stringIter s (pos + K))) (hb2 : Below w.heap.size w W2) (ho : W3.ownsRow w.heap.size 5 1 v3 (l.length + 1 + st.length) (bc (34 :: l) ++ bc st)) (hk : KB w.heap.size W2 W3) : QInv w s ascii W3 v3 (pos + K) (l ++ st) := by
  refine ⟨?_, ?_, hk.kept _ _ hit (by simp) (by intro c fz e; cases e), hb2.trans hk.below⟩
  · have e : bc (34 :: (l ++ st)) = bc (34 :: l) ++ bc st := by simp [bc]
    rw [e, List.length_append, Nat.add_right_comm]
    exact ho
  · have := IP.runsQ_step ascii s.data.toList l pos (drop_ne hp) h.2.1
    rw [hst, hK] at this
    exact this

set_option maxRecDepth 100000 in
set_option maxHeartbeats 2000000 in
theorem quote_any (s : ByteArray) (ascii : Bool) (w : World) (hT : Tabs w) (hs : s.size ≤ 3000) :
    Calls Tryz.prog 108 #[.string s, .bool ascii] w fun e w' => e = .returned (.string ⟨(IP.quoteL ascii s.data.toList).toArray⟩) ∧ Below w.heap.size w w' := by
  have O1 := own_one w 34
  have HT := hid hT
  clear hT
  have Q0 := hid (show QInv w s ascii ((w.alloc (.cells #[.int .u8 34] 5)).iter s 0) (.slice (some ⟨w.heap.size, 0, none⟩) 1 1) 0 [] from
    ⟨(O1.alloc _ : ((w.alloc (.cells #[.int .u8 34] 5)).alloc (.stringIter s 0)).ownsRow _ _ _ _ _ _), by simp, by
      have := World.iter_heap (w.alloc (.cells #[.int .u8 34] 5)) s 0
      simpa using this, ((Below.refl w.heap.size w).alloc (Nat.le_refl _) _).alloc (by simp) _⟩)
  clear O1
  go_enter Tryz.func108, Tryz.ntmps108
  go_wp2_with fail
  go_loopw [5] (fun ov wr => ∃ (pos : Nat) (l : List UInt8), pos ≤ s.size ∧ Hid (QInv w s ascii wr ov pos l)) (fun _ wr => s.size - wr.iterPos (w.heap.size + 1))
  case atStart => exact ⟨0, [], Nat.zero_le _, Q0.out⟩
  case round =>
    obtain ⟨pos, l, hpos, hq⟩ := hrel
    have hlen := hq.out.len
    by_cases hp : pos < s.size
    · have hwd := width_le s pos hp
      have hde := Utf.decode_eq s pos
      obtain ⟨K, hK⟩ : ∃ K, (Utf8.decode s pos).2 = K := ⟨_, rfl⟩
      obtain ⟨c, hc⟩ : ∃ c : Int, ((Utf8.decode s pos).1 : Int) = c := ⟨_, rfl⟩
      have hcb : 0 ≤ c ∧ c ≤ 1114111 := by
        have := Utf.dec_rune (s.data.toList.drop pos)
        rw [← hde] at this
        omega
      obtain ⟨hc0, hc1⟩ := hcb
      have hnx : ∀ ty, (Instr.next (.pointer (some ⟨w.heap.size + 1, 0, none⟩)) true ty).run Tryz.prog wr = _ := fun ty => Lib.run_next_any_at wr _ s pos ty hq.out.2.2.1 hp
      rw [hK] at hnx hwd
      rw [hc] at hnx
      obtain ⟨W2, hW2⟩ : ∃ W2, wr.iterAt (w.heap.size + 1) s (pos + K) = W2 := ⟨_, rfl⟩
      rw [hW2] at hnx
      have ho2 : Hid (W2.ownsRow w.heap.size 5 1 u5 (l.length + 1) (bc (34 :: l))) := by rw [← hW2]; exact own_iter hq.out.1 hq.out.2.2.1 _
      have hit2 : Hid (W2.heap[w.heap.size + 1]? = some (.stringIter s (pos + K))) := by rw [← hW2]; exact Lib.iterAt_heap _ _ _ _ _ hq.out.2.2.1
      have hb2 : Hid (Below w.heap.size w W2) := by rw [← hW2]; exact Lib.below_iterAt hq.out.2.2.2 (by omega) _ _
      have E0 := bt_at s pos hp
      have hbb := bt_bound s pos
      obtain ⟨x, hx⟩ : ∃ x, bt s pos = x := ⟨_, rfl⟩
      rw [hx] at E0 hbb
      obtain ⟨hx0, hx1⟩ := hbb
      have HK := hid (show (Utf.decL (s.data.toList.drop pos)).2 = K by rw [← hde]; exact hK)
      have HC := hid (show ((Utf.decL (s.data.toList.drop pos)).1 : Int) = c by rw [← hde]; exact hc)
      have HX := hid hx
      clear hW2 hde hK hc hx
      have key : ∀ (W2 W3 : World) (v3 : Value) (st : List UInt8), W2.heap[w.heap.size + 1]? = some (.stringIter s (pos + K)) → Below w.heap.size w W2 → IP.stepQ ascii (s.data.toList.drop pos) = st → W3.ownsRow w.heap.size 5 1 v3 (l.length + 1 + st.length) (bc (34 :: l) ++ bc st) → KB w.heap.size W2 W3 → QInv w s ascii W3 v3 (pos + K) (l ++ st) :=
        fun _ _ _ _ h1 h2 h3 h4 h5 => hq.out.step hp HK.out h3 h1 h2 h4 h5
      have KEY := hid key
      clear key
      have HT2 := hid (HT.out.below (hb2.out))
      have hit1 := hid (iterPos_at hq.out.2.2.1)
      by_cases h65 : c = 65533
      · obtain ⟨t, ht⟩ : ∃ t, s.extract pos s.size = t := ⟨_, rfl⟩
        have htl : t.data.toList = s.data.toList.drop pos := by rw [← ht]; exact extract_drop s pos
        have htz : 0 < t.size := by rw [t_size htl]; omega
        have hdt : Utf.decL t.data.toList = (65533, K) := by
          rw [htl]
          have h1 := HK.out
          have h2 := HC.out
          exact Prod.ext (by simp only []; omega) h1
        have DS := hid (decstr_any t W2 htz HT2.out)
        rw [hdt] at DS
        simp only [] at DS
        have DS : Hid (Calls Tryz.prog 134 #[.string t] W2 fun e w' => e = .returned (.tuple #[.int .i32 65533, .int .i64 K]) ∧ Below W2.heap.size W2 w') := DS
        rw [htl] at hdt
        subst h65
        by_cases hK1 : K = 1
        · subst hK1
          have hst : IP.stepQ ascii (s.data.toList.drop pos) = 92 :: UInt8.ofNat (120 : Int).toNat :: IP.hexW x.toNat 2 := by
            unfold IP.stepQ
            rw [if_pos (show Utf.Broken (s.data.toList.drop pos) from hdt)]
            have e : ((s.data.toList.drop pos).headD 0).toNat = x.toNat := by
              rw [← HX.out]
              unfold bt
              rw [List.headD_eq_head?_getD, List.head?_drop, Int.toNat_natCast]
            rw [e]; rfl
          have HST := hid hst
          have DS : Hid (Calls Tryz.prog 134 #[.string t] W2 fun e w' => e = .returned (.tuple #[.int .i32 65533, .int .i64 1]) ∧ Below W2.heap.size W2 w') := DS
          clear hst hdt htl htz
          go_wp2_with fail
          refine DS.out.mono ?_
          rintro e W3 ⟨rfl, hb3⟩
          have ho3 := hid (own_keep ho2.out hb3)
          have hit3 := hid ((hb3.block (w.heap.size + 1) (Array.getElem?_eq_some_iff.1 hit2.out).1).trans hit2.out)
          have hbb3 := hid (hb2.out.trans (hb3.mono hb2.out.size))
          clear hb3 DS
          go_wp2_with fail
          refine (escape_any w.heap.size u5 (l.length + 1) (bc (34 :: l)) 120 x 2 W3 ho3.out hbb3.out.size (by omega) (by decide) (by decide) hx0 (by omega) (by decide)).mono ?_
          rintro e W4 ⟨v4, rfl, ho4, hk4⟩
          have Q3 := hid (KEY.out _ _ _ _ hit3.out hbb3.out HST.out ho4 hk4)
          clear ho4 hk4
          have hit4 := hid (iterPos_at Q3.out.2.2.1)
          go_wp2_with fail
          go_roundw
          case rel => exact ⟨pos + 1, _, hwd.2, Q3.out⟩
          case measure => rw [hit4.out, hit1.out]; omega
        · have hK1 : ¬ (K : Int) = 1 := by omega
          have hst : IP.stepQ ascii (s.data.toList.drop pos) = IP.inL 65533 34 ascii := by
            unfold IP.stepQ
            rw [if_neg (by
              intro h
              have h1 := (Prod.mk.inj (hdt.symm.trans h)).2
              omega), HC.out]
          have HST := hid hst
          have hK2 : ((K : Int) == 1) = false := beq_eq_false_iff_ne.2 hK1
          clear hst hdt htl htz
          go_wp2_with fail
          refine DS.out.mono ?_
          rintro e W3 ⟨rfl, hb3⟩
          have ho3 := hid (own_keep ho2.out hb3)
          have hit3 := hid ((hb3.block (w.heap.size + 1) (Array.getElem?_eq_some_iff.1 hit2.out).1).trans hit2.out)
          have hbb3 := hid (hb2.out.trans (hb3.mono hb2.out.size))
          clear hb3 DS
          go_wp2_with fail
          refine (put_any w.heap.size u5 (l.length + 1) (bc (34 :: l)) 65533 34 ascii W3 ho3.out hbb3.out.size (by omega) (by decide) (by decide) (by decide) (by decide)).mono ?_
          rintro e W4 ⟨v4, rfl, ho4, hk4⟩
          have Q3 := hid (KEY.out _ _ _ _ hit3.out hbb3.out HST.out ho4 hk4)
          clear ho4 hk4
          have hit4 := hid (iterPos_at Q3.out.2.2.1)
          go_wp2_with fail
          go_roundw
          case rel => exact ⟨pos + K, _, hwd.2, Q3.out⟩
          case measure => rw [hit4.out, hit1.out]; omega
      · have hne : (c == 65533) = false := beq_eq_false_iff_ne.2 h65
        have hst : IP.stepQ ascii (s.data.toList.drop pos) = IP.inL c 34 ascii := by
          unfold IP.stepQ
          rw [if_neg (by
            intro h
            have h1 := HC.out
            rw [show Utf.decL (s.data.toList.drop pos) = (65533, 1) from h] at h1
            exact h65 h1.symm), HC.out]
        have HST := hid hst
        clear hst
        go_wp2_with fail
        refine (put_any w.heap.size u5 (l.length + 1) (bc (34 :: l)) c 34 ascii W2 ho2.out hb2.out.size (by omega) hc0 hc1 (by decide) (by decide)).mono ?_
        rintro e W4 ⟨v4, rfl, ho4, hk4⟩
        have Q3 := hid (KEY.out _ _ _ _ hit2.out hb2.out HST.out ho4 hk4)
        clear ho4 hk4
        have hit4 := hid (iterPos_at Q3.out.2.2.1)
        go_wp2_with fail
        go_roundw
        case rel => exact ⟨pos + K, _, hwd.2, Q3.out⟩
        case measure => rw [hit4.out, hit1.out]; omega
    · have hnx : ∀ ty, (Instr.next (.pointer (some ⟨w.heap.size + 1, 0, none⟩)) true ty).run Tryz.prog wr = _ := fun ty => Lib.run_next_end_at wr _ s pos ty hq.out.2.2.1 hp
      have hfin : l = IP.runsQ ascii s.data.toList := by
        have h := hq.out.2.1
        rw [drop_all hp, IP.runsQ_nil, List.append_nil] at h
        exact h
      have HF := hid hfin
      clear hfin
      go_upto_region 10 with fail
      refine wp_region_list ?_
      refine wpList_plain rfl fun K hK => ?_
      have HK := hid hK
      clear hK
      go_wp2_with fail
      refine HK.out _ _ ?_
      clear HK
      refine wpList_bytes rfl rfl 1 _ (.tmp 38) 39 rfl rfl rfl [34] rfl (by decide) (by decide) (by kernel_rfl) w.heap.size _ _ _ _ rfl rfl rfl hq.out.1 hq.out.2.2.2.size (by omega) ?_
      intro v2 w2 ho2 hb2
      have cv := conv_own (l := 34 :: (l ++ [34])) (by
        have e : bc (34 :: (l ++ [34])) = bc (34 :: l) ++ bc [34] := by simp [bc]
        rw [e]; exact ho2)
      have B2 := hid (hq.out.2.2.2.trans hb2.below)
      clear ho2 hb2
      go_wp2_with fail
      go_ret
      exact ⟨ret_str (by rw [HF.out]; rfl), B2.out⟩
end Go.Proofs.YtdjhmanccoekjaaGreatDoor
end

section
namespace Go.Proofs
open Go.Shelf Go.RowKit
def Tryz.lays196_ren : Go.Shelf.Ren := ⟨fun | 196 => 139 | 259 => 165 | n => n, fun | 0 => 0 | 3 => 3 | 4 => 4 | 5 => 5 | 9 => 9 | 12 => 12 | 46 => 43 | 53 => 26 | 119 => 259 | 138 => 261 | 139 => 262 | n => n, fun | 3 => 1 | 4 => 2 | n => n⟩
theorem Tryz.lays196 : Go.Proofs.Lays.n196 Tryz.prog Tryz.lays196_ren := {
  mixed := by kernel_rfl
  f196 := Tryz.func139.trans (congrArg some (by kernel_rfl))
  f259 := Tryz.func165.trans (congrArg some (by kernel_rfl))
  t0 := Tryz.underlying0
  a0 := Tryz.isAgg0
  z0 := Tryz.sizeOf0
  v0 := Tryz.zeroValue0
  t3 := Tryz.underlying3
  a3 := Tryz.isAgg3
  z3 := Tryz.sizeOf3
  v3 := Tryz.zeroValue3
  t4 := Tryz.underlying4
  a4 := Tryz.isAgg4
  z4 := Tryz.sizeOf4
  v4 := Tryz.zeroValue4
  t5 := Tryz.underlying5
  a5 := Tryz.isAgg5
  z5 := Tryz.sizeOf5
  v5 := Tryz.zeroValue5
  t9 := Tryz.underlying9
  a9 := Tryz.isAgg9
  z9 := Tryz.sizeOf9
  v9 := Tryz.zeroValue9
  t12 := Tryz.underlying12
  a12 := Tryz.isAgg12
  z12 := Tryz.sizeOf12
  v12 := Tryz.zeroValue12
  t46 := Tryz.underlying43
  a46 := Tryz.isAgg43
  z46 := Tryz.sizeOf43
  v46 := Tryz.zeroValue43
  t53 := Tryz.underlying26
  a53 := Tryz.isAgg26
  z53 := Tryz.sizeOf26
  v53 := Tryz.zeroValue26
  t119 := Tryz.underlying259
  a119 := Tryz.isAgg259
  z119 := Tryz.sizeOf259
  t138 := Tryz.underlying261
  a138 := Tryz.isAgg261
  z138 := Tryz.sizeOf261
  v138 := Tryz.zeroValue261
  t139 := Tryz.underlying262
  a139 := Tryz.isAgg262
  z139 := Tryz.sizeOf262
  v139 := Tryz.zeroValue262
  g3 := by kernel_rfl
  g4 := by kernel_rfl }
namespace YtdjhmanccoekjaaGreatDoor
theorem validD_eq : ∀ (n : Nat) (l : List UInt8), l.length ≤ n → Lib.validD l = IP.validB l
  | 0, l, h => by
    rw [List.eq_nil_of_length_eq_zero (Nat.le_zero.1 h), Lib.validD_nil, IP.validB_nil]
  | n + 1, l, h => by
    by_cases hl : l = []
    · rw [hl, Lib.validD_nil, IP.validB_nil]
    · have h1 := Utf.dec_width l
      have h2 := List.length_pos_iff.2 hl
      have e : Lib.decodeL l = Utf.decL l := by
        unfold Lib.decodeL
        rw [Utf.decode_eq]
        simp
      have ih := validD_eq n (l.drop (Utf.decL l).2) (by rw [List.length_drop]; omega)
      rw [Lib.validD_step l hl, e, IP.validB_cons hl, ih]
      by_cases hb : Utf.Broken l
      · rw [if_pos hb]
        have hb : Utf.decL l = (65533, 1) := hb
        rw [if_pos (by rw [hb]; exact ⟨rfl, rfl⟩)]
      · rw [if_neg hb]
        rw [if_neg]
        intro hc
        exact hb (Prod.ext hc.1 hc.2)
theorem valid_any (s : ByteArray) (w : World) (hs : s.size ≤ 9223372036854775807) (hT : Tabs w) : Calls Tryz.prog 139 #[.string s] w fun e w' => e = .returned (.bool (IP.validB s.data.toList)) ∧ Below w.heap.size w w' := by
  rw [← validD_eq _ _ (Nat.le_refl _)]
  exact Any.utf8_ValidString Tryz.lays196 s w hs hT
end YtdjhmanccoekjaaGreatDoor
end Go.Proofs
end

section
namespace Go.Proofs.YtdjhmanccoekjaaGreatDoor
open Go.RowKit Go.Proofs

/-- A text between back quotes. -/
def rawQ (s : ByteArray) : ByteArray := ⟨#[96]⟩ ++ s ++ ⟨#[96]⟩
def rawT (s : ByteArray) : Value := if IP.rawB s.data.toList then .tuple #[.string (rawQ s), .bool true] else .tuple #[.string ⟨#[]⟩, .bool false]
theorem rawQ_size (s : ByteArray) : (rawQ s).size = s.size + 2 := by
  unfold rawQ
  rw [ByteArray.size_append, ByteArray.size_append]
  show 1 + s.size + 1 = _
  omega
theorem rawOk_cases (c : Int) : (IP.rawOk c = false ∧ (c = 96 ∨ (c < 32 ∧ ¬ c = 9) ∨ c = 127 ∨ c = 65279)) ∨ (IP.rawOk c = true ∧ (c = 9 ∨ (32 ≤ c ∧ ¬ c = 96 ∧ ¬ c = 127 ∧ ¬ c = 65279))) := by
  unfold IP.rawOk
  by_cases h : ¬ (c = 96 ∨ (c < 32 ∧ c ≠ 9) ∨ c = 127 ∨ c = 65279)
  · right
    exact ⟨decide_eq_true h, by omega⟩
  · left
    exact ⟨decide_eq_false h, by omega⟩
theorem ok_pos (s : ByteArray) (pos : Nat) (h : pos < s.size) : IP.okB (s.data.toList.drop pos) = if IP.rawOk ((Utf8.decode s pos).1 : Int) then IP.okB (s.data.toList.drop (pos + (Utf8.decode s pos).2)) else false := by
  rw [IP.okB_cons (drop_ne h), ← Utf.decode_eq, List.drop_drop]

set_option maxRecDepth 100000 in
set_option maxHeartbeats 2000000 in
theorem raw_any (s : ByteArray) (w : World) (hT : Tabs w) (hs : s.size ≤ 100000) :
    Calls Tryz.prog 110 #[.string s] w fun e w' => e = .returned (rawT s) ∧ Below w.heap.size w w' := by
  have VA := hid (valid_any s w (by omega) hT)
  have hand := IP.rawB_and s.data.toList.length s.data.toList (Nat.le_refl _)
  unfold rawT
  cases hv : IP.validB s.data.toList with
  | false =>
    rw [hand, hv, Bool.false_and]
    rw [hv] at VA
    simp only [Bool.false_eq_true, if_false]
    clear hand hv hT
    go_enter Tryz.func110, Tryz.ntmps110
    go_wp2_with fail
    refine VA.out.mono ?_
    rintro e w1 ⟨rfl, b1⟩
    have B1 := hid b1
    clear b1
    go_wp2_with fail
    go_ret2
    exact ⟨rfl, B1.out⟩
  | true =>
    rw [hand, hv, Bool.true_and]
    rw [hv] at VA
    obtain ⟨OK, hOK⟩ : ∃ OK, IP.okB s.data.toList = OK := ⟨_, rfl⟩
    rw [hOK]
    obtain ⟨Q, hQ⟩ : ∃ Q, rawQ s = Q := ⟨_, rfl⟩
    have HQ := hid (show (⟨#[96]⟩ : ByteArray) ++ s ++ ⟨#[96]⟩ = Q from hQ)
    rw [hQ]
    have HO := hid hOK
    clear hand hv hT hOK hQ
    go_enter Tryz.func110, Tryz.ntmps110
    go_wp2_with fail
    refine VA.out.mono ?_
    rintro e w1 ⟨rfl, b1⟩
    have B1 := hid b1
    clear b1
    go_wp2_with fail
    go_loopw [5] (fun _ wr => ∃ pos : Nat, pos ≤ s.size ∧ wr = w1.iter s pos ∧ Hid (IP.okB (s.data.toList.drop pos) = OK)) (fun _ wr => s.size - wr.iterPos w1.heap.size)
    case atStart => exact ⟨0, Nat.zero_le _, rfl, HO.out⟩
    case round =>
      obtain ⟨pos, hpos, rfl, hk⟩ := hrel
      by_cases hp : pos < s.size
      · have hnx : ∀ ty, (Instr.next (.pointer (some ⟨w1.heap.size, 0, none⟩)) true ty).run Tryz.prog (w1.iter s pos) = _ := fun ty => run_next_any w1 s pos ty hp
        have hwd := width_le s pos hp
        have hst := ok_pos s pos hp
        rw [hk.out] at hst
        obtain ⟨K, hK⟩ : ∃ K, (Utf8.decode s pos).2 = K := ⟨_, rfl⟩
        obtain ⟨c, hc⟩ : ∃ c : Int, ((Utf8.decode s pos).1 : Int) = c := ⟨_, rfl⟩
        rw [hK] at hnx hwd hst
        rw [hc] at hnx hst
        clear hK hc
        rcases rawOk_cases c with ⟨ho, h⟩ | ⟨ho, h⟩
        · rw [ho] at hst
          simp only [Bool.false_eq_true, if_false] at hst
          subst hst
          clear ho hk
          rcases h with rfl | ⟨h1, h2⟩ | rfl | rfl
          · go_wp2_with fail
            go_ret2
            exact ⟨rfl, B1.out.alloc B1.out.size _⟩
          · have h3 : ¬ c = 96 := by omega
            have h4 : (c != 9) = true := by simpa using h2
            have h5 : (c == 96) = false := beq_eq_false_iff_ne.2 h3
            go_wp2_with fail
            go_ret2
            exact ⟨rfl, B1.out.alloc B1.out.size _⟩
          · go_wp2_with fail
            go_ret2
            exact ⟨rfl, B1.out.alloc B1.out.size _⟩
          · go_wp2_with fail
            go_ret2
            exact ⟨rfl, B1.out.alloc B1.out.size _⟩
        · rw [ho] at hst
          simp only [if_true] at hst
          have HN := hid hst.symm
          clear ho hk hst
          rcases h with rfl | ⟨h1, h2, h3, h4⟩
          · go_wp2_with fail
            go_roundw
            case rel => exact ⟨pos + K, hwd.2, rfl, HN.out⟩
            case measure =>
              simp
              omega
          · have h5 : (c == 96) = false := beq_eq_false_iff_ne.2 h2
            have h6 : (c == 127) = false := beq_eq_false_iff_ne.2 h3
            have h7 : (c == 65279) = false := beq_eq_false_iff_ne.2 h4
            go_wp2_with fail
            go_roundw
            case rel => exact ⟨pos + K, hwd.2, rfl, HN.out⟩
            case measure =>
              simp
              omega
      · have hnx : ∀ ty, (Instr.next (.pointer (some ⟨w1.heap.size, 0, none⟩)) true ty).run Tryz.prog (w1.iter s pos) = _ := fun ty => run_next_end w1 s pos ty hp
        have hfin : OK = true := by
          rw [← hk.out, drop_all hp, IP.okB_nil]
        subst hfin
        clear hk HO
        go_wp2_with fail
        go_ret2
        exact ⟨by rw [← HQ.out]; rfl, B1.out.alloc B1.out.size _⟩

end Go.Proofs.YtdjhmanccoekjaaGreatDoor
end

section
namespace Go.Proofs.YtdjhmanccoekjaaGreatDoor
open Go.RowKit Go.Proofs

/-- What a text is by a verb; none: refused. -/
def textS (pl mi sh sp ze : Bool) (wid prec verb : Int) (s : ByteArray) : Option ByteArray :=
  if verb = 118 then some (padS (if sh then ⟨(IP.quoteL false s.data.toList).toArray⟩ else cutS s prec) mi ze wid)
  else if verb = 115 then some (padS (cutS s prec) mi ze wid)
  else if verb = 113 then some (padS (if sh = true ∧ IP.rawB (cutS s prec).data.toList = true then rawQ (cutS s prec) else ⟨(IP.quoteL pl (cutS s prec).data.toList).toArray⟩) mi ze wid)
  else if verb = 120 ∨ verb = 88 then some (padS ⟨(IP.hexS sh sp prec verb s.data.toList).toArray⟩ mi ze wid)
  else none
def tupB (r : Option ByteArray) : Value := match r with
  | none => .tuple #[.string ⟨#[]⟩, .bool false]
  | some t => .tuple #[.string t, .bool true]
theorem cutS_size (s : ByteArray) (n : Int) : (cutS s n).size ≤ s.size := by
  unfold cutS
  split
  · exact Nat.le_refl _
  · rw [ByteArray.size_extract]; omega
theorem quote_size (a : Bool) (s : ByteArray) : (⟨(IP.quoteL a s.data.toList).toArray⟩ : ByteArray).size ≤ 10 * s.size + 2 := by
  rw [Utf.size_eq, Utf.size_eq s]
  exact IP.quoteL_len a s.data.toList
/-- The state within: the tables, the spec's box. -/
structure Tx (w : World) (H : Nat) (F : Array Value) (W : World) : Prop where
  tabs : Tabs W
  below : Below w.heap.size w W
  blk : Blk W H F 94
theorem Tx.kept {w W W' : World} {H : Nat} {F : Array Value} (h : Tx w H F W) (hb : Below W.heap.size W W') : Tx w H F W' :=
  ⟨h.tabs.below hb, h.below.trans (hb.mono h.below.size), h.blk.below hb h.blk.lt⟩
theorem Tx.drew {w W : World} {H : Nat} {F : Array Value} (h : Tx w H F W) : Tx w H F W.drew := h.kept (Below.refl _ _).drew
theorem tx_start (w : World) (hT : Tabs w) (F : Array Value) : Tx w w.heap.size F (w.alloc (.cells F 94)) :=
  ⟨hT.below ((Below.refl _ _).alloc (Nat.le_refl _) _), (Below.refl _ _).alloc (Nat.le_refl _) _, Blk.new w F _⟩
theorem Tx.lift {w : World} {H : Nat} (pl mi sh sp ze : Bool) (wid prec verb : Int) {f : Nat} {args : Array Value} {r : Value} (h : ∀ W, Tabs W → Calls Tryz.prog f args W fun e w' => e = .returned r ∧ Below W.heap.size W w') :
    ∀ W, Tx w H (sp8 pl mi sh sp ze wid prec verb) W → Calls Tryz.prog f args W fun e w' => e = .returned r ∧ Tx w H (sp8 pl mi sh sp ze wid prec verb) w' ∧
      (w'.cell? ⟨H, 0, none⟩ = some (.bool pl) ∧ w'.cell? ⟨H, 1, none⟩ = some (.bool mi) ∧ w'.cell? ⟨H, 2, none⟩ = some (.bool sh) ∧ w'.cell? ⟨H, 3, none⟩ = some (.bool sp) ∧ w'.cell? ⟨H, 4, none⟩ = some (.bool ze) ∧ w'.cell? ⟨H, 5, none⟩ = some (.int .i64 wid) ∧ w'.cell? ⟨H, 6, none⟩ = some (.int .i64 prec) ∧ w'.cell? ⟨H, 7, none⟩ = some (.int .i32 verb)) :=
  fun W hW => (h W hW.tabs).mono fun _ _ ⟨he, hb⟩ => ⟨he, hW.kept hb, blk_cells _ _ _ _ _ _ _ _ (hW.kept hb).blk⟩

set_option maxRecDepth 100000 in
set_option maxHeartbeats 2000000 in
theorem text_any (s : ByteArray) (pl mi sh sp ze : Bool) (wid prec verb : Int) (w : World) (hT : Tabs w) (hs : s.size ≤ 2000) (hw0 : -9223372036854775808 ≤ wid) (hw1 : wid ≤ 9223372036854775807) (hp0 : -9223372036854775808 ≤ prec) (hp1 : prec ≤ 9223372036854775807) :
    Calls Tryz.prog 77 #[.string s, .agg #[.bool pl, .bool mi, .bool sh, .bool sp, .bool ze, .int .i64 wid, .int .i64 prec, .int .i32 verb]] w fun e w' => e = .returned (tupB (textS pl mi sh sp ze wid prec verb s)) ∧ Below w.heap.size w w' := by
  have hcz := cutS_size s prec
  have hqz := fun a => quote_size a s
  have T0 := hid (tx_start w hT (sp8 pl mi sh sp ze wid prec verb))
  obtain ⟨C, hC⟩ : ∃ C, cutS s prec = C := ⟨_, rfl⟩
  rw [hC] at hcz
  have CU0 := fun W => cut_any s prec W (by omega) hp0 hp1
  rw [hC] at CU0
  have CU := hid (Tx.lift (w := w) (H := w.heap.size) pl mi sh sp ze wid prec verb (fun W _ => CU0 W))
  unfold textS
  rw [hC]
  clear CU0 hC hT
  by_cases h118 : verb = 118
  · subst h118
    rw [if_pos rfl]
    cases sh
    · simp only [Bool.false_eq_true, if_false]
      obtain ⟨R, hR⟩ : ∃ R, padS C mi ze wid = R := ⟨_, rfl⟩
      have PD0 := fun W => pad_any C pl mi false sp ze wid prec 118 W (by omega) hw0 hw1
      rw [hR] at PD0 ⊢
      have PD := hid (Tx.lift (w := w) (H := w.heap.size) pl mi false sp ze wid prec 118 (fun W _ => PD0 W))
      clear PD0 hR
      obtain ⟨c0, c1, c2, c3, c4, c5, c6, c7⟩ := blk_cells _ _ _ _ _ _ _ _ T0.out.blk
      go_enter Tryz.func77, Tryz.ntmps77
      go_upto_region 6 with fail
      obtain ⟨W0, hW0⟩ : ∃ W0, w.alloc (.cells (sp8 pl mi false sp ze wid prec 118) 94) = W0 := ⟨_, rfl⟩
      rw [hW0] at T0 c0 c1 c2 c3 c4 c5 c6 c7 ⊢
      clear hW0
      have st0 := T0.out.drew
      go_region_with (first | (go_at_call 109; refine (CU.out _ (by assumption)).mono ?_; rintro e w9 ⟨rfl, st, k0, k1, k2, k3, k4, k5, k6, k7⟩) | (go_at_call 107; refine (PD.out _ (by assumption)).mono ?_; rintro e w9 ⟨rfl, st, k0, k1, k2, k3, k4, k5, k6, k7⟩))
      all_goals
        have ST := hid st
        clear st
        go_wp2_with fail
        go_ret2
        exact ⟨rfl, ST.out.below⟩
    · simp only [if_true]
      obtain ⟨Q, hQ⟩ : ∃ Q : ByteArray, (⟨(IP.quoteL false s.data.toList).toArray⟩ : ByteArray) = Q := ⟨_, rfl⟩
      have hQz : Q.size ≤ 30000 := by have := hqz false; rw [hQ] at this; omega
      have QU0 := fun W hT => quote_any s false W hT (by omega)
      rw [hQ] at QU0
      have QU := hid (Tx.lift (w := w) (H := w.heap.size) pl mi true sp ze wid prec 118 QU0)
      rw [hQ]
      obtain ⟨R, hR⟩ : ∃ R, padS Q mi ze wid = R := ⟨_, rfl⟩
      have PD0 := fun W => pad_any Q pl mi true sp ze wid prec 118 W (by omega) hw0 hw1
      rw [hR] at PD0 ⊢
      have PD := hid (Tx.lift (w := w) (H := w.heap.size) pl mi true sp ze wid prec 118 (fun W _ => PD0 W))
      clear PD0 hR hQ QU0 hqz
      obtain ⟨c0, c1, c2, c3, c4, c5, c6, c7⟩ := blk_cells _ _ _ _ _ _ _ _ T0.out.blk
      go_enter Tryz.func77, Tryz.ntmps77
      go_upto_region 5 with fail
      obtain ⟨W0, hW0⟩ : ∃ W0, w.alloc (.cells (sp8 pl mi true sp ze wid prec 118) 94) = W0 := ⟨_, rfl⟩
      rw [hW0] at T0 c0 c1 c2 c3 c4 c5 c6 c7 ⊢
      clear hW0
      have st0 := T0.out.drew
      go_region_with (first | (go_at_call 108; refine (QU.out _ (by assumption)).mono ?_; rintro e w9 ⟨rfl, st, k0, k1, k2, k3, k4, k5, k6, k7⟩) | (go_at_call 107; refine (PD.out _ (by assumption)).mono ?_; rintro e w9 ⟨rfl, st, k0, k1, k2, k3, k4, k5, k6, k7⟩))
      all_goals
        have ST := hid st
        clear st
        go_wp2_with fail
        go_ret2
        exact ⟨rfl, ST.out.below⟩
  · have h118b : (verb == 118) = false := beq_eq_false_iff_ne.2 h118
    rw [if_neg h118]
    by_cases h115 : verb = 115
    · subst h115
      rw [if_pos rfl]
      obtain ⟨R, hR⟩ : ∃ R, padS C mi ze wid = R := ⟨_, rfl⟩
      have PD0 := fun W => pad_any C pl mi sh sp ze wid prec 115 W (by omega) hw0 hw1
      rw [hR] at PD0 ⊢
      have PD := hid (Tx.lift (w := w) (H := w.heap.size) pl mi sh sp ze wid prec 115 (fun W _ => PD0 W))
      clear PD0 hR hqz
      obtain ⟨c0, c1, c2, c3, c4, c5, c6, c7⟩ := blk_cells _ _ _ _ _ _ _ _ T0.out.blk
      go_enter Tryz.func77, Tryz.ntmps77
      go_upto_region 6 with fail
      obtain ⟨W0, hW0⟩ : ∃ W0, w.alloc (.cells (sp8 pl mi sh sp ze wid prec 115) 94) = W0 := ⟨_, rfl⟩
      rw [hW0] at T0 c0 c1 c2 c3 c4 c5 c6 c7 ⊢
      clear hW0
      have st0 := T0.out.drew
      go_region_with (first | (go_at_call 109; refine (CU.out _ (by assumption)).mono ?_; rintro e w9 ⟨rfl, st, k0, k1, k2, k3, k4, k5, k6, k7⟩) | (go_at_call 107; refine (PD.out _ (by assumption)).mono ?_; rintro e w9 ⟨rfl, st, k0, k1, k2, k3, k4, k5, k6, k7⟩))
      all_goals
        have ST := hid st
        clear st
        go_wp2_with fail
        go_ret2
        exact ⟨rfl, ST.out.below⟩
    · have h115b : (verb == 115) = false := beq_eq_false_iff_ne.2 h115
      rw [if_neg h115]
      by_cases h113 : verb = 113
      · subst h113
        rw [if_pos rfl]
        have hcq := quote_size pl C
        obtain ⟨Q, hQ⟩ : ∃ Q : ByteArray, (⟨(IP.quoteL pl C.data.toList).toArray⟩ : ByteArray) = Q := ⟨_, rfl⟩
        have hQz : Q.size ≤ 30000 := by rw [hQ] at hcq; omega
        have QU0 := fun W hT => quote_any C pl W hT (by omega)
        rw [hQ] at QU0 ⊢
        have RW0 := fun W hT => raw_any C W hT (by omega)
        have hrz := rawQ_size C
        unfold rawT at RW0
        obtain ⟨B, hB⟩ : ∃ B : ByteArray, rawQ C = B := ⟨_, rfl⟩
        rw [hB] at RW0 hrz ⊢
        have hBz : B.size ≤ 30000 := by omega
        obtain ⟨rb, hrb⟩ : ∃ b, IP.rawB C.data.toList = b := ⟨_, rfl⟩
        rw [hrb] at RW0 ⊢
        have PD0 := fun (q : ByteArray) (hq : q.size ≤ 30000) sh W => pad_any q pl mi sh sp ze wid prec 113 W (by omega) hw0 hw1
        clear hrz hcq hQ hB hrb hqz
        cases sh
        · rw [if_neg (by simp)]
          obtain ⟨R, hR⟩ : ∃ R, padS Q mi ze wid = R := ⟨_, rfl⟩
          have PD1 := fun W => PD0 Q hQz false W
          rw [hR] at PD1 ⊢
          have QU := hid (Tx.lift (w := w) (H := w.heap.size) pl mi false sp ze wid prec 113 QU0)
          have PD := hid (Tx.lift (w := w) (H := w.heap.size) pl mi false sp ze wid prec 113 (fun W _ => PD1 W))
          clear PD0 PD1 hR RW0 QU0
          obtain ⟨c0, c1, c2, c3, c4, c5, c6, c7⟩ := blk_cells _ _ _ _ _ _ _ _ T0.out.blk
          go_enter Tryz.func77, Tryz.ntmps77
          go_upto_region 8 with fail
          obtain ⟨W0, hW0⟩ : ∃ W0, w.alloc (.cells (sp8 pl mi false sp ze wid prec 113) 94) = W0 := ⟨_, rfl⟩
          rw [hW0] at T0 c0 c1 c2 c3 c4 c5 c6 c7 ⊢
          clear hW0
          go_wp2_with fail
          refine (CU.out _ T0.out).mono ?_
          rintro e w1 ⟨rfl, st1, k0, k1, k2, k3, k4, k5, k6, k7⟩
          have ST1 := hid st1
          clear st1
          go_upto_region 13 with fail
          have st0 := ST1.out.drew
          go_region_with (first | (go_at_call 108; refine (QU.out _ (by assumption)).mono ?_; rintro e w9 ⟨rfl, st, k0, k1, k2, k3, k4, k5, k6, k7⟩) | (go_at_call 107; refine (PD.out _ (by assumption)).mono ?_; rintro e w9 ⟨rfl, st, k0, k1, k2, k3, k4, k5, k6, k7⟩))
          all_goals
            have ST := hid st
            clear st
            go_wp2_with fail
            go_ret2
            exact ⟨rfl, ST.out.below⟩
        · cases rb
          · rw [if_neg (by simp)]
            simp only [Bool.false_eq_true, if_false] at RW0
            obtain ⟨R, hR⟩ : ∃ R, padS Q mi ze wid = R := ⟨_, rfl⟩
            have PD1 := fun W => PD0 Q hQz true W
            rw [hR] at PD1 ⊢
            have QU := hid (Tx.lift (w := w) (H := w.heap.size) pl mi true sp ze wid prec 113 QU0)
            have RW := hid (Tx.lift (w := w) (H := w.heap.size) pl mi true sp ze wid prec 113 RW0)
            have PD := hid (Tx.lift (w := w) (H := w.heap.size) pl mi true sp ze wid prec 113 (fun W _ => PD1 W))
            clear PD0 PD1 hR RW0 QU0
            obtain ⟨c0, c1, c2, c3, c4, c5, c6, c7⟩ := blk_cells _ _ _ _ _ _ _ _ T0.out.blk
            go_enter Tryz.func77, Tryz.ntmps77
            go_upto_region 8 with fail
            obtain ⟨W0, hW0⟩ : ∃ W0, w.alloc (.cells (sp8 pl mi true sp ze wid prec 113) 94) = W0 := ⟨_, rfl⟩
            rw [hW0] at T0 c0 c1 c2 c3 c4 c5 c6 c7 ⊢
            clear hW0
            go_wp2_with fail
            refine (CU.out _ T0.out).mono ?_
            rintro e w1 ⟨rfl, st1, k0, k1, k2, k3, k4, k5, k6, k7⟩
            have ST1 := hid st1
            clear st1
            go_wp2_with fail
            refine (RW.out _ ST1.out).mono ?_
            rintro e w2 ⟨rfl, st2, j0, j1, j2, j3, j4, j5, j6, j7⟩
            have ST2 := hid st2
            clear st2
            go_upto_region 13 with fail
            have st0 := ST2.out.drew
            go_region_with (first | (go_at_call 108; refine (QU.out _ (by assumption)).mono ?_; rintro e w9 ⟨rfl, st, k0, k1, k2, k3, k4, k5, k6, k7⟩) | (go_at_call 107; refine (PD.out _ (by assumption)).mono ?_; rintro e w9 ⟨rfl, st, k0, k1, k2, k3, k4, k5, k6, k7⟩))
            all_goals
              have ST := hid st
              clear st
              go_wp2_with fail
              go_ret2
              exact ⟨rfl, ST.out.below⟩
          · rw [if_pos (by simp)]
            simp only [if_true] at RW0
            obtain ⟨R, hR⟩ : ∃ R, padS B mi ze wid = R := ⟨_, rfl⟩
            have PD1 := fun W => PD0 B hBz true W
            rw [hR] at PD1 ⊢
            have RW := hid (Tx.lift (w := w) (H := w.heap.size) pl mi true sp ze wid prec 113 RW0)
            have PD := hid (Tx.lift (w := w) (H := w.heap.size) pl mi true sp ze wid prec 113 (fun W _ => PD1 W))
            clear PD0 PD1 hR RW0 QU0
            obtain ⟨c0, c1, c2, c3, c4, c5, c6, c7⟩ := blk_cells _ _ _ _ _ _ _ _ T0.out.blk
            go_enter Tryz.func77, Tryz.ntmps77
            go_upto_region 8 with fail
            obtain ⟨W0, hW0⟩ : ∃ W0, w.alloc (.cells (sp8 pl mi true sp ze wid prec 113) 94) = W0 := ⟨_, rfl⟩
            rw [hW0] at T0 c0 c1 c2 c3 c4 c5 c6 c7 ⊢
            clear hW0
            go_wp2_with fail
            refine (CU.out _ T0.out).mono ?_
            rintro e w1 ⟨rfl, st1, k0, k1, k2, k3, k4, k5, k6, k7⟩
            have ST1 := hid st1
            clear st1
            go_wp2_with fail
            refine (RW.out _ ST1.out).mono ?_
            rintro e w2 ⟨rfl, st2, j0, j1, j2, j3, j4, j5, j6, j7⟩
            have ST2 := hid st2
            clear st2
            go_wp2_with fail
            refine (PD.out _ ST2.out).mono ?_
            rintro e w3 ⟨rfl, st3, _⟩
            have ST3 := hid st3
            clear st3
            go_wp2_with fail
            go_ret2
            exact ⟨rfl, ST3.out.below⟩
      · have h113b : (verb == 113) = false := beq_eq_false_iff_ne.2 h113
        rw [if_neg h113]
        by_cases hx : verb = 120 ∨ verb = 88
        · rw [if_pos hx]
          have HX0 := fun W => hex_any s pl mi sh sp ze wid prec verb W (by omega) hw0 hw1
          obtain ⟨R, hR⟩ : ∃ R, padS (⟨(IP.hexS sh sp prec verb s.data.toList).toArray⟩ : ByteArray) mi ze wid = R := ⟨_, rfl⟩
          rw [hR] at HX0 ⊢
          have HX := hid (Tx.lift (w := w) (H := w.heap.size) pl mi sh sp ze wid prec verb (fun W _ => HX0 W))
          clear HX0 hR hqz CU
          obtain ⟨c0, c1, c2, c3, c4, c5, c6, c7⟩ := blk_cells _ _ _ _ _ _ _ _ T0.out.blk
          rcases hx with rfl | rfl
          all_goals
            go_enter Tryz.func77, Tryz.ntmps77
            go_wp2_with fail
            refine (HX.out _ T0.out).mono ?_
            rintro e w3 ⟨rfl, st3, _⟩
            have ST3 := hid st3
            clear st3
            go_wp2_with fail
            go_ret2
            exact ⟨rfl, ST3.out.below⟩
        · rw [if_neg hx]
          have hx1 : (verb == 120) = false := beq_eq_false_iff_ne.2 (fun h => hx (Or.inl h))
          have hx2 : (verb == 88) = false := beq_eq_false_iff_ne.2 (fun h => hx (Or.inr h))
          obtain ⟨c0, c1, c2, c3, c4, c5, c6, c7⟩ := blk_cells _ _ _ _ _ _ _ _ T0.out.blk
          clear hqz CU hx
          go_enter Tryz.func77, Tryz.ntmps77
          go_wp2_with fail
          go_ret2
          exact ⟨rfl, T0.out.below⟩
end Go.Proofs.YtdjhmanccoekjaaGreatDoor
end
