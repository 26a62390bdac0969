/-
  Texts of this claim, joined: UH, UI, UJ, UK, UL.
-/
import Derived.Test.YtdjhmanccoekjaaGreatDoorN12
import Derived.Test.YtdjhmanccoekjaaGreatDoorN17

section
namespace Go.Proofs.YtdjhmanccoekjaaGreatDoor
open Go.RowKit Go.Proofs

theorem show_gen {b : Nat} {T : TypeId} {x : Value} {k : Int} {ty : ByteArray} {hk : Int} (KN : Known T x k ty hk)
    (pl mi sh sp ze : Bool) (wid prec verb : Int) (hv : verb ≠ 84) (t s0 : ByteArray) (ok : Bool) (hty : ty.size ≤ 32) (hs0 : s0.size ≤ 10000) (w : World)
    (AS : ∀ W, Below w.heap.size w W → Calls Tryz.prog 52 #[.pointer (some ⟨b, 0, none⟩), .iface T x, .agg (sp8 pl mi sh sp ze wid prec verb)] W fun e w' => e = .returned (.tuple #[.string ⟨#[]⟩, .bool false]) ∧ Below W.heap.size W w')
    (KI : ∀ W, Below w.heap.size w W → Calls Tryz.prog 113 #[.agg (wrC pl mi sh sp ze wid prec verb (askF b)), .iface T x, .int .i64 0] W fun e w' => e = .returned (.tuple #[.string t, .bool ok]) ∧ Below W.heap.size W w')
    (KV : ok = false → ∀ W, Below w.heap.size w W → Calls Tryz.prog 113 #[.agg (wrC false false false false false (-1) (-1) 118 .nilFunc), .iface T x, .int .i64 0] W fun e w' => e = .returned (.tuple #[.string s0, .bool true]) ∧ Below W.heap.size W w') :
    Calls Tryz.prog 50 #[.iface T x, .agg (sp8 pl mi sh sp ze wid prec verb), askF b] w fun e w' => e = .returned (.string (if ok then t else badV verb (typeS k ty) s0)) ∧ Below w.heap.size w w' := by
  refine show_asked b _ pl mi sh sp ze wid prec verb w _ hv fun W hW => ?_
  refine value_asked b ⟨#[]⟩ false T x pl mi sh sp ze wid prec verb 0 W t (badV verb (typeS k ty) s0) ok KN.nn (fun W' hW' => ?_) rfl (fun W' hW' => KI W' (hW.trans (hW'.mono hW.size))) (fun hok W' hW' => ?_)
  · exact AS W' (hW.trans (hW'.mono hW.size))
  · have hw := hW.trans (hW'.mono hW.size)
    refine bad_any T x verb W' (typeS k ty) s0 KN.nn (by have := typeS_size k ty hty KN.k0 KN.k1; omega) hs0 (fun W2 => type_any _ k ty hk true W2 KN.base ⟨KN.k0, KN.k1⟩) (fun W2 hW2 => ?_)
    refine show_plain _ false false false false false (-1) (-1) 118 W2 s0 (by decide) fun W3 hW3 => ?_
    have hw3 : Below w.heap.size w W3 := (hw.trans (hW2.mono hw.size)).trans (hW3.mono (by have := hw.size; have := hW2.size; omega))
    have := value_plain T x false false false false false (-1) (-1) 118 0 W3 s0 s0 true KN.nn (fun W4 hW4 => KV hok W4 (hw3.trans (hW4.mono hw3.size))) (fun h => by cases h)
    exact this
theorem show_told {b : Nat} {T : TypeId} {x : Value} {k : Int} {ty : ByteArray} {hk : Int} (KN : Known T x k ty hk) (pl mi sh sp ze : Bool) (wid prec verb : Int) (hv : verb ≠ 84) (r : ByteArray) (w : World)
    (AS : ∀ W, Below w.heap.size w W → Calls Tryz.prog 52 #[.pointer (some ⟨b, 0, none⟩), .iface T x, .agg (sp8 pl mi sh sp ze wid prec verb)] W fun e w' => e = .returned (.tuple #[.string r, .bool true]) ∧ Below W.heap.size W w') :
    Calls Tryz.prog 50 #[.iface T x, .agg (sp8 pl mi sh sp ze wid prec verb), askF b] w fun e w' => e = .returned (.string r) ∧ Below w.heap.size w w' :=
  show_asked b _ pl mi sh sp ze wid prec verb w _ hv fun W hW =>
    value_told b r true T x pl mi sh sp ze wid prec verb 0 W KN.nn (fun W' hW' => AS W' (hW.trans (hW'.mono hW.size))) rfl
theorem One.ne {W : World} {T U : TypeId} {G cap : Nat} {vs : Array Value} (h : One W T G cap vs) {p : Nat} {cs : Array Value} (hp : Blk W p cs U) (ht : T ≠ U) : G ≠ p := by
  intro e
  subst e
  obtain ⟨cur, hb, _⟩ := h.at_
  exact ht (blk_ty hb hp)
theorem press_new_t (vs : Array Value) (v : Value) (w : World) (CO : Calls Tryz.prog 24 #[v] w fun e w' => ∃ G cap, e = .returned (.slice (some ⟨G, 0, none⟩) 1 cap) ∧ w.heap.size ≤ G ∧ One w' 34 G cap vs ∧ Below w.heap.size w w') :
    Calls Tryz.prog 18 #[v, .bool false] w fun e w' => ∃ p q c G cap, e = .returned (.pointer (some ⟨p, 0, none⟩)) ∧ One w' 34 G cap vs ∧ PressAt w' p q c (.slice (some ⟨G, 0, none⟩) 1 cap) 0 0 0 0 ∧ w.heap.size ≤ p ∧ w.heap.size ≤ q ∧ w.heap.size ≤ c ∧ Below w.heap.size w w' := by
  have CO := hid CO
  have FN := hid (fun W => fnew_any W)
  go_enter Tryz.func18, Tryz.ntmps18
  go_wp2_with fail
  refine CO.out.mono ?_
  rintro e w1 ⟨G, cap, rfl, hg, hO, hb⟩
  have LP := hid hb
  have HO := hid hO
  clear hb hg hO
  go_wp2_with fail
  refine (FN.out _).mono ?_
  rintro e w2 ⟨rfl, hw⟩
  have q1 : Blk w2 (w1.heap.size + 1) (freeC w1.heap.size 0) 82 := by
    rw [hw]
    have := Blk.new (w1.alloc (.chan 4 #[] false 0 0 false)) (freeC w1.heap.size 0) 82
    rw [World.size_alloc] at this
    exact this
  have c1 : w2.heap[w1.heap.size]? = some (.chan 4 #[] false 0 0 false) := by
    rw [hw, Below.heap_alloc _ _ _ (by simp)]
    exact heap_alloc_new w1 _
  have lp : Below w.heap.size w w2 := by rw [hw]; exact (LP.out.alloc LP.out.size _).alloc (by have := LP.out.size; simp; omega) _
  have HO2 := hid (show One w2 34 G cap vs by rw [hw]; exact (HO.out.alloc _).alloc _)
  have hs := LP.out.size
  have hsz : w2.heap.size = w1.heap.size + 2 := by rw [hw]; simp
  have H := hid (And.intro q1 (And.intro c1 (And.intro lp (And.intro hs hsz))))
  clear q1 c1 lp hs hsz hw
  go_wp2_with fail
  go_ret
  refine ⟨w2.heap.size, w1.heap.size + 1, w1.heap.size, G, cap, rfl, HO2.out.alloc _, ⟨Blk.new _ _ _, H.out.1.alloc _, ?_⟩, ?_, ?_, ?_, H.out.2.2.1.alloc H.out.2.2.1.size _⟩
  · rw [Below.heap_alloc _ _ _ (by have := H.out.2.2.2.2; omega)]
    exact H.out.2.1
  · have := H.out.2.2.2; omega
  · have := H.out.2.2.2; omega
  · have := H.out.2.2.2; omega
set_option maxRecDepth 100000 in
set_option maxHeartbeats 4000000 in
theorem tprint_t (vs : Array Value) (v : Value) (sl : Sl) (fmt : ByteArray) (T : List UInt8) (w : World) (CO : Calls Tryz.prog 24 #[v] w fun e w' => ∃ G cap, e = .returned (.slice (some ⟨G, 0, none⟩) 1 cap) ∧ w.heap.size ≤ G ∧ One w' 34 G cap vs ∧ Below w.heap.size w w')
    (RUN : ∀ b W G cap, Below w.heap.size w W → w.heap.size ≤ b → One W 34 G cap vs → G < b → StAt W b ⟨[], 0, sliceN, [], 0, false⟩ sliceN sliceN → ∃ (s1 s2 : St) (J : Value → World → Prop), s2.all = T ∧
      Calls Tryz.prog 42 #[.pointer (some ⟨b, 0, none⟩), .int .i64 0, .slice (some ⟨G, 0, none⟩) 1 cap, slV sl] W (fun e w' => e = .returned (.tuple #[]) ∧ ∃ va, StAt w' b s1 sliceN va ∧ J va w' ∧ Below b W w') ∧
      ∀ W' va, StAt W' b s1 sliceN va → J va W' → Below b W W' → Calls Tryz.prog 29 #[.pointer (some ⟨b, 0, none⟩), .string fmt] W' fun e w' => e = .returned (.tuple #[]) ∧ ∃ v', StAt w' b s2 v' va ∧ Kp b W' w') :
    Calls Tryz.prog 9 #[v, .string fmt, slV sl] w fun e w' => e = .returned (.string ⟨(stText T).toArray⟩) ∧ Below w.heap.size w w' := by
  have PN := hid (press_new_t vs v w CO)
  have RUN := hid RUN
  clear CO
  obtain ⟨tx, htx⟩ : ∃ tx : ByteArray, (⟨(stText T).toArray⟩ : ByteArray) = tx := ⟨_, rfl⟩
  rw [htx]
  have HTX := hid htx
  clear htx
  go_enter Tryz.func9, Tryz.ntmps9
  go_wp2_with fail
  refine PN.out.mono ?_
  rintro e w1 ⟨p, q, c, G, cap, rfl, hO, P1, hp, hq, hc, hb⟩
  have SP := hid (sprintf_any p q c 0 0 w.heap.size (some ⟨G, 0, none⟩) 1 cap 0 0 sl fmt T w1 P1 hb.size hp hq hc (by decide) (by decide) (fun b W hW hsm hb' st => RUN.out b W G cap (hb.trans hW) (by have := hb.size; omega) (hO.same (hsm G hO.lt (hO.ne P1.pr (by decide)) (hO.ne P1.fr (by decide)))) (Nat.lt_of_lt_of_le hO.lt hb') st))
  rw [HTX.out] at SP
  have LP := hid hb
  clear hb P1 hp hq hc hO RUN
  go_wp2_with fail
  refine SP.out.mono ?_
  rintro e w2 ⟨rfl, hb⟩
  have HL := hid (LP.out.trans hb)
  clear hb
  go_wp2_with fail
  go_ret
  exact ⟨rfl, HL.out⟩
/-- The table's rows lie below b. -/
def HksB (b : Nat) (W : World) (sl : Sl) (hs : List Hk) : Prop := ∀ W', Below b W W' → HksAt W' sl hs
theorem HksB.below {b : Nat} {W W1 : World} {sl : Sl} {hs : List Hk} (h : HksB b W sl hs) (hb : Below b W W1) : HksB b W1 sl hs := fun W' h' => h W' (hb.trans h')
theorem HksB.kp {b : Nat} {W W1 : World} {sl : Sl} {hs : List Hk} (h : HksB b W sl hs) (hk : Kp b W W1) : HksB b W1 sl hs := h.below (hk.below (Nat.le_refl _))
theorem HksB.at_ {b : Nat} {W : World} {sl : Sl} {hs : List Hk} (h : HksB b W sl hs) : HksAt W sl hs := h W (Below.refl _ _)
theorem hksB_nil (b : Nat) (W : World) : HksB b W ⟨none, 0, 0⟩ [] := fun _ _ => ⟨rfl, fun h => absurd rfl h⟩
theorem hksB_one {b G cap : Nat} {W : World} {h : Hk} (hO : One W 34 G cap (hkV h)) (hG : G < b) : HksB b W ⟨some ⟨G, 0, none⟩, 1, cap⟩ [h] := fun W' hb => by
  have hO := hO.below hb hG
  refine ⟨rfl, fun _ => ⟨G, 0, rfl, hO.lt, fun k d hd j v hv => ?_⟩⟩
  match k, hd with
  | 0, hd =>
    cases hd
    rw [show 0 + 0 * 48 + j = j by omega]
    exact hO.cell j v hv
  | k + 1, hd => simp at hd
end Go.Proofs.YtdjhmanccoekjaaGreatDoor
end

section
namespace Go.Proofs.YtdjhmanccoekjaaGreatDoor
open Go.RowKit Go.Proofs

def onePc (F : List UInt8) (sh : Bool) (verb : Int) : PP.Pc := ⟨1, F, ⟨false, false, sh, false, false⟩, -1, -1, verb, ⟨0, 0, ⟨0, 0⟩⟩, ⟨0, 0, ⟨0, 0⟩⟩, ⟨0, 0⟩⟩
def oneS (tab u : Value) (t : ByteArray) : Nat → St
  | 0 => ⟨[], 0, tab, [u], 0, false⟩
  | _ => ⟨t.data.toList, 0, tab, [u], 1, false⟩
/-- What a print needs of its directive, its value and its text. -/
structure OneP (F : List UInt8) (sh : Bool) (verb : Int) (d : De) (u : Value) (t : ByteArray) : Prop where
  len : F.length ≤ 100
  parse : PP.parseL F = [onePc F sh verb]
  pct : verb ≠ 37
  size : t.size ≤ 3500
  face : ∃ T x, u = .iface T x
  build : ∀ W, Calls Tryz.prog 65 #[.agg (deV d)] W fun e w' => e = .returned (.tuple #[u, .int .i64 0]) ∧ Below W.heap.size W w'
/-- The value is shown as the text, by a table. -/
def OneSh (sh : Bool) (verb : Int) (u : Value) (t : ByteArray) (A : Option Addr) (N cap : Nat) (hs : List Hk) : Prop :=
  ∀ bb s v' va W, StAt W bb s v' va → s.tab = .slice A N cap → TabsB bb W → HksB bb W ⟨A, N, cap⟩ hs → Calls Tryz.prog 50 #[u, .agg (sp8 false false sh false false (-1) (-1) verb), askF bb] W fun e w' => e = .returned (.string t) ∧ Below W.heap.size W w'
theorem one_run {F : List UInt8} {sh : Bool} {verb : Int} {d : De} {u : Value} {t : ByteArray} {A : Option Addr} {N cap : Nat} {hs : List Hk} (hp : OneP F sh verb d u t) (SH : OneSh sh verb u t A N cap hs) (bb : Nat) (W : World) (hT : TabsB bb W) (hH : HksB bb W ⟨A, N, cap⟩ hs)
    (st : StAt W bb ⟨[], 0, sliceN, [], 0, false⟩ sliceN sliceN) (sl : Sl) (hA : ArgsAt W sl [d]) (hcap : 1 ≤ sl.cap) (hgb : ∀ g o, sl.a = some ⟨g, o, none⟩ → g < bb) :
    ∃ (s1 s2 : St) (J : Value → World → Prop), s2.all = t.data.toList ∧
      Calls Tryz.prog 42 #[.pointer (some ⟨bb, 0, none⟩), .int .i64 0, .slice A N cap, slV sl] W (fun e w' => e = .returned (.tuple #[]) ∧ ∃ va, StAt w' bb s1 sliceN va ∧ J va w' ∧ Below bb W w') ∧
      ∀ W' va, StAt W' bb s1 sliceN va → J va W' → Below bb W W' → Calls Tryz.prog 29 #[.pointer (some ⟨bb, 0, none⟩), .string ⟨F.toArray⟩] W' fun e w' => e = .returned (.tuple #[]) ∧ ∃ v', StAt w' bb s2 v' va ∧ Kp bb W' w' := by
  refine ⟨oneS (.slice A N cap) u t 0, oneS (.slice A N cap) u t 1, fun _ _ => True, rfl, ?_, fun W' va hs1 _ hl => ?_⟩
  · refine (begin_leaf bb A N cap sl [d] [u] W st hA (by show (1 : Nat) ≤ 16; decide) hcap rfl (fun g o hg _ => hgb g o hg) fun i d' u' hd hu => ?_).mono fun e w' ⟨h1, va, h2, h3⟩ => ⟨h1, va, h2, trivial, h3⟩
    match i, hd, hu with
    | 0, hd, hu =>
      cases hd; cases hu
      exact ⟨hp.face, fun W _ => hp.build W⟩
    | i + 1, hd, _ => simp at hd
  · have hT' := hT.below hl
    have hH' := hH.below hl
    refine format_any bb ⟨F.toArray⟩ [onePc F sh verb] (oneS (.slice A N cap) u t) sliceN va W' hT'.tabs (by rw [Utf.size_eq]; have := hp.len; show F.length ≤ _; omega) hp.parse (by simp) hs1 (fun i p hi => ?_) (Or.inr (by show (1 : Nat) ≤ (1 : Int); decide))
    match i, hi with
    | 0, hi =>
      cases hi
      refine ⟨by show (0 : Nat) ≤ _; decide, by have := hp.len; show F.length ≤ _; omega, Or.inr ⟨rfl, fun W2 v hs2 hk2 => ?_⟩⟩
      refine directive_plain bb (oneS (.slice A N cap) u t 0) (oneS (.slice A N cap) u t 0) (oneS (.slice A N cap) u t 0) (takeSt (oneS (.slice A N cap) u t 0) ⟨0, 0⟩) v va u 1 _ false sh false false (-1) (-1) verb 0 0 0 0 0 0 0 t W2 hs2
        (fun W hW => number_unset bb _ v va 0 ⟨0, 0⟩ _ W hW) (fun W hW => number_unset bb _ v va 0 ⟨0, 0⟩ _ W hW)
        hp.pct 0 1 rfl rfl (by decide) (fun W hW => take_next bb _ v va _ 0 0 W hW rfl rfl (by show (1 : Nat) ≤ 16; decide)) (by show (0 : Nat) ≤ _; decide) (by have := hp.size; omega) fun W3 hW3 hk3 => ?_
      exact SH bb _ v va W3 hW3 rfl ((hT'.kp hk2).kp hk3) ((hH'.kp hk2).kp hk3)
    | i + 1, hi => simp at hi
/-- A print by no table. -/
theorem oprint_nil {F : List UInt8} {sh : Bool} {verb : Int} {d : De} {u : Value} {t : ByteArray} (hp : OneP F sh verb d u t) (SH : OneSh sh verb u t none 0 0 []) (sl : Sl) (w : World) (hT : Tabs w) (hA : ArgsAt w sl [d]) (hcap : 1 ≤ sl.cap) :
    Calls Tryz.prog 9 #[sliceN, .string ⟨F.toArray⟩, slV sl] w fun e w' => e = .returned (.string t) ∧ Below w.heap.size w w' := by
  have hst : stText t.data.toList = t.data.toList := by unfold stText; rw [if_neg (by rw [← Utf.size_eq]; have := hp.size; omega)]
  have key := tprint_any none 0 0 sliceN sl ⟨F.toArray⟩ t.data.toList w ((copied_nil w).mono fun _ _ h => ⟨h.1, h.2 ▸ Below.refl _ _⟩) (fun bb W hW hb st =>
    one_run hp SH bb W ⟨w, hT, hb, hW⟩ (hksB_nil bb W) st sl (hA.below hW) hcap (fun g o hg => by
      obtain ⟨g', o', e, hl, _⟩ := hA.2 (by simp)
      rw [hg] at e
      cases e
      omega))
  rw [hst] at key
  exact key
/-- A print by a table of one row. -/
theorem oprint_one {F : List UInt8} {sh : Bool} {verb : Int} {d : De} {u : Value} {t : ByteArray} (h : Hk) (hp : OneP F sh verb d u t) (SH : ∀ G cap, OneSh sh verb u t (some ⟨G, 0, none⟩) 1 cap [h]) (hh : Bare h) (A : Nat) (sl : Sl) (w : World) (hT : Tabs w) (hB : Blk w A (hkV h) 34) (hA : ArgsAt w sl [d]) (hcap : 1 ≤ sl.cap) :
    Calls Tryz.prog 9 #[.slice (some ⟨A, 0, none⟩) 1 1, .string ⟨F.toArray⟩, slV sl] w fun e w' => e = .returned (.string t) ∧ Below w.heap.size w w' := by
  have hst : stText t.data.toList = t.data.toList := by unfold stText; rw [if_neg (by rw [← Utf.size_eq]; have := hp.size; omega)]
  have key := tprint_t (hkV h) (.slice (some ⟨A, 0, none⟩) 1 1) sl ⟨F.toArray⟩ t.data.toList w (copied_one A h w hB hh) (fun bb W G cap hW hb hO hG st =>
    one_run hp (SH G cap) bb W ⟨w, hT, hb, hW⟩ (hksB_one hO hG) st sl (hA.below hW) hcap (fun g o hg => by
      obtain ⟨g', o', e, hl, _⟩ := hA.2 (by simp)
      rw [hg] at e
      cases e
      omega))
  rw [hst] at key
  exact key
end Go.Proofs.YtdjhmanccoekjaaGreatDoor
end

section
namespace Go.Proofs.YtdjhmanccoekjaaGreatDoor
open Go.RowKit Go.Proofs

abbrev deB : De := ⟨1, ⟨#[]⟩, 1, 0, ⟨#[]⟩, sl0, sl0, 1⟩
abbrev boolX : Value := .agg #[.int .i64 1, .string ⟨#[]⟩, .int .i64 1, .bool true]
theorem leaf_B : leafV deB = .iface 179 boolX := rfl
theorem build_B (w : World) : Calls Tryz.prog 65 #[.agg (deV deB)] w fun e w' => e = .returned (.tuple #[.iface 179 boolX, .int .i64 0]) ∧ Below w.heap.size w w' :=
  build_leaf deB w ⟨by decide, by decide, by decide, by decide⟩ (by decide) (by decide) (by decide) (by decide)
theorem known_B : Known 179 boolX 1 ⟨#[]⟩ 1 := known_bool 1 ⟨#[]⟩ 1 true (by decide) (by decide) (by decide) (by decide)
/-- A format of one verb. -/
def vF (c : Nat) : List UInt8 := [37, UInt8.ofNat c]
theorem v_dir : ∀ (i : Nat), i < 58 → i ≠ 26 → PP.dirL [UInt8.ofNat (65 + i)] = (onePc (vF (65 + i)) false ((65 + i : Nat) : Int), []) := by
  intro i hi hne
  match i, hi, hne with
  | 0, _, _ => rfl
  | 1, _, _ => rfl
  | 2, _, _ => rfl
  | 3, _, _ => rfl
  | 4, _, _ => rfl
  | 5, _, _ => rfl
  | 6, _, _ => rfl
  | 7, _, _ => rfl
  | 8, _, _ => rfl
  | 9, _, _ => rfl
  | 10, _, _ => rfl
  | 11, _, _ => rfl
  | 12, _, _ => rfl
  | 13, _, _ => rfl
  | 14, _, _ => rfl
  | 15, _, _ => rfl
  | 16, _, _ => rfl
  | 17, _, _ => rfl
  | 18, _, _ => rfl
  | 19, _, _ => rfl
  | 20, _, _ => rfl
  | 21, _, _ => rfl
  | 22, _, _ => rfl
  | 23, _, _ => rfl
  | 24, _, _ => rfl
  | 25, _, _ => rfl
  | 26, _, h => exact absurd rfl h
  | 27, _, _ => rfl
  | 28, _, _ => rfl
  | 29, _, _ => rfl
  | 30, _, _ => rfl
  | 31, _, _ => rfl
  | 32, _, _ => rfl
  | 33, _, _ => rfl
  | 34, _, _ => rfl
  | 35, _, _ => rfl
  | 36, _, _ => rfl
  | 37, _, _ => rfl
  | 38, _, _ => rfl
  | 39, _, _ => rfl
  | 40, _, _ => rfl
  | 41, _, _ => rfl
  | 42, _, _ => rfl
  | 43, _, _ => rfl
  | 44, _, _ => rfl
  | 45, _, _ => rfl
  | 46, _, _ => rfl
  | 47, _, _ => rfl
  | 48, _, _ => rfl
  | 49, _, _ => rfl
  | 50, _, _ => rfl
  | 51, _, _ => rfl
  | 52, _, _ => rfl
  | 53, _, _ => rfl
  | 54, _, _ => rfl
  | 55, _, _ => rfl
  | 56, _, _ => rfl
  | 57, _, _ => rfl
  | i + 58, hi, _ => exact absurd hi (by omega)
theorem v_parse (c : Nat) (h0 : 65 ≤ c) (h1 : c ≤ 122) (h2 : c ≠ 91) : PP.parseL (vF c) = [onePc (vF c) false c] := by
  obtain ⟨i, rfl⟩ : ∃ i, c = 65 + i := ⟨c - 65, by omega⟩
  unfold vF
  rw [PP.parseL_pct (by decide), v_dir i (by omega) (by omega), PP.parseL_nil]
  rfl
def sF : List UInt8 := [37, 35, 118]
theorem s_parse : PP.parseL sF = [onePc sF true 118] := by
  unfold sF
  rw [PP.parseL_pct (by decide), show PP.dirL [35, 118] = (onePc sF true 118, []) from rfl, PP.parseL_nil]
  rfl
/-- What is printed of the Bool by no method. -/
def bareT (verb : Int) : ByteArray := if verb = 116 ∨ verb = 118 then trueS else badV verb (typeS 1 ⟨#[]⟩) trueS
theorem bool_bare (verb : Int) : boolS true false false (-1) verb = if verb = 116 ∨ verb = 118 then some trueS else none := by
  unfold boolS
  rw [show padS (if true = true then trueS else falseS) false false (-1) = trueS by decide +kernel]
theorem show_bare (sh : Bool) (verb : Int) (hv : verb ≠ 84) (bb : Nat) (W : World)
    (AS : ∀ W', Below W.heap.size W W' → Calls Tryz.prog 52 #[.pointer (some ⟨bb, 0, none⟩), .iface 179 boolX, .agg (sp8 false false sh false false (-1) (-1) verb)] W' fun e w' => e = .returned (.tuple #[.string ⟨#[]⟩, .bool false]) ∧ Below W'.heap.size W' w') :
    Calls Tryz.prog 50 #[.iface 179 boolX, .agg (sp8 false false sh false false (-1) (-1) verb), askF bb] W fun e w' => e = .returned (.string (bareT verb)) ∧ Below W.heap.size W w' := by
  have KV : ∀ W', Calls Tryz.prog 113 #[.agg (wrC false false false false false (-1) (-1) 118 .nilFunc), .iface 179 boolX, .int .i64 0] W' fun e w' => e = .returned (.tuple #[.string trueS, .bool true]) ∧ Below W'.heap.size W' w' := fun W' => by
    have := kind_bool 1 ⟨#[]⟩ 1 true false false false false false (-1) (-1) 118 .nilFunc 0 W' (by decide) (by decide)
    rw [bool_bare, if_pos (Or.inr rfl)] at this
    exact this
  have KI : ∀ W', Calls Tryz.prog 113 #[.agg (wrC false false sh false false (-1) (-1) verb (askF bb)), .iface 179 boolX, .int .i64 0] W' fun e w' => e = .returned (.tuple #[.string (if verb = 116 ∨ verb = 118 then trueS else ⟨#[]⟩), .bool (decide (verb = 116 ∨ verb = 118))]) ∧ Below W'.heap.size W' w' := fun W' => by
    have := kind_bool 1 ⟨#[]⟩ 1 true false false sh false false (-1) (-1) verb (askF bb) 0 W' (by decide) (by decide)
    rw [bool_bare] at this
    by_cases h : verb = 116 ∨ verb = 118
    · rw [if_pos h] at this ⊢
      rw [decide_eq_true h]
      exact this
    · rw [if_neg h] at this ⊢
      rw [decide_eq_false h]
      exact this
  have key := show_gen known_B false false sh false false (-1) (-1) verb hv (if verb = 116 ∨ verb = 118 then trueS else ⟨#[]⟩) trueS (decide (verb = 116 ∨ verb = 118)) (by decide) (by decide) W AS (fun W' _ => KI W') (fun _ W' _ => KV W')
  unfold bareT
  by_cases h : verb = 116 ∨ verb = 118
  · rw [decide_eq_true h, if_pos h] at key
    rw [if_pos h]
    exact key
  · rw [decide_eq_false h, if_neg h] at key
    rw [if_neg h]
    exact key
theorem u_insS_size (v : Int) (J : ByteArray) : (insS (Utf8.encode v) J).size ≤ J.size + 8 := by
  unfold insS
  simp only [ByteArray.size_append]
  have e1 : (⟨#[37, 33]⟩ : ByteArray).size = 2 := rfl
  have e2 : (⟨#[40]⟩ : ByteArray).size = 1 := rfl
  have e3 : (⟨#[41]⟩ : ByteArray).size = 1 := rfl
  have e4 := enc_size v
  omega
theorem bareT_size (verb : Int) : (bareT verb).size ≤ 3500 := by
  unfold bareT
  split
  · decide
  · unfold badV
    have := u_insS_size verb ((typeS 1 ⟨#[]⟩ ++ (⟨#[61]⟩ : ByteArray)) ++ trueS)
    have h2 : ((typeS 1 ⟨#[]⟩ ++ (⟨#[61]⟩ : ByteArray)) ++ trueS).size ≤ 100 := by decide
    omega
end Go.Proofs.YtdjhmanccoekjaaGreatDoor
end

section
namespace Go.Proofs.YtdjhmanccoekjaaGreatDoor
open Go.RowKit Go.Proofs

abbrev vB : Value := .iface 179 boolX
theorem u_ask (h : Hk) (r : ByteArray) (okk : Bool) (sh : Bool) (verb : Int) (G cap bb : Nat) (s : St) (v' va : Value) (W : World) (hst : StAt W bb s v' va) (htab : s.tab = .slice (some ⟨G, 0, none⟩) 1 cap) (hH : HksB bb W ⟨some ⟨G, 0, none⟩, 1, cap⟩ [h])
    (SAY : ∀ W2, Below W.heap.size W W2 → Calls Tryz.prog 81 (u_sayArgs h false false sh false false (-1) (-1) verb false bb) W2 fun e w' => e = .returned (.tuple #[.string r, .bool okk]) ∧ Below W2.heap.size W2 w') :
    ∀ W', Below W.heap.size W W' → Calls Tryz.prog 52 #[.pointer (some ⟨bb, 0, none⟩), vB, .agg (sp8 false false sh false false (-1) (-1) verb)] W' fun e w' => e = .returned (.tuple #[.string r, .bool okk]) ∧ Below W'.heap.size W' w' := fun W' hW =>
  ask_yes bb s v' va vB 1 0 ⟨#[]⟩ true (some ⟨G, 0, none⟩) 1 cap [h] h r okk false false sh false false (-1) (-1) verb W' (hst.below hW) htab (by decide) (by exact known_B.base) (hH.at_.below hW) rfl (by decide)
    (fun W => ta_Bool_Ptr _ W) (fun W2 hW2 => SAY W2 (hW.trans (hW2.mono hW.size)))
theorem sh_none (h : Hk) (sh : Bool) (verb : Int) (hv : verb ≠ 84) (hn : whichN h verb sh = 0) (G cap : Nat) : OneSh sh verb vB (bareT verb) (some ⟨G, 0, none⟩) 1 cap [h] := fun bb s v' va W hst htab _ hH =>
  show_bare sh verb hv bb W (u_ask h ⟨#[]⟩ false sh verb G cap bb s v' va W hst htab hH fun W2 _ => u_say_none h false false sh false false (-1) (-1) verb false bb W2 hn)
theorem sh_nil (sh : Bool) (verb : Int) (hv : verb ≠ 84) : OneSh sh verb vB (bareT verb) none 0 0 [] := fun bb s v' va W hst htab _ _ =>
  show_bare sh verb hv bb W fun W' hW => ask_no bb s v' va vB 1 1 ⟨#[]⟩ true none 0 0 false false sh false false (-1) (-1) verb W' (hst.below hW) htab (by decide) known_B.base (by decide) (by decide) (by decide)
theorem sh_1 (h : Hk) (sh : Bool) (verb : Int) (hv : verb ≠ 84) (hn : whichN h verb sh = 1) (hk : (hkAt h 0).k = 1) (G cap : Nat) : OneSh sh verb vB (hkAt h 0).t (some ⟨G, 0, none⟩) 1 cap [h] := fun bb s v' va W hst htab _ hH =>
  show_told known_B false false sh false false (-1) (-1) verb hv _ W (u_ask h _ true sh verb G cap bb s v' va W hst htab hH fun W2 hW2 =>
    (u_say_1 h false false sh false false (-1) (-1) verb false bb W2.heap[bb]? (hkAt h 0).t W2 (Nat.lt_of_lt_of_le hst.lt hW2.size) hn fun W3 hW3 =>
      u_do_tells (hkAt h 0) false verb (methodS 1) bb W2.heap[bb]? W3 hk ⟨Nat.lt_of_lt_of_le (Nat.lt_of_lt_of_le hst.lt hW2.size) hW3.size, hW3.block bb (Nat.lt_of_lt_of_le hst.lt hW2.size)⟩).mono fun _ _ ⟨he, hx, ho⟩ => ⟨he, hx.all ho⟩)
theorem sh_2 (h : Hk) (sh : Bool) (verb : Int) (hv : verb ≠ 84) (hn : whichN h verb sh = 2) (hk : (hkAt h 1).k = 1) (G cap : Nat) : OneSh sh verb vB (hkAt h 1).t (some ⟨G, 0, none⟩) 1 cap [h] := fun bb s v' va W hst htab _ hH =>
  show_told known_B false false sh false false (-1) (-1) verb hv _ W (u_ask h _ true sh verb G cap bb s v' va W hst htab hH fun W2 hW2 =>
    (u_say_2 h false false sh false false (-1) (-1) verb false bb W2.heap[bb]? (hkAt h 1).t W2 (Nat.lt_of_lt_of_le hst.lt hW2.size) hn fun W3 hW3 =>
      u_do_tells (hkAt h 1) false verb (methodS 2) bb W2.heap[bb]? W3 hk ⟨Nat.lt_of_lt_of_le (Nat.lt_of_lt_of_le hst.lt hW2.size) hW3.size, hW3.block bb (Nat.lt_of_lt_of_le hst.lt hW2.size)⟩).mono fun _ _ ⟨he, hx, ho⟩ => ⟨he, hx.all ho⟩)
theorem sh_3 (h : Hk) (sh : Bool) (verb : Int) (hv : verb ≠ 84) (hn : whichN h verb sh = 3) (hk : (hkAt h 2).k = 1) (r : ByteArray) (hz : (hkAt h 2).t.size ≤ 2000) (hr : textS false false sh false false (-1) (-1) verb (hkAt h 2).t = some r) (G cap : Nat) : OneSh sh verb vB r (some ⟨G, 0, none⟩) 1 cap [h] := fun bb s v' va W hst htab hT hH =>
  show_told known_B false false sh false false (-1) (-1) verb hv _ W (u_ask h _ true sh verb G cap bb s v' va W hst htab hH fun W2 hW2 =>
    (u_say_3 h false false sh false false (-1) (-1) verb false bb W2.heap[bb]? (hkAt h 2).t r W2 (Nat.lt_of_lt_of_le hst.lt hW2.size) hr hn (hT.tabs.below hW2) rfl hz (by decide) (by decide) (by decide) (by decide) fun W3 hW3 =>
      u_do_tells (hkAt h 2) false verb (methodS 3) bb W2.heap[bb]? W3 hk ⟨Nat.lt_of_lt_of_le (Nat.lt_of_lt_of_le hst.lt hW2.size) hW3.size, hW3.block bb (Nat.lt_of_lt_of_le hst.lt hW2.size)⟩).mono fun _ _ ⟨he, hx, ho⟩ => ⟨he, hx.all ho⟩)
theorem sh_4 (h : Hk) (sh : Bool) (verb : Int) (hv : verb ≠ 84) (hn : whichN h verb sh = 4) (hk : (hkAt h 3).k = 1) (r : ByteArray) (hz : (hkAt h 3).t.size ≤ 2000) (hr : textS false false sh false false (-1) (-1) verb (hkAt h 3).t = some r) (G cap : Nat) : OneSh sh verb vB r (some ⟨G, 0, none⟩) 1 cap [h] := fun bb s v' va W hst htab hT hH =>
  show_told known_B false false sh false false (-1) (-1) verb hv _ W (u_ask h _ true sh verb G cap bb s v' va W hst htab hH fun W2 hW2 =>
    (u_say_4 h false false sh false false (-1) (-1) verb false bb W2.heap[bb]? (hkAt h 3).t r W2 (Nat.lt_of_lt_of_le hst.lt hW2.size) hr hn (hT.tabs.below hW2) rfl hz (by decide) (by decide) (by decide) (by decide) fun W3 hW3 =>
      u_do_tells (hkAt h 3) false verb (methodS 4) bb W2.heap[bb]? W3 hk ⟨Nat.lt_of_lt_of_le (Nat.lt_of_lt_of_le hst.lt hW2.size) hW3.size, hW3.block bb (Nat.lt_of_lt_of_le hst.lt hW2.size)⟩).mono fun _ _ ⟨he, hx, ho⟩ => ⟨he, hx.all ho⟩)
/-- A text is shown. -/
theorem sh_text (verb : Int) (hv : verb ≠ 84) (s0 t : ByteArray) (hz : s0.size ≤ 2000) (hr : textS false false false false false (-1) (-1) verb s0 = some t) : OneSh false verb (textV (deTx s0)) t none 0 0 [] := fun bb s v' va W hst htab hT _ => by
  refine show_ok (known_text 16 ⟨#[]⟩ 0 s0 (by decide) (by decide) (by decide) (by decide)) none 0 0 htab (by decide) (by decide) false false false false false (-1) (-1) verb hv t ⟨#[]⟩ true (by decide) (by decide) W hst
    (fun W2 hW2 => kind_text 16 ⟨#[]⟩ 0 s0 false false false false false (-1) (-1) verb (askF bb) 0 W2 _ t true rfl fun W3 hW3 => ?_) (fun h => by cases h)
  have := text_any s0 false false false false false (-1) (-1) verb W3 ((hT.tabs.below hW2).below hW3) hz (by decide) (by decide) (by decide) (by decide)
  rw [hr] at this
  exact this
end Go.Proofs.YtdjhmanccoekjaaGreatDoor
end

section
namespace Go.Proofs.YtdjhmanccoekjaaGreatDoor
open Go.RowKit Go.Proofs

abbrev acB (on : Bool) (t : ByteArray) : Ac := ⟨if on then 1 else 0, if on then t else ⟨#[]⟩, ⟨#[]⟩, sl0, deZ⟩
abbrev rowH (f g e s : Bool) : Hk := ⟨acB f ⟨#[70]⟩, acB g ⟨#[71]⟩, acB e ⟨#[69]⟩, acB s ⟨#[83]⟩⟩
theorem rowH_bare (f g e s : Bool) : Bare (rowH f g e s) := by
  refine ⟨fun i => ?_, fun i => ?_, fun i => ?_⟩
  all_goals
    unfold hkAt
    split
    · first | rfl | exact (show (0 : Int) < 18 by decide)
    · split
      · first | rfl | exact (show (0 : Int) < 18 by decide)
      · split
        · first | rfl | exact (show (0 : Int) < 18 by decide)
        · first | rfl | exact (show (0 : Int) < 18 by decide)
theorem there_acB (on : Bool) (t : ByteArray) : thereB (acB on t).k = on := by cases on <;> rfl
theorem which_row (f g e s : Bool) (v : Int) (sh : Bool) : whichN (rowH f g e s) v sh = if f then 1 else if v = 118 ∧ sh = true then (if g then 2 else 0) else if namedB v = true then (if e then 3 else if s then 4 else 0) else 0 := by
  unfold whichN
  rw [show thereB (hkAt (rowH f g e s) 0).k = f from there_acB f _, show thereB (hkAt (rowH f g e s) 1).k = g from there_acB g _, show thereB (hkAt (rowH f g e s) 2).k = e from there_acB e _, show thereB (hkAt (rowH f g e s) 3).k = s from there_acB s _]
/-- What is printed of a text of one letter by a verb that asks for texts. -/
def namedT (v : Int) (c : UInt8) : ByteArray := (textS false false false false false (-1) (-1) v ⟨#[c]⟩).getD ⟨#[]⟩
theorem named_text (v : Int) (c : UInt8) (hc : c = 69 ∨ c = 83) (hv : namedB v = true) : textS false false false false false (-1) (-1) v ⟨#[c]⟩ = some (namedT v c) ∧ (namedT v c).size ≤ 3500 := by
  have h : v = 118 ∨ v = 115 ∨ v = 120 ∨ v = 88 ∨ v = 113 := by simpa [namedB] using hv
  rcases hc with rfl | rfl <;> rcases h with rfl | rfl | rfl | rfl | rfl <;> exact ⟨by unfold namedT; decide +kernel, by unfold namedT; decide +kernel⟩
/-- What is printed by the row. -/
def rowT (f g e s : Bool) (v : Int) (sh : Bool) : ByteArray :=
  if f then ⟨#[70]⟩ else if v = 118 ∧ sh = true then (if g then ⟨#[71]⟩ else bareT v) else if namedB v = true then (if e then namedT v 69 else if s then namedT v 83 else bareT v) else bareT v
theorem row_shows (f g e s : Bool) (v : Int) (sh : Bool) (hv : v ≠ 84) (hs : sh = true → v = 118) (G cap : Nat) : OneSh sh v vB (rowT f g e s v sh) (some ⟨G, 0, none⟩) 1 cap [rowH f g e s] := by
  have hw := which_row f g e s v sh
  unfold rowT
  cases f
  · rw [if_neg (by decide)] at hw ⊢
    by_cases h1 : v = 118 ∧ sh = true
    · rw [if_pos h1] at hw ⊢
      cases g
      · exact sh_none _ sh v hv hw G cap
      · exact sh_2 _ sh v hv hw rfl G cap
    · rw [if_neg h1] at hw ⊢
      have hsh : sh = false := by cases sh <;> simp_all
      subst hsh
      by_cases h2 : namedB v = true
      · rw [if_pos h2] at hw ⊢
        cases e
        · rw [if_neg (by decide)] at hw ⊢
          cases s
          · exact sh_none _ false v hv hw G cap
          · exact sh_4 _ false v hv hw rfl _ (by show (1 : Nat) ≤ 2000; decide) (named_text v 83 (Or.inr rfl) h2).1 G cap
        · exact sh_3 _ false v hv hw rfl _ (by show (1 : Nat) ≤ 2000; decide) (named_text v 69 (Or.inl rfl) h2).1 G cap
      · rw [if_neg h2] at hw ⊢
        exact sh_none _ false v hv hw G cap
  · exact sh_1 _ sh v hv hw rfl G cap
theorem rowT_size (f g e s : Bool) (v : Int) (sh : Bool) : (rowT f g e s v sh).size ≤ 3500 := by
  unfold rowT
  split
  · decide
  · split
    · split
      · decide
      · exact bareT_size v
    · split
      · rename_i h
        split
        · exact (named_text v 69 (Or.inl rfl) h).2
        · split
          · exact (named_text v 83 (Or.inr rfl) h).2
          · exact bareT_size v
      · exact bareT_size v
set_option maxRecDepth 100000 in
set_option maxHeartbeats 1000000 in
theorem act_any (on : Bool) (t : ByteArray) (w : World) : Calls Tryz.prog 8 #[.bool on, .string t] w fun e w' => e = .returned (.agg (acV (acB on t))) ∧ Below w.heap.size w w' := by
  obtain ⟨B, hB⟩ : ∃ B, w.heap.size = B := ⟨_, rfl⟩
  have h0 := Blk.new w ac0 31
  have l0 := (Below.refl w.heap.size w).alloc (Nat.le_refl _) (.cells ac0 31)
  have h1 := h0.setRow (acV (acB on t))
  have l1 : Below w.heap.size w ((w.alloc (.cells ac0 31)).setRow w.heap.size (acV (acB on t))) := below_setRow l0 w.heap.size (Nat.le_refl _) _
  obtain ⟨W1, hW1⟩ : ∃ W1, (w.alloc (.cells ac0 31)).setRow w.heap.size (acV (acB on t)) = W1 := ⟨_, rfl⟩
  rw [hW1] at h1 l1
  rw [hB] at h0 h1 hW1
  have HB0 := hid h0
  have H1 := hid h1
  have L1 := hid l1
  have HW1 := hid hW1
  clear h0 h1 l1 hW1 l0
  cases on
  · go_enter Tryz.func8, Tryz.ntmps8
    go_upto_region 3 with fail
    refine wp_region_list ?_
    refine wpList_buildTo rfl 31 _ rfl (some 8) rfl (acV (acB false t)) (by kernel_rfl) ?_
    refine wpList_store_rowTo rfl 31 _ _ rfl rfl B (acV (acB false t)) rfl rfl 31 ac0 HB0.out act_size rfl (acV_one _) ?_
    rw [HW1.out]
    refine wpList_nil ?_
    go_wp2_with fail
    have HL := run_loadVar_mid (P := Tryz.prog) W1 B 0 31 (acV (acB false t)).toList _ (fun j v hv => by rw [Nat.zero_add, H1.out.cell]; simpa using hv) Tryz.underlying31 rfl act_size
    refine bodyPost_ret (v := .agg (acV (acB false t))) ?_ rfl ⟨rfl, L1.out⟩
    simp [results, Tryz.results8, asAddr, Act.put, HL]
  · go_enter Tryz.func8, Tryz.ntmps8
    go_upto_region 2 with fail
    refine wp_region_list ?_
    refine wpList_plain rfl fun K hK => ?_
    have HK := hid hK
    clear hK
    go_wp2_with fail
    refine HK.out _ _ ?_
    clear HK
    refine wpList_buildTo rfl 31 _ rfl (some 7) rfl (acV (acB true t)) (by kernel_rfl) ?_
    refine wpList_store_rowTo rfl 31 _ _ rfl rfl B (acV (acB true t)) rfl rfl 31 ac0 HB0.out act_size rfl (acV_one _) ?_
    rw [HW1.out]
    refine wpList_nil ?_
    go_wp2_with fail
    have HL := run_loadVar_mid (P := Tryz.prog) W1 B 0 31 (acV (acB true t)).toList _ (fun j v hv => by rw [Nat.zero_add, H1.out.cell]; simpa using hv) Tryz.underlying31 rfl act_size
    refine bodyPost_ret (v := .agg (acV (acB true t))) ?_ rfl ⟨rfl, L1.out⟩
    simp [results, Tryz.results8, asAddr, Act.put, HL]
theorem fill_hook (h : Hk) : Instr.fill (fun i => some (i * 48, 48)) ((Array.range (1 * 48)).map (fun q => (Value.agg hk0).cells[q % (Value.agg hk0).cells.size]!)) [(0, .agg (hkV h))] = some (hkV h) := by kernel_rfl
theorem v_enc : ∀ (i : Nat), i < 58 → Utf8.encode ((65 + i : Nat) : Int) = ⟨#[UInt8.ofNat (65 + i)]⟩ := by
  intro i hi
  match i, hi with
  | 0, _ => rfl
  | 1, _ => rfl
  | 2, _ => rfl
  | 3, _ => rfl
  | 4, _ => rfl
  | 5, _ => rfl
  | 6, _ => rfl
  | 7, _ => rfl
  | 8, _ => rfl
  | 9, _ => rfl
  | 10, _ => rfl
  | 11, _ => rfl
  | 12, _ => rfl
  | 13, _ => rfl
  | 14, _ => rfl
  | 15, _ => rfl
  | 16, _ => rfl
  | 17, _ => rfl
  | 18, _ => rfl
  | 19, _ => rfl
  | 20, _ => rfl
  | 21, _ => rfl
  | 22, _ => rfl
  | 23, _ => rfl
  | 24, _ => rfl
  | 25, _ => rfl
  | 26, _ => rfl
  | 27, _ => rfl
  | 28, _ => rfl
  | 29, _ => rfl
  | 30, _ => rfl
  | 31, _ => rfl
  | 32, _ => rfl
  | 33, _ => rfl
  | 34, _ => rfl
  | 35, _ => rfl
  | 36, _ => rfl
  | 37, _ => rfl
  | 38, _ => rfl
  | 39, _ => rfl
  | 40, _ => rfl
  | 41, _ => rfl
  | 42, _ => rfl
  | 43, _ => rfl
  | 44, _ => rfl
  | 45, _ => rfl
  | 46, _ => rfl
  | 47, _ => rfl
  | 48, _ => rfl
  | 49, _ => rfl
  | 50, _ => rfl
  | 51, _ => rfl
  | 52, _ => rfl
  | 53, _ => rfl
  | 54, _ => rfl
  | 55, _ => rfl
  | 56, _ => rfl
  | 57, _ => rfl
  | i + 58, hi => exact absurd hi (by omega)
theorem v_fmt (c : Nat) (h0 : 65 ≤ c) (h1 : c ≤ 122) : (⟨#[37]⟩ : ByteArray) ++ Utf8.encode (c : Int) = ⟨(vF c).toArray⟩ := by
  obtain ⟨i, rfl⟩ : ∃ i, c = 65 + i := ⟨c - 65, by omega⟩
  rw [v_enc i (by omega)]
  rfl
/-- What holds in TopDispatch behind the table. -/
structure TdI (w : World) (A D : Nat) (h : Hk) (W : World) : Prop where
  low : Below w.heap.size w W
  t : Blk W A (hkV h) 34
  d : Blk W D (deV deB) 29
theorem TdI.kept {w : World} {A D : Nat} {h : Hk} {W W' : World} (i : TdI w A D h W) (hb : Below W.heap.size W W') : TdI w A D h W' :=
  ⟨i.low.trans (hb.mono i.low.size), i.t.below hb i.t.lt, i.d.below hb i.d.lt⟩
theorem one_letter (f g e s : Bool) (c : Nat) (h0 : 65 ≤ c) (h1 : c ≤ 122) (h2 : c ≠ 91) : OneP (vF c) false c deB vB (rowT f g e s c false) :=
  ⟨by show (2 : Nat) ≤ 100; decide, v_parse c h0 h1 h2, by omega, rowT_size f g e s c false, ⟨_, _, rfl⟩, build_B⟩
theorem one_bare (c : Nat) (h0 : 65 ≤ c) (h1 : c ≤ 122) (h2 : c ≠ 91) : OneP (vF c) false c deB vB (bareT c) :=
  ⟨by show (2 : Nat) ≤ 100; decide, v_parse c h0 h1 h2, by omega, bareT_size c, ⟨_, _, rfl⟩, build_B⟩
theorem one_sharp (f g e s : Bool) : OneP sF true 118 deB vB (rowT f g e s 118 true) :=
  ⟨by decide, s_parse, by decide, rowT_size f g e s 118 true, ⟨_, _, rfl⟩, build_B⟩
theorem one_text (c : Nat) (h0 : 65 ≤ c) (h1 : c ≤ 122) (h2 : c ≠ 91) (k : UInt8) (hk : k = 69 ∨ k = 83) (hn : namedB c = true) : OneP (vF c) false c (deTx ⟨#[k]⟩) (textV (deTx ⟨#[k]⟩)) (namedT c k) :=
  ⟨by show (2 : Nat) ≤ 100; decide, v_parse c h0 h1 h2, by omega, (named_text c k hk hn).2, ⟨_, _, rfl⟩, fun W => build_text ⟨#[k]⟩ (by show (1 : Nat) ≤ 1024; decide) W⟩
end Go.Proofs.YtdjhmanccoekjaaGreatDoor
end
