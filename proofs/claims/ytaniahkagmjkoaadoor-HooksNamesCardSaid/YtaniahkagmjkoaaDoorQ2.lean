/-
  Walks of layer 3: small functions.
-/
import Derived.Test.YtaniahkagmjkoaaDoorIP
import Derived.Test.YtaniahkagmjkoaaDoorB6
import Derived.Test.YtaniahkagmjkoaaDoorBlk
import Derived.Laws.AppendOwn
import Derived.Great.BuildSlice
import Derived.Deep.CutBlock
import Derived.Laws.BitsLemmas
import Derived.Shelf.Utf8.AppendRunePlain
import Derived.Lib.OthersKept
namespace Go.Proofs.YtaniahkagmjkoaaDoor
open Go.RowKit Go.Proofs

theorem bytes_ext {a b : ByteArray} (h : a.data.toList = b.data.toList) : a = b := by
  apply ByteArray.ext
  apply Array.ext'
  exact h
/-- The digits' signs. -/
def signsS (g : Bool) : ByteArray := if g then ⟨#[48, 49, 50, 51, 52, 53, 54, 55, 56, 57, 65, 66, 67, 68, 69, 70]⟩ else ⟨#[48, 49, 50, 51, 52, 53, 54, 55, 56, 57, 97, 98, 99, 100, 101, 102]⟩
theorem signs_at (g : Bool) (d : Nat) (h : d < 16) : bt (signsS g) d = ((IP.hexd g d).toNat : Int) := by
  cases g <;> (rcases (show d = 0 ∨ d = 1 ∨ d = 2 ∨ d = 3 ∨ d = 4 ∨ d = 5 ∨ d = 6 ∨ d = 7 ∨ d = 8 ∨ d = 9 ∨ d = 10 ∨ d = 11 ∨ d = 12 ∨ d = 13 ∨ d = 14 ∨ d = 15 by omega) with rfl | rfl | rfl | rfl | rfl | rfl | rfl | rfl | rfl | rfl | rfl | rfl | rfl | rfl | rfl | rfl <;> rfl)
theorem qplain_any (c : Int) (w : World) : Calls Tryd.prog 65 #[.int .i32 c] w fun e w' => e = .returned (.bool (IP.plainB c)) ∧ w = w' := by
  go_enter Tryd.func65, Tryd.ntmps65
  go_wp2
  all_goals (go_ret; refine ⟨ret_bool ?_, rfl⟩; rw [Bool.eq_iff_iff]; simp [IP.plainB] <;> omega)
theorem width_lim (n : Int) : widthI n = IP.limI n := by
  unfold widthI IP.limI
  split
  · omega
  · split <;> omega

/-- Bytes as cells. -/
def bc (l : List UInt8) : List Value := l.map fun b => Value.int .u8 b.toNat
theorem bc_append (a b : List UInt8) : bc (a ++ b) = bc a ++ bc b := by simp [bc]
theorem bc_length (l : List UInt8) : (bc l).length = l.length := by simp [bc]
theorem bc_one (l : List UInt8) : ∀ v ∈ bc l, v.oneCell' = true := by
  intro v hv
  simp only [bc, List.mem_map] at hv
  obtain ⟨b, _, rfl⟩ := hv
  rfl
theorem info_u8 : (Tryd.prog.info? 5).map (fun i => (i.zero, i.size, i.bytes)) = some (some (.int .u8 0), 1, 1) := by kernel_rfl
theorem own_ge {w : World} {base n : Nat} {e : TypeId} {v : Value} {xs : List Value} (h : w.ownsRow base e 1 v n xs) {g : Nat} (hg : v.ownBlock = some g) : base ≤ g := by
  rcases h.2 with ⟨rfl, _⟩ | ⟨g', cap, cur, rfl, h2, _⟩
  · cases hg
  · simp only [Value.ownBlock, Option.some.injEq] at hg
    omega
theorem own_grown {w w1 W : World} {B n : Nat} {e : TypeId} {v : Value} {xs : List Value} (hown : w.ownsRow B e 1 v n xs) (hb : Below B w W) (hB : B ≤ W.heap.size) (hg : W.grownBy w1 v.ownBlock) : Below B w w1 := by
  refine Below.grown hb hg hB ?_
  intro k hk
  exact own_ge hown hk
/-- Below B nothing has turned; above it all that is no row of bytes is as it was. -/
structure KB (B : Nat) (w w' : World) : Prop where
  below : Below B w w'
  kept : Lib.OthersKept 5 none w w'
theorem KB.refl (B : Nat) (w : World) : KB B w w := ⟨Below.refl B w, Lib.OthersKept.refl _ _ w⟩
theorem KB.trans {B : Nat} {a b c : World} (h : KB B a b) (k : KB B b c) : KB B a c := ⟨h.below.trans k.below, h.kept.trans k.kept⟩
theorem KB.size {B : Nat} {a b : World} (h : KB B a b) : a.heap.size ≤ b.heap.size := h.below.size
theorem KB.alloc {B : Nat} {a b : World} (h : KB B a b) (hB : B ≤ b.heap.size) (o : Obj) : KB B a (b.alloc o) := ⟨h.below.alloc hB o, h.kept.alloc o⟩
theorem KB.mono {B C : Nat} {a b : World} (h : KB B a b) (hC : C ≤ B) : KB C a b := ⟨h.below.mono hC, h.kept⟩
theorem own_cells {w : World} {base n : Nat} {e : TypeId} {v : Value} {xs : List Value} (h : w.ownsRow base e 1 v n xs) (g : Nat) (hg : v.ownBlock = some g) : ∃ c fz, w.heap[g]? = some (.cells c e fz) := by
  rcases h.2 with ⟨rfl, _⟩ | ⟨g', cap, cur, rfl, _, hgg, _⟩
  · simp [Value.ownBlock] at hg
  · simp only [Value.ownBlock, Option.some.injEq] at hg
    exact ⟨cur, (0, 0), hg ▸ hgg⟩
/-- Cells put to a row of bytes that the call owns. -/
theorem wpList_bytes {ops : Array Oper} {rest : List Oper} {ob oa : Oper} {a : Act} {w : World} {Q : Exit → Act → World → Prop} (hgb : ob.guard = none) (hga : oa.guard = none) (m : Nat) (parts : Array (Nat × Operand)) (y : Operand) (b : Tmp)
    (hob : ob.op = .buildSlice 90 m parts) (hdb : ob.dst = some b) (hoa : oa.op = .call { callee := .builtin .append, args := #[y, .tmp b], argTypes := #[90, 90] })
    (l : List UInt8) (hm : l.length = m) (hm0 : 0 < m) (hm1 : m ≤ 100)
    (hf : Instr.fill (fun i => some (i * 1, 1)) ((Array.range (m * 1)).map ((#[Value.int .u8 0] : Array Value)[· % 1]!)) (parts.map fun (i, x) => (i, a.eval x)).toList = some (bc l).toArray)
    (B : Nat) (v : Value) (n : Nat) (xs : List Value) (sl : Value) (hsl : sl = .slice (some ⟨w.heap.size, 0, none⟩) m m) (hy : (a.put (some b) sl).eval y = v) (hbt : (a.put (some b) sl).eval (.tmp b) = sl) (hown : w.ownsRow B 5 1 v n xs) (hB : B ≤ w.heap.size) (hn : n ≤ 100000)
    (h : ∀ v' w', w'.ownsRow B 5 1 v' (n + l.length) (xs ++ bc l) → KB B w w' → wpList Tryd.prog ops Q rest ((a.put (some b) sl).put oa.dst v') w') : wpList Tryd.prog ops Q (ob :: oa :: rest) a w := by
  obtain ⟨i0, hi, hz0, hz1, hz2⟩ := info_parts info_u8
  refine wpList_buildSlice hgb 90 5 m parts hob (bc l).toArray i0 (.int .u8 0) Tryd.underlying90 hi hz0 (by rw [hz1]; omega) (by rw [hz1]; omega) ?_ ?_
  · rw [hz1]
    exact hf
  · rw [hdb, ← hsl]
    have hown1 : (w.alloc (.cells (bc l).toArray 5)).ownsRow B 5 1 v n xs := hown.alloc _
    refine wpList_append_own (P := Tryd.prog) (w := w.alloc (.cells (bc l).toArray 5)) hga y (.tmp b) 90 hoa B 5 i0 (.int .u8 0) 1 1 Tryd.underlying90 hi hz0 hz1 hz2 rfl (by decide) v n xs hy hown1 ⟨w.heap.size, 0, none⟩ m m (bc l) (by rw [hbt, hsl]) (by rw [bc_length, hm, Nat.mul_one]) ?_ (bc_one l) (by unfold maxLen; omega) (by omega) (by simp; omega) ?_
    · intro j u hu
      rw [Addr.add_mid, Nat.zero_add, Lib.cell_of_heap (heap_alloc_new w _)]
      simpa using hu
    · intro v' w' h2 h3 _
      have hb : KB B w w' := ⟨own_grown hown ((Below.refl B w).alloc hB _) (by simp; omega) h3, ((Lib.OthersKept.refl _ none w).alloc _).grown h3 (own_cells hown1)⟩
      refine h v' w' ?_ hb
      rw [hm]
      exact h2

theorem hexW_step (c j N : Nat) (hj : j < N) : IP.hexW (c / 16 ^ j) (N - j) = IP.hexW (c / 16 ^ (j + 1)) (N - (j + 1)) ++ [IP.hexd false (c / 16 ^ j % 16)] := by
  rw [show N - j = (N - (j + 1)) + 1 by omega, IP.hexW, Nat.div_div_eq_div_mul, Nat.pow_succ]

set_option maxRecDepth 100000 in
set_option maxHeartbeats 1000000 in
theorem escape_any (B : Nat) (v : Value) (n : Nat) (xs : List Value) (sign c : Int) (N : Nat) (w : World) (hown : w.ownsRow B 5 1 v n xs) (hB : B ≤ w.heap.size) (hn : n ≤ 50000) (hs0 : 0 ≤ sign) (hs1 : sign ≤ 255) (hc0 : 0 ≤ c) (hc1 : c ≤ 2147483647) (hN : N ≤ 8) :
    Calls Tryd.prog 56 #[v, .int .u8 sign, .int .i32 c, .int .i64 N] w fun e w' => ∃ v', e = .returned v' ∧ w'.ownsRow B 5 1 v' (n + (92 :: UInt8.ofNat sign.toNat :: IP.hexW c.toNat N).length) (xs ++ bc (92 :: UInt8.ofNat sign.toNat :: IP.hexW c.toNat N)) ∧ KB B w w' := by
  have hsg : ((UInt8.ofNat sign.toNat).toNat : Int) = sign := by rw [Utf.toNat_ofNat (by omega)]; omega
  obtain ⟨sg, hsg2⟩ : ∃ sg, UInt8.ofNat sign.toNat = sg := ⟨_, rfl⟩
  rw [hsg2] at hsg ⊢
  have HO := hid hown
  have HS := hid hsg
  clear hsg2 hown hsg
  go_enter Tryd.func56, Tryd.ntmps56
  go_upto_region 1 with fail
  refine wp_region_list ?_
  refine wpList_plain rfl fun K hK => ?_
  have HK := hid hK
  clear hK
  go_wp2_with fail
  refine HK.out _ _ ?_
  clear HK
  refine wpList_plain rfl fun K hK => ?_
  have HK := hid hK
  clear hK
  go_wp2_with fail
  refine HK.out _ _ ?_
  clear HK
  refine wpList_bytes rfl rfl 2 _ (.tmp 10) 12 rfl rfl rfl [92, sg] rfl (by decide) (by decide) (by rw [show bc [92, sg] = [.int .u8 92, .int .u8 sign] by simp [bc, HS.out]]; kernel_rfl) B v n xs _ rfl rfl rfl HO.out hB (by omega) ?_
  intro v1 w1 ho1 hb1
  have HB1 := hid hb1
  have HO1 := hid ho1
  clear hb1 ho1
  go_wp2_with fail
  go_loopw [0, 9] (fun ov iv wr => ∃ (v2 : Value) (i : Int), ov = v2 ∧ iv = .int .i64 i ∧ -1 ≤ i ∧ i < N ∧ Hid (wr.ownsRow B 5 1 v2 (n + (92 :: sg :: IP.hexW (c.toNat / 16 ^ (i + 1).toNat) (N - (i + 1).toNat)).length) (xs ++ bc (92 :: sg :: IP.hexW (c.toNat / 16 ^ (i + 1).toNat) (N - (i + 1).toNat))) ∧ KB B w wr)) (fun _ iv _ => (intOf iv + 1).toNat)
  case atStart =>
    refine ⟨_, N - 1, rfl, by go_num, by omega, by omega, ?_, HB1.out⟩
    rw [show N - ((N : Int) - 1 + 1).toNat = 0 by omega]
    exact HO1.out
  case round =>
    obtain ⟨v2, i, rfl, rfl, hi0, hiN, hrel⟩ := hrel
    by_cases hi : 0 ≤ i
    · obtain ⟨q, hq⟩ : ∃ q : Int, c / 2 ^ (4 * i).toNat = q := ⟨_, rfl⟩
      have hp : (2 : Int) ^ (4 * i).toNat = ((16 ^ i.toNat : Nat) : Int) := by
        rw [show (4 * i).toNat = 4 * i.toNat by omega, Int.pow_mul]
        simp
      have hqn : q.toNat = c.toNat / 16 ^ i.toNat := by
        obtain ⟨m, hm⟩ := Int.eq_ofNat_of_zero_le hc0
        rw [← hq, hp, hm, ← Int.natCast_ediv, Int.toNat_natCast, Int.toNat_natCast]
      have hq0 : 0 ≤ q := by
        rw [← hq, hp]
        exact Int.ediv_nonneg hc0 (Int.natCast_nonneg _)
      have hq1 : q < 2147483648 := by
        have h1 : q.toNat ≤ c.toNat := by rw [hqn]; exact Nat.div_le_self _ _
        omega
      obtain ⟨d, hd⟩ : ∃ d : Nat, q.toNat % 16 = d := ⟨_, rfl⟩
      have hd16 : d < 16 := by rw [← hd]; exact Nat.mod_lt _ (by decide)
      have an : bits .and .i32 q 15 = (d : Int) := by
        have h := bits_mask .i32 31 (by decide) wraps_i32 4 (by decide) q hq0 hq1
        have e : (2 : Int) ^ 4 - 1 = 15 := by decide
        rw [e] at h
        rw [h, show (2 : Int) ^ 4 = 16 by decide]
        omega
      have hidx : d < (⟨#[48, 49, 50, 51, 52, 53, 54, 55, 56, 57, 97, 98, 99, 100, 101, 102]⟩ : ByteArray).size := hd16
      obtain ⟨y, hy⟩ : ∃ y : Int, ((IP.hexd false d).toNat : Int) = y := ⟨_, rfl⟩
      have E0 : (((⟨#[48, 49, 50, 51, 52, 53, 54, 55, 56, 57, 97, 98, 99, 100, 101, 102]⟩ : ByteArray)[d]'hidx).toNat : Int) = y := (bt_at _ d hidx).trans ((signs_at false d hd16).trans hy)
      have hd0 : 0 ≤ (d : Int) := Int.natCast_nonneg _
      have hd1 : (d : Int) < 16 := by omega
      have HX := hid (And.intro hqn (And.intro hd hy))
      clear hp hqn hd hy
      go_upto_region 5 with fail
      refine wp_region_list ?_
      refine wpList_plain rfl fun K hK => ?_
      have HK := hid hK
      clear hK
      go_wp2_with fail
      refine HK.out _ _ ?_
      clear HK
      refine wpList_plain rfl fun K hK => ?_
      have HK := hid hK
      clear hK
      go_wp2_with fail
      refine HK.out _ _ ?_
      clear HK
      refine wpList_plain rfl fun K hK => ?_
      have HK := hid hK
      clear hK
      go_wp2_with fail
      refine HK.out _ _ ?_
      clear HK
      refine wpList_plain rfl fun K hK => ?_
      have HK := hid hK
      clear hK
      go_wp2_with fail
      refine HK.out _ _ ?_
      clear HK
      refine wpList_plain rfl fun K hK => ?_
      have HK := hid hK
      clear hK
      go_wp2_with fail
      refine HK.out _ _ ?_
      clear HK
      refine wpList_plain rfl fun K hK => ?_
      have HK := hid hK
      clear hK
      go_wp2_with fail
      refine HK.out _ _ ?_
      clear HK
      refine wpList_plain rfl fun K hK => ?_
      have HK := hid hK
      clear hK
      go_wp2_with fail
      refine HK.out _ _ ?_
      clear HK
      refine wpList_bytes rfl rfl 1 _ (.tmp 20) 27 rfl rfl rfl [IP.hexd false d] rfl (by decide) (by decide) (by rw [show bc [IP.hexd false d] = [.int .u8 y] by simp [bc, HX.out.2.2]]; kernel_rfl) B _ _ _ _ rfl rfl rfl hrel.out.1 (Nat.le_trans hB hrel.out.2.size) (by simp [IP.hexW_len]; omega) ?_
      intro v3 w3 ho3 hb3
      have R1 : Hid (w3.ownsRow B 5 1 v3 (n + (92 :: sg :: IP.hexW (c.toNat / 16 ^ (i - 1 + 1).toNat) (N - (i - 1 + 1).toNat)).length) (xs ++ bc (92 :: sg :: IP.hexW (c.toNat / 16 ^ (i - 1 + 1).toNat) (N - (i - 1 + 1).toNat))) ∧ KB B w w3) := by
        refine ⟨?_, hrel.out.2.trans hb3⟩
        have e1 : (i - 1 + 1).toNat = i.toNat := by omega
        have e2 : (i + 1).toNat = i.toNat + 1 := by omega
        have e3 := hexW_step c.toNat i.toNat N (by omega)
        rw [← HX.out.1, HX.out.2.1] at e3
        rw [e2] at ho3
        rw [e1, ← HX.out.1, e3]
        have e4 : (92 :: sg :: (IP.hexW (c.toNat / 16 ^ (i.toNat + 1)) (N - (i.toNat + 1)) ++ [IP.hexd false d])) = (92 :: sg :: IP.hexW (c.toNat / 16 ^ (i.toNat + 1)) (N - (i.toNat + 1))) ++ [IP.hexd false d] := rfl
        rw [e4, bc_append, ← List.append_assoc, List.length_append, ← Nat.add_assoc]
        exact ho3
      clear ho3 hb3 hq an E0
      go_wp2_with fail
      go_roundw
      case rel => exact ⟨v3, i - 1, rfl, rfl, by omega, by omega, R1.out⟩
      case measure => simp [intOf]; omega
    · have hi' : i = -1 := by omega
      subst hi'
      have R1 := hid (show wr.ownsRow B 5 1 u0 (n + (92 :: sg :: IP.hexW c.toNat N).length) (xs ++ bc (92 :: sg :: IP.hexW c.toNat N)) ∧ KB B w wr from by
        have h := hrel.out
        have e : (-1 + 1 : Int).toNat = 0 := by decide
        rw [e, Nat.pow_zero, Nat.div_one, Nat.sub_zero] at h
        exact h)
      go_wp2_with fail
      go_ret
      exact ⟨_, rfl, R1.out⟩
end Go.Proofs.YtaniahkagmjkoaaDoor
