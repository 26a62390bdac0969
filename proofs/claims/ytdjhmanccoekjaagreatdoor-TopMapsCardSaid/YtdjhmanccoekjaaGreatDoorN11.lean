/-
  Texts of this claim, joined: VC, VD, VK, PP, P1, P2, P3.
-/
import Derived.ArgAppend
import Derived.Laws.EntriesVeiled
import Derived.Laws.OwnMore
import Derived.Lib.ConvBytes
import Derived.Deep.LoopGhost
import Derived.Test.YtdjhmanccoekjaaGreatDoorN10
import Derived.Test.YtdjhmanccoekjaaGreatDoorUtf
import Derived.Test.YtdjhmanccoekjaaGreatDoorN1

section
namespace Go.Proofs.YtdjhmanccoekjaaGreatDoor
open Go.RowKit Go.Proofs

theorem ownsRow_base {w : World} {B C n z : Nat} {e : TypeId} {v : Value} {xs : List Value} (h : w.ownsRow C e z v n xs) (hBC : B ≤ C) : w.ownsRow B e z v n xs :=
  ⟨h.1, h.2.imp id fun ⟨g, cap, cur, h1, h2, h3⟩ => ⟨g, cap, cur, h1, Nat.le_trans hBC h2, h3⟩⟩
/-- The block of what append hands back: the old one, or a new one. -/
def NextBlock (w : World) (v v' : Value) : Prop := v'.ownBlock = v.ownBlock ∨ ∃ g, v'.ownBlock = some g ∧ w.heap.size ≤ g
theorem next_of_own {w w' : World} {e : TypeId} {n z : Nat} {v v' : Value} {xs : List Value} (h : w'.ownsRow w.heap.size e z v' n xs) (hn : 0 < n) : NextBlock w v v' := by
  rcases h.2 with ⟨_, h0⟩ | ⟨g, cap, cur, rfl, hg, _⟩
  · omega
  · exact .inr ⟨g, rfl, hg⟩
theorem run_append_own2 {P : Program} (w : World) (base : Nat) (t ty e : TypeId) (i : TypeInfo) (z : Value) (size bytes : Nat) (ht : P.underlying t = some (.slice e)) (hi : P.info? e = some i) (hz : i.zero = some z)
    (hsize : i.size = size) (hby : i.bytes = bytes) (hzs : z.cells.size = size) (hsz : 0 < size)
    (v : Value) (n : Nat) (xs : List Value) (hown : w.ownsRow base e size v n xs)
    (a : Addr) (m c : Nat) (news : List Value) (hl : news.length = m * size) (hnews : ∀ j u, news[j]? = some u → w.cell? (a.add j) = some u) (h1 : ∀ u ∈ news, u.oneCell' = true)
    (h63 : n + m ≤ maxLen) (hbytes : (n + m) * bytes ≤ 140737488355328) (hbase : base ≤ w.heap.size) (hm : 0 < m) :
    ∃ v' w', (Builtin.append_ #[t, t] ty #[v, .slice (some a) m c]).run P w = .ok v' w' ∧ w'.ownsRow base e size v' (n + m) (xs ++ news) ∧ w.grownBy w' v.ownBlock ∧ NextBlock w v v' := by
  obtain ⟨v', w', hr, ho, hg, _⟩ := run_append_own (P := P) w base t ty e i z size bytes ht hi hz hsize hby hzs hsz v n xs hown a m c news hl hnews h1 h63 hbytes hbase
  refine ⟨v', w', hr, ho, hg, ?_⟩
  rcases hown.2 with ⟨rfl, rfl⟩ | ⟨g, cap, cur, rfl, hbg, hgc, hnc, hcm, hcs, htake⟩
  · have hx : xs = [] := List.eq_nil_of_length_eq_zero (by simpa using hown.1)
    subst hx
    obtain ⟨v2, w2, hr2, ho2, _, _⟩ := run_append_own (P := P) w w.heap.size t ty e i z size bytes ht hi hz hsize hby hzs hsz (.slice none 0 0) 0 [] (World.ownsRow_nil _ _ _ _) a m c news hl hnews h1 h63 hbytes (Nat.le_refl _)
    rw [hr] at hr2
    cases hr2
    exact next_of_own ho2 (by omega)
  · by_cases hroom : n + m ≤ cap
    · have hfit : n * i.size + news.length ≤ cur.size := by rw [hl, hcs, hsize, ← Nat.add_mul]; exact Nat.mul_le_mul_right _ hroom
      have hr2 := run_append_room (P := P) w t ty e i ht hi g n cap cur hgc a m c news (by rw [hsize]; exact hl) hnews h1 hroom hfit
      rw [hr] at hr2
      cases hr2
      exact .inl rfl
    · obtain ⟨v2, w2, hr2, ho2, _⟩ := run_append_arg_grows (P := P) w t ty e i z size bytes ht hi hz hsize hby hzs hsz ⟨g, 0, none⟩ n cap xs hown.1 (hown.cells (g := g) rfl) a m c news hl hnews (by omega) h63 hbytes
      rw [hr] at hr2
      cases hr2
      exact next_of_own ho2 (by omega)
theorem wp_append_own2 {P : Program} (w : World) {o : Oper} {a : Act} {K : Act → World → Prop} {Q : Exit → Act → World → Prop} (s x : Operand) (t : TypeId)
    (ho : o.op = .call { callee := .builtin .append, args := #[s, x], argTypes := #[t, t] })
    (base : Nat) (e : TypeId) (i : TypeInfo) (z : Value) (size bytes : Nat) (ht : P.underlying t = some (.slice e)) (hi : P.info? e = some i) (hz : i.zero = some z)
    (hsize : i.size = size) (hby : i.bytes = bytes) (hzs : z.cells.size = size) (hsz : 0 < size)
    (v : Value) (n : Nat) (xs : List Value) (hs : a.eval s = v) (hown : w.ownsRow base e size v n xs)
    (ad : Addr) (m c : Nat) (news : List Value) (hx : a.eval x = .slice (some ad) m c) (hl : news.length = m * size) (hnews : ∀ j u, news[j]? = some u → w.cell? (ad.add j) = some u) (h1 : ∀ u ∈ news, u.oneCell' = true)
    (h63 : n + m ≤ maxLen) (hbytes : (n + m) * bytes ≤ 140737488355328) (hbase : base ≤ w.heap.size) (hm : 0 < m)
    (h : ∀ v' w', w'.ownsRow base e size v' (n + m) (xs ++ news) → w.grownBy w' v.ownBlock → NextBlock w v v' → K (a.put o.dst v') w') : o.wp P a w K Q := by
  obtain ⟨v', w', hr, h2, h3, h4⟩ := run_append_own2 (P := P) w base t o.type e i z size bytes ht hi hz hsize hby hzs hsz v n xs hown ad m c news hl hnews h1 h63 hbytes hbase hm
  unfold Oper.wp execOp
  simp only [ho, resolve, invoke, builtin, Sem.run_bind, Sem.run_pure, Result.andThen_ok, List.map_toArray, List.map_cons, List.map_nil, hs, hx, hr]
  exact h v' w' h2 h3 h4

/-- A value with what stands in it: one without parts, or one of a kind with parts (a map's: keys and values by turns). -/
inductive VT where
  | leaf (v : Value)
  | node (k : Int) (ty : ByteArray) (hk addr : Int) (nm : List ByteArray) (l : List VT)
theorem VT.ind {P : VT → Prop} (h0 : ∀ v, P (.leaf v)) (h : ∀ k ty hk addr nm l, (∀ x ∈ l, P x) → P (.node k ty hk addr nm l)) : ∀ T, P T
  | .leaf v => h0 v
  | .node k ty hk addr nm l => h k ty hk addr nm l fun x _ => VT.ind h0 h x
/-- Names and values by turns. -/
def inter : List ByteArray → List Value → List Value
  | s :: ss, u :: us => .string s :: u :: inter ss us
  | _, _ => []
/-- The cells of what stands in a value. -/
def rowC (k : Int) (nm : List ByteArray) (us : List Value) : List Value := if k = 18 then inter nm us else us
/-- How many there are. -/
def itemN (k : Int) (us : List Value) : Nat := if k = 21 then us.length / 2 else us.length
/-- A value of a kind with parts. -/
def nodeV (k : Int) (ty : ByteArray) (hk addr : Int) (sl tp : Value) : Value :=
  if k = 18 then .iface 193 (.agg #[.int .i64 k, .string ty, .int .i64 hk, sl])
  else if k = 21 then .iface 198 (.agg #[.int .i64 k, .string ty, .int .i64 hk, sl])
  else if k = 22 then .iface 148 (.agg #[.int .i64 k, .string ty, .int .i64 hk, .int .u64 addr, tp])
  else .iface 195 (.agg #[.int .i64 k, .string ty, .int .i64 hk, sl])
def toV : List Value → Value
  | [] => .nilIface
  | u :: _ => u
/-- A row of cells in one of some blocks. -/
def RowAt (w : World) (S : Nat → Prop) (sl : Value) (n : Nat) (cs : List Value) : Prop :=
  ∃ A cap, sl = .slice A n cap ∧ (cs ≠ [] → ∃ g cur T, A = some ⟨g, 0, none⟩ ∧ S g ∧ Blk w g cur T ∧ T ≠ 5 ∧ ∀ (j : Nat) v, cs[j]? = some v → cur[j]? = some v)
/-- A value in memory, all of its blocks among some. -/
inductive VAt (w : World) (S : Nat → Prop) : Value → VT → Prop
  | leaf (v : Value) (T : TypeId) (x : Value) (h : v = .iface T x) : VAt w S v (.leaf v)
  | node (k : Int) (ty : ByteArray) (hk addr : Int) (nm : List ByteArray) (l : List VT) (sl : Value) (us : List Value) (hl : us.length = l.length)
      (hr : k ≠ 22 → RowAt w S sl (itemN k us) (rowC k nm us)) (hc : ∀ (i : Nat) u x, us[i]? = some u → l[i]? = some x → VAt w S u x) : VAt w S (nodeV k ty hk addr sl (toV us)) (.node k ty hk addr nm l)
theorem RowAt.mono {w w' : World} {S S' : Nat → Prop} {sl : Value} {n : Nat} {cs : List Value} (h : RowAt w S sl n cs) (hS : ∀ b cur T, S b → Blk w b cur T → T ≠ 5 → S' b ∧ Blk w' b cur T) : RowAt w' S' sl n cs := by
  obtain ⟨A, cap, h1, h2⟩ := h
  refine ⟨A, cap, h1, fun hne => ?_⟩
  obtain ⟨g, cur, T, e1, e2, e3, e4, e5⟩ := h2 hne
  obtain ⟨s1, s2⟩ := hS g cur T e2 e3 e4
  exact ⟨g, cur, T, e1, s1, s2, e4, e5⟩
theorem VAt.monoB {w w' : World} {S S' : Nat → Prop} (hS : ∀ b cur T, S b → Blk w b cur T → T ≠ 5 → S' b ∧ Blk w' b cur T) : ∀ {v : Value} {T : VT}, VAt w S v T → VAt w' S' v T := by
  intro v T h
  induction h with
  | leaf v T x h => exact .leaf v T x h
  | node k ty hk addr nm l sl us hl hr _ ih => exact .node k ty hk addr nm l sl us hl (fun hk => (hr hk).mono hS) ih
theorem VAt.mono {w w' : World} {S S' : Nat → Prop} (hS : ∀ b, S b → b < w.heap.size → S' b ∧ w'.heap[b]? = w.heap[b]?) {v : Value} {T : VT} (h : VAt w S v T) : VAt w' S' v T :=
  h.monoB fun b _ _ hb hk _ => ⟨(hS b hb hk.lt).1, hk.same (hS b hb hk.lt).2⟩
theorem VAt.keep {w w' : World} {S : Nat → Prop} {v : Value} {T : VT} (h : VAt w S v T) (hb : Below w.heap.size w w') : VAt w' S v T := h.mono fun b hs hlt => ⟨hs, hb.block b hlt⟩
theorem VAt.iface {w : World} {S : Nat → Prop} {v : Value} {T : VT} (h : VAt w S v T) : ∃ t x, v = .iface t x := by
  cases h with
  | leaf v t x h => exact ⟨t, x, h⟩
  | node k ty hk addr nm l sl us =>
    unfold nodeV
    split
    · exact ⟨_, _, rfl⟩
    split
    · exact ⟨_, _, rfl⟩
    split
    · exact ⟨_, _, rfl⟩
    exact ⟨_, _, rfl⟩
end Go.Proofs.YtdjhmanccoekjaaGreatDoor
end

section
namespace Go.Proofs.YtdjhmanccoekjaaGreatDoor
open Go.Shelf Go.RowKit Go.Lib Go.Sort Go.Proofs

/-- An entry: its key, its value as it lies, its value as a tree. -/
structure En where
  kv : KV
  ok : kv.ok
  T : TypeId
  x : Value
  V : VT
abbrev En.u (e : En) : Value := .iface e.T e.x
instance : Inhabited En := ⟨⟨⟨1, ⟨#[]⟩, 0, .b false⟩, rfl, 0, .nilIface, .leaf .nilIface⟩⟩
def encE (e : En) : List Value := [kvV e.kv, e.u]
def cmpE (a b : En) : Int := cmpK a.kv b.kv
theorem kv_iface (a : KV) : ∃ T x, kvV a = .iface T x := by
  obtain ⟨k, ty, hk, x⟩ := a
  cases x <;> exact ⟨_, _, rfl⟩
set_option maxRecDepth 100000 in
set_option maxHeartbeats 2000000 in
theorem great1_any (a b : KV) (T1 T2 : TypeId) (x1 x2 : Value) (w : World) (ha : a.ok) (hb : b.ok) :
    Calls Tryz.prog 159 #[.agg #[kvV a, .iface T1 x1], .agg #[kvV b, .iface T2 x2]] w fun e w' => e = .returned (.int .i64 (cmpK a b)) ∧ Grown w w' := by
  have OR := hid (fun W => order_any a b W ha hb)
  obtain ⟨t1, y1, h1⟩ := kv_iface a
  obtain ⟨t2, y2, h2⟩ := kv_iface b
  obtain ⟨r, hr⟩ : ∃ r, cmpK a b = r := ⟨_, rfl⟩
  rw [h1, h2, hr] at OR
  rw [h1, h2, hr]
  clear h1 h2 hr
  go_enter Tryz.func159, Tryz.ntmps159
  go_wp2_with fail
  refine (OR.out _).mono ?_
  rintro e w1 ⟨rfl, g1⟩
  have G1 := hid ((((Grown.refl w).alloc _).alloc _).trans g1)
  clear g1
  go_wp2_with fail
  go_ret
  exact ⟨rfl, G1.out⟩
theorem cmpLaysE (blk off size : Nat) (w : World) : CmpLays Tryz.prog 159 #[] encE 2 cmpE blk off size w :=
  fun _ _ _ _ x y => great1_any x.kv y.kv x.T y.T x.x y.x _ x.ok y.ok
def Tryz.ins_ren : Go.Shelf.Ren := ⟨fun | 20 => 201 | n => n, fun | 0 => 0 | 3 => 3 | 4 => 4 | 22 => 196 | 24 => 252 | 25 => 255 | n => n, fun n => n⟩
set_option maxRecDepth 100000 in
theorem Tryz.ins_lays : SlLaysF0.n20 Tryz.prog Tryz.ins_ren := {
  mixed := by kernel_rfl
  f20 := ⟨"slices.insertionSortCmpFunc[platen/values.Entry]", by decide, Tryz.func201.trans (congrArg some (by kernel_rfl))⟩
  t0 := Tryz.underlying0
  a0 := Tryz.isAgg0
  z0 := Tryz.sizeOf0
  v0 := Tryz.zeroValue0
  t3 := Tryz.underlying3
  a3 := Tryz.isAgg3
  z3 := Tryz.sizeOf3
  v3 := Tryz.zeroValue3
  t4 := Tryz.underlying4
  a4 := Tryz.isAgg4
  z4 := Tryz.sizeOf4
  v4 := Tryz.zeroValue4
  t22 := Tryz.underlying196
  a22 := Tryz.isAgg196
  z22 := Tryz.sizeOf196
  v22 := Tryz.zeroValue196
  t25 := Tryz.underlying255
  a25 := Tryz.isAgg255
  z25 := Tryz.sizeOf255
  v25 := Tryz.zeroValue255 }
theorem encE_one (e : En) : ∀ v ∈ encE e, v.oneCell' = true := by
  intro v hv
  simp only [encE, List.mem_cons, List.not_mem_nil, or_false] at hv
  rcases hv with rfl | rfl
  · obtain ⟨T, x, h⟩ := kv_iface e.kv
    rw [h]; rfl
  · rfl
theorem insE_any (blk cap a b : Nat) (d : Array En) (w : World) (hH : HoldsK encE 2 w blk 0 d) (hblk : blk < w.heap.size) (hab : a ≤ b) (hb : b ≤ d.size) (hsz : d.size < 4611686018427387904) :
    Calls Tryz.prog 201 #[.slice (some ⟨blk, 0, none⟩) d.size cap, .int .i64 a, .int .i64 b, .func (.func 159) #[] #[]] w fun e w' =>
      e = .returned (.tuple #[]) ∧ ∃ n os, w' = sortWorldK encE 2 w blk 0 n (Sort.insertionSort (ltOf cmpE) d a b) os :=
  AnyQ.insertionSortCmpFunc Tryz.ins_lays 2 Tryz.isAgg252 Tryz.sizeOf252 encE (fun _ => rfl) encE_one cmpE 159 #[] blk 0 cap a b d w
    (enters_of Tryz.func159 (by kernel_rfl) rfl) (cmpLaysE blk 0 d.size w) hH hblk hab hb hsz
set_option maxHeartbeats 2000000 in
set_option maxRecDepth 100000 in
theorem stableE_small (blk cap : Nat) (d : Array En) (w : World) (hH : HoldsK encE 2 w blk 0 d) (hblk : blk < w.heap.size) (h19 : d.size ≤ 19) :
    Calls Tryz.prog 177 #[.slice (some ⟨blk, 0, none⟩) d.size cap, .int .i64 d.size, .func (.func 159) #[] #[]] w fun e w' =>
      e = .returned (.tuple #[]) ∧ ∃ n os, w' = sortWorldK encE 2 w blk 0 n (Sort.insertionSort (ltOf cmpE) d 0 d.size) os := by
  have IN := hid (insE_any blk cap 0 d.size d w hH hblk (Nat.zero_le _) (Nat.le_refl _) (by omega))
  obtain ⟨n, hn⟩ : ∃ n, d.size = n := ⟨_, rfl⟩
  obtain ⟨r, hr⟩ : ∃ r, Sort.insertionSort (ltOf cmpE) d 0 d.size = r := ⟨_, rfl⟩
  rw [hr] at IN ⊢
  rw [hn] at IN h19 ⊢
  have d1 : decide ((20 : Int) ≤ n) = false := decide_eq_false (by omega)
  have d2 : decide ((20 : Int) < n) = false := decide_eq_false (by omega)
  clear hH hn hr
  go_enter Tryz.func177, Tryz.ntmps177
  go_wp2_with fail
  refine wp_loop_rounds 1 ?_
  rw [rounds_succ]
  go_wp2_with fail
  refine IN.out.mono ?_
  rintro e w1 ⟨rfl, m, os, hw⟩
  have HW := hid hw
  clear hw
  go_wp2_with fail
  refine wp_loop_rounds 1 ?_
  rw [rounds_succ]
  go_wp2_with fail
  go_end0
  exact ⟨rfl, m, os, HW.out⟩
set_option maxHeartbeats 2000000 in
set_option maxRecDepth 100000 in
theorem sortE_small (blk cap : Nat) (d : Array En) (w : World) (hH : HoldsK encE 2 w blk 0 d) (hblk : blk < w.heap.size) (h19 : d.size ≤ 19) :
    Calls Tryz.prog 158 #[.slice (some ⟨blk, 0, none⟩) d.size cap, .func (.func 159) #[] #[]] w fun e w' =>
      e = .returned (.tuple #[]) ∧ ∃ n os, w' = sortWorldK encE 2 w blk 0 n (Sort.insertionSort (ltOf cmpE) d 0 d.size) os := by
  have IN := hid (stableE_small blk cap d w hH hblk h19)
  obtain ⟨n, hn⟩ : ∃ n, d.size = n := ⟨_, rfl⟩
  obtain ⟨r, hr⟩ : ∃ r, Sort.insertionSort (ltOf cmpE) d 0 d.size = r := ⟨_, rfl⟩
  rw [hr] at IN ⊢
  rw [hn] at IN ⊢
  clear hH hn hr h19
  go_enter Tryz.func158, Tryz.ntmps158
  go_wp2_with fail
  refine IN.out.mono ?_
  rintro e w1 ⟨rfl, hw⟩
  go_wp2_with fail
  go_end0
  exact ⟨rfl, hw⟩
end Go.Proofs.YtdjhmanccoekjaaGreatDoor
end

section
namespace Go.Proofs.YtdjhmanccoekjaaGreatDoor
open Go.RowKit Go.Proofs

/-- An order by three answers. -/
structure C3 {α : Type} (c : α → α → Int) : Prop where
  swap : ∀ a b, c b a = -(c a b)
  trans : ∀ a b d, c a b < 0 → c b d < 0 → c a d < 0
  cong : ∀ a b, c a b = 0 → ∀ d, c a d = c b d
theorem C3.refl {α : Type} {c : α → α → Int} (h : C3 c) (a : α) : c a a = 0 := by have := h.swap a a; omega
theorem C3.on {α β : Type} {c : α → α → Int} (h : C3 c) (f : β → α) : C3 fun a b => c (f a) (f b) :=
  ⟨fun a b => h.swap (f a) (f b), fun a b d => h.trans (f a) (f b) (f d), fun a b e d => h.cong (f a) (f b) e (f d)⟩
theorem C3.lex {α : Type} {c d : α → α → Int} (hc : C3 c) (hd : C3 d) : C3 fun a b => if c a b = 0 then d a b else c a b := by
  refine ⟨fun a b => ?_, fun a b e h1 h2 => ?_, fun a b h e => ?_⟩
  · have h1 := hc.swap a b
    have h2 := hd.swap a b
    show (if c b a = 0 then d b a else c b a) = -(if c a b = 0 then d a b else c a b)
    by_cases h : c a b = 0
    · rw [if_pos h, if_pos (by omega)]; exact h2
    · rw [if_neg h, if_neg (by omega)]; exact h1
  · show (if c a e = 0 then d a e else c a e) < 0
    replace h1 : (if c a b = 0 then d a b else c a b) < 0 := h1
    replace h2 : (if c b e = 0 then d b e else c b e) < 0 := h2
    by_cases ha : c a b = 0
    · rw [if_pos ha] at h1
      have e1 := hc.cong a b ha e
      by_cases hb : c b e = 0
      · rw [if_pos hb] at h2
        rw [if_pos (by omega)]
        exact hd.trans a b e h1 h2
      · rw [if_neg hb] at h2
        rw [if_neg (by omega), e1]
        exact h2
    · rw [if_neg ha] at h1
      by_cases hb : c b e = 0
      · have s1 := hc.swap b a
        have s2 := hc.swap b e
        have e2 := hc.cong b e hb a
        have s3 := hc.swap e a
        rw [if_neg (by omega)]
        omega
      · rw [if_neg hb] at h2
        have := hc.trans a b e h1 h2
        rw [if_neg (by omega)]
        exact this
  · show (if c a e = 0 then d a e else c a e) = (if c b e = 0 then d b e else c b e)
    replace h : (if c a b = 0 then d a b else c a b) = 0 := h
    by_cases h0 : c a b = 0
    · rw [if_pos h0] at h
      rw [hc.cong a b h0 e, hd.cong a b h e]
    · rw [if_neg h0] at h
      exact absurd h h0
theorem c3_int : C3 Lib.compareInt := by
  refine ⟨fun a b => ?_, fun a b d h1 h2 => ?_, fun a b h d => ?_⟩
  · unfold Lib.compareInt
    (repeat' split) <;> omega
  · unfold Lib.compareInt at h1 h2 ⊢
    split at h1 <;> split at h2 <;> first | (rw [if_pos (by omega)]; decide) | (exfalso; (repeat' split at h1); all_goals (repeat' split at h2); all_goals omega)
  · unfold Lib.compareInt at h
    have : a = b := by
      split at h
      · omega
      · split at h
        · omega
        · omega
    rw [this]
theorem cb_swap : ∀ a b : List UInt8, Lib.compareBytes b a = -(Lib.compareBytes a b)
  | [], [] => rfl
  | [], _ :: _ => rfl
  | _ :: _, [] => rfl
  | a :: ar, b :: br => by
    have ih := cb_swap ar br
    unfold Lib.compareBytes
    by_cases h1 : a < b
    · have h2 : ¬ b < a := fun h => by have := UInt8.lt_iff_toNat_lt.1 h; have := UInt8.lt_iff_toNat_lt.1 h1; omega
      rw [if_neg h2, if_pos h1, if_pos h1]; rfl
    · by_cases h2 : b < a
      · rw [if_pos h2, if_neg h1, if_pos h2]
      · rw [if_neg h2, if_neg h1, if_neg h1, if_neg h2]; exact ih
theorem cb_eq : ∀ a b : List UInt8, Lib.compareBytes a b = 0 → a = b
  | [], [], _ => rfl
  | [], _ :: _, h => by cases h
  | _ :: _, [], h => by cases h
  | a :: ar, b :: br, h => by
    unfold Lib.compareBytes at h
    by_cases h1 : a < b
    · rw [if_pos h1] at h; cases h
    · rw [if_neg h1] at h
      by_cases h2 : b < a
      · rw [if_pos h2] at h; cases h
      · rw [if_neg h2] at h
        have e : a = b := by
          have q1 : ¬ a.toNat < b.toNat := fun q => h1 (UInt8.lt_iff_toNat_lt.2 q)
          have q2 : ¬ b.toNat < a.toNat := fun q => h2 (UInt8.lt_iff_toNat_lt.2 q)
          exact UInt8.toNat_inj.1 (by omega)
        rw [e, cb_eq ar br h]
theorem cb_trans : ∀ a b d : List UInt8, Lib.compareBytes a b < 0 → Lib.compareBytes b d < 0 → Lib.compareBytes a d < 0
  | [], [], _, h, _ => by cases h
  | [], _ :: _, [], _, h => by cases h
  | [], _ :: _, _ :: _, _, _ => by unfold Lib.compareBytes; decide
  | _ :: _, [], _, h, _ => by cases h
  | _ :: _, _ :: _, [], _, h => by cases h
  | a :: ar, b :: br, d :: dr, h1, h2 => by
    unfold Lib.compareBytes at h1 h2 ⊢
    have T : ∀ x y : UInt8, x < y ↔ x.toNat < y.toNat := fun _ _ => UInt8.lt_iff_toNat_lt
    by_cases a1 : a < b
    · by_cases b1 : b < d
      · rw [if_pos (by rw [T] at *; omega)]; decide
      · rw [if_neg b1] at h2
        by_cases b2 : d < b
        · rw [if_pos b2] at h2; cases h2
        · rw [if_pos (by rw [T] at *; omega)]; decide
    · rw [if_neg a1] at h1
      by_cases a2 : b < a
      · rw [if_pos a2] at h1; cases h1
      · rw [if_neg a2] at h1
        by_cases b1 : b < d
        · rw [if_pos (by rw [T] at *; omega)]; decide
        · rw [if_neg b1] at h2
          by_cases b2 : d < b
          · rw [if_pos b2] at h2; cases h2
          · rw [if_neg b2] at h2
            rw [if_neg (by rw [T] at *; omega), if_neg (by rw [T] at *; omega)]
            exact cb_trans ar br dr h1 h2
theorem c3_bytes : C3 Lib.compareBytes := ⟨cb_swap, cb_trans, fun a b h d => by rw [cb_eq a b h]⟩
def KX.i' : KX → Int
  | .b x => if x then 1 else 0
  | .i x => x
  | .u x => x
  | .t _ => 0
def KX.t' : KX → List UInt8
  | .t x => x.data.toList
  | _ => []
/-- The order of keys, said by parts. -/
def cmpL (a b : KV) : Int :=
  (fun a b : KV => if (fun a b : KV => Lib.compareInt a.k b.k) a b = 0 then
    (fun a b : KV => if (fun a b : KV => Lib.compareInt a.x.i' b.x.i') a b = 0 then
      (fun a b : KV => if (fun a b : KV => Lib.compareBytes a.x.t' b.x.t') a b = 0 then (fun a b : KV => Lib.compareBytes a.ty.data.toList b.ty.data.toList) a b else (fun a b : KV => Lib.compareBytes a.x.t' b.x.t') a b) a b
      else (fun a b : KV => Lib.compareInt a.x.i' b.x.i') a b) a b else (fun a b : KV => Lib.compareInt a.k b.k) a b) a b
theorem c3_L : C3 cmpL := (c3_int.on _).lex ((c3_int.on _).lex ((c3_bytes.on _).lex (c3_bytes.on _)))
theorem ci_zero (x y : Int) : Lib.compareInt x y = 0 ↔ x = y := by
  unfold Lib.compareInt
  constructor
  · intro h
    split at h
    · omega
    · split at h <;> omega
  · rintro rfl
    rw [if_neg (by omega), if_neg (by omega)]
theorem cmpK_L (a b : KV) (ha : a.ok) (hb : b.ok) : cmpK a b = cmpL a b := by
  obtain ⟨k, t1, h1, x⟩ := a
  obtain ⟨k2, t2, h2, y⟩ := b
  unfold cmpK cmpL
  simp only
  by_cases hk : k = k2
  · subst hk
    rw [if_pos rfl, if_pos ((ci_zero _ _).2 rfl)]
    cases x <;> cases y <;> simp only [KV.ok] at ha hb <;> first | (exfalso; omega) | skip
    · rename_i x y
      cases x <;> cases y <;> rfl
    · rename_i x y
      show (if Lib.compareInt x y = 0 then Lib.compareBytes t1.data.toList t2.data.toList else Lib.compareInt x y) = (if Lib.compareInt x y = 0 then (if Lib.compareBytes [] [] = 0 then Lib.compareBytes t1.data.toList t2.data.toList else Lib.compareBytes [] []) else Lib.compareInt x y)
      rfl
    · rename_i x y
      show (if Lib.compareInt x y = 0 then Lib.compareBytes t1.data.toList t2.data.toList else Lib.compareInt x y) = (if Lib.compareInt x y = 0 then (if Lib.compareBytes [] [] = 0 then Lib.compareBytes t1.data.toList t2.data.toList else Lib.compareBytes [] []) else Lib.compareInt x y)
      rfl
    · rename_i x y
      rfl
  · rw [if_neg hk, if_neg (fun h => hk ((ci_zero _ _).1 h))]
theorem swoE : Go.Sort.SWO (ltOf cmpE) := by
  have e : ∀ a b : En, cmpE a b = cmpL a.kv b.kv := fun a b => cmpK_L a.kv b.kv a.ok b.ok
  refine ⟨fun a => ?_, fun a b d h1 h2 => ?_, fun a b d h1 h2 => ?_⟩
  · unfold ltOf
    rw [e, c3_L.refl]; rfl
  · unfold ltOf at h1 h2 ⊢
    rw [e] at h1 h2 ⊢
    exact decide_eq_true (c3_L.trans _ _ _ (of_decide_eq_true h1) (of_decide_eq_true h2))
  · unfold ltOf at h1 h2 ⊢
    rw [e] at h1 h2 ⊢
    have q1 := of_decide_eq_false h1
    have q2 := of_decide_eq_false h2
    refine decide_eq_false fun q => ?_
    have s1 := c3_L.swap a.kv b.kv
    by_cases z : cmpL a.kv b.kv = 0
    · have := c3_L.cong _ _ z d.kv
      omega
    · have := c3_L.trans b.kv a.kv d.kv (by omega) q
      omega
/-- A sorted row without two alike is the only one. -/
theorem sorted_one {s t : List (KV × VT)} (hp : s.Perm t) (hs : s.Pairwise fun a b => cmpK a.1 b.1 < 0) (ht : t.Pairwise fun a b => cmpK a.1 b.1 < 0) (ho : ∀ x ∈ s, x.1.ok) : s = t := by
  refine List.Perm.eq_of_pairwise (le := fun a b => cmpK a.1 b.1 < 0) (fun a b ha hb h1 h2 => ?_) hs ht hp
  have hb' := hp.mem_iff.2 hb
  rw [cmpK_L _ _ (ho a ha) (ho b hb')] at h1
  rw [cmpK_L _ _ (ho b hb') (ho a ha)] at h2
  have := c3_L.swap a.1 b.1
  omega
end Go.Proofs.YtdjhmanccoekjaaGreatDoor
end

section
namespace Go.Proofs.YtdjhmanccoekjaaGreatDoor.PP

structure Ix where
  k : Int
  n : Int
structure Nm where
  k : Int
  n : Int
  a : Ix
structure Fl where
  pl : Bool
  mi : Bool
  sh : Bool
  sp : Bool
  ze : Bool
structure Pc where
  k : Int
  text : List UInt8
  f : Fl
  wid : Int
  prec : Int
  verb : Int
  w : Nm
  p : Nm
  a : Ix

def isD (a : UInt8) : Bool := decide (48 ≤ a.toNat) && decide (a.toNat ≤ 57)
def dg (l : List UInt8) : List UInt8 := l.takeWhile isD
def rs (l : List UInt8) : List UInt8 := l.dropWhile isD
theorem dg_rs (l : List UInt8) : dg l ++ rs l = l := List.takeWhile_append_dropWhile
theorem rs_drop (l : List UInt8) : rs l = l.drop (dg l).length := by
  have h := dg_rs l
  conv => rhs; rw [← h]
  rw [show (dg (dg l ++ rs l)).length = (dg l).length by rw [h], List.drop_left]

/-- The number of digits; -1: above a limit. -/
def valL (limit : Int) : Int → List UInt8 → Int
  | n, [] => n
  | n, a :: t => if limit < 10 * n + ((a.toNat : Int) - 48) then -1 else valL limit (10 * n + ((a.toNat : Int) - 48)) t

/-- The byte that comes next; 0: none. -/
def pk : List UInt8 → Int
  | [] => 0
  | a :: _ => a.toNat

def flOn (f : Fl) (a : UInt8) : Option Fl :=
  if a.toNat = 43 then some { f with pl := true } else if a.toNat = 45 then some { f with mi := true } else if a.toNat = 35 then some { f with sh := true }
  else if a.toNat = 32 then some { f with sp := true } else if a.toNat = 48 then some { f with ze := true } else none
def flL : Fl → List UInt8 → Fl × List UInt8
  | f, [] => (f, [])
  | f, a :: t => match flOn f a with
    | some g => flL g t
    | none => (f, a :: t)

def ixL (l : List UInt8) : Ix × List UInt8 :=
  match l with
  | [] => (⟨0, 0⟩, [])
  | a :: t =>
    if a.toNat = 91 then
      if dg t = [] then (⟨2, 0⟩, t)
      else match rs t with
        | [] => (⟨2, 0⟩, t)
        | b :: r => if b.toNat = 93 then (if 0 < valL 999999999 0 (dg t) ∧ (dg t).length ≤ 9 then (⟨1, valL 999999999 0 (dg t)⟩, r) else (⟨2, 0⟩, r)) else (⟨2, 0⟩, t)
    else (⟨0, 0⟩, a :: t)

def spoil (x : Ix) : Ix := if x.k = 0 then x else ⟨2, 0⟩
def andI (x y : Ix) : Ix := if y.k = 0 then x else if x.k = 0 then y else ⟨2, 0⟩

def nmL (x : Ix) (always : Bool) (l : List UInt8) : Nm × Ix × List UInt8 :=
  if pk l = 42 then (⟨2, 0, x⟩, ⟨0, 0⟩, l.drop 1)
  else if (49 ≤ pk l ∧ pk l ≤ 57) ∨ (always = true ∧ pk l = 48) then (⟨1, valL 1000 0 (dg l), ⟨0, 0⟩⟩, spoil x, rs l)
  else if always then (⟨1, 0, ⟨0, 0⟩⟩, x, l)
  else (⟨0, 0, ⟨0, 0⟩⟩, x, l)

/-- Behind the point, if one stands there: the precision, what becomes of the verb's index, what is left. -/
def prL (a : Ix) (l : List UInt8) : Nm × Ix × List UInt8 :=
  if pk l = 46 then
    let i := ixL (l.drop 1)
    let n := nmL i.1 true i.2
    (n.1, andI (spoil a) n.2.1, n.2.2)
  else (⟨0, 0, ⟨0, 0⟩⟩, a, l)

/-- A directive behind its %: the piece, and what is left. -/
def dirL (l : List UInt8) : Pc × List UInt8 :=
  let f := flL ⟨false, false, false, false, false⟩ l
  let i := ixL f.2
  let w := nmL i.1 false i.2
  let p := prL w.2.1 w.2.2
  let j := ixL p.2.2
  let a := andI p.2.1 j.1
  if j.2 = [] then (⟨2, 37 :: l, f.1, -1, -1, 0, w.1, p.1, a⟩, [])
  else (⟨1, 37 :: l.take (l.length - (j.2.drop (Utf.decL j.2).2).length), f.1, -1, -1, (Utf.decL j.2).1, w.1, p.1, a⟩, j.2.drop (Utf.decL j.2).2)

theorem flL_len : ∀ (l : List UInt8) (f : Fl), (flL f l).2.length ≤ l.length
  | [], f => by simp [flL]
  | a :: t, f => by
    unfold flL
    split
    · rename_i g _
      have := flL_len t g
      simp only [List.length_cons]; omega
    · exact Nat.le_refl _
theorem rs_len (l : List UInt8) : (rs l).length ≤ l.length := by rw [rs_drop, List.length_drop]; omega
theorem ixL_len (l : List UInt8) : (ixL l).2.length ≤ l.length := by
  unfold ixL
  split
  · exact Nat.le_refl _
  · rename_i a t
    split
    · split
      · simp
      · split
        · simp
        · rename_i b r hr
          have := rs_len t
          rw [hr] at this
          simp only [List.length_cons] at *
          split
          · split <;> simp only [] <;> omega
          · simp only []; omega
    · exact Nat.le_refl _
theorem nmL_len (x : Ix) (al : Bool) (l : List UInt8) : (nmL x al l).2.2.length ≤ l.length := by
  unfold nmL
  split
  · simp
  · split
    · exact rs_len l
    · split <;> exact Nat.le_refl _
theorem prL_len (a : Ix) (l : List UInt8) : (prL a l).2.2.length ≤ l.length := by
  unfold prL
  split
  · have h1 := ixL_len (l.drop 1)
    have h2 := nmL_len (ixL (l.drop 1)).1 true (ixL (l.drop 1)).2
    simp only [List.length_drop] at *
    omega
  · exact Nat.le_refl _
theorem dirL_len (l : List UInt8) : (dirL l).2.length ≤ l.length := by
  unfold dirL
  simp only []
  have h1 := flL_len l ⟨false, false, false, false, false⟩
  have h2 := ixL_len (flL ⟨false, false, false, false, false⟩ l).2
  have h3 := nmL_len (ixL (flL ⟨false, false, false, false, false⟩ l).2).1 false (ixL (flL ⟨false, false, false, false, false⟩ l).2).2
  generalize nmL (ixL (flL ⟨false, false, false, false, false⟩ l).2).1 false (ixL (flL ⟨false, false, false, false, false⟩ l).2).2 = w at *
  have h4 := prL_len w.2.1 w.2.2
  generalize prL w.2.1 w.2.2 = p at *
  have h5 := ixL_len p.2.2
  split
  · simp
  · simp only [List.length_drop]
    omega

/-- A literal. -/
def litP (t : List UInt8) : Pc := ⟨0, t, ⟨false, false, false, false, false⟩, 0, 0, 0, ⟨0, 0, ⟨0, 0⟩⟩, ⟨0, 0, ⟨0, 0⟩⟩, ⟨0, 0⟩⟩
def notPct (a : UInt8) : Bool := !decide (a.toNat = 37)

/-- The pieces of a format. -/
def parseL (l : List UInt8) : List Pc :=
  match l with
  | [] => []
  | a :: t => if a.toNat = 37 then (dirL t).1 :: parseL (dirL t).2 else litP ((a :: t).takeWhile notPct) :: parseL (t.dropWhile notPct)
termination_by l.length
decreasing_by
  · have := dirL_len t
    simp only [List.length_cons]; omega
  · have : (t.dropWhile notPct).length ≤ t.length := (List.dropWhile_suffix notPct).length_le
    simp only [List.length_cons]; omega

theorem parseL_nil : parseL [] = [] := by rw [parseL]
theorem parseL_pct {a : UInt8} {t : List UInt8} (h : a.toNat = 37) : parseL (a :: t) = (dirL t).1 :: parseL (dirL t).2 := by rw [parseL, if_pos h]
theorem parseL_lit {a : UInt8} {t : List UInt8} (h : ¬ a.toNat = 37) : parseL (a :: t) = litP ((a :: t).takeWhile notPct) :: parseL ((a :: t).dropWhile notPct) := by
  rw [parseL, if_neg h, List.dropWhile_cons, if_pos (by simp [notPct, h])]
end Go.Proofs.YtdjhmanccoekjaaGreatDoor.PP
end

section
namespace Go.Proofs.YtdjhmanccoekjaaGreatDoor.PR
open Go.RowKit Go.Proofs

/-- A block that is known whole. -/
def Blk (w : World) (g : Nat) (cs : Array Value) (t : TypeId) : Prop := w.heap[g]? = some (.cells cs t (0, 0))
section
variable {w w' : World} {g : Nat} {cs : Array Value} {t : TypeId}
theorem Blk.lt (h : Blk w g cs t) : g < w.heap.size := by
  rcases Nat.lt_or_ge g w.heap.size with hlt | hge
  · exact hlt
  · unfold Blk at h
    rw [Array.getElem?_eq_none hge] at h
    cases h
theorem Blk.cell (h : Blk w g cs t) (i : Nat) : w.cell? ⟨g, i, none⟩ = cs[i]? := cell_of_row w g i cs t (0, 0) h
theorem Blk.frozen (h : Blk w g cs t) (i : Nat) : w.frozen? ⟨g, i, none⟩ = false := by
  unfold Blk at h
  simp [World.frozen?, h]
theorem Blk.set_ (h : Blk w g cs t) (i : Nat) (u : Value) : Blk (w.setCell ⟨g, i, none⟩ u) g (cs.setIfInBounds i u) t := by
  unfold Blk at h ⊢
  simp [World.setCell, Array.getElem?_modify, h]
theorem Blk.same (h : Blk w g cs t) (e : w'.heap[g]? = w.heap[g]?) : Blk w' g cs t := e.trans h
theorem Blk.far (h : Blk w g cs t) {p : Addr} (hp : g ≠ p.block) (u : Value) : Blk (w.setCell p u) g cs t := (Below.heap_setCell w p u g hp).trans h
theorem Blk.new (w : World) (cs : Array Value) (t : TypeId) : Blk (w.alloc (.cells cs t)) w.heap.size cs t := heap_alloc_new w _
theorem Blk.alloc (h : Blk w g cs t) (o : Obj) : Blk (w.alloc o) g cs t := (Below.heap_alloc w o g h.lt).trans h
theorem Blk.below {B : Nat} (h : Blk w g cs t) (hb : Below B w w') (hg : g < B) : Blk w' g cs t := (hb.block g hg).trans h
end

/-- All blocks that were there but R are as they were. -/
structure Only (R : Nat) (w w' : World) : Prop where
  os : w'.os = w.os
  tape : w'.tape = w.tape
  output : w'.output = w.output
  size : w.heap.size ≤ w'.heap.size
  block : ∀ k, k < w.heap.size → k ≠ R → w'.heap[k]? = w.heap[k]?
theorem Only.refl (R : Nat) (w : World) : Only R w w := ⟨rfl, rfl, rfl, Nat.le_refl _, fun _ _ _ => rfl⟩
theorem Only.trans {R : Nat} {a c d : World} (h : Only R a c) (k : Only R c d) : Only R a d :=
  ⟨k.os.trans h.os, k.tape.trans h.tape, k.output.trans h.output, Nat.le_trans h.size k.size, fun i hi hb => (k.block i (Nat.lt_of_lt_of_le hi h.size) hb).trans (h.block i hi hb)⟩
theorem Only.below {R : Nat} {a c : World} (h : Only R a c) {B : Nat} (h1 : B ≤ a.heap.size) (h2 : B ≤ R) : Below B a c :=
  ⟨h.os, h.tape, h.output, h.size, fun k hk => h.block k (by omega) (by omega)⟩
theorem Only.of_below {R : Nat} {a c : World} (h : Below a.heap.size a c) : Only R a c := ⟨h.os, h.tape, h.output, h.size, fun k hk _ => h.block k hk⟩
theorem Only.drew {R : Nat} {a c : World} (h : Only R a c) : Only R a c.drew := ⟨h.os, h.tape, h.output, h.size, h.block⟩
theorem Only.drewN {R : Nat} {a c : World} (h : Only R a c) (n : Nat) : Only R a (c.drewN n) := ⟨h.os, h.tape, h.output, h.size, h.block⟩
theorem Only.set_ {R : Nat} {a c : World} (h : Only R a c) (i : Nat) (u : Value) : Only R a (c.setCell ⟨R, i, none⟩ u) :=
  ⟨h.os, h.tape, h.output, by simpa [World.setCell] using h.size, fun k hk hb => (Below.heap_setCell c _ u k hb).trans (h.block k hk hb)⟩
theorem Only.alloc {R : Nat} {a c : World} (h : Only R a c) (o : Obj) : Only R a (c.alloc o) :=
  ⟨h.os, h.tape, h.output, by have := h.size; simp; omega, fun k hk hb => (Below.heap_alloc c o k (Nat.lt_of_lt_of_le hk h.size)).trans (h.block k hk hb)⟩

/-- The reader: what is left, and the function that looks at it. -/
abbrev clo (V : Nat) : Value := .func (Fn.func 131) #[] #[.pointer (some ⟨V, 0, none⟩)]
def Rd (w : World) (R V : Nat) (t : ByteArray) : Prop :=
  Blk w R #[.string t, clo V] 173 ∧ Blk w V #[.pointer (some ⟨R, 0, none⟩)] 164
theorem Rd.ne {w : World} {R V : Nat} {t : ByteArray} (h : Rd w R V t) : V ≠ R := by
  rintro rfl
  have h1 := h.1
  have h2 := h.2
  unfold Blk at h1 h2
  rw [h1] at h2
  injection h2 with h2
  injection h2 with _ h2
  exact absurd h2 (by decide)
theorem Rd.drew {w : World} {R V : Nat} {t : ByteArray} (h : Rd w R V t) : Rd w.drew R V t := h
theorem Rd.drewN {w : World} {R V : Nat} {t : ByteArray} (h : Rd w R V t) (n : Nat) : Rd (w.drewN n) R V t := h
theorem Rd.alloc {w : World} {R V : Nat} {t : ByteArray} (h : Rd w R V t) (o : Obj) : Rd (w.alloc o) R V t := ⟨h.1.alloc o, h.2.alloc o⟩
theorem Rd.far {w : World} {R V : Nat} {t : ByteArray} (h : Rd w R V t) {p : Addr} (h1 : R ≠ p.block) (h2 : V ≠ p.block) (u : Value) : Rd (w.setCell p u) R V t := ⟨h.1.far h1 u, h.2.far h2 u⟩
theorem Rd.put {w : World} {R V : Nat} {t : ByteArray} (h : Rd w R V t) (t' : ByteArray) : Rd (w.setCell ⟨R, 0, none⟩ (.string t')) R V t' := ⟨h.1.set_ 0 _, h.2.far h.ne _⟩
theorem Rd.other {w w' : World} {R V P : Nat} {t : ByteArray} (h : Rd w R V t) (ho : Only P w w') (h1 : R ≠ P) (h2 : V ≠ P) : Rd w' R V t :=
  ⟨h.1.same (ho.block _ h.1.lt h1), h.2.same (ho.block _ h.2.lt h2)⟩
theorem Rd.below {w w' : World} {R V : Nat} {t : ByteArray} (h : Rd w R V t) (hb : Below w.heap.size w w') : Rd w' R V t := ⟨h.1.below hb h.1.lt, h.2.below hb h.2.lt⟩

theorem reading_any (s : ByteArray) (w : World) : Calls Tryz.prog 99 #[.string s] w fun e w' => e = .returned (.pointer (some ⟨w.heap.size, 0, none⟩)) ∧
    Rd w' w.heap.size (w.heap.size + 1) s ∧ Below w.heap.size w w' ∧ w'.heap.size = w.heap.size + 2 := by
  go_enter Tryz.func99, Tryz.ntmps99
  go_wp2_with fail
  go_ret
  refine ⟨rfl, ⟨(Blk.new w _ _).alloc _, ?_⟩, ((Below.refl _ _).alloc (Nat.le_refl _) _).alloc (by simp) _, by simp⟩
  have := Blk.new (w.alloc (.cells #[.string s, clo (w.heap.size + 1)] 173)) #[.pointer (some ⟨w.heap.size, 0, none⟩)] 164
  simpa using this

theorem size_pos_list {t : ByteArray} {a : UInt8} {r : List UInt8} (h : t.data.toList = a :: r) : 0 < t.size := by rw [Utf.size_eq, h]; simp
theorem list_of_pos {t : ByteArray} (h : 0 < t.size) : ∃ a r, t.data.toList = a :: r := by
  rw [Utf.size_eq] at h
  match e : t.data.toList, h with
  | a :: r, _ => exact ⟨a, r, rfl⟩
theorem pk_bound (l : List UInt8) : 0 ≤ PP.pk l ∧ PP.pk l < 256 := by
  cases l with
  | nil => simp [PP.pk]
  | cons a r => have := a.toNat_lt; simp [PP.pk]; omega
theorem bt_zero (t : ByteArray) : bt t 0 = PP.pk t.data.toList := by
  unfold bt PP.pk
  cases t.data.toList <;> rfl
theorem isE_pos {t : ByteArray} (h : 0 < t.size) : t.toList.isEmpty = false := by
  rw [isEmpty_iff]
  apply decide_eq_false
  intro e
  rw [Utf.size_eq, e] at h
  exact absurd h (Nat.lt_irrefl 0)
theorem isE_zero {t : ByteArray} (h : ¬ 0 < t.size) : t.toList.isEmpty = true := by
  rw [isEmpty_iff]
  apply decide_eq_true
  apply List.eq_nil_of_length_eq_zero
  rw [← Utf.size_eq]
  omega

/-- What peek tells. -/
theorem peek_any (R V : Nat) (t : ByteArray) (w : World) (h : Rd w R V t) : Calls Tryz.prog 131 #[.pointer (some ⟨V, 0, none⟩)] w fun e w' => e = .returned (.int .u8 (PP.pk t.data.toList)) ∧ w = w' := by
  have hv : w.cell? ⟨V, 0, none⟩ = some (.pointer (some ⟨R, 0, none⟩)) := h.2.cell 0
  have hr : w.cell? ⟨R, 0, none⟩ = some (.string t) := h.1.cell 0
  clear h
  by_cases hp : 0 < t.size
  · have he := isE_pos hp
    have E0 := bt_at t 0 hp
    rw [bt_zero] at E0
    go_enter Tryz.func131, Tryz.ntmps131
    go_wp2_with fail
    go_ret
    exact ⟨rfl, rfl⟩
  · have he := isE_zero hp
    have hk : PP.pk t.data.toList = 0 := by
      have e0 : t.data.toList = [] := List.eq_nil_of_length_eq_zero (by rw [← Utf.size_eq]; omega)
      rw [e0]; rfl
    rw [hk]
    clear hk
    go_enter Tryz.func131, Tryz.ntmps131
    go_wp2_with fail
    go_ret
    exact ⟨rfl, rfl⟩
end Go.Proofs.YtdjhmanccoekjaaGreatDoor.PR
end

section
namespace Go.Proofs.YtdjhmanccoekjaaGreatDoor.PR
open Go.RowKit Go.Proofs

theorem ext_drop (t : ByteArray) (k : Nat) : (t.extract k t.size).data.toList = t.data.toList.drop k := by
  rw [Lib.extract_data]
  exact List.take_of_length_le (by rw [List.length_drop, ← Utf.size_eq]; omega)
theorem ext_take (t : ByteArray) (k : Nat) : (t.extract 0 k).data.toList = t.data.toList.take k := by
  rw [Lib.extract_data]; simp

/-- What the reader's text weighs: for a loop's measure. -/
def rdLen (w : World) (R : Nat) : Nat := match w.cell? ⟨R, 0, none⟩ with | some (.string t) => t.size | _ => 0
theorem rdLen_of {w : World} {R V : Nat} {t : ByteArray} (h : Rd w R V t) : rdLen w R = t.size := by
  have : w.cell? ⟨R, 0, none⟩ = some (.string t) := h.1.cell 0
  unfold rdLen
  rw [this]

/-- A piece under way: only its flags are told. -/
abbrev p0 (f : PP.Fl) : Array Value := #[.int .i64 2, .string ⟨#[]⟩, .bool f.pl, .bool f.mi, .bool f.sh, .bool f.sp, .bool f.ze, .int .i64 (-1), .int .i64 (-1), .int .i32 0, .int .i64 0, .int .i64 0, .int .i64 0, .int .i64 0, .int .i64 0, .int .i64 0, .int .i64 0, .int .i64 0, .int .i64 0, .int .i64 0]

theorem flL_eq (f : PP.Fl) (l : List UInt8) : PP.flL f l = match l with
    | [] => (f, [])
    | a :: t => match PP.flOn f a with
      | some g => PP.flL g t
      | none => (f, a :: t) := by
  cases l <;> rw [PP.flL] <;> rfl
theorem flL_on {f : PP.Fl} {t : ByteArray} {g : PP.Fl} (h : 0 < t.size) (hg : ∀ a : UInt8, (a.toNat : Int) = PP.pk t.data.toList → PP.flOn f a = some g) : PP.flL f t.data.toList = PP.flL g (t.extract 1 t.size).data.toList := by
  obtain ⟨a, r, e⟩ := list_of_pos h
  rw [ext_drop, flL_eq, e]
  simp only []
  rw [hg a (by rw [e]; rfl)]
  rfl
theorem flL_off {f : PP.Fl} {t : ByteArray} (h1 : PP.pk t.data.toList ≠ 43) (h2 : PP.pk t.data.toList ≠ 45) (h3 : PP.pk t.data.toList ≠ 35) (h4 : PP.pk t.data.toList ≠ 32) (h5 : PP.pk t.data.toList ≠ 48) : PP.flL f t.data.toList = (f, t.data.toList) := by
  rw [flL_eq]
  cases e : t.data.toList with
  | nil => rfl
  | cons a r =>
    have hk : PP.pk t.data.toList = (a.toNat : Int) := by rw [e]; rfl
    rw [hk] at h1 h2 h3 h4 h5
    simp only []
    unfold PP.flOn
    rw [if_neg (by omega), if_neg (by omega), if_neg (by omega), if_neg (by omega), if_neg (by omega)]
theorem pk_pos {t : ByteArray} (h : PP.pk t.data.toList ≠ 0) : 0 < t.size := by
  rcases Nat.eq_zero_or_pos t.size with e | e
  · exfalso
    apply h
    have e0 : t.data.toList = [] := List.eq_nil_of_length_eq_zero (by rw [← Utf.size_eq]; omega)
    rw [e0]; rfl
  · exact e
theorem pk_size (t : ByteArray) (h : 0 < t.size) : 1 ≤ t.size := h

set_option maxRecDepth 100000 in
set_option maxHeartbeats 4000000 in
theorem flags_any (B R V P : Nat) (t0 : ByteArray) (f0 : PP.Fl) (w : World) (h : Rd w R V t0) (hp : Blk w P (p0 f0) 100) (hBR : B ≤ R) (hBP : B ≤ P) (hRP : R ≠ P) (hVP : V ≠ P) :
    Calls Tryz.prog 100 #[.pointer (some ⟨R, 0, none⟩), .pointer (some ⟨P, 2, none⟩)] w fun e w' => e = .returned (.tuple #[]) ∧
      ∃ t, t.data.toList = (PP.flL f0 t0.data.toList).2 ∧ Rd w' R V t ∧ Blk w' P (p0 (PP.flL f0 t0.data.toList).1) 100 ∧ Below B w w' := by
  obtain ⟨F, hF⟩ : ∃ F, PP.flL f0 t0.data.toList = F := ⟨_, rfl⟩
  rw [hF]
  have HR := hid h
  have HP := hid hp
  have HF := hid hF
  clear h hp hF
  go_enter Tryz.func100, Tryz.ntmps100
  go_step3
  go_wp2_with fail
  go_step3
  go_wp2_with fail
  go_loopg [] t0.size (fun g wr => ∃ (t : ByteArray) (f : PP.Fl), t.size ≤ g ∧ Hid (Rd wr R V t ∧ Blk wr P (p0 f) 100 ∧ PP.flL f t.data.toList = F) ∧ Below B w wr)
  case atStart => exact ⟨t0, f0, Nat.le_refl _, ⟨HR.out, HP.out, HF.out⟩, Below.refl _ _⟩
  case round =>
    obtain ⟨t, f, hg, hrel, hb⟩ := hrel
    have hr0 : wr.cell? ⟨R, 0, none⟩ = some (.string t) := hrel.out.1.1.cell 0
    have hr1 : wr.cell? ⟨R, 1, none⟩ = some (clo V) := hrel.out.1.1.cell 1
    have hp2 : wr.cell? ⟨P, 2, none⟩ = some (.bool f.pl) := hrel.out.2.1.cell 2
    have hp3 : wr.cell? ⟨P, 3, none⟩ = some (.bool f.mi) := hrel.out.2.1.cell 3
    have hp4 : wr.cell? ⟨P, 4, none⟩ = some (.bool f.sh) := hrel.out.2.1.cell 4
    have hp5 : wr.cell? ⟨P, 5, none⟩ = some (.bool f.sp) := hrel.out.2.1.cell 5
    have hp6 : wr.cell? ⟨P, 6, none⟩ = some (.bool f.ze) := hrel.out.2.1.cell 6
    have hfp : ∀ i, wr.frozen? ⟨P, i, none⟩ = false := hrel.out.2.1.frozen
    have hfr : ∀ i, wr.frozen? ⟨R, i, none⟩ = false := hrel.out.1.1.frozen
    have hpk := peek_any R V t wr hrel.out.1
    by_cases h43 : PP.pk t.data.toList = 43
    · have hpos : 0 < t.size := pk_pos (by omega)
      have hon : Hid (PP.flL f t.data.toList = PP.flL { f with pl := true } (t.extract 1 t.size).data.toList) := flL_on hpos (fun a ha => by
        rw [h43] at ha
        unfold PP.flOn
        rw [if_pos (by omega)])
      rw [h43] at hpk
      have HPK := hid hpk
      clear hpk h43
      obtain ⟨t', ht'⟩ : ∃ t', t.extract 1 t.size = t' := ⟨_, rfl⟩
      go_wp2_with fail
      refine HPK.out.mono ?_
      rintro e w' ⟨rfl, rfl⟩
      go_wp2_with fail
      subst ht'
      go_roundg (gk - 1)
      case measure => omega
      case rel => exact ⟨_, { f with pl := true }, by simp; omega, ⟨(hrel.out.1.far (by simpa using hRP) (by simpa using hVP) _).put _, (hrel.out.2.1.set_ 2 _).far (by simpa using hRP.symm) _, hon.out ▸ hrel.out.2.2⟩, (hb.setCell hBP _).setCell hBR _⟩
    by_cases h45 : PP.pk t.data.toList = 45
    · have hpos : 0 < t.size := pk_pos (by omega)
      have hon : Hid (PP.flL f t.data.toList = PP.flL { f with mi := true } (t.extract 1 t.size).data.toList) := flL_on hpos (fun a ha => by
        rw [h45] at ha
        unfold PP.flOn
        rw [if_neg (by omega)]; rw [if_pos (by omega)])
      rw [h45] at hpk
      have HPK := hid hpk
      clear hpk h43 h45
      obtain ⟨t', ht'⟩ : ∃ t', t.extract 1 t.size = t' := ⟨_, rfl⟩
      go_wp2_with fail
      refine HPK.out.mono ?_
      rintro e w' ⟨rfl, rfl⟩
      go_wp2_with fail
      subst ht'
      go_roundg (gk - 1)
      case measure => omega
      case rel => exact ⟨_, { f with mi := true }, by simp; omega, ⟨(hrel.out.1.far (by simpa using hRP) (by simpa using hVP) _).put _, (hrel.out.2.1.set_ 3 _).far (by simpa using hRP.symm) _, hon.out ▸ hrel.out.2.2⟩, (hb.setCell hBP _).setCell hBR _⟩
    by_cases h35 : PP.pk t.data.toList = 35
    · have hpos : 0 < t.size := pk_pos (by omega)
      have hon : Hid (PP.flL f t.data.toList = PP.flL { f with sh := true } (t.extract 1 t.size).data.toList) := flL_on hpos (fun a ha => by
        rw [h35] at ha
        unfold PP.flOn
        rw [if_neg (by omega)]; rw [if_neg (by omega)]; rw [if_pos (by omega)])
      rw [h35] at hpk
      have HPK := hid hpk
      clear hpk h43 h45 h35
      obtain ⟨t', ht'⟩ : ∃ t', t.extract 1 t.size = t' := ⟨_, rfl⟩
      go_wp2_with fail
      refine HPK.out.mono ?_
      rintro e w' ⟨rfl, rfl⟩
      go_wp2_with fail
      subst ht'
      go_roundg (gk - 1)
      case measure => omega
      case rel => exact ⟨_, { f with sh := true }, by simp; omega, ⟨(hrel.out.1.far (by simpa using hRP) (by simpa using hVP) _).put _, (hrel.out.2.1.set_ 4 _).far (by simpa using hRP.symm) _, hon.out ▸ hrel.out.2.2⟩, (hb.setCell hBP _).setCell hBR _⟩
    by_cases h32 : PP.pk t.data.toList = 32
    · have hpos : 0 < t.size := pk_pos (by omega)
      have hon : Hid (PP.flL f t.data.toList = PP.flL { f with sp := true } (t.extract 1 t.size).data.toList) := flL_on hpos (fun a ha => by
        rw [h32] at ha
        unfold PP.flOn
        rw [if_neg (by omega)]; rw [if_neg (by omega)]; rw [if_neg (by omega)]; rw [if_pos (by omega)])
      rw [h32] at hpk
      have HPK := hid hpk
      clear hpk h43 h45 h35 h32
      obtain ⟨t', ht'⟩ : ∃ t', t.extract 1 t.size = t' := ⟨_, rfl⟩
      go_wp2_with fail
      refine HPK.out.mono ?_
      rintro e w' ⟨rfl, rfl⟩
      go_wp2_with fail
      subst ht'
      go_roundg (gk - 1)
      case measure => omega
      case rel => exact ⟨_, { f with sp := true }, by simp; omega, ⟨(hrel.out.1.far (by simpa using hRP) (by simpa using hVP) _).put _, (hrel.out.2.1.set_ 5 _).far (by simpa using hRP.symm) _, hon.out ▸ hrel.out.2.2⟩, (hb.setCell hBP _).setCell hBR _⟩
    by_cases h48 : PP.pk t.data.toList = 48
    · have hpos : 0 < t.size := pk_pos (by omega)
      have hon : Hid (PP.flL f t.data.toList = PP.flL { f with ze := true } (t.extract 1 t.size).data.toList) := flL_on hpos (fun a ha => by
        rw [h48] at ha
        unfold PP.flOn
        rw [if_neg (by omega)]; rw [if_neg (by omega)]; rw [if_neg (by omega)]; rw [if_neg (by omega)]; rw [if_pos (by omega)])
      rw [h48] at hpk
      have HPK := hid hpk
      clear hpk h43 h45 h35 h32 h48
      obtain ⟨t', ht'⟩ : ∃ t', t.extract 1 t.size = t' := ⟨_, rfl⟩
      go_wp2_with fail
      refine HPK.out.mono ?_
      rintro e w' ⟨rfl, rfl⟩
      go_wp2_with fail
      subst ht'
      go_roundg (gk - 1)
      case measure => omega
      case rel => exact ⟨_, { f with ze := true }, by simp; omega, ⟨(hrel.out.1.far (by simpa using hRP) (by simpa using hVP) _).put _, (hrel.out.2.1.set_ 6 _).far (by simpa using hRP.symm) _, hon.out ▸ hrel.out.2.2⟩, (hb.setCell hBP _).setCell hBR _⟩
    have hoff := hid (flL_off (f := f) h43 h45 h35 h32 h48)
    obtain ⟨c, hc⟩ : ∃ c, PP.pk t.data.toList = c := ⟨_, rfl⟩
    rw [hc] at hpk h43 h45 h35 h32 h48
    have HPK := hid hpk
    clear hpk
    go_wp2_with fail
    refine HPK.out.mono ?_
    rintro e w' ⟨rfl, rfl⟩
    go_wp2_with fail
    rw [Exit.noGoto_normal]
    first | go_end0 | go_ret
    have e := hoff.out
    rw [hrel.out.2.2] at e
    rw [e]
    exact ⟨rfl, t, rfl, hrel.out.1, hrel.out.2.1, hb⟩
end Go.Proofs.YtdjhmanccoekjaaGreatDoor.PR
end

section
namespace Go.Proofs.YtdjhmanccoekjaaGreatDoor.PR
open Go.RowKit Go.Proofs

def AllD (l : List UInt8) : Prop := ∀ a ∈ l, 48 ≤ a.toNat ∧ a.toNat ≤ 57
theorem allD_dg (l : List UInt8) : AllD (PP.dg l) := by
  intro a ha
  have h : PP.isD a = true := by
    unfold PP.dg at ha
    induction l with
    | nil => simp at ha
    | cons b t ih =>
      rw [List.takeWhile_cons] at ha
      split at ha
      · rename_i hb
        rcases List.mem_cons.mp ha with e | e
        · rw [e]; exact hb
        · exact ih e
      · cases ha
  simp [PP.isD] at h
  omega
theorem bytesWorld_below (w : World) (e : TypeId) (s : ByteArray) : Below w.heap.size w (Lib.bytesWorld w e s) :=
  ⟨rfl, rfl, rfl, by rw [Lib.bytesWorld_size]; omega, fun k hk => Lib.bytesWorld_at_old w e s k hk⟩
theorem valL_cons {limit n : Int} {a : UInt8} {t : List UInt8} : PP.valL limit n (a :: t) = if limit < 10 * n + ((a.toNat : Int) - 48) then -1 else PP.valL limit (10 * n + ((a.toNat : Int) - 48)) t := by rw [PP.valL]
theorem drop_at {l : List UInt8} {i : Nat} (h : i < l.length) : l.drop i = l.getD i 0 :: l.drop (i + 1) := by
  rw [List.drop_eq_getElem_cons h]
  simp [List.getD, h]

theorem getD_mem {l : List UInt8} {i : Nat} (h : i < l.length) : l.getD i 0 ∈ l := by
  have e : l.getD i 0 = l[i] := by unfold List.getD; rw [List.getElem?_eq_getElem h]; rfl
  rw [e]
  exact List.getElem_mem h

theorem dg_len_in {l : List UInt8} {k : Nat} {K : Nat} (hk : k + (PP.dg (l.drop k)).length = K) (h : k < l.length) (h1 : 48 ≤ ((l[k]?.getD 0).toNat : Int)) (h2 : ((l[k]?.getD 0).toNat : Int) ≤ 57) : k + 1 + (PP.dg (l.drop (k + 1))).length = K := by
  rw [List.drop_eq_getElem_cons h] at hk
  rw [List.getElem?_eq_getElem h] at h1 h2
  simp only [Option.getD_some] at h1 h2
  have : PP.isD l[k] = true := by simp [PP.isD]; omega
  unfold PP.dg at hk ⊢
  rw [List.takeWhile_cons, this] at hk
  simp only [if_true, List.length_cons] at hk
  omega
theorem dg_len_out {l : List UInt8} {k : Nat} {K : Nat} (hk : k + (PP.dg (l.drop k)).length = K) (h : ∀ _ : k < l.length, ¬ (48 ≤ ((l[k]?.getD 0).toNat : Int) ∧ ((l[k]?.getD 0).toNat : Int) ≤ 57)) : k = K := by
  rcases Nat.lt_or_ge k l.length with hl | hl
  · have := h hl
    rw [List.getElem?_eq_getElem hl] at this
    simp only [Option.getD_some] at this
    rw [List.drop_eq_getElem_cons hl] at hk
    have hb : PP.isD l[k] = false := by simp [PP.isD]; omega
    unfold PP.dg at hk
    rw [List.takeWhile_cons, hb] at hk
    simpa using hk
  · rw [List.drop_eq_nil_of_le hl] at hk
    simpa [PP.dg] using hk
theorem dg_take (l : List UInt8) : PP.dg l = l.take (PP.dg l).length := by
  have h := PP.dg_rs l
  conv => rhs; rw [← h]
  rw [show (PP.dg (PP.dg l ++ PP.rs l)).length = (PP.dg l).length by rw [h], List.take_left]

set_option maxRecDepth 100000 in
theorem number_any (d : ByteArray) (limit : Int) (w : World) (hs : d.size ≤ 140737488355328) (hl : 0 ≤ limit ∧ limit ≤ 1000000000) (hd : AllD d.data.toList) :
    Calls Tryz.prog 132 #[.string d, .int .i64 limit] w fun e w' => e = .returned (.int .i64 (PP.valL limit 0 d.data.toList)) ∧ Below w.heap.size w w' := by
  have hcv := Lib.run_convert_string_bytes (P := Tryz.prog) w 9 50 5 d Tryz.underlying9 Tryz.underlying50 Tryz.underlying5
  obtain ⟨N, hN⟩ : ∃ N, PP.valL limit 0 d.data.toList = N := ⟨_, rfl⟩
  rw [hN]
  have HN := hid hN
  have HD := hid hd
  clear hN hd
  have hbw := bytesWorld_below w 5 d
  have hcl := hid (Lib.bytesWorld_cell w 5 d)
  go_enter Tryz.func132, Tryz.ntmps132
  go_wp2_with fail
  obtain ⟨W1, hW1⟩ : ∃ W1, Lib.bytesWorld w 5 d = W1 := ⟨_, rfl⟩
  rw [hW1] at hbw hcl ⊢
  clear hcv hW1
  go_loopw [5, 11] (fun nv iv wr => ∃ (n : Int) (i : Nat), nv = .int .i64 n ∧ iv = .int .i64 i ∧ i ≤ d.size ∧ 0 ≤ n ∧ n ≤ limit ∧ wr = W1 ∧ Hid (PP.valL limit n (d.data.toList.drop i) = N)) (fun _ iv _ => d.size - (match iv with | .int _ k => k.toNat | _ => 0))
  case atStart => exact ⟨0, 0, rfl, rfl, Nat.zero_le _, Int.le_refl _, hl.1, rfl, HN⟩
  case round =>
    obtain ⟨n, i, rfl, rfl, hi, hn0, hnl, rfl, hk⟩ := hrel
    by_cases hp : i < d.size
    · have hlen : i < d.data.toList.length := by rw [← Utf.size_eq]; exact hp
      have hci := hcl.out i hp
      have hdi := HD.out (d.data.toList.getD i 0) (getD_mem hlen)
      have hst := hk.out
      rw [drop_at hlen, valL_cons] at hst
      obtain ⟨c, hc⟩ : ∃ c : Int, ((d.data.toList.getD i 0).toNat : Int) = c := ⟨_, rfl⟩
      rw [hc] at hci hst
      have hb : 48 ≤ c ∧ c ≤ 57 := by omega
      have hu : (c - 48) % 256 = c - 48 := by omega
      clear hc hdi
      have HST := hid hst
      clear hst
      by_cases hg : limit < 10 * n + (c - 48)
      · go_wp2_with fail
        go_ret
        have := HST.out
        rw [if_pos hg] at this
        subst this
        exact ⟨rfl, hbw⟩
      · go_wp2_with fail
        go_roundw
        case rel =>
          refine ⟨10 * n + (c - 48), i + 1, by simp, by go_num, hp, by omega, by omega, by first | trivial | rfl, ?_⟩
          have := HST.out
          rw [if_neg hg] at this
          exact this
        case measure => go_num
    · go_wp2_with fail
      go_ret
      have e : d.data.toList.drop i = [] := List.drop_eq_nil_of_le (by rw [← Utf.size_eq]; omega)
      have := hk.out
      rw [e] at this
      have e2 : n = N := by rw [← this]; rfl
      subst e2
      exact ⟨rfl, hbw⟩

set_option maxRecDepth 100000 in
set_option maxHeartbeats 2000000 in
theorem digits_any (R V : Nat) (t : ByteArray) (w : World) (h : Rd w R V t) (hs : t.size ≤ 140737488355328) :
    Calls Tryz.prog 133 #[.pointer (some ⟨R, 0, none⟩)] w fun e w' => ∃ d, e = .returned (.string d) ∧ d.data.toList = PP.dg t.data.toList ∧ ∃ t', t'.data.toList = PP.rs t.data.toList ∧ Rd w' R V t' ∧ Only R w w' := by
  have HR := hid h
  have hr0 : w.cell? ⟨R, 0, none⟩ = some (.string t) := h.1.cell 0
  have hfr : w.frozen? ⟨R, 0, none⟩ = false := h.1.frozen 0
  clear h
  obtain ⟨K, hK⟩ : ∃ K, (PP.dg t.data.toList).length = K := ⟨_, rfl⟩
  have HK := hid hK
  clear hK
  go_enter Tryz.func133, Tryz.ntmps133
  go_wp2_with fail
  go_loopw [3] (fun nv wr => ∃ (k : Nat), nv = .int .i64 k ∧ k ≤ t.size ∧ wr = w ∧ Hid (k + (PP.dg (t.data.toList.drop k)).length = K)) (fun nv _ => t.size - (match nv with | .int _ k => k.toNat | _ => 0))
  case atStart => exact ⟨0, rfl, Nat.zero_le _, rfl, by rw [List.drop_zero, HK.out]; exact Nat.zero_add _⟩
  case round =>
    obtain ⟨k, rfl, hk, rfl, hi⟩ := hrel
    by_cases hp : k < t.size
    · have hlen : k < t.data.toList.length := by rw [← Utf.size_eq]; exact hp
      have hin := @dg_len_in _ _ _ hi.out hlen
      have hout := @dg_len_out _ _ _ hi.out
      have E0 := bt_at t k hp
      have hbb := bt_bound t k
      change 48 ≤ bt t k → bt t k ≤ 57 → _ at hin
      change (∀ h : k < t.data.toList.length, ¬ (48 ≤ bt t k ∧ bt t k ≤ 57)) → _ at hout
      obtain ⟨c, hc⟩ : ∃ c, bt t k = c := ⟨_, rfl⟩
      rw [hc] at E0 hin hout hbb
      have HIN := hid hin
      have HOUT := hid hout
      clear hin hout hc
      by_cases h1 : 48 ≤ c
      · by_cases h2 : c ≤ 57
        · go_wp2_with fail
          go_roundw
          case rel => exact ⟨k + 1, by go_num, hp, by first | trivial | rfl, HIN.out h1 h2⟩
          case measure => go_num
        · obtain ⟨d, hd⟩ : ∃ d, t.extract 0 k = d := ⟨_, rfl⟩
          obtain ⟨t', ht'⟩ : ∃ t', t.extract k t.size = t' := ⟨_, rfl⟩
          have e1 := hid (show d.data.toList = PP.dg t.data.toList by have hkK : k = K := HOUT.out (fun _ h => h2 h.2); rw [← hd, ext_take, dg_take, HK.out, hkK])
          have e2 := hid (show t'.data.toList = PP.rs t.data.toList by have hkK : k = K := HOUT.out (fun _ h => h2 h.2); rw [← ht', ext_drop, PP.rs_drop, HK.out, hkK])
          clear HOUT
          go_wp2_with fail
          go_ret
          exact ⟨d, rfl, e1.out, t', e2.out, HR.out.put t', (Only.refl R _).set_ 0 _⟩
      · obtain ⟨d, hd⟩ : ∃ d, t.extract 0 k = d := ⟨_, rfl⟩
        obtain ⟨t', ht'⟩ : ∃ t', t.extract k t.size = t' := ⟨_, rfl⟩
        have e1 := hid (show d.data.toList = PP.dg t.data.toList by have hkK : k = K := HOUT.out (fun _ h => h1 h.1); rw [← hd, ext_take, dg_take, HK.out, hkK])
        have e2 := hid (show t'.data.toList = PP.rs t.data.toList by have hkK : k = K := HOUT.out (fun _ h => h1 h.1); rw [← ht', ext_drop, PP.rs_drop, HK.out, hkK])
        clear HOUT
        go_wp2_with fail
        go_ret
        exact ⟨d, rfl, e1.out, t', e2.out, HR.out.put t', (Only.refl R _).set_ 0 _⟩
    · have hkK : k = K := dg_len_out hi.out (fun h => absurd h (by rw [← Utf.size_eq]; exact hp))
      obtain ⟨d, hd⟩ : ∃ d, t.extract 0 k = d := ⟨_, rfl⟩
      obtain ⟨t', ht'⟩ : ∃ t', t.extract k t.size = t' := ⟨_, rfl⟩
      have e1 := hid (show d.data.toList = PP.dg t.data.toList by rw [← hd, ext_take, dg_take, HK.out, hkK])
      have e2 := hid (show t'.data.toList = PP.rs t.data.toList by rw [← ht', ext_drop, PP.rs_drop, HK.out, hkK])
      clear hkK
      go_wp2_with fail
      go_ret
      exact ⟨d, rfl, e1.out, t', e2.out, HR.out.put t', (Only.refl R _).set_ 0 _⟩
end Go.Proofs.YtdjhmanccoekjaaGreatDoor.PR
end
