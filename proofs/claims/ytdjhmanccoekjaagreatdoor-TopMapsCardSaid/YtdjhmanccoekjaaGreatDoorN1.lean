/-
  Texts of this claim, joined: B1, Frame, Spec, IP, B2, B3, B4, B5, B6, Blk, Q1, Q2.
-/
import Derived.WalkKit
import Derived.WalkLawsBesides
import Derived.WalkSpells
import Derived.Laws.BytesArg
import Derived.Laws.IdiomStrings
import Derived.Outline
import Derived.ProofKit
import Derived.OpenShut
import Derived.PinnedBridge
import Derived.Lay
import Derived.LaidOnce
import Derived.SevenTiedAt
import Derived.Lib.LaidU8T
import Derived.Deep.Fields
import Derived.Lib.SmallJoins
import Derived.LoopTactic
import Derived.IntWalk
import Derived.Deep.QuietTactic
import Derived.BigQuiet
import Derived.Deep.RegionWith
import Derived.Deep.RegionHeld3
import Derived.Laws.RangeAny
import Derived.Laws.AppendOwn
import Derived.Great.BuildSlice
import Derived.Deep.CutBlock
import Derived.Laws.BitsLemmas
import Derived.Shelf.Utf8.AppendRunePlain
import Derived.Lib.OthersKept
import Derived.Test.YtdjhmanccoekjaaGreatDoorProg
import Derived.Test.YtdjhmanccoekjaaGreatDoorUtf
import Derived.Test.YtdjhmanccoekjaaGreatDoorShelf
import Derived.Test.YtdjhmanccoekjaaGreatDoorRows
import Derived.Test.YtdjhmanccoekjaaGreatDoorCards
import Derived.Test.YtdjhmanccoekjaaGreatDoorTie

section
namespace Go.Proofs.YtdjhmanccoekjaaGreatDoor
open Go.RowKit Go.Proofs

theorem hid {p : Prop} (h : p) : Hid p := h
theorem ret_bool {a b : Bool} (h : a = b) : Ending.returned (.bool a) = .returned (.bool b) := by rw [h]
theorem ret_str {a b : ByteArray} (h : a = b) : Ending.returned (.string a) = .returned (.string b) := by rw [h]

theorem conv1 (w : World) (a : Int) : (convert 50 9 (.slice (some ⟨w.heap.size, 0, none⟩) 1 1)).run Tryz.prog (w.alloc (.cells #[.int .u8 a] 5)) = .ok (.string (strOfNums [a])) (w.alloc (.cells #[.int .u8 a] 5)) :=
  run_convert_bytes_arg _ 50 5 Tryz.underlying50 Tryz.underlying5 _ 0 1 1 [a] rfl (fun i hi => by
    match i, hi with
    | 0, _ => rw [World.cell?_alloc_mark]; rfl) 9 Tryz.underlying9
theorem conv2 (w : World) (a b : Int) : (convert 50 9 (.slice (some ⟨w.heap.size, 0, none⟩) 2 2)).run Tryz.prog (w.alloc (.cells #[.int .u8 a, .int .u8 b] 5)) = .ok (.string (strOfNums [a, b])) (w.alloc (.cells #[.int .u8 a, .int .u8 b] 5)) :=
  run_convert_bytes_arg _ 50 5 Tryz.underlying50 Tryz.underlying5 _ 0 2 2 [a, b] rfl (fun i hi => by
    match i, hi with
    | 0, _ => rw [World.cell?_alloc_mark]; rfl
    | 1, _ => rw [World.cell?_alloc_mark]; rfl) 9 Tryz.underlying9
theorem conv3 (w : World) (a b c : Int) : (convert 50 9 (.slice (some ⟨w.heap.size, 0, none⟩) 3 3)).run Tryz.prog (w.alloc (.cells #[.int .u8 a, .int .u8 b, .int .u8 c] 5)) = .ok (.string (strOfNums [a, b, c])) (w.alloc (.cells #[.int .u8 a, .int .u8 b, .int .u8 c] 5)) :=
  run_convert_bytes_arg _ 50 5 Tryz.underlying50 Tryz.underlying5 _ 0 3 3 [a, b, c] rfl (fun i hi => by
    match i, hi with
    | 0, _ => rw [World.cell?_alloc_mark]; rfl
    | 1, _ => rw [World.cell?_alloc_mark]; rfl
    | 2, _ => rw [World.cell?_alloc_mark]; rfl) 9 Tryz.underlying9
theorem conv4 (w : World) (a b c d : Int) : (convert 50 9 (.slice (some ⟨w.heap.size, 0, none⟩) 4 4)).run Tryz.prog (w.alloc (.cells #[.int .u8 a, .int .u8 b, .int .u8 c, .int .u8 d] 5)) = .ok (.string (strOfNums [a, b, c, d])) (w.alloc (.cells #[.int .u8 a, .int .u8 b, .int .u8 c, .int .u8 d] 5)) :=
  run_convert_bytes_arg _ 50 5 Tryz.underlying50 Tryz.underlying5 _ 0 4 4 [a, b, c, d] rfl (fun i hi => by
    match i, hi with
    | 0, _ => rw [World.cell?_alloc_mark]; rfl
    | 1, _ => rw [World.cell?_alloc_mark]; rfl
    | 2, _ => rw [World.cell?_alloc_mark]; rfl
    | 3, _ => rw [World.cell?_alloc_mark]; rfl) 9 Tryz.underlying9
attribute [local go_sem] conv1 conv2 conv3 conv4

theorem rune_any (c : Int) (w : World) : Calls Tryz.prog 10 #[.int .i32 c] w fun e w' => e = .returned (.string (Utf8.encode c)) ∧ w = w' := by
  go_enter Tryz.func10, Tryz.ntmps10
  go_wp2
  go_ret
  exact ⟨rfl, rfl⟩

theorem enc_mk (c : Int) : Utf8.encode c = ⟨(Utf.encL c).toArray⟩ := by
  unfold Utf.encL
  cases Utf8.encode c
  simp
theorem enc_bad {c : Int} (h : Utf8.valid c = false) : Utf8.encode c = strOfNums [239, 191, 189] := by
  have e : Utf.cp c = 65533 := by unfold Utf.cp; rw [h]; rfl
  rw [enc_mk, Utf.encL_eq, e]
  decide
theorem enc_one {c : Int} (h0 : 0 ≤ c) (h : c < 128) : Utf8.encode c = strOfNums [c] := by
  obtain ⟨n, rfl⟩ := Int.eq_ofNat_of_zero_le (show 0 ≤ c by omega)
  rw [enc_mk, Utf.encL_one (by omega)]
  unfold strOfNums
  simp only [List.map_cons, List.map_nil]
  rw [show ((n : Int)).toNat = n from by omega]
theorem enc_two {c : Int} (h0 : 128 ≤ c) (h : c < 2048) : Utf8.encode c = strOfNums [192 + c / 64, 128 + c % 64] := by
  obtain ⟨n, rfl⟩ := Int.eq_ofNat_of_zero_le (show 0 ≤ c by omega)
  rw [enc_mk, Utf.encL_two (by omega) (by omega)]
  unfold strOfNums
  simp only [List.map_cons, List.map_nil]
  rw [show (192 + (n : Int) / 64).toNat = 192 + n / 64 from by omega, show (128 + (n : Int) % 64).toNat = 128 + n % 64 from by omega]
theorem enc_three {c : Int} (hv : Utf8.valid c = true) (h0 : 2048 ≤ c) (h : c < 65536) : Utf8.encode c = strOfNums [224 + c / 4096, 128 + c / 64 % 64, 128 + c % 64] := by
  obtain ⟨n, rfl⟩ := Int.eq_ofNat_of_zero_le (show 0 ≤ c by omega)
  rw [enc_mk, Utf.encL_three hv (by omega) (by omega)]
  unfold strOfNums
  simp only [List.map_cons, List.map_nil]
  rw [show (224 + (n : Int) / 4096).toNat = 224 + n / 4096 from by omega, show (128 + (n : Int) / 64 % 64).toNat = 128 + n / 64 % 64 from by omega, show (128 + (n : Int) % 64).toNat = 128 + n % 64 from by omega]
theorem enc_four {c : Int} (hv : Utf8.valid c = true) (h0 : 65536 ≤ c) : Utf8.encode c = strOfNums [240 + c / 262144, 128 + c / 4096 % 64, 128 + c / 64 % 64, 128 + c % 64] := by
  obtain ⟨n, rfl⟩ := Int.eq_ofNat_of_zero_le (show 0 ≤ c by omega)
  rw [enc_mk, Utf.encL_four hv (by omega)]
  unfold strOfNums
  simp only [List.map_cons, List.map_nil]
  rw [show (240 + (n : Int) / 262144).toNat = 240 + n / 262144 from by omega, show (128 + (n : Int) / 4096 % 64).toNat = 128 + n / 4096 % 64 from by omega, show (128 + (n : Int) / 64 % 64).toNat = 128 + n / 64 % 64 from by omega, show (128 + (n : Int) % 64).toNat = 128 + n % 64 from by omega]

/-- The two tables of the decoder, as they are laid. -/
def Tabs (w : World) : Prop := Lib.Utf8Tabs 1 2 w
theorem Tabs.below {w w' : World} (h : Tabs w) (hb : Below w.heap.size w w') : Tabs w' := Utf8Tabs_below h hb
/-- What Decode tells: nothing of an empty text. -/
def dec0 (l : List UInt8) : Nat × Nat := if l = [] then (0, 0) else Utf.decL l
theorem dec0_ne {l : List UInt8} (h : l ≠ []) : dec0 l = Utf.decL l := by unfold dec0; rw [if_neg h]

theorem isEmpty_iff (s : ByteArray) : s.toList.isEmpty = decide (s.data.toList = []) := by
  rw [Lib.toList_data]
  cases s.data.toList <;> simp

theorem decode_any (s : ByteArray) (w : World) (hT : Tabs w) : Calls Tryz.prog 105 #[.string s] w fun e w' =>
    e = .returned (.tuple #[.int .i32 (dec0 s.data.toList).1, .int .i64 (dec0 s.data.toList).2]) ∧ Below w.heap.size w w' := by
  by_cases hs : s.data.toList = []
  · have he : s.toList.isEmpty = true := by rw [isEmpty_iff, hs]; rfl
    have hd : dec0 s.data.toList = (0, 0) := by unfold dec0; rw [if_pos hs]
    rw [hd]
    clear hd hs
    go_enter Tryz.func105, Tryz.ntmps105
    go_wp2_with fail
    go_ret2
    exact ⟨rfl, Below.refl _ _⟩
  · have he : s.toList.isEmpty = false := by rw [isEmpty_iff]; simpa using hs
    have hsz : s.size ≠ 0 := by
      rw [Utf.size_eq]
      intro h
      exact hs (List.eq_nil_of_length_eq_zero h)
    have hd : Lib.decodeGo s = dec0 s.data.toList := by
      unfold Lib.decodeGo
      rw [if_neg hsz, dec0_ne hs, Utf.decode_eq, List.drop_zero]
    have hc := Tryz.utf8_DecodeRuneInString s w hT
    rw [hd] at hc
    have HC := hid hc
    clear hd hsz hc hs
    obtain ⟨R, hR⟩ : ∃ R, (dec0 s.data.toList).1 = R := ⟨_, rfl⟩
    obtain ⟨K, hK⟩ : ∃ K, (dec0 s.data.toList).2 = K := ⟨_, rfl⟩
    rw [hR, hK] at HC ⊢
    clear hR hK
    go_enter Tryz.func105, Tryz.ntmps105
    go_wp2_with (go_at_call 134; refine HC.out.mono ?_; rintro e w' ⟨rfl, hb⟩)
    go_ret2
    exact ⟨rfl, hb⟩
end Go.Proofs.YtdjhmanccoekjaaGreatDoor
end

section
namespace Go.Proofs.YtdjhmanccoekjaaGreatDoor
open Go.RowKit Go.Shelf Go.Lib Go.Proofs

/-- The seat's list. -/
def laidL : List (String × DataW Unit) := [("unicode/utf8.acceptRanges", Rows.laid_unicode_utf8_acceptRanges), ("unicode.CaseRanges", Rows.laid_unicode_CaseRanges), ("unicode/utf8.first", Rows.laid_unicode_utf8_first)]
theorem laidOut : laidOutB Tryz.prog = true := by kernel_rfl
theorem own : ownKnob Tryz.prog.godebug = none := by kernel_rfl
theorem accept_eq : (Rows.laid_unicode_utf8_acceptRanges : DataW Unit) = Lib.acceptData := by kernel_rfl
theorem xU8 : U8Extra Tryz.prog Tryz.lays260_ren := ⟨by kernel_rfl, by kernel_rfl, by kernel_rfl, by kernel_rfl, by kernel_rfl, by kernel_rfl, by kernel_rfl⟩

theorem tabs_of_laid {W : World} (h : laidMetH Tryz.prog laidL W) : Tabs W := by
  rw [MakeChecks.laidMetH_plain _ _ _ (by kernel_rfl)] at h
  exact utf8Tabs_of_readsT (U8Types.of260 Tryz.lays260) xU8
    (Pinned.utf8First_eq ▸ Lib.laidMet.reads h (.tail _ (.tail _ (.head _)))) (accept_eq ▸ Lib.laidMet.reads h (.head _))

/-- The start: the tables laid. -/
theorem start_met (os : Os) (args : Array Value) : laidMetH Tryz.prog laidL ((World.laidAll Tryz.prog os laidL).forCall (fun _ _ => 0) ⟨#[], args, []⟩).memory := by
  rw [MakeChecks.laidMetH_plain _ _ _ (by kernel_rfl)]
  exact laidMet_laidAll _ (by kernel_rfl) (by kernel_rfl)
theorem start_shaped (os : Os) : (World.laidAll Tryz.prog os laidL).Shaped Tryz.prog := World.shaped_of_ZipB (by kernel_rfl) (by kernel_rfl)
end Go.Proofs.YtdjhmanccoekjaaGreatDoor
end

section
namespace Go.Proofs.YtdjhmanccoekjaaGreatDoor
open Go.ChangeShapes Go.WideShapes Go.ChangeAt Go.RowKit Go.Lib Go.Proofs

theorem specT : ∃ f0 f1 f2 f3 f4 f5 f6 f7 : Field, Tryz.prog.underlying 94 = some (.struct #[f0, f1, f2, f3, f4, f5, f6, f7]) ∧
    (f0.type = 4 ∧ f1.type = 4 ∧ f2.type = 4 ∧ f3.type = 4 ∧ f4.type = 4 ∧ f5.type = 3 ∧ f6.type = 3 ∧ f7.type = 21) ∧
    (f0.offset = 0 ∧ f1.offset = 1 ∧ f2.offset = 2 ∧ f3.offset = 3 ∧ f4.offset = 4 ∧ f5.offset = 5 ∧ f6.offset = 6 ∧ f7.offset = 7) :=
  ⟨_, _, _, _, _, _, _, _, Tryz.underlying94, ⟨rfl, rfl, rfl, rfl, rfl, rfl, rfl, rfl⟩, ⟨rfl, rfl, rfl, rfl, rfl, rfl, rfl, rfl⟩⟩
theorem specC : Tryz.prog.cellsOf 94 = 8 := by kernel_rfl
theorem oneB : Tryz.prog.cellsOf 4 = 1 := by kernel_rfl
theorem oneI : Tryz.prog.cellsOf 3 = 1 := by kernel_rfl
theorem oneR : Tryz.prog.cellsOf 21 = 1 := by kernel_rfl

set_option maxRecDepth 100000 in
theorem open_spec {H : Type} {enc : TypeId × Value → H} {w : World} {base : Nat} {spare : Nat → Bool} {held : Bool} {r : Reach} {b0 : Nat} {v : Value} {d : DataW H} {p : List MemPlace}
    (hv : Value.okWide Tryz.prog w r b0 94 v) (h : DataW.Trod enc Tryz.prog w base spare held 94 v d p) :
    ∃ (pl mi sh sp ze : Bool) (wid prec verb : Int), v = .agg #[.bool pl, .bool mi, .bool sh, .bool sp, .bool ze, .int .i64 wid, .int .i64 prec, .int .i32 verb] ∧ (-9223372036854775808 ≤ wid ∧ wid ≤ 9223372036854775807 ∧ -9223372036854775808 ≤ prec ∧ prec ≤ 9223372036854775807 ∧ -2147483648 ≤ verb ∧ verb ≤ 2147483647) := by
  obtain ⟨f0, f1, f2, f3, f4, f5, f6, f7, hs, ⟨t0, t1, t2, t3, t4, t5, t6, t7⟩, ⟨o0, o1, o2, o3, o4, o5, o6, o7⟩⟩ := specT
  obtain ⟨cs, rfl, hsz⟩ := okWide_struct hs hv
  rw [specC] at hsz
  obtain ⟨l⟩ := cs
  match l, hsz with
  | [c0, c1, c2, c3, c4, c5, c6, c7], _ =>
    obtain ⟨fuel, hf⟩ := h
    obtain ⟨xs, n, _, _, _, hlen, hg⟩ := DataW.trod_struct hs hf
    match xs, hlen with
    | [y0, y1, y2, y3, y4, y5, y6, y7], _ =>
      have g0 := hg 0 f0 rfl; have g1 := hg 1 f1 rfl; have g2 := hg 2 f2 rfl; have g3 := hg 3 f3 rfl; have g4 := hg 4 f4 rfl; have g5 := hg 5 f5 rfl; have g6 := hg 6 f6 rfl; have g7 := hg 7 f7 rfl
      rw [o0, t0, oneB] at g0; rw [o1, t1, oneB] at g1; rw [o2, t2, oneB] at g2; rw [o3, t3, oneB] at g3; rw [o4, t4, oneB] at g4; rw [o5, t5, oneI] at g5; rw [o6, t6, oneI] at g6; rw [o7, t7, oneR] at g7
      obtain ⟨pl, e0, _⟩ := DataW.trod_bool Tryz.underlying4 (g0.trans (show _ = some y0 from rfl))
      obtain ⟨mi, e1, _⟩ := DataW.trod_bool Tryz.underlying4 (g1.trans (show _ = some y1 from rfl))
      obtain ⟨sh, e2, _⟩ := DataW.trod_bool Tryz.underlying4 (g2.trans (show _ = some y2 from rfl))
      obtain ⟨sp, e3, _⟩ := DataW.trod_bool Tryz.underlying4 (g3.trans (show _ = some y3 from rfl))
      obtain ⟨ze, e4, _⟩ := DataW.trod_bool Tryz.underlying4 (g4.trans (show _ = some y4 from rfl))
      obtain ⟨wid, e5, _, w5⟩ := DataW.trod_int Tryz.underlying3 (g5.trans (show _ = some y5 from rfl))
      obtain ⟨prec, e6, _, w6⟩ := DataW.trod_int Tryz.underlying3 (g6.trans (show _ = some y6 from rfl))
      obtain ⟨verb, e7, _, w7⟩ := DataW.trod_int Tryz.underlying21 (g7.trans (show _ = some y7 from rfl))
      simp [Value.cells] at e0 e1 e2 e3 e4 e5 e6 e7
      subst e0 e1 e2 e3 e4 e5 e6 e7
      have w5' : -9223372036854775808 ≤ wid ∧ wid ≤ 9223372036854775807 := by simpa [Lit.wf, IntKind.min, IntKind.max, IntKind.signed, IntKind.bits] using w5
      have w6' : -9223372036854775808 ≤ prec ∧ prec ≤ 9223372036854775807 := by simpa [Lit.wf, IntKind.min, IntKind.max, IntKind.signed, IntKind.bits] using w6
      have w7' : -2147483648 ≤ verb ∧ verb ≤ 2147483647 := by simpa [Lit.wf, IntKind.min, IntKind.max, IntKind.signed, IntKind.bits] using w7
      exact ⟨pl, mi, sh, sp, ze, wid, prec, verb, rfl, w5'.1, w5'.2, w6'.1, w6'.2, w7'.1, w7'.2⟩
end Go.Proofs.YtdjhmanccoekjaaGreatDoor
end

section
namespace Go.Proofs.YtdjhmanccoekjaaGreatDoor.IP

/-- A plain code point. -/
def plainB (c : Int) : Bool := decide ((32 ≤ c ∧ c ≤ 126) ∨ (161 ≤ c ∧ c ≤ 55295 ∧ c ≠ 173) ∨ (57344 ≤ c ∧ c ≤ 65532) ∨ (65536 ≤ c ∧ c ≤ 1114111))
/-- A digit. -/
def hexd (g : Bool) (d : Nat) : UInt8 := UInt8.ofNat (if d < 10 then 48 + d else if g then 55 + d else 87 + d)
theorem hexd_toNat (g : Bool) (d : Nat) (h : d < 16) : (hexd g d).toNat = if d < 10 then 48 + d else if g then 55 + d else 87 + d := by
  unfold hexd
  refine Utf.toNat_ofNat ?_
  split
  · omega
  · split <;> omega
/-- A number in so many digits. -/
def hexW : Nat → Nat → List UInt8
  | _, 0 => []
  | n, w + 1 => hexW (n / 16) w ++ [hexd false (n % 16)]
theorem hexW_len : ∀ (w n : Nat), (hexW n w).length = w
  | 0, _ => rfl
  | w + 1, n => by rw [hexW, List.length_append, hexW_len w]; rfl
/-- The letters of the escapes. -/
def letter (k : Nat) : UInt8 := [97, 98, 116, 110, 118, 102, 114].getD k 0
/-- A rune in quotes. -/
def inL (c q : Int) (ascii : Bool) : List UInt8 :=
  if c = q ∨ c = 92 then [92, UInt8.ofNat c.toNat]
  else if 7 ≤ c ∧ c ≤ 13 then [92, letter (c - 7).toNat]
  else if (32 ≤ c ∧ c ≤ 126) ∨ (ascii = false ∧ plainB c = true) then Utf.encL c
  else if c < 128 then 92 :: 120 :: hexW c.toNat 2
  else if c ≤ 65535 then 92 :: 117 :: hexW c.toNat 4
  else 92 :: 85 :: hexW c.toNat 8
theorem inL_len (c q : Int) (ascii : Bool) : 1 ≤ (inL c q ascii).length ∧ (inL c q ascii).length ≤ 10 := by
  have he := Utf.encL_pos c
  unfold inL
  split
  · simp
  · split
    · simp
    · split
      · omega
      · split
        · simp [hexW_len]
        · split <;> simp [hexW_len]
/-- A code point in quotes. -/
def charL (c : Int) (ascii : Bool) : List UInt8 := 39 :: (inL (Utf.cp c : Int) 39 ascii ++ [39])

/-- A number's digits to a base. -/
def dgb (b : Nat) (g : Bool) (n : Nat) : List UInt8 := if _h : 2 ≤ b ∧ b ≤ n then dgb b g (n / b) ++ [hexd g (n % b)] else [hexd g n]
termination_by n
decreasing_by exact Nat.div_lt_self (by omega) (by omega)
theorem dgb_small {b n : Nat} (g : Bool) (h : n < b) : dgb b g n = [hexd g n] := by rw [dgb, dif_neg (by omega)]
theorem dgb_big {b n : Nat} (g : Bool) (h2 : 2 ≤ b) (h : b ≤ n) : dgb b g n = dgb b g (n / b) ++ [hexd g (n % b)] := by rw [dgb, dif_pos ⟨h2, h⟩]
theorem dgb_ne (b n : Nat) (g : Bool) : dgb b g n ≠ [] := by
  rw [dgb]
  split <;> simp
theorem dgb_len (b : Nat) (g : Bool) (hb : 2 ≤ b) (k : Nat) : ∀ n : Nat, 1 ≤ k → n < b ^ k → (dgb b g n).length ≤ k := by
  induction k with
  | zero => intro n h; omega
  | succ k ih =>
    intro n _ h
    by_cases h1 : n < b
    · rw [dgb_small g h1]; simp
    · rw [dgb_big g hb (by omega), List.length_append]
      have hk0 : 1 ≤ k := by
        rcases Nat.eq_zero_or_pos k with e | e
        · subst e
          rw [Nat.zero_add, Nat.pow_one] at h
          omega
        · exact e
      have := ih (n / b) hk0 (by
        rw [Nat.pow_succ] at h
        exact Nat.div_lt_of_lt_mul (by rw [Nat.mul_comm]; exact h))
      simp only [List.length_singleton]
      omega
theorem dgb_len64 (b : Nat) (g : Bool) (hb : 2 ≤ b) (n : Nat) (h : n < 18446744073709551616) : (dgb b g n).length ≤ 64 := by
  refine dgb_len b g hb 64 n (by decide) (Nat.lt_of_lt_of_le h ?_)
  have h1 : (18446744073709551616 : Nat) = 2 ^ 64 := by decide
  rw [h1]
  exact Nat.pow_le_pow_left hb 64
theorem dgb_pos (b n : Nat) (g : Bool) : 1 ≤ (dgb b g n).length := List.length_pos_iff.2 (dgb_ne b n g)

/-- A precision, or a width; -1: none. -/
def limI (n : Int) : Int := max (-1) (min n 1000)
/-- Noughts ahead, until there are so many. -/
def zerosTo (k : Int) (d : List UInt8) : List UInt8 := List.replicate (k - d.length).toNat 48 ++ d
theorem zerosTo_len (k : Int) (d : List UInt8) : (zerosTo k d).length = max d.length k.toNat := by
  unfold zerosTo
  rw [List.length_append, List.length_replicate]
  omega
theorem zerosTo_step {k : Int} {d : List UInt8} (h : (d.length : Int) < k) : zerosTo k d = zerosTo k (48 :: d) := by
  unfold zerosTo
  rw [List.length_cons]
  have e : (k - d.length).toNat = (k - ((d.length + 1 : Nat) : Int)).toNat + 1 := by omega
  rw [e, List.replicate_succ', List.append_assoc]
  rfl
theorem zerosTo_done {k : Int} {d : List UInt8} (h : ¬ (d.length : Int) < k) : zerosTo k d = d := by
  unfold zerosTo
  rw [show (k - d.length).toNat = 0 by omega]
  rfl
def signL (neg pl sp : Bool) : List UInt8 := if neg then [45] else if pl then [43] else if sp then [32] else []
theorem signL_len (neg pl sp : Bool) : (signL neg pl sp).length ≤ 1 := by
  unfold signL
  cases neg <;> cases pl <;> cases sp <;> decide
/-- A mark of one nought is left out ahead of a nought. -/
def markL (m d : List UInt8) : List UInt8 := if m = [48] ∧ d.head? = some 48 then [] else m
/-- A number to a base: sign, mark, digits. -/
def bodyL (neg : Bool) (n b : Nat) (g : Bool) (mark : List UInt8) (pl mi sp ze : Bool) (wid prec : Int) : List UInt8 :=
  if n = 0 ∧ limI prec = 0 then []
  else
    let d := zerosTo (limI prec) (dgb b g n)
    let s := signL neg pl sp
    let m := markL mark d
    if ze = true ∧ mi = false ∧ limI prec < 0 then s ++ m ++ zerosTo (limI wid - s.length - m.length) d else s ++ m ++ d
/-- A number by its code point's number. -/
def uniL (bits : Nat) (sh : Bool) (prec : Int) : List UInt8 :=
  [85, 43] ++ zerosTo (max 4 (limI prec)) (dgb 16 true bits) ++ (if sh = true ∧ bits ≤ 1114111 ∧ plainB (bits : Int) = true then [32, 39] ++ Utf.encL (bits : Int) ++ [39] else [])
/-- The code point that a number is. -/
def pointI (bits : Nat) : Int := if 1114111 < bits then 65533 else bits
/-- A verb's base, its mark, whether the mark is there without Sharp, whether the letters are great. -/
def baseOf (verb : Int) : Option (Nat × List UInt8 × Bool × Bool) :=
  if verb = 100 ∨ verb = 118 then some (10, [], false, false)
  else if verb = 98 then some (2, [48, 98], false, false)
  else if verb = 111 then some (8, [48], false, false)
  else if verb = 79 then some (8, [48, 111], true, false)
  else if verb = 120 then some (16, [48, 120], false, false)
  else if verb = 88 then some (16, [48, 88], false, true)
  else none

/-- A digit's number; 99: it is none. -/
def digV (a : UInt8) : Nat := if 48 ≤ a.toNat ∧ a.toNat ≤ 57 then a.toNat - 48 else if 97 ≤ a.toNat ∧ a.toNat ≤ 102 then a.toNat - 87 else if 65 ≤ a.toNat ∧ a.toNat ≤ 70 then a.toNat - 55 else 99
theorem digV_hexd (g : Bool) (d : Nat) (h : d < 16) : digV (hexd g d) = d := by
  unfold digV
  rw [hexd_toNat g d h]
  by_cases h10 : d < 10
  · rw [if_pos h10, if_pos (by omega)]; omega
  · rw [if_neg h10]
    cases g
    · rw [if_neg Bool.false_ne_true, if_neg (by omega), if_pos (by omega)]; omega
    · rw [if_pos rfl, if_neg (by omega), if_neg (by omega), if_pos (by omega)]; omega
/-- The number that digits say. -/
def valB (b acc : Nat) (l : List UInt8) : Nat := l.foldl (fun n a => n * b + digV a) acc
theorem valB_dgb (b : Nat) (g : Bool) (h2 : 2 ≤ b) (h16 : b ≤ 16) (n : Nat) : valB b 0 (dgb b g n) = n := by
  induction n using Nat.strongRecOn with
  | _ n ih =>
    by_cases h : n < b
    · rw [dgb_small g h]
      show 0 * b + digV (hexd g n) = n
      rw [digV_hexd g n (by omega)]; omega
    · rw [dgb_big g h2 (by omega)]
      unfold valB
      rw [List.foldl_append]
      have e := ih (n / b) (Nat.div_lt_self (by omega) (by omega))
      unfold valB at e
      rw [e]
      have hm : n % b < b := Nat.mod_lt _ (by omega)
      show n / b * b + digV (hexd g (n % b)) = n
      rw [digV_hexd g _ (by omega), Nat.mul_comm]
      exact Nat.div_add_mod n b
theorem digs_dgb (b : Nat) (g : Bool) (h2 : 2 ≤ b) (h16 : b ≤ 16) (n : Nat) : ∀ x ∈ dgb b g n, digV x < b := by
  induction n using Nat.strongRecOn with
  | _ n ih =>
    by_cases h : n < b
    · rw [dgb_small g h]
      intro x hx
      rw [List.mem_singleton] at hx
      rw [hx, digV_hexd g n (by omega)]; exact h
    · rw [dgb_big g h2 (by omega)]
      intro x hx
      have hm : n % b < b := Nat.mod_lt _ (by omega)
      rcases List.mem_append.1 hx with hx | hx
      · exact ih (n / b) (Nat.div_lt_self (by omega) (by omega)) x hx
      · rw [List.mem_singleton] at hx
        rw [hx, digV_hexd g _ (by omega)]; exact hm
theorem valB_le (b : Nat) (hb : 1 ≤ b) : ∀ (l : List UInt8) (acc : Nat), acc ≤ valB b acc l
  | [], acc => Nat.le_refl _
  | a :: l, acc => by
    have := valB_le b hb l (acc * b + digV a)
    show acc ≤ valB b (acc * b + digV a) l
    have h1 : acc * 1 ≤ acc * b := Nat.mul_le_mul_left acc hb
    omega
theorem valB_take (b : Nat) (hb : 1 ≤ b) (l : List UInt8) (k : Nat) : valB b 0 (l.take k) ≤ valB b 0 l := by
  conv => rhs; rw [← List.take_append_drop k l]
  unfold valB
  rw [List.foldl_append]
  exact valB_le b hb _ _
theorem valB_succ (b : Nat) (l : List UInt8) (k : Nat) (h : k < l.length) : valB b 0 (l.take (k + 1)) = valB b 0 (l.take k) * b + digV (l[k]) := by
  unfold valB
  rw [List.take_add_one, List.getElem?_eq_getElem h, List.foldl_append]
  rfl
theorem count_all_ascii : ∀ l : List UInt8, (∀ a ∈ l, a.toNat < 128) → Utf.count l = l.length
  | [], _ => Utf.count_nil
  | a :: t, h => by
    rw [Utf.count_ascii (h a List.mem_cons_self), count_all_ascii t (fun b hb => h b (List.mem_cons_of_mem _ hb)), List.length_cons]
    omega
theorem hexd_ascii (g : Bool) (d : Nat) (h : d < 16) : (hexd g d).toNat < 128 := by
  rw [hexd_toNat g d h]
  split
  · omega
  · split <;> omega
theorem dgb_ascii (b : Nat) (g : Bool) (h2 : 2 ≤ b) (h16 : b ≤ 16) (n : Nat) : ∀ x ∈ dgb b g n, x.toNat < 128 := by
  induction n using Nat.strongRecOn with
  | _ n ih =>
    by_cases h : n < b
    · rw [dgb_small g h]
      intro x hx
      rw [List.mem_singleton] at hx
      rw [hx]; exact hexd_ascii g n (by omega)
    · rw [dgb_big g h2 (by omega)]
      intro x hx
      have hm : n % b < b := Nat.mod_lt _ (by omega)
      rcases List.mem_append.1 hx with hx | hx
      · exact ih (n / b) (Nat.div_lt_self (by omega) (by omega)) x hx
      · rw [List.mem_singleton] at hx
        rw [hx]; exact hexd_ascii g _ (by omega)
end Go.Proofs.YtdjhmanccoekjaaGreatDoor.IP
end

section
namespace Go.Proofs.YtdjhmanccoekjaaGreatDoor
open Go.RowKit Go.Proofs

/-- A byte of a text, as a number. -/
def bt (s : ByteArray) (k : Nat) : Int := ((s.data.toList[k]?.getD 0).toNat : Int)
theorem bt_at (s : ByteArray) (k : Nat) (h : k < s.size) : ((s[k]'h).toNat : Int) = bt s k := by
  unfold bt
  have hl : k < s.data.toList.length := by rw [← Utf.size_eq]; exact h
  rw [List.getElem?_eq_getElem hl]
  rfl
theorem bt_bound (s : ByteArray) (k : Nat) : 0 ≤ bt s k ∧ bt s k < 256 := by
  have := Utf.at_lt s.data.toList k
  unfold bt
  omega

theorem cval1 (s : ByteArray) (q : Nat) (h : q = 1) : bt s 0 = (Utf.cval s.data.toList q : Int) := by
  subst h
  unfold bt Utf.cval
  simp only [if_true]
theorem cval2 (s : ByteArray) (q : Nat) (h : q = 2) : 64 * (bt s 0 % 32) + bt s 1 % 64 = (Utf.cval s.data.toList q : Int) := by
  subst h
  unfold bt Utf.cval
  simp only [if_true, if_neg (show ¬ (2 = 1) by decide)]
  omega
theorem cval3 (s : ByteArray) (q : Nat) (h : q = 3) : 64 * (64 * (bt s 0 % 16) + bt s 1 % 64) + bt s 2 % 64 = (Utf.cval s.data.toList q : Int) := by
  subst h
  unfold bt Utf.cval
  simp only [if_true, if_neg (show ¬ (3 = 1) by decide), if_neg (show ¬ (3 = 2) by decide)]
  omega
theorem cval4 (s : ByteArray) (q : Nat) (h : q = 4) : 64 * (64 * (64 * (bt s 0 % 8) + bt s 1 % 64) + bt s 2 % 64) + bt s 3 % 64 = (Utf.cval s.data.toList q : Int) := by
  subst h
  unfold bt Utf.cval
  simp only [if_neg (show ¬ (4 = 1) by decide), if_neg (show ¬ (4 = 2) by decide), if_neg (show ¬ (4 = 3) by decide)]
  omega
theorem cval_bound (s : ByteArray) (k : Nat) : Utf.cval s.data.toList k < 2097152 := by
  have b0 := Utf.at_lt s.data.toList 0; have b1 := Utf.at_lt s.data.toList 1; have b2 := Utf.at_lt s.data.toList 2; have b3 := Utf.at_lt s.data.toList 3
  unfold Utf.cval
  dsimp only
  split
  · omega
  · split
    · omega
    · split <;> omega

theorem ok_inv {l : List UInt8} {q : Nat} {c : Int} (hc : (Utf.cval l q : Int) = c) (hv : Utf8.valid c = false) : Utf.okAt l q = false := by
  unfold Utf.okAt
  rw [hc, hv]; rfl
theorem no_more {l : List UInt8} {q : Nat} {k : Int} (h : ∀ m : Nat, 1 ≤ m → (m : Int) < k → Utf.okAt l m = false) (hq : k = (q : Int)) (h1 : Utf.okAt l q = false) :
    ∀ m : Nat, 1 ≤ m → (m : Int) < k + 1 → Utf.okAt l m = false := fun m hm hk => by
  by_cases e : m = q
  · rw [e]; exact h1
  · exact h m hm (by omega)

/-- What the document's Decode tells. -/
def Dec3 (s : ByteArray) (e : Ending) : Prop :=
  e = .returned (.tuple #[.int .i32 (dec0 s.data.toList).1, .int .i64 (dec0 s.data.toList).2, .bool (decide (Utf.Broken s.data.toList))])

theorem extract_list (s : ByteArray) (a b : Nat) : (s.extract a b).toList = (s.data.toList.drop a).take (b - a) := by
  rw [Lib.toList_data, Lib.extract_data]
theorem enc_list (c : Int) : (Utf8.encode c).toList = Utf.encL c := by rw [Lib.toList_data]; rfl
theorem dec_yes {s : ByteArray} {q j : Nat} {c k : Int} (h0 : ¬ s.data.toList = []) (hc : (Utf.cval s.data.toList q : Int) = c) (hv : Utf8.valid c = true) (hq : k = (q : Int)) (hj : (j : Int) = k)
    (hs : k ≤ s.size) (ht : ((Utf8.encode c).toList == (s.extract 0 j).toList) = true) (h1 : 1 ≤ k := by omega) : Dec3 s (.returned (.tuple #[.int .i32 c, .int .i64 k, .bool false])) := by
  have e : j = q := by omega
  subst e
  rw [extract_list, enc_list, List.drop_zero, Nat.sub_zero] at ht
  have hok : Utf.okAt s.data.toList j = true := by
    unfold Utf.okAt
    rw [hc, hv, ht]; rfl
  obtain ⟨hd, hb⟩ := Utf.ref_some (by rw [← Utf.size_eq]; omega) (by omega) hok
  unfold Dec3
  rw [dec0_ne h0, hd, decide_eq_false hb, hc, hq]
theorem ok_not {s : ByteArray} {q j : Nat} {c k : Int} (hc : (Utf.cval s.data.toList q : Int) = c) (hq : k = (q : Int)) (ht : ((Utf8.encode c).toList == (s.extract 0 j).toList) = false) (hj : (j : Int) = k := by omega) :
    Utf.okAt s.data.toList q = false := by
  have e : j = q := by omega
  subst e
  rw [extract_list, enc_list, List.drop_zero, Nat.sub_zero] at ht
  unfold Utf.okAt
  rw [hc, ht, Bool.and_false]
theorem below_drewN {B : Nat} {a w : World} (h : Below B a w) (n : Nat) : Below B a (w.drewN n) := ⟨h.os, h.tape, h.output, h.size, h.block⟩

end Go.Proofs.YtdjhmanccoekjaaGreatDoor
end

section
namespace Go.Proofs.YtdjhmanccoekjaaGreatDoor
open Go.RowKit Go.Proofs

theorem width_le (s : ByteArray) (pos : Nat) (h : pos < s.size) : 1 ≤ (Utf8.decode s pos).2 ∧ pos + (Utf8.decode s pos).2 ≤ s.size := by
  rw [Utf.decode_eq]
  have hne : s.data.toList.drop pos ≠ [] := by
    intro e
    have := congrArg List.length e
    rw [List.length_drop, List.length_nil, ← Utf.size_eq] at this
    omega
  have h1 := Utf.dec_width (s.data.toList.drop pos)
  have h2 := Utf.dec_le _ hne
  rw [List.length_drop, ← Utf.size_eq] at h2
  omega
theorem drop_ne {s : ByteArray} {pos : Nat} (h : pos < s.size) : s.data.toList.drop pos ≠ [] := by
  intro e
  have := congrArg List.length e
  rw [List.length_drop, List.length_nil, ← Utf.size_eq] at this
  omega
theorem drop_all {s : ByteArray} {pos : Nat} (h : ¬ pos < s.size) : s.data.toList.drop pos = [] :=
  List.drop_eq_nil_of_le (by rw [← Utf.size_eq]; omega)
theorem count_pos (s : ByteArray) (pos : Nat) (h : pos < s.size) : Utf.count (s.data.toList.drop pos) = 1 + Utf.count (s.data.toList.drop (pos + (Utf8.decode s pos).2)) := by
  rw [Utf.count_step (drop_ne h), ← Utf.decode_eq, List.drop_drop]

set_option maxRecDepth 100000 in
theorem count_any (s : ByteArray) (w : World) (hs : s.size ≤ 140737488355328) :
    Calls Tryz.prog 135 #[.string s] w fun e w' => e = .returned (.int .i64 (Utf.count s.data.toList)) ∧ Below w.heap.size w w' := by
  have hcb := Utf.count_le s.data.toList.length s.data.toList (Nat.le_refl _)
  rw [← Utf.size_eq] at hcb
  have HS : Hid (s.data.toList.length = s.size) := (Utf.size_eq s).symm
  obtain ⟨N, hN⟩ : ∃ N, Utf.count s.data.toList = N := ⟨_, rfl⟩
  rw [hN] at hcb ⊢
  have HN := hid hN
  clear hN
  go_enter Tryz.func135, Tryz.ntmps135
  go_wp2_with fail
  go_loopw [3] (fun n wr => ∃ (pos k : Nat), pos ≤ s.size ∧ wr = w.iter s pos ∧ n = .int .i64 k ∧ k ≤ N ∧ Hid (k + Utf.count (s.data.toList.drop pos) = N)) (fun _ wr => s.size - wr.iterPos w.heap.size)
  case atStart => exact ⟨0, 0, Nat.zero_le _, rfl, rfl, Nat.zero_le _, by rw [List.drop_zero, HN.out]; exact Nat.zero_add _⟩
  case round =>
    obtain ⟨pos, k, hpos, rfl, rfl, hkN, hk⟩ := hrel
    by_cases hp : pos < s.size
    · have hnx : ∀ ty, (Instr.next (.pointer (some ⟨w.heap.size, 0, none⟩)) true ty).run Tryz.prog (w.iter s pos) = _ := fun ty => run_next_any w s pos ty hp
      have hwd := width_le s pos hp
      have hkl : k + 1 ≤ N := by
        have := hk.out
        rw [count_pos s pos hp] at this
        omega
      go_wp2_with fail
      go_roundw
      case rel => exact ⟨pos + (Utf8.decode s pos).2, k + 1, hwd.2, rfl, by go_num, hkl, by have := hk.out; rw [count_pos s pos hp] at this; unfold Hid; omega⟩
      case measure =>
        simp
        omega
    · have hnx : ∀ ty, (Instr.next (.pointer (some ⟨w.heap.size, 0, none⟩)) true ty).run Tryz.prog (w.iter s pos) = _ := fun ty => run_next_end w s pos ty hp
      go_wp2_with fail
      go_ret
      have e : k = N := by
        have := hk.out
        rw [drop_all hp, Utf.count_nil] at this
        omega
      subst e
      exact ⟨rfl, (Below.refl _ _).alloc (Nat.le_refl _) _⟩

/-- The length of the text in a slot: for a loop's measure. -/
def strLen : Value → Nat | .string t => t.size | _ => 0

theorem t_size {s t : ByteArray} {pos : Nat} (h : t.data.toList = s.data.toList.drop pos) : t.size = s.size - pos := by
  rw [Utf.size_eq, h, List.length_drop, ← Utf.size_eq]
theorem isEmpty_of_pos {t : ByteArray} (h : 0 < t.size) : t.toList.isEmpty = false := by
  rw [isEmpty_iff]
  apply decide_eq_false
  intro e
  rw [Utf.size_eq, e] at h
  exact absurd h (Nat.lt_irrefl 0)
theorem isEmpty_of_zero {t : ByteArray} (h : ¬ 0 < t.size) : t.toList.isEmpty = true := by
  rw [isEmpty_iff]
  apply decide_eq_true
  apply List.eq_nil_of_length_eq_zero
  rw [← Utf.size_eq]
  omega
theorem dec0_le {t : ByteArray} (h : 0 < t.size) : 1 ≤ (dec0 t.data.toList).2 ∧ (dec0 t.data.toList).2 ≤ t.size := by
  have hne : t.data.toList ≠ [] := by
    intro e
    rw [Utf.size_eq, e] at h
    exact absurd h (Nat.lt_irrefl 0)
  rw [dec0_ne hne]
  exact ⟨(Utf.dec_width _).1, by rw [Utf.size_eq]; exact Utf.dec_le _ hne⟩
theorem count_dec0 {t : ByteArray} (h : 0 < t.size) : Utf.count t.data.toList = 1 + Utf.count (t.data.toList.drop (dec0 t.data.toList).2) := by
  have hne : t.data.toList ≠ [] := by
    intro e
    rw [Utf.size_eq, e] at h
    exact absurd h (Nat.lt_irrefl 0)
  rw [Utf.count_step hne, dec0_ne hne]
theorem extract_drop (t : ByteArray) (k : Nat) : (t.extract k t.size).data.toList = t.data.toList.drop k := by
  rw [Lib.extract_data]
  exact List.take_of_length_le (by rw [List.length_drop, ← Utf.size_eq]; omega)

end Go.Proofs.YtdjhmanccoekjaaGreatDoor
end

section
namespace Go.Proofs.YtdjhmanccoekjaaGreatDoor
open Go.RowKit Go.Proofs

/-- The first n runes of a text (n below 0: all). -/
def cutS (s : ByteArray) (n : Int) : ByteArray := if n < 0 then s else s.extract 0 (Utf.cutAt n.toNat s.data.toList)
theorem extract_all (s : ByteArray) : s.extract 0 s.size = s := by simp
theorem cutAt_zero (l : List UInt8) : Utf.cutAt 0 l = 0 := rfl
theorem cutAt_pos (s : ByteArray) (pos m : Nat) (h : pos < s.size) : Utf.cutAt (m + 1) (s.data.toList.drop pos) = (Utf8.decode s pos).2 + Utf.cutAt m (s.data.toList.drop (pos + (Utf8.decode s pos).2)) := by
  rw [Utf.cutAt_step (drop_ne h), ← Utf.decode_eq, List.drop_drop]

set_option maxRecDepth 100000 in
theorem cut_any (s : ByteArray) (n : Int) (w : World) (_hs : s.size ≤ 140737488355328) (hn0 : -9223372036854775808 ≤ n) (hn1 : n ≤ 9223372036854775807) :
    Calls Tryz.prog 109 #[.string s, .int .i64 n] w fun e w' => e = .returned (.string (cutS s n)) ∧ Below w.heap.size w w' := by
  by_cases hneg : n < 0
  · have hr : cutS s n = s := by unfold cutS; rw [if_pos hneg]
    rw [hr]
    clear hr
    go_enter Tryz.func109, Tryz.ntmps109
    go_wp2_with fail
    go_ret
    exact ⟨rfl, Below.refl _ _⟩
  · have hnn : 0 ≤ n := by omega
    have hr : cutS s n = s.extract 0 (Utf.cutAt n.toNat s.data.toList) := by unfold cutS; rw [if_neg hneg]
    rw [hr]
    clear hr
    obtain ⟨A, hA⟩ : ∃ A, Utf.cutAt n.toNat s.data.toList = A := ⟨_, rfl⟩
    rw [hA]
    have HA := hid hA
    clear hA hneg
    have H0 : Hid (0 + Utf.cutAt n.toNat (s.data.toList.drop 0) = A) := by rw [List.drop_zero, HA.out]; exact Nat.zero_add _
    go_enter Tryz.func109, Tryz.ntmps109
    go_wp2_with fail
    go_loopw [1, 5] (fun v _ wr => ∃ (pos : Nat) (m : Int), pos ≤ s.size ∧ wr = w.iter s pos ∧ v = .int .i64 m ∧ 0 ≤ m ∧ m ≤ n ∧ Hid (pos + Utf.cutAt m.toNat (s.data.toList.drop pos) = A)) (fun _ _ wr => s.size - wr.iterPos w.heap.size)
    case atStart => exact ⟨0, n, Nat.zero_le _, rfl, rfl, hnn, Int.le_refl _, H0⟩
    case round =>
      obtain ⟨pos, m, hpos, rfl, rfl, hm0, hmn, hk⟩ := hrel
      by_cases hp : pos < s.size
      · have hnx : ∀ ty, (Instr.next (.pointer (some ⟨w.heap.size, 0, none⟩)) true ty).run Tryz.prog (w.iter s pos) = _ := fun ty => run_next_any w s pos ty hp
        by_cases hz : m = 0
        · subst hz
          have hpa : pos = A := hk.out
          subst hpa
          go_wp2_with fail
          go_ret
          exact ⟨rfl, (Below.refl _ _).alloc (Nat.le_refl _) _⟩
        · have hwd := width_le s pos hp
          have hmp : 0 < m := by omega
          have hk' : Hid (pos + (Utf8.decode s pos).2 + Utf.cutAt (m - 1).toNat (s.data.toList.drop (pos + (Utf8.decode s pos).2)) = A) := by
            have h1 := hk.out
            rw [show m.toNat = (m - 1).toNat + 1 by omega, cutAt_pos s pos _ hp] at h1
            unfold Hid
            omega
          clear hz
          go_wp2_with fail
          go_roundw
          case rel => exact ⟨pos + (Utf8.decode s pos).2, m - 1, hwd.2, rfl, rfl, by omega, by omega, hk'⟩
          case measure =>
            simp
            omega
      · have hnx : ∀ ty, (Instr.next (.pointer (some ⟨w.heap.size, 0, none⟩)) true ty).run Tryz.prog (w.iter s pos) = _ := fun ty => run_next_end w s pos ty hp
        have hAs : A = s.size := by
          have h1 := hk.out
          rw [drop_all hp, Utf.cutAt_nil] at h1
          omega
        have hr : s.extract 0 A = s := by rw [hAs]; exact extract_all s
        have HR := hid hr
        clear hr hAs
        go_wp2_with fail
        go_ret
        exact ⟨ret_str HR.out.symm, (Below.refl _ _).alloc (Nat.le_refl _) _⟩

end Go.Proofs.YtdjhmanccoekjaaGreatDoor
end

section
namespace Go.Proofs.YtdjhmanccoekjaaGreatDoor
open Go.RowKit Go.Proofs

/-- A byte that often, at most a thousand times. -/
def fillL (c : Int) (n : Int) : List UInt8 := List.replicate (min n 1000).toNat (UInt8.ofNat c.toNat)
def fillS (c : Int) (n : Int) : ByteArray := ⟨(fillL c n).toArray⟩
theorem fillL_length (c n : Int) : (fillL c n).length = (min n 1000).toNat := by unfold fillL; rw [List.length_replicate]

theorem repeat_one (x : UInt8) (k : Nat) : Lib.repeatL [x] k = List.replicate k x := by
  induction k with
  | zero => rfl
  | succ k ih =>
    show [x] ++ Lib.repeatL [x] k = _
    rw [ih]
    rfl
attribute [local go_sem] conv1

theorem mm (n : Int) : max 0 (min n 1000) = ((min n 1000).toNat : Int) := by omega
set_option maxRecDepth 100000 in
theorem fill_any (c n : Int) (w : World) (hn0 : -9223372036854775808 ≤ n) (hn1 : n ≤ 9223372036854775807) :
    Calls Tryz.prog 136 #[.int .u8 c, .int .i64 n] w fun e w' => e = .returned (.string (fillS c n)) ∧ Below w.heap.size w w' := by
  go_enter Tryz.func136, Tryz.ntmps136
  go_wp2_with fail
  rw [mm n]
  refine (Tryz.strings_Repeat (strOfNums [c]) _ _ (by omega) (by rw [strOfNums_size]; simp only [List.length_cons, List.length_nil]; omega)).mono ?_
  rintro e w' ⟨rfl, hb⟩
  have hr : (⟨(Lib.repeatL (strOfNums [c]).data.toList (min n 1000).toNat).toArray⟩ : ByteArray) = fillS c n := by
    rw [strOfNums_data]
    unfold fillS fillL
    rw [← repeat_one]
    rfl
  rw [hr]
  clear hr
  go_wp2_with fail
  go_ret
  exact ⟨rfl, ((Below.refl w.heap.size w).alloc (Nat.le_refl _) _).trans (hb.mono (by simp))⟩

theorem fill_snoc (c : Int) (k : Nat) : (⟨(List.replicate k (UInt8.ofNat c.toNat)).toArray⟩ : ByteArray) ++ strOfNums [c] = ⟨(List.replicate (k + 1) (UInt8.ofNat c.toNat)).toArray⟩ := by
  rw [List.replicate_succ']
  unfold strOfNums
  apply ByteArray.ext
  apply Array.ext'
  simp

end Go.Proofs.YtdjhmanccoekjaaGreatDoor
end

section
namespace Go.Proofs.YtdjhmanccoekjaaGreatDoor
open Go.RowKit Go.Proofs

/-- A width: at most a thousand; below 0: none. -/
def widthI (n : Int) : Int := if n < 0 then -1 else if 1000 < n then 1000 else n
/-- A text filled up to a width. -/
def padS (s : ByteArray) (mi ze : Bool) (wid : Int) : ByteArray :=
  let n := max 0 (min wid 1000) - (Utf.count s.data.toList : Int)
  if n ≤ 0 then s else if mi then s ++ fillS 32 n else if ze then fillS 48 n ++ s else fillS 32 n ++ s

theorem fillS_size (c n : Int) : (fillS c n).size ≤ 1000 := by
  rw [Utf.size_eq]
  show (fillL c n).length ≤ 1000
  rw [fillL_length]
  omega

theorem box_cell {w w1 : World} {cs : Array Value} {T : TypeId} {fr : Nat × Nat} {B : Nat} (hb : Below B (w.alloc (.cells cs T fr)) w1) (hB : w.heap.size < B) (j : Nat) {v : Value} (hv : cs[j]? = some v) :
    w1.cell? ⟨w.heap.size, j, none⟩ = some v := by
  rw [hb.cell (p := ⟨w.heap.size, j, none⟩) hB, World.cell?_alloc_mark]
  exact hv
theorem box_cell_drew {w w1 : World} {cs : Array Value} {T : TypeId} {fr : Nat × Nat} {B : Nat} (hb : Below B (w.alloc (.cells cs T fr)).drew w1) (hB : w.heap.size < B) (j : Nat) {v : Value} (hv : cs[j]? = some v) :
    w1.cell? ⟨w.heap.size, j, none⟩ = some v :=
  box_cell (w := w) ⟨hb.os, hb.tape, hb.output, hb.size, hb.block⟩ hB j hv

set_option maxRecDepth 100000 in
theorem pad_any (s : ByteArray) (pl mi sh sp ze : Bool) (wid prec verb : Int) (w : World) (hs : s.size ≤ 140737488355328) (hw0 : -9223372036854775808 ≤ wid) (hw1 : wid ≤ 9223372036854775807) :
    Calls Tryz.prog 107 #[.string s, .agg #[.bool pl, .bool mi, .bool sh, .bool sp, .bool ze, .int .i64 wid, .int .i64 prec, .int .i32 verb]] w fun e w' => e = .returned (.string (padS s mi ze wid)) ∧ Below w.heap.size w w' := by
  have hcb := Utf.count_le s.data.toList.length s.data.toList (Nat.le_refl _)
  rw [← Utf.size_eq] at hcb
  have hC := fun W => count_any s W hs
  obtain ⟨N, hN⟩ : ∃ N, Utf.count s.data.toList = N := ⟨_, rfl⟩
  obtain ⟨m, hm⟩ : ∃ m : Int, m = max 0 (min wid 1000) := ⟨_, rfl⟩
  obtain ⟨r, hr⟩ : ∃ r, padS s mi ze wid = r := ⟨_, rfl⟩
  rw [hN] at hC hcb
  rw [hr]
  have HC := hid hC
  have HM := hid hm
  have HR : Hid (r = if m - (N : Int) ≤ 0 then s else if mi then s ++ fillS 32 (m - N) else if ze then fillS 48 (m - N) ++ s else fillS 32 (m - N) ++ s) := by
    rw [← hr, hm, ← hN]; rfl
  obtain ⟨d, hd⟩ : ∃ d, m - (N : Int) = d := ⟨_, rfl⟩
  have HD : Hid (r = if d ≤ 0 then s else if mi then s ++ fillS 32 d else if ze then fillS 48 d ++ s else fillS 32 d ++ s) := by
    rw [← hd]
    exact HR.out
  have hd1 : d ≤ 1000 ∧ -140737488355328 ≤ d := by omega
  obtain ⟨hd1, hd2⟩ := hd1
  have hwr : IntKind.i64.wrap (max 0 (min wid 1000) - (N : Int)) = d := by rw [← hm, hd]; exact IntWalk.i64_in _ (by omega)
  clear hC hN hr hm hd HR HM
  go_enter Tryz.func107, Tryz.ntmps107
  go_wp2_with fail
  go_region_held3 (fun w' => w'.cell? ⟨w.heap.size, 5, none⟩ = some (.int .i64 wid)) (first | exact (by simp) | exact (hb2.cell (p := ⟨w.heap.size, 5, none⟩) (by simp)).trans (by simp)) ((first | (go_at_call 135; refine (HC.out _).mono ?_; rintro e w' ⟨rfl, hb2⟩)))
  all_goals
    have c1 : w'.cell? ⟨w.heap.size, 1, none⟩ = some (.bool mi) := box_cell_drew hb2 (by simp) 1 rfl
    have c4 : w'.cell? ⟨w.heap.size, 4, none⟩ = some (.bool ze) := box_cell_drew hb2 (by simp) 4 rfl
    have hbw : Below w.heap.size w w' := (((Below.refl w.heap.size w).alloc (Nat.le_refl _) _).drew).trans (hb2.mono (by simp))
    clear hb2 hwr
    by_cases h0 : d ≤ 0
    · have hr : r = s := by rw [HD.out, if_pos h0]
      subst hr
      go_wp2_with fail
      go_ret
      exact ⟨rfl, hbw⟩
    · have z32 := fillS_size 32 d
      have z48 := fillS_size 48 d
      cases mi
      · cases ze
        · have hr : r = fillS 32 d ++ s := by rw [HD.out, if_neg h0]; rfl
          have HF := hid hr
          clear hr
          go_wp2_with (go_at_call 136; refine (fill_any _ _ _ (by omega) (by omega)).mono ?_; rintro e w1 ⟨rfl, hb3⟩)
          go_ret
          exact ⟨ret_str HF.out.symm, hbw.trans (hb3.mono hbw.size)⟩
        · have hr : r = fillS 48 d ++ s := by rw [HD.out, if_neg h0]; rfl
          have HF := hid hr
          clear hr
          go_wp2_with (go_at_call 136; refine (fill_any _ _ _ (by omega) (by omega)).mono ?_; rintro e w1 ⟨rfl, hb3⟩)
          go_ret
          exact ⟨ret_str HF.out.symm, hbw.trans (hb3.mono hbw.size)⟩
      · have hr : r = s ++ fillS 32 d := by rw [HD.out, if_neg h0]; rfl
        have HF := hid hr
        clear hr
        go_wp2_with (go_at_call 136; refine (fill_any _ _ _ (by omega) (by omega)).mono ?_; rintro e w1 ⟨rfl, hb3⟩)
        go_ret
        exact ⟨ret_str HF.out.symm, hbw.trans (hb3.mono hbw.size)⟩

end Go.Proofs.YtdjhmanccoekjaaGreatDoor
end

section
namespace Go.Proofs.YtdjhmanccoekjaaGreatDoor
open Go.RowKit Go.Proofs

/-- A block that is known whole. -/
def Blk (w : World) (g : Nat) (cs : Array Value) (t : TypeId) : Prop := w.heap[g]? = some (.cells cs t (0, 0))
section
variable {w w' : World} {g : Nat} {cs : Array Value} {t : TypeId}
theorem Blk.lt (h : Blk w g cs t) : g < w.heap.size := by
  rcases Nat.lt_or_ge g w.heap.size with hlt | hge
  · exact hlt
  · unfold Blk at h
    rw [Array.getElem?_eq_none hge] at h
    cases h
theorem Blk.cell (h : Blk w g cs t) (i : Nat) : w.cell? ⟨g, i, none⟩ = cs[i]? := cell_of_row w g i cs t (0, 0) h
theorem Blk.frozen (h : Blk w g cs t) (i : Nat) : w.frozen? ⟨g, i, none⟩ = false := by
  unfold Blk at h
  simp [World.frozen?, h]
theorem Blk.set_ (h : Blk w g cs t) (i : Nat) (u : Value) : Blk (w.setCell ⟨g, i, none⟩ u) g (cs.setIfInBounds i u) t := by
  unfold Blk at h ⊢
  simp [World.setCell, Array.getElem?_modify, h]
theorem Blk.same (h : Blk w g cs t) (e : w'.heap[g]? = w.heap[g]?) : Blk w' g cs t := e.trans h
theorem Blk.far (h : Blk w g cs t) {p : Addr} (hp : g ≠ p.block) (u : Value) : Blk (w.setCell p u) g cs t := (Below.heap_setCell w p u g hp).trans h
theorem Blk.new (w : World) (cs : Array Value) (t : TypeId) : Blk (w.alloc (.cells cs t)) w.heap.size cs t := heap_alloc_new w _
theorem Blk.alloc (h : Blk w g cs t) (o : Obj) : Blk (w.alloc o) g cs t := (Below.heap_alloc w o g h.lt).trans h
theorem Blk.below {B : Nat} (h : Blk w g cs t) (hb : Below B w w') (hg : g < B) : Blk w' g cs t := (hb.block g hg).trans h
end
end Go.Proofs.YtdjhmanccoekjaaGreatDoor
end

section
namespace Go.Proofs.YtdjhmanccoekjaaGreatDoor
open Go.RowKit Go.Proofs

theorem bytes_ext {a b : ByteArray} (h : a.data.toList = b.data.toList) : a = b := by
  apply ByteArray.ext
  apply Array.ext'
  exact h
def zero64 : Array Value := Array.replicate 64 (.int .u8 0)
/-- The digits' signs. -/
def signsS (g : Bool) : ByteArray := if g then ⟨#[48, 49, 50, 51, 52, 53, 54, 55, 56, 57, 65, 66, 67, 68, 69, 70]⟩ else ⟨#[48, 49, 50, 51, 52, 53, 54, 55, 56, 57, 97, 98, 99, 100, 101, 102]⟩
theorem signs_at (g : Bool) (d : Nat) (h : d < 16) : bt (signsS g) d = ((IP.hexd g d).toNat : Int) := by
  cases g <;> (rcases (show d = 0 ∨ d = 1 ∨ d = 2 ∨ d = 3 ∨ d = 4 ∨ d = 5 ∨ d = 6 ∨ d = 7 ∨ d = 8 ∨ d = 9 ∨ d = 10 ∨ d = 11 ∨ d = 12 ∨ d = 13 ∨ d = 14 ∨ d = 15 by omega) with rfl | rfl | rfl | rfl | rfl | rfl | rfl | rfl | rfl | rfl | rfl | rfl | rfl | rfl | rfl | rfl <;> rfl)

set_option maxRecDepth 100000 in
set_option maxHeartbeats 1000000 in
theorem digits_any (n b : Int) (g : Bool) (w : World) (h0 : 0 ≤ n) (h1 : n ≤ 18446744073709551615) (hb2 : 2 ≤ b) (hb16 : b ≤ 16) :
    Calls Tryz.prog 211 #[.int .u64 n, .int .u64 b, .string (signsS g)] w fun e w' => e = .returned (.string ⟨(IP.dgb b.toNat g n.toNat).toArray⟩) ∧ Below w.heap.size w w' := by
  have hl := IP.dgb_len64 b.toNat g (by omega) n.toNat (by omega)
  obtain ⟨S, hS⟩ : ∃ S, signsS g = S := ⟨_, rfl⟩
  have hSz : S.size = 16 := by rw [← hS]; cases g <;> rfl
  have HSS := hid (fun (d : Nat) (h : d < 16) => signs_at g d h)
  rw [hS] at HSS ⊢
  clear hS
  have BN := hid (Blk.new w zero64 319)
  have BB0 := hid ((Below.refl w.heap.size w).alloc (Nat.le_refl _) (.cells zero64 319))
  go_enter Tryz.func211, Tryz.ntmps211
  go_wp2_with fail
  obtain ⟨W0, hW0⟩ : ∃ W0, w.alloc (.cells zero64 319) = W0 := ⟨_, rfl⟩
  change Code.wp _ _ _ _ (w.alloc (.cells zero64 319))
  rw [hW0] at BN BB0 ⊢
  obtain ⟨G, hG⟩ : ∃ G, w.heap.size = G := ⟨_, rfl⟩
  have HG := hid hG
  rw [hG] at BN ⊢
  clear hW0 hG
  go_loopw [0, 8] (fun nv av wr => ∃ (x : Int) (k : Nat) (t : List Int) (cs : Array Value), nv = .int .u64 x ∧ 0 ≤ x ∧ x ≤ n ∧ av = .int .i64 k ∧ k ≤ 64 ∧ Hid (k + t.length = 64 ∧ IP.dgb b.toNat g n.toNat = IP.dgb b.toNat g x.toNat ++ t.map (fun v => UInt8.ofNat v.toNat) ∧ Blk wr G cs 319 ∧ cs.size = 64 ∧ (∀ i, i < t.length → cs[k + i]? = some (.int .u8 (t.getD i 0))) ∧ Below w.heap.size w wr)) (fun nv _ _ => (intOf nv).toNat)
  case atStart => exact ⟨n, 64, [], zero64, rfl, h0, Int.le_refl _, rfl, Nat.le_refl _, ⟨rfl, (List.append_nil _).symm, BN.out, rfl, fun i h => absurd h (Nat.not_lt_zero _), BB0.out⟩⟩
  case round =>
    obtain ⟨x, k, t, cs, rfl, hx0, hxn, rfl, hk, hrel⟩ := hrel
    obtain ⟨r1, r2, r3, r4, r5, r6⟩ := hrel.out
    have hk1 : 1 ≤ k := by
      have h2 := congrArg List.length r2
      have h3 := IP.dgb_pos b.toNat x.toNat g
      rw [List.length_append, List.length_map] at h2
      omega
    have hm0 : 0 ≤ x % b := Int.emod_nonneg _ (by omega)
    have hm1 : x % b < b := Int.emod_lt_of_pos _ (by omega)
    have hq0 : 0 ≤ x / b := Int.ediv_nonneg hx0 (by omega)
    obtain ⟨c, hc⟩ : ∃ c : Int, ((IP.hexd g (x % b).toNat).toNat : Int) = c := ⟨_, rfl⟩
    have hc0 : 0 ≤ c ∧ c < 256 := by have := UInt8.toNat_lt (IP.hexd g (x % b).toNat); omega
    obtain ⟨hc0, hc1⟩ := hc0
    have hidx : (x % b).toNat < S.size := by rw [hSz]; omega
    have E0 := bt_at S (x % b).toNat hidx
    rw [HSS.out _ (by omega), hc] at E0
    obtain ⟨old, hcc⟩ : ∃ old, wr.cell? ⟨G, k - 1, none⟩ = some old := ⟨_, by rw [r3.cell (k - 1), Array.getElem?_eq_getElem (by omega)]⟩
    have hcf := r3.frozen (k - 1)
    have hcu : UInt8.ofNat c.toNat = IP.hexd g (x % b).toNat := by
      rw [← hc, Int.toNat_natCast]
      exact UInt8.ofNat_toNat
    have hxt : (x % b).toNat = x.toNat % b.toNat := Int.toNat_emod hx0 (by omega)
    have hxq : (x / b).toNat = x.toNat / b.toNat := by
      obtain ⟨a, ha⟩ := Int.eq_ofNat_of_zero_le hx0
      obtain ⟨d, hd⟩ := Int.eq_ofNat_of_zero_le (show 0 ≤ b by omega)
      rw [ha, hd, ← Int.natCast_ediv, Int.toNat_natCast, Int.toNat_natCast, Int.toNat_natCast]
    have NEXT : Hid (Blk (wr.setCell ⟨G, k - 1, none⟩ (.int .u8 c)) G (cs.setIfInBounds (k - 1) (.int .u8 c)) 319 ∧ (cs.setIfInBounds (k - 1) (.int .u8 c)).size = 64 ∧
        (∀ i, i < (c :: t).length → (cs.setIfInBounds (k - 1) (.int .u8 c))[k - 1 + i]? = some (.int .u8 ((c :: t).getD i 0))) ∧ Below w.heap.size w (wr.setCell ⟨G, k - 1, none⟩ (.int .u8 c))) := by
      refine ⟨r3.set_ _ _, by simp [r4], fun i hi => ?_, r6.setCell (by rw [HG.out]; exact Nat.le_refl _) _⟩
      cases i with
      | zero => rw [Nat.add_zero, Array.getElem?_setIfInBounds_self_of_lt (by omega)]; rfl
      | succ i =>
        rw [Array.getElem?_setIfInBounds_ne (by omega), show k - 1 + (i + 1) = k + i by omega, r5 i (by simpa using hi)]
        rfl
    have KK := hid (And.intro r1 (And.intro r2 (And.intro hcu (And.intro hxt hxq))))
    clear r1 r2 r3 r4 r5 r6 hc hcu hxt hxq hrel
    by_cases hlt : x < b
    · have hq : ((x / b : Int) == 0) = true := beq_iff_eq.2 (Int.ediv_eq_zero_of_lt hx0 hlt)
      have hlen : (c :: t).length = 65 - k := by have := KK.out.1; simp only [List.length_cons]; omega
      have sl : ∀ W : World, (Instr.sliceAt 319 (.pointer (some ⟨G, 0, none⟩)) (some (.int .i64 (↑k - 1))) none none).run Tryz.prog W = .ok (.slice (some ⟨G, k - 1, none⟩) (65 - k) (65 - k)) W := fun W => by
        have h := run_sliceAt_array_l (P := Tryz.prog) W 319 ⟨G, 0, none⟩ Tryz.underlying319 .i64 (↑k - 1) (by omega) (by show _ ≤ ((64 : Nat) : Int); omega)
        have e1 : ((k : Int) - 1).toNat = k - 1 := by omega
        have e2 : Tryz.prog.arrayLen 319 = 64 := rfl
        have e3 : Tryz.prog.elem 319 = 5 := rfl
        rw [h, e1, e2, e3]
        have e4 := Tryz.sizeOf5 W
        rw [e4]
        simp only [Result.andThen_ok, slicedAt, if_neg (show ¬ 64 = k - 1 by omega), Nat.mul_one]
        rw [show 64 - (k - 1) = 65 - k by omega, Addr.add_mid, Nat.zero_add]
      have cv : (convert 50 9 (.slice (some ⟨G, k - 1, none⟩) (65 - k) (65 - k))).run Tryz.prog (wr.setCell ⟨G, k - 1, none⟩ (.int .u8 c)) = .ok (.string (strOfNums (c :: t))) (wr.setCell ⟨G, k - 1, none⟩ (.int .u8 c)) :=
        run_convert_bytes_arg _ 50 5 Tryz.underlying50 Tryz.underlying5 G (k - 1) (65 - k) (65 - k) (c :: t) hlen (fun i hi => by
          rw [NEXT.out.1.cell]
          exact NEXT.out.2.2.1 i (by rw [hlen]; exact hi)) 9 Tryz.underlying9
      clear hlen
      go_wp2_with fail
      go_ret
      refine ⟨ret_str (bytes_ext ?_), NEXT.out.2.2.2⟩
      rw [strOfNums_data, List.map_cons, KK.out.2.2.1, KK.out.2.1, IP.dgb_small g (by omega), KK.out.2.2.2.1, Nat.mod_eq_of_lt (by omega)]
      rfl
    · have hq : ((x / b : Int) == 0) = false := beq_eq_false_iff_ne.2 (by
        have : 1 ≤ x / b := Int.le_ediv_of_mul_le (by omega) (by omega)
        omega)
      have hdec : x / b < x := Int.ediv_lt_self_of_pos_of_ne_one (by omega) (by omega)
      go_wp2_with fail
      go_roundw
      case rel =>
        refine ⟨x / b, k - 1, c :: t, _, rfl, hq0, by omega, by go_num, by omega, ⟨?_, ?_, NEXT.out.1, NEXT.out.2.1, NEXT.out.2.2.1, NEXT.out.2.2.2⟩⟩
        · have := KK.out.1
          simp only [List.length_cons]; omega
        · rw [List.map_cons, KK.out.2.2.1, KK.out.2.1, IP.dgb_big g (by omega) (by omega), KK.out.2.2.2.1, KK.out.2.2.2.2, List.append_assoc]
          rfl
      case measure => simp [intOf]; omega
end Go.Proofs.YtdjhmanccoekjaaGreatDoor
end

section
namespace Go.Proofs.YtdjhmanccoekjaaGreatDoor
open Go.RowKit Go.Proofs

theorem qplain_any (c : Int) (w : World) : Calls Tryz.prog 163 #[.int .i32 c] w fun e w' => e = .returned (.bool (IP.plainB c)) ∧ w = w' := by
  go_enter Tryz.func163, Tryz.ntmps163
  go_wp2
  all_goals (go_ret; refine ⟨ret_bool ?_, rfl⟩; rw [Bool.eq_iff_iff]; simp [IP.plainB] <;> omega)
theorem limit_any (n : Int) (w : World) : Calls Tryz.prog 210 #[.int .i64 n] w fun e w' => e = .returned (.int .i64 (IP.limI n)) ∧ w = w' := by
  go_enter Tryz.func210, Tryz.ntmps210
  go_wp2
  go_ret
  exact ⟨rfl, rfl⟩
theorem width_lim (n : Int) : widthI n = IP.limI n := by
  unfold widthI IP.limI
  split
  · omega
  · split <;> omega

/-- Bytes as cells. -/
def bc (l : List UInt8) : List Value := l.map fun b => Value.int .u8 b.toNat
theorem bc_append (a b : List UInt8) : bc (a ++ b) = bc a ++ bc b := by simp [bc]
theorem bc_length (l : List UInt8) : (bc l).length = l.length := by simp [bc]
theorem bc_one (l : List UInt8) : ∀ v ∈ bc l, v.oneCell' = true := by
  intro v hv
  simp only [bc, List.mem_map] at hv
  obtain ⟨b, _, rfl⟩ := hv
  rfl
theorem info_u8 : (Tryz.prog.info? 5).map (fun i => (i.zero, i.size, i.bytes)) = some (some (.int .u8 0), 1, 1) := by kernel_rfl
theorem own_ge {w : World} {base n : Nat} {e : TypeId} {v : Value} {xs : List Value} (h : w.ownsRow base e 1 v n xs) {g : Nat} (hg : v.ownBlock = some g) : base ≤ g := by
  rcases h.2 with ⟨rfl, _⟩ | ⟨g', cap, cur, rfl, h2, _⟩
  · cases hg
  · simp only [Value.ownBlock, Option.some.injEq] at hg
    omega
theorem own_grown {w w1 W : World} {B n : Nat} {e : TypeId} {v : Value} {xs : List Value} (hown : w.ownsRow B e 1 v n xs) (hb : Below B w W) (hB : B ≤ W.heap.size) (hg : W.grownBy w1 v.ownBlock) : Below B w w1 := by
  refine Below.grown hb hg hB ?_
  intro k hk
  exact own_ge hown hk
/-- Below B nothing has turned; above it all that is no row of bytes is as it was. -/
structure KB (B : Nat) (w w' : World) : Prop where
  below : Below B w w'
  kept : Lib.OthersKept 5 none w w'
theorem KB.refl (B : Nat) (w : World) : KB B w w := ⟨Below.refl B w, Lib.OthersKept.refl _ _ w⟩
theorem KB.trans {B : Nat} {a b c : World} (h : KB B a b) (k : KB B b c) : KB B a c := ⟨h.below.trans k.below, h.kept.trans k.kept⟩
theorem KB.size {B : Nat} {a b : World} (h : KB B a b) : a.heap.size ≤ b.heap.size := h.below.size
theorem KB.alloc {B : Nat} {a b : World} (h : KB B a b) (hB : B ≤ b.heap.size) (o : Obj) : KB B a (b.alloc o) := ⟨h.below.alloc hB o, h.kept.alloc o⟩
theorem KB.mono {B C : Nat} {a b : World} (h : KB B a b) (hC : C ≤ B) : KB C a b := ⟨h.below.mono hC, h.kept⟩
theorem own_cells {w : World} {base n : Nat} {e : TypeId} {v : Value} {xs : List Value} (h : w.ownsRow base e 1 v n xs) (g : Nat) (hg : v.ownBlock = some g) : ∃ c fz, w.heap[g]? = some (.cells c e fz) := by
  rcases h.2 with ⟨rfl, _⟩ | ⟨g', cap, cur, rfl, _, hgg, _⟩
  · simp [Value.ownBlock] at hg
  · simp only [Value.ownBlock, Option.some.injEq] at hg
    exact ⟨cur, (0, 0), hg ▸ hgg⟩
/-- Cells put to a row of bytes that the call owns. -/
theorem wpList_bytes {ops : Array Oper} {rest : List Oper} {ob oa : Oper} {a : Act} {w : World} {Q : Exit → Act → World → Prop} (hgb : ob.guard = none) (hga : oa.guard = none) (m : Nat) (parts : Array (Nat × Operand)) (y : Operand) (b : Tmp)
    (hob : ob.op = .buildSlice 50 m parts) (hdb : ob.dst = some b) (hoa : oa.op = .call { callee := .builtin .append, args := #[y, .tmp b], argTypes := #[50, 50] })
    (l : List UInt8) (hm : l.length = m) (hm0 : 0 < m) (hm1 : m ≤ 100)
    (hf : Instr.fill (fun i => some (i * 1, 1)) ((Array.range (m * 1)).map ((#[Value.int .u8 0] : Array Value)[· % 1]!)) (parts.map fun (i, x) => (i, a.eval x)).toList = some (bc l).toArray)
    (B : Nat) (v : Value) (n : Nat) (xs : List Value) (sl : Value) (hsl : sl = .slice (some ⟨w.heap.size, 0, none⟩) m m) (hy : (a.put (some b) sl).eval y = v) (hbt : (a.put (some b) sl).eval (.tmp b) = sl) (hown : w.ownsRow B 5 1 v n xs) (hB : B ≤ w.heap.size) (hn : n ≤ 100000)
    (h : ∀ v' w', w'.ownsRow B 5 1 v' (n + l.length) (xs ++ bc l) → KB B w w' → wpList Tryz.prog ops Q rest ((a.put (some b) sl).put oa.dst v') w') : wpList Tryz.prog ops Q (ob :: oa :: rest) a w := by
  obtain ⟨i0, hi, hz0, hz1, hz2⟩ := info_parts info_u8
  refine wpList_buildSlice hgb 50 5 m parts hob (bc l).toArray i0 (.int .u8 0) Tryz.underlying50 hi hz0 (by rw [hz1]; omega) (by rw [hz1]; omega) ?_ ?_
  · rw [hz1]
    exact hf
  · rw [hdb, ← hsl]
    have hown1 : (w.alloc (.cells (bc l).toArray 5)).ownsRow B 5 1 v n xs := hown.alloc _
    refine wpList_append_own (P := Tryz.prog) (w := w.alloc (.cells (bc l).toArray 5)) hga y (.tmp b) 50 hoa B 5 i0 (.int .u8 0) 1 1 Tryz.underlying50 hi hz0 hz1 hz2 rfl (by decide) v n xs hy hown1 ⟨w.heap.size, 0, none⟩ m m (bc l) (by rw [hbt, hsl]) (by rw [bc_length, hm, Nat.mul_one]) ?_ (bc_one l) (by unfold maxLen; omega) (by omega) (by simp; omega) ?_
    · intro j u hu
      rw [Addr.add_mid, Nat.zero_add, Lib.cell_of_heap (heap_alloc_new w _)]
      simpa using hu
    · intro v' w' h2 h3 _
      have hb : KB B w w' := ⟨own_grown hown ((Below.refl B w).alloc hB _) (by simp; omega) h3, ((Lib.OthersKept.refl _ none w).alloc _).grown h3 (own_cells hown1)⟩
      refine h v' w' ?_ hb
      rw [hm]
      exact h2

theorem hexW_step (c j N : Nat) (hj : j < N) : IP.hexW (c / 16 ^ j) (N - j) = IP.hexW (c / 16 ^ (j + 1)) (N - (j + 1)) ++ [IP.hexd false (c / 16 ^ j % 16)] := by
  rw [show N - j = (N - (j + 1)) + 1 by omega, IP.hexW, Nat.div_div_eq_div_mul, Nat.pow_succ]

set_option maxRecDepth 100000 in
set_option maxHeartbeats 1000000 in
theorem escape_any (B : Nat) (v : Value) (n : Nat) (xs : List Value) (sign c : Int) (N : Nat) (w : World) (hown : w.ownsRow B 5 1 v n xs) (hB : B ≤ w.heap.size) (hn : n ≤ 50000) (hs0 : 0 ≤ sign) (hs1 : sign ≤ 255) (hc0 : 0 ≤ c) (hc1 : c ≤ 2147483647) (hN : N ≤ 8) :
    Calls Tryz.prog 137 #[v, .int .u8 sign, .int .i32 c, .int .i64 N] w fun e w' => ∃ v', e = .returned v' ∧ w'.ownsRow B 5 1 v' (n + (92 :: UInt8.ofNat sign.toNat :: IP.hexW c.toNat N).length) (xs ++ bc (92 :: UInt8.ofNat sign.toNat :: IP.hexW c.toNat N)) ∧ KB B w w' := by
  have hsg : ((UInt8.ofNat sign.toNat).toNat : Int) = sign := by rw [Utf.toNat_ofNat (by omega)]; omega
  obtain ⟨sg, hsg2⟩ : ∃ sg, UInt8.ofNat sign.toNat = sg := ⟨_, rfl⟩
  rw [hsg2] at hsg ⊢
  have HO := hid hown
  have HS := hid hsg
  clear hsg2 hown hsg
  go_enter Tryz.func137, Tryz.ntmps137
  go_upto_region 1 with fail
  refine wp_region_list ?_
  refine wpList_plain rfl fun K hK => ?_
  have HK := hid hK
  clear hK
  go_wp2_with fail
  refine HK.out _ _ ?_
  clear HK
  refine wpList_plain rfl fun K hK => ?_
  have HK := hid hK
  clear hK
  go_wp2_with fail
  refine HK.out _ _ ?_
  clear HK
  refine wpList_bytes rfl rfl 2 _ (.tmp 10) 12 rfl rfl rfl [92, sg] rfl (by decide) (by decide) (by rw [show bc [92, sg] = [.int .u8 92, .int .u8 sign] by simp [bc, HS.out]]; kernel_rfl) B v n xs _ rfl rfl rfl HO.out hB (by omega) ?_
  intro v1 w1 ho1 hb1
  have HB1 := hid hb1
  have HO1 := hid ho1
  clear hb1 ho1
  go_wp2_with fail
  go_loopw [0, 9] (fun ov iv wr => ∃ (v2 : Value) (i : Int), ov = v2 ∧ iv = .int .i64 i ∧ -1 ≤ i ∧ i < N ∧ Hid (wr.ownsRow B 5 1 v2 (n + (92 :: sg :: IP.hexW (c.toNat / 16 ^ (i + 1).toNat) (N - (i + 1).toNat)).length) (xs ++ bc (92 :: sg :: IP.hexW (c.toNat / 16 ^ (i + 1).toNat) (N - (i + 1).toNat))) ∧ KB B w wr)) (fun _ iv _ => (intOf iv + 1).toNat)
  case atStart =>
    refine ⟨_, N - 1, rfl, by go_num, by omega, by omega, ?_, HB1.out⟩
    rw [show N - ((N : Int) - 1 + 1).toNat = 0 by omega]
    exact HO1.out
  case round =>
    obtain ⟨v2, i, rfl, rfl, hi0, hiN, hrel⟩ := hrel
    by_cases hi : 0 ≤ i
    · obtain ⟨q, hq⟩ : ∃ q : Int, c / 2 ^ (4 * i).toNat = q := ⟨_, rfl⟩
      have hp : (2 : Int) ^ (4 * i).toNat = ((16 ^ i.toNat : Nat) : Int) := by
        rw [show (4 * i).toNat = 4 * i.toNat by omega, Int.pow_mul]
        simp
      have hqn : q.toNat = c.toNat / 16 ^ i.toNat := by
        obtain ⟨m, hm⟩ := Int.eq_ofNat_of_zero_le hc0
        rw [← hq, hp, hm, ← Int.natCast_ediv, Int.toNat_natCast, Int.toNat_natCast]
      have hq0 : 0 ≤ q := by
        rw [← hq, hp]
        exact Int.ediv_nonneg hc0 (Int.natCast_nonneg _)
      have hq1 : q < 2147483648 := by
        have h1 : q.toNat ≤ c.toNat := by rw [hqn]; exact Nat.div_le_self _ _
        omega
      obtain ⟨d, hd⟩ : ∃ d : Nat, q.toNat % 16 = d := ⟨_, rfl⟩
      have hd16 : d < 16 := by rw [← hd]; exact Nat.mod_lt _ (by decide)
      have an : bits .and .i32 q 15 = (d : Int) := by
        have h := bits_mask .i32 31 (by decide) wraps_i32 4 (by decide) q hq0 hq1
        have e : (2 : Int) ^ 4 - 1 = 15 := by decide
        rw [e] at h
        rw [h, show (2 : Int) ^ 4 = 16 by decide]
        omega
      have hidx : d < (⟨#[48, 49, 50, 51, 52, 53, 54, 55, 56, 57, 97, 98, 99, 100, 101, 102]⟩ : ByteArray).size := hd16
      obtain ⟨y, hy⟩ : ∃ y : Int, ((IP.hexd false d).toNat : Int) = y := ⟨_, rfl⟩
      have E0 : (((⟨#[48, 49, 50, 51, 52, 53, 54, 55, 56, 57, 97, 98, 99, 100, 101, 102]⟩ : ByteArray)[d]'hidx).toNat : Int) = y := (bt_at _ d hidx).trans ((signs_at false d hd16).trans hy)
      have hd0 : 0 ≤ (d : Int) := Int.natCast_nonneg _
      have hd1 : (d : Int) < 16 := by omega
      have HX := hid (And.intro hqn (And.intro hd hy))
      clear hp hqn hd hy
      go_upto_region 5 with fail
      refine wp_region_list ?_
      refine wpList_plain rfl fun K hK => ?_
      have HK := hid hK
      clear hK
      go_wp2_with fail
      refine HK.out _ _ ?_
      clear HK
      refine wpList_plain rfl fun K hK => ?_
      have HK := hid hK
      clear hK
      go_wp2_with fail
      refine HK.out _ _ ?_
      clear HK
      refine wpList_plain rfl fun K hK => ?_
      have HK := hid hK
      clear hK
      go_wp2_with fail
      refine HK.out _ _ ?_
      clear HK
      refine wpList_plain rfl fun K hK => ?_
      have HK := hid hK
      clear hK
      go_wp2_with fail
      refine HK.out _ _ ?_
      clear HK
      refine wpList_plain rfl fun K hK => ?_
      have HK := hid hK
      clear hK
      go_wp2_with fail
      refine HK.out _ _ ?_
      clear HK
      refine wpList_plain rfl fun K hK => ?_
      have HK := hid hK
      clear hK
      go_wp2_with fail
      refine HK.out _ _ ?_
      clear HK
      refine wpList_plain rfl fun K hK => ?_
      have HK := hid hK
      clear hK
      go_wp2_with fail
      refine HK.out _ _ ?_
      clear HK
      refine wpList_bytes rfl rfl 1 _ (.tmp 20) 27 rfl rfl rfl [IP.hexd false d] rfl (by decide) (by decide) (by rw [show bc [IP.hexd false d] = [.int .u8 y] by simp [bc, HX.out.2.2]]; kernel_rfl) B _ _ _ _ rfl rfl rfl hrel.out.1 (Nat.le_trans hB hrel.out.2.size) (by simp [IP.hexW_len]; omega) ?_
      intro v3 w3 ho3 hb3
      have R1 : Hid (w3.ownsRow B 5 1 v3 (n + (92 :: sg :: IP.hexW (c.toNat / 16 ^ (i - 1 + 1).toNat) (N - (i - 1 + 1).toNat)).length) (xs ++ bc (92 :: sg :: IP.hexW (c.toNat / 16 ^ (i - 1 + 1).toNat) (N - (i - 1 + 1).toNat))) ∧ KB B w w3) := by
        refine ⟨?_, hrel.out.2.trans hb3⟩
        have e1 : (i - 1 + 1).toNat = i.toNat := by omega
        have e2 : (i + 1).toNat = i.toNat + 1 := by omega
        have e3 := hexW_step c.toNat i.toNat N (by omega)
        rw [← HX.out.1, HX.out.2.1] at e3
        rw [e2] at ho3
        rw [e1, ← HX.out.1, e3]
        have e4 : (92 :: sg :: (IP.hexW (c.toNat / 16 ^ (i.toNat + 1)) (N - (i.toNat + 1)) ++ [IP.hexd false d])) = (92 :: sg :: IP.hexW (c.toNat / 16 ^ (i.toNat + 1)) (N - (i.toNat + 1))) ++ [IP.hexd false d] := rfl
        rw [e4, bc_append, ← List.append_assoc, List.length_append, ← Nat.add_assoc]
        exact ho3
      clear ho3 hb3 hq an E0
      go_wp2_with fail
      go_roundw
      case rel => exact ⟨v3, i - 1, rfl, rfl, by omega, by omega, R1.out⟩
      case measure => simp [intOf]; omega
    · have hi' : i = -1 := by omega
      subst hi'
      have R1 := hid (show wr.ownsRow B 5 1 u0 (n + (92 :: sg :: IP.hexW c.toNat N).length) (xs ++ bc (92 :: sg :: IP.hexW c.toNat N)) ∧ KB B w wr from by
        have h := hrel.out
        have e : (-1 + 1 : Int).toNat = 0 := by decide
        rw [e, Nat.pow_zero, Nat.div_one, Nat.sub_zero] at h
        exact h)
      go_wp2_with fail
      go_ret
      exact ⟨_, rfl, R1.out⟩
end Go.Proofs.YtdjhmanccoekjaaGreatDoor
end
