/-
  Walks of layer 2: a text in quotes.
-/
import Derived.Test.YtaniahkagmjkoaaDoorQ4
import Derived.Test.YtaniahkagmjkoaaDoorQR
import Derived.Lib.OthersKept
import Derived.Deep.CutBlock
namespace Go.Proofs.YtaniahkagmjkoaaDoor
open Go.RowKit Go.Proofs

theorem own_iter {w : World} {B n : Nat} {e : TypeId} {v : Value} {xs : List Value} (h : w.ownsRow B e 1 v n xs) {k : Nat} {s : ByteArray} {pos : Nat} (hk : w.heap[k]? = some (.stringIter s pos)) (pos' : Nat) : (w.iterAt k s pos').ownsRow B e 1 v n xs := by
  refine ⟨h.1, ?_⟩
  rcases h.2 with h0 | ⟨g, cap, cur, h1, h2, h3, h4⟩
  · exact Or.inl h0
  · refine Or.inr ⟨g, cap, cur, h1, h2, ?_, h4⟩
    rw [Lib.iterAt_other w k g s pos' (by intro e1; rw [e1, hk] at h3; cases h3)]
    exact h3
theorem own_keep {w W : World} {B n : Nat} {e : TypeId} {v : Value} {xs : List Value} (h : w.ownsRow B e 1 v n xs) (hb : Below w.heap.size w W) : W.ownsRow B e 1 v n xs := by
  refine ⟨h.1, ?_⟩
  rcases h.2 with h0 | ⟨g, cap, cur, h1, h2, h3, h4⟩
  · exact Or.inl h0
  · refine Or.inr ⟨g, cap, cur, h1, h2, ?_, h4⟩
    rw [hb.block g (Array.getElem?_eq_some_iff.1 h3).1]
    exact h3
theorem decstr_any (s : ByteArray) (w : World) (hp : 0 < s.size) (hT : Tabs w) : Calls Tryd.prog 55 #[.string s] w fun e w' =>
    e = .returned (.tuple #[.int .i32 (Utf.decL s.data.toList).1, .int .i64 (Utf.decL s.data.toList).2]) ∧ Below w.heap.size w w' := by
  have hd : Lib.decodeGo s = Utf.decL s.data.toList := by
    unfold Lib.decodeGo
    rw [if_neg (by omega), Utf.decode_eq, List.drop_zero]
  have hc := Tryd.utf8_DecodeRuneInString s w hT
  rw [hd] at hc
  exact hc

/-- What holds at the head of a round: what is written, where the iterator stands. -/
def QInv (w : World) (s : ByteArray) (ascii : Bool) (wr : World) (v : Value) (pos : Nat) (l : List UInt8) : Prop :=
  wr.ownsRow w.heap.size 5 1 v (l.length + 1) (bc (34 :: l)) ∧ l ++ IP.runsQ ascii (s.data.toList.drop pos) = IP.runsQ ascii s.data.toList ∧ wr.heap[w.heap.size + 1]? = some (.stringIter s pos) ∧ Below w.heap.size w wr
theorem QInv.len {w wr : World} {s : ByteArray} {ascii : Bool} {v : Value} {pos : Nat} {l : List UInt8} (h : QInv w s ascii wr v pos l) : l.length ≤ 10 * s.size := by
  have h1 := congrArg List.length h.2.1
  have h2 := IP.runsQ_len ascii s.data.toList.length s.data.toList (Nat.le_refl _)
  rw [← Utf.size_eq] at h2
  rw [List.length_append] at h1
  omega
theorem iterPos_at {w : World} {k : Nat} {s : ByteArray} {pos : Nat} (h : w.heap[k]? = some (.stringIter s pos)) : w.iterPos k = pos := by simp [World.iterPos, h]
/-- A step put. -/
theorem QInv.step {w wr W2 W3 : World} {s : ByteArray} {ascii : Bool} {v v3 : Value} {pos K : Nat} {l st : List UInt8} (h : QInv w s ascii wr v pos l) (hp : pos < s.size) (hK : (Utf.decL (s.data.toList.drop pos)).2 = K) (hst : IP.stepQ ascii (s.data.toList.drop pos) = st)
    (hit : W2.heap[w.heap.size + 1]? = some (.stringIter s (pos + K))) (hb2 : Below w.heap.size w W2) (ho : W3.ownsRow w.heap.size 5 1 v3 (l.length + 1 + st.length) (bc (34 :: l) ++ bc st)) (hk : KB w.heap.size W2 W3) : QInv w s ascii W3 v3 (pos + K) (l ++ st) := by
  refine ⟨?_, ?_, hk.kept _ _ hit (by simp) (by intro c fz e; cases e), hb2.trans hk.below⟩
  · have e : bc (34 :: (l ++ st)) = bc (34 :: l) ++ bc st := by simp [bc]
    rw [e, List.length_append, Nat.add_right_comm]
    exact ho
  · have := IP.runsQ_step ascii s.data.toList l pos (drop_ne hp) h.2.1
    rw [hst, hK] at this
    exact this

set_option maxRecDepth 100000 in
set_option maxHeartbeats 2000000 in
theorem quote_any (s : ByteArray) (ascii : Bool) (w : World) (hT : Tabs w) (hs : s.size ≤ 3000) :
    Calls Tryd.prog 43 #[.string s, .bool ascii] w fun e w' => e = .returned (.string ⟨(IP.quoteL ascii s.data.toList).toArray⟩) ∧ Below w.heap.size w w' := by
  have O1 := own_one w 34
  have HT := hid hT
  clear hT
  have Q0 := hid (show QInv w s ascii ((w.alloc (.cells #[.int .u8 34] 5)).iter s 0) (.slice (some ⟨w.heap.size, 0, none⟩) 1 1) 0 [] from
    ⟨(O1.alloc _ : ((w.alloc (.cells #[.int .u8 34] 5)).alloc (.stringIter s 0)).ownsRow _ _ _ _ _ _), by simp, by
      have := World.iter_heap (w.alloc (.cells #[.int .u8 34] 5)) s 0
      simpa using this, ((Below.refl w.heap.size w).alloc (Nat.le_refl _) _).alloc (by simp) _⟩)
  clear O1
  go_enter Tryd.func43, Tryd.ntmps43
  go_wp2_with fail
  go_loopw [5] (fun ov wr => ∃ (pos : Nat) (l : List UInt8), pos ≤ s.size ∧ Hid (QInv w s ascii wr ov pos l)) (fun _ wr => s.size - wr.iterPos (w.heap.size + 1))
  case atStart => exact ⟨0, [], Nat.zero_le _, Q0.out⟩
  case round =>
    obtain ⟨pos, l, hpos, hq⟩ := hrel
    have hlen := hq.out.len
    by_cases hp : pos < s.size
    · have hwd := width_le s pos hp
      have hde := Utf.decode_eq s pos
      obtain ⟨K, hK⟩ : ∃ K, (Utf8.decode s pos).2 = K := ⟨_, rfl⟩
      obtain ⟨c, hc⟩ : ∃ c : Int, ((Utf8.decode s pos).1 : Int) = c := ⟨_, rfl⟩
      have hcb : 0 ≤ c ∧ c ≤ 1114111 := by
        have := Utf.dec_rune (s.data.toList.drop pos)
        rw [← hde] at this
        omega
      obtain ⟨hc0, hc1⟩ := hcb
      have hnx : ∀ ty, (Instr.next (.pointer (some ⟨w.heap.size + 1, 0, none⟩)) true ty).run Tryd.prog wr = _ := fun ty => Lib.run_next_any_at wr _ s pos ty hq.out.2.2.1 hp
      rw [hK] at hnx hwd
      rw [hc] at hnx
      obtain ⟨W2, hW2⟩ : ∃ W2, wr.iterAt (w.heap.size + 1) s (pos + K) = W2 := ⟨_, rfl⟩
      rw [hW2] at hnx
      have ho2 : Hid (W2.ownsRow w.heap.size 5 1 u5 (l.length + 1) (bc (34 :: l))) := by rw [← hW2]; exact own_iter hq.out.1 hq.out.2.2.1 _
      have hit2 : Hid (W2.heap[w.heap.size + 1]? = some (.stringIter s (pos + K))) := by rw [← hW2]; exact Lib.iterAt_heap _ _ _ _ _ hq.out.2.2.1
      have hb2 : Hid (Below w.heap.size w W2) := by rw [← hW2]; exact Lib.below_iterAt hq.out.2.2.2 (by omega) _ _
      have E0 := bt_at s pos hp
      have hbb := bt_bound s pos
      obtain ⟨x, hx⟩ : ∃ x, bt s pos = x := ⟨_, rfl⟩
      rw [hx] at E0 hbb
      obtain ⟨hx0, hx1⟩ := hbb
      have HK := hid (show (Utf.decL (s.data.toList.drop pos)).2 = K by rw [← hde]; exact hK)
      have HC := hid (show ((Utf.decL (s.data.toList.drop pos)).1 : Int) = c by rw [← hde]; exact hc)
      have HX := hid hx
      clear hW2 hde hK hc hx
      have key : ∀ (W2 W3 : World) (v3 : Value) (st : List UInt8), W2.heap[w.heap.size + 1]? = some (.stringIter s (pos + K)) → Below w.heap.size w W2 → IP.stepQ ascii (s.data.toList.drop pos) = st → W3.ownsRow w.heap.size 5 1 v3 (l.length + 1 + st.length) (bc (34 :: l) ++ bc st) → KB w.heap.size W2 W3 → QInv w s ascii W3 v3 (pos + K) (l ++ st) :=
        fun _ _ _ _ h1 h2 h3 h4 h5 => hq.out.step hp HK.out h3 h1 h2 h4 h5
      have KEY := hid key
      clear key
      have HT2 := hid (HT.out.below (hb2.out))
      have hit1 := hid (iterPos_at hq.out.2.2.1)
      by_cases h65 : c = 65533
      · obtain ⟨t, ht⟩ : ∃ t, s.extract pos s.size = t := ⟨_, rfl⟩
        have htl : t.data.toList = s.data.toList.drop pos := by rw [← ht]; exact extract_drop s pos
        have htz : 0 < t.size := by rw [t_size htl]; omega
        have hdt : Utf.decL t.data.toList = (65533, K) := by
          rw [htl]
          have h1 := HK.out
          have h2 := HC.out
          exact Prod.ext (by simp only []; omega) h1
        have DS := hid (decstr_any t W2 htz HT2.out)
        rw [hdt] at DS
        simp only [] at DS
        have DS : Hid (Calls Tryd.prog 55 #[.string t] W2 fun e w' => e = .returned (.tuple #[.int .i32 65533, .int .i64 K]) ∧ Below W2.heap.size W2 w') := DS
        rw [htl] at hdt
        subst h65
        by_cases hK1 : K = 1
        · subst hK1
          have hst : IP.stepQ ascii (s.data.toList.drop pos) = 92 :: UInt8.ofNat (120 : Int).toNat :: IP.hexW x.toNat 2 := by
            unfold IP.stepQ
            rw [if_pos (show Utf.Broken (s.data.toList.drop pos) from hdt)]
            have e : ((s.data.toList.drop pos).headD 0).toNat = x.toNat := by
              rw [← HX.out]
              unfold bt
              rw [List.headD_eq_head?_getD, List.head?_drop, Int.toNat_natCast]
            rw [e]; rfl
          have HST := hid hst
          have DS : Hid (Calls Tryd.prog 55 #[.string t] W2 fun e w' => e = .returned (.tuple #[.int .i32 65533, .int .i64 1]) ∧ Below W2.heap.size W2 w') := DS
          clear hst hdt htl htz
          go_wp2_with fail
          refine DS.out.mono ?_
          rintro e W3 ⟨rfl, hb3⟩
          have ho3 := hid (own_keep ho2.out hb3)
          have hit3 := hid ((hb3.block (w.heap.size + 1) (Array.getElem?_eq_some_iff.1 hit2.out).1).trans hit2.out)
          have hbb3 := hid (hb2.out.trans (hb3.mono hb2.out.size))
          clear hb3 DS
          go_wp2_with fail
          refine (escape_any w.heap.size u5 (l.length + 1) (bc (34 :: l)) 120 x 2 W3 ho3.out hbb3.out.size (by omega) (by decide) (by decide) hx0 (by omega) (by decide)).mono ?_
          rintro e W4 ⟨v4, rfl, ho4, hk4⟩
          have Q3 := hid (KEY.out _ _ _ _ hit3.out hbb3.out HST.out ho4 hk4)
          clear ho4 hk4
          have hit4 := hid (iterPos_at Q3.out.2.2.1)
          go_wp2_with fail
          go_roundw
          case rel => exact ⟨pos + 1, _, hwd.2, Q3.out⟩
          case measure => rw [hit4.out, hit1.out]; omega
        · have hK1 : ¬ (K : Int) = 1 := by omega
          have hst : IP.stepQ ascii (s.data.toList.drop pos) = IP.inL 65533 34 ascii := by
            unfold IP.stepQ
            rw [if_neg (by
              intro h
              have h1 := (Prod.mk.inj (hdt.symm.trans h)).2
              omega), HC.out]
          have HST := hid hst
          have hK2 : ((K : Int) == 1) = false := beq_eq_false_iff_ne.2 hK1
          clear hst hdt htl htz
          go_wp2_with fail
          refine DS.out.mono ?_
          rintro e W3 ⟨rfl, hb3⟩
          have ho3 := hid (own_keep ho2.out hb3)
          have hit3 := hid ((hb3.block (w.heap.size + 1) (Array.getElem?_eq_some_iff.1 hit2.out).1).trans hit2.out)
          have hbb3 := hid (hb2.out.trans (hb3.mono hb2.out.size))
          clear hb3 DS
          go_wp2_with fail
          refine (put_any w.heap.size u5 (l.length + 1) (bc (34 :: l)) 65533 34 ascii W3 ho3.out hbb3.out.size (by omega) (by decide) (by decide) (by decide) (by decide)).mono ?_
          rintro e W4 ⟨v4, rfl, ho4, hk4⟩
          have Q3 := hid (KEY.out _ _ _ _ hit3.out hbb3.out HST.out ho4 hk4)
          clear ho4 hk4
          have hit4 := hid (iterPos_at Q3.out.2.2.1)
          go_wp2_with fail
          go_roundw
          case rel => exact ⟨pos + K, _, hwd.2, Q3.out⟩
          case measure => rw [hit4.out, hit1.out]; omega
      · have hne : (c == 65533) = false := beq_eq_false_iff_ne.2 h65
        have hst : IP.stepQ ascii (s.data.toList.drop pos) = IP.inL c 34 ascii := by
          unfold IP.stepQ
          rw [if_neg (by
            intro h
            have h1 := HC.out
            rw [show Utf.decL (s.data.toList.drop pos) = (65533, 1) from h] at h1
            exact h65 h1.symm), HC.out]
        have HST := hid hst
        clear hst
        go_wp2_with fail
        refine (put_any w.heap.size u5 (l.length + 1) (bc (34 :: l)) c 34 ascii W2 ho2.out hb2.out.size (by omega) hc0 hc1 (by decide) (by decide)).mono ?_
        rintro e W4 ⟨v4, rfl, ho4, hk4⟩
        have Q3 := hid (KEY.out _ _ _ _ hit2.out hb2.out HST.out ho4 hk4)
        clear ho4 hk4
        have hit4 := hid (iterPos_at Q3.out.2.2.1)
        go_wp2_with fail
        go_roundw
        case rel => exact ⟨pos + K, _, hwd.2, Q3.out⟩
        case measure => rw [hit4.out, hit1.out]; omega
    · have hnx : ∀ ty, (Instr.next (.pointer (some ⟨w.heap.size + 1, 0, none⟩)) true ty).run Tryd.prog wr = _ := fun ty => Lib.run_next_end_at wr _ s pos ty hq.out.2.2.1 hp
      have hfin : l = IP.runsQ ascii s.data.toList := by
        have h := hq.out.2.1
        rw [drop_all hp, IP.runsQ_nil, List.append_nil] at h
        exact h
      have HF := hid hfin
      clear hfin
      go_upto_region 10 with fail
      refine wp_region_list ?_
      refine wpList_plain rfl fun K hK => ?_
      have HK := hid hK
      clear hK
      go_wp2_with fail
      refine HK.out _ _ ?_
      clear HK
      refine wpList_bytes rfl rfl 1 _ (.tmp 38) 39 rfl rfl rfl [34] rfl (by decide) (by decide) (by kernel_rfl) w.heap.size _ _ _ _ rfl rfl rfl hq.out.1 hq.out.2.2.2.size (by omega) ?_
      intro v2 w2 ho2 hb2
      have cv := conv_own (l := 34 :: (l ++ [34])) (by
        have e : bc (34 :: (l ++ [34])) = bc (34 :: l) ++ bc [34] := by simp [bc]
        rw [e]; exact ho2)
      have B2 := hid (hq.out.2.2.2.trans hb2.below)
      clear ho2 hb2
      go_wp2_with fail
      go_ret
      exact ⟨ret_str (by rw [HF.out]; rfl), B2.out⟩
end Go.Proofs.YtaniahkagmjkoaaDoor
