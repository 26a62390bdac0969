/-
  Walks of layer 2: a text between back quotes; the document's texts in quotes.
-/
import Derived.Test.YtaniahkagmjkoaaDoorQS
import Derived.Test.YtaniahkagmjkoaaDoorSh3
import Derived.Test.YtaniahkagmjkoaaDoorQ5
namespace Go.Proofs.YtaniahkagmjkoaaDoor
open Go.RowKit Go.Proofs

/-- A text between back quotes. -/
def rawQ (s : ByteArray) : ByteArray := ⟨#[96]⟩ ++ s ++ ⟨#[96]⟩
def rawT (s : ByteArray) : Value := if IP.rawB s.data.toList then .tuple #[.string (rawQ s), .bool true] else .tuple #[.string ⟨#[]⟩, .bool false]
theorem rawQ_size (s : ByteArray) : (rawQ s).size = s.size + 2 := by
  unfold rawQ
  rw [ByteArray.size_append, ByteArray.size_append]
  show 1 + s.size + 1 = _
  omega
theorem rawOk_cases (c : Int) : (IP.rawOk c = false ∧ (c = 96 ∨ (c < 32 ∧ ¬ c = 9) ∨ c = 127 ∨ c = 65279)) ∨ (IP.rawOk c = true ∧ (c = 9 ∨ (32 ≤ c ∧ ¬ c = 96 ∧ ¬ c = 127 ∧ ¬ c = 65279))) := by
  unfold IP.rawOk
  by_cases h : ¬ (c = 96 ∨ (c < 32 ∧ c ≠ 9) ∨ c = 127 ∨ c = 65279)
  · right
    exact ⟨decide_eq_true h, by omega⟩
  · left
    exact ⟨decide_eq_false h, by omega⟩
theorem ok_pos (s : ByteArray) (pos : Nat) (h : pos < s.size) : IP.okB (s.data.toList.drop pos) = if IP.rawOk ((Utf8.decode s pos).1 : Int) then IP.okB (s.data.toList.drop (pos + (Utf8.decode s pos).2)) else false := by
  rw [IP.okB_cons (drop_ne h), ← Utf.decode_eq, List.drop_drop]

set_option maxRecDepth 100000 in
set_option maxHeartbeats 2000000 in
theorem raw_any (s : ByteArray) (w : World) (hT : Tabs w) (hs : s.size ≤ 100000) :
    Calls Tryd.prog 45 #[.string s] w fun e w' => e = .returned (rawT s) ∧ Below w.heap.size w w' := by
  have VA := hid (valid_any s w (by omega) hT)
  have hand := IP.rawB_and s.data.toList.length s.data.toList (Nat.le_refl _)
  unfold rawT
  cases hv : IP.validB s.data.toList with
  | false =>
    rw [hand, hv, Bool.false_and]
    rw [hv] at VA
    simp only [Bool.false_eq_true, if_false]
    clear hand hv hT
    go_enter Tryd.func45, Tryd.ntmps45
    go_wp2_with fail
    refine VA.out.mono ?_
    rintro e w1 ⟨rfl, b1⟩
    have B1 := hid b1
    clear b1
    go_wp2_with fail
    go_ret2
    exact ⟨rfl, B1.out⟩
  | true =>
    rw [hand, hv, Bool.true_and]
    rw [hv] at VA
    obtain ⟨OK, hOK⟩ : ∃ OK, IP.okB s.data.toList = OK := ⟨_, rfl⟩
    rw [hOK]
    obtain ⟨Q, hQ⟩ : ∃ Q, rawQ s = Q := ⟨_, rfl⟩
    have HQ := hid (show (⟨#[96]⟩ : ByteArray) ++ s ++ ⟨#[96]⟩ = Q from hQ)
    rw [hQ]
    have HO := hid hOK
    clear hand hv hT hOK hQ
    go_enter Tryd.func45, Tryd.ntmps45
    go_wp2_with fail
    refine VA.out.mono ?_
    rintro e w1 ⟨rfl, b1⟩
    have B1 := hid b1
    clear b1
    go_wp2_with fail
    go_loopw [5] (fun _ wr => ∃ pos : Nat, pos ≤ s.size ∧ wr = w1.iter s pos ∧ Hid (IP.okB (s.data.toList.drop pos) = OK)) (fun _ wr => s.size - wr.iterPos w1.heap.size)
    case atStart => exact ⟨0, Nat.zero_le _, rfl, HO.out⟩
    case round =>
      obtain ⟨pos, hpos, rfl, hk⟩ := hrel
      by_cases hp : pos < s.size
      · have hnx : ∀ ty, (Instr.next (.pointer (some ⟨w1.heap.size, 0, none⟩)) true ty).run Tryd.prog (w1.iter s pos) = _ := fun ty => run_next_any w1 s pos ty hp
        have hwd := width_le s pos hp
        have hst := ok_pos s pos hp
        rw [hk.out] at hst
        obtain ⟨K, hK⟩ : ∃ K, (Utf8.decode s pos).2 = K := ⟨_, rfl⟩
        obtain ⟨c, hc⟩ : ∃ c : Int, ((Utf8.decode s pos).1 : Int) = c := ⟨_, rfl⟩
        rw [hK] at hnx hwd hst
        rw [hc] at hnx hst
        clear hK hc
        rcases rawOk_cases c with ⟨ho, h⟩ | ⟨ho, h⟩
        · rw [ho] at hst
          simp only [Bool.false_eq_true, if_false] at hst
          subst hst
          clear ho hk
          rcases h with rfl | ⟨h1, h2⟩ | rfl | rfl
          · go_wp2_with fail
            go_ret2
            exact ⟨rfl, B1.out.alloc B1.out.size _⟩
          · have h3 : ¬ c = 96 := by omega
            have h4 : (c != 9) = true := by simpa using h2
            have h5 : (c == 96) = false := beq_eq_false_iff_ne.2 h3
            go_wp2_with fail
            go_ret2
            exact ⟨rfl, B1.out.alloc B1.out.size _⟩
          · go_wp2_with fail
            go_ret2
            exact ⟨rfl, B1.out.alloc B1.out.size _⟩
          · go_wp2_with fail
            go_ret2
            exact ⟨rfl, B1.out.alloc B1.out.size _⟩
        · rw [ho] at hst
          simp only [if_true] at hst
          have HN := hid hst.symm
          clear ho hk hst
          rcases h with rfl | ⟨h1, h2, h3, h4⟩
          · go_wp2_with fail
            go_roundw
            case rel => exact ⟨pos + K, hwd.2, rfl, HN.out⟩
            case measure =>
              simp
              omega
          · have h5 : (c == 96) = false := beq_eq_false_iff_ne.2 h2
            have h6 : (c == 127) = false := beq_eq_false_iff_ne.2 h3
            have h7 : (c == 65279) = false := beq_eq_false_iff_ne.2 h4
            go_wp2_with fail
            go_roundw
            case rel => exact ⟨pos + K, hwd.2, rfl, HN.out⟩
            case measure =>
              simp
              omega
      · have hnx : ∀ ty, (Instr.next (.pointer (some ⟨w1.heap.size, 0, none⟩)) true ty).run Tryd.prog (w1.iter s pos) = _ := fun ty => run_next_end w1 s pos ty hp
        have hfin : OK = true := by
          rw [← hk.out, drop_all hp, IP.okB_nil]
        subst hfin
        clear hk HO
        go_wp2_with fail
        go_ret2
        exact ⟨by rw [← HQ.out]; rfl, B1.out.alloc B1.out.size _⟩

end Go.Proofs.YtaniahkagmjkoaaDoor
