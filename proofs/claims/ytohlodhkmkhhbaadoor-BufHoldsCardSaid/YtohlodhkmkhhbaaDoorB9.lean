/-
  Walks of layer 1: a buffer told.
-/
import Derived.Test.YtohlodhkmkhhbaaDoorB8
namespace Go.Proofs.YtohlodhkmkhhbaaDoor
open Go.RowKit Go.Proofs

/-- What stands behind a print that was cut. -/
def tooLong : List UInt8 := [37, 33, 40, 84, 79, 79, 76, 79, 78, 71, 41]
/-- What a buffer tells of all that was put. -/
def textL (all : List UInt8) : List UInt8 := if 4096 < all.length then all.take 4096 ++ tooLong else all

theorem conv_own {w : World} {B n c : Nat} {A : Option Addr} {l : List UInt8} (h : w.ownsRow B 5 1 (.slice A n c) n (bc l)) :
    (convert 42 9 (.slice A n c)).run Tryd.prog w = .ok (.string ⟨l.toArray⟩) w := by
  have hl : l.length = n := by
    have := h.1
    simpa [bc] using this
  rcases h.2 with ⟨h0, h1⟩ | ⟨g, cap, cur, h1, h2, h3, h4, h5, h6, h7⟩
  · cases h0
    have e : l = [] := List.eq_nil_of_length_eq_zero hl
    subst e
    exact run_convert_bytes_nil w 42 5 Tryd.underlying42 Tryd.underlying5 0 0 9 Tryd.underlying9
  · cases h1
    subst hl
    refine run_convert_bytes_back w 42 9 5 ⟨g, 0, none⟩ c l Tryd.underlying42 Tryd.underlying5 Tryd.underlying9 (fun j hj => ?_)
    have hc := h.cells (g := g) rfl j (.int .u8 (l[j].toNat : Int)) (by simp [bc, List.getElem?_eq_getElem hj])
    exact hc

theorem append_data (a b : ByteArray) : (a ++ b).data.toList = a.data.toList ++ b.data.toList := by simp

theorem len_any (B b : Nat) (all : List UInt8) (w : World) (h : BufAt w B b all) : Calls Tryd.prog 29 #[.pointer (some ⟨b, 0, none⟩)] w fun e w' => e = .returned (.int .i64 all.length) ∧ w = w' := by
  obtain ⟨v, hb, ho⟩ := h
  have hc1 : w.cell? ⟨b, 1, none⟩ = some (.int .i64 all.length) := hb.cell 1
  clear hb ho
  go_enter Tryd.func29, Tryd.ntmps29
  go_wp2_with fail
  go_ret
  exact ⟨rfl, rfl⟩

theorem over_any (B b : Nat) (all : List UInt8) (w : World) (h : BufAt w B b all) : Calls Tryd.prog 33 #[.pointer (some ⟨b, 0, none⟩)] w fun e w' => e = .returned (.bool (decide (4096 < all.length))) ∧ w = w' := by
  obtain ⟨v, hb, ho⟩ := h
  obtain ⟨L, hL⟩ : ∃ L : Int, L = all.length := ⟨_, rfl⟩
  rw [← hL] at hb
  have hc1 : w.cell? ⟨b, 1, none⟩ = some (.int .i64 L) := hb.cell 1
  have hr : decide (4096 < all.length) = decide (4096 < L) := by rw [hL]; congr 1; apply propext; omega
  rw [hr]
  clear hb ho hL hr
  go_enter Tryd.func33, Tryd.ntmps33
  go_wp2_with fail
  go_ret
  exact ⟨rfl, rfl⟩

set_option maxRecDepth 100000 in
theorem text_any (B b : Nat) (all : List UInt8) (w : World) (h : BufAt w B b all) : Calls Tryd.prog 28 #[.pointer (some ⟨b, 0, none⟩)] w fun e w' => e = .returned (.string ⟨(textL all).toArray⟩) ∧ w = w' := by
  have hO := fun W hW => over_any B b all W hW
  obtain ⟨r, hr⟩ : ∃ r : ByteArray, r = ⟨(textL all).toArray⟩ := ⟨_, rfl⟩
  rw [← hr]
  have HR := hid hr
  have hb' := h
  obtain ⟨v, hb, ho⟩ := h
  obtain ⟨n, hn⟩ : ∃ n, n = min 4096 all.length := ⟨_, rfl⟩
  rw [← hn] at ho
  obtain ⟨A, c, hv⟩ := slice_form ho
  subst hv
  have hcv := conv_own ho
  obtain ⟨p, hp⟩ : ∃ p : ByteArray, p = ⟨(all.take 4096).toArray⟩ := ⟨_, rfl⟩
  rw [← hp] at hcv
  have hpz : p.size ≤ 4096 := by rw [hp, Utf.size_eq]; simp only [List.length_take]; omega
  have hc0 : w.cell? ⟨b, 0, none⟩ = some (.slice A n c) := hb.cell 0
  have HO := hid (hO w hb')
  have HB := hid hn
  have HP := hid hp
  clear hO hb ho hb' hr hn hp
  by_cases hd : 4096 < all.length
  · have ht : r = p ++ ⟨#[37, 33, 40, 84, 79, 79, 76, 79, 78, 71, 41]⟩ := by
      rw [HR.out, HP.out]
      unfold textL
      rw [if_pos hd]
      apply ByteArray.ext
      apply Array.ext'
      simp [tooLong]
    have HT := hid ht
    have ho : Calls Tryd.prog 33 #[.pointer (some ⟨b, 0, none⟩)] w fun e w' => e = .returned (.bool true) ∧ w = w' := by
      have := HO.out
      rw [decide_eq_true hd] at this
      exact this
    have HV := hid ho
    clear ht ho hd
    go_enter Tryd.func28, Tryd.ntmps28
    go_wp2_with fail
    refine HV.out.mono ?_
    rintro e w1 ⟨rfl, rfl⟩
    go_wp2_with fail
    go_ret
    exact ⟨ret_str HT.out.symm, rfl⟩
  · have ht : r = p := by
      rw [HR.out, HP.out]
      unfold textL
      rw [if_neg hd, List.take_of_length_le (by omega)]
    have HT := hid ht
    have ho : Calls Tryd.prog 33 #[.pointer (some ⟨b, 0, none⟩)] w fun e w' => e = .returned (.bool false) ∧ w = w' := by
      have := HO.out
      rw [decide_eq_false hd] at this
      exact this
    have HV := hid ho
    clear ht ho hd
    go_enter Tryd.func28, Tryd.ntmps28
    go_wp2_with fail
    refine HV.out.mono ?_
    rintro e w1 ⟨rfl, rfl⟩
    go_wp2_with fail
    go_ret
    exact ⟨ret_str HT.out.symm, rfl⟩

theorem reftext_any (s : ByteArray) (w : World) (hs : s.size ≤ 140737488355328) : Calls Tryd.prog 34 #[.string s] w fun e w' => e = .returned (.string ⟨(textL s.data.toList).toArray⟩) ∧ w = w' := by
  obtain ⟨r, hr⟩ : ∃ r : ByteArray, r = ⟨(textL s.data.toList).toArray⟩ := ⟨_, rfl⟩
  rw [← hr]
  have hz := Utf.size_eq s
  by_cases hd : 4096 < s.size
  · have ht : r = s.extract 0 4096 ++ ⟨#[37, 33, 40, 84, 79, 79, 76, 79, 78, 71, 41]⟩ := by
      rw [hr]
      unfold textL
      rw [if_pos (by rw [← hz]; exact hd)]
      apply ByteArray.ext
      apply Array.ext'
      rw [append_data, Lib.extract_data]
      simp [tooLong]
    have HT := hid ht
    have hpz : (s.extract 0 4096).size ≤ 4096 := by rw [ByteArray.size_extract]; omega
    clear ht hr hz
    go_enter Tryd.func34, Tryd.ntmps34
    go_wp2_with fail
    go_ret
    exact ⟨ret_str HT.out.symm, rfl⟩
  · have ht : r = s := by
      rw [hr]
      unfold textL
      rw [if_neg (by rw [← hz]; exact hd)]
    have HT := hid ht
    clear ht hr hz
    go_enter Tryd.func34, Tryd.ntmps34
    go_wp2_with fail
    go_ret
    exact ⟨ret_str HT.out.symm, rfl⟩

theorem putrune_any (B b : Nat) (all : List UInt8) (c : Int) (w : World) (h : BufAt w B b all) (hB : B ≤ w.heap.size) (hbB : b < B) (hal : all.length ≤ 4611686018427387904) :
    Calls Tryd.prog 32 #[.pointer (some ⟨b, 0, none⟩), .int .i32 c] w fun e w' => e = .returned (.tuple #[]) ∧ BufAt w' B b (all ++ (Utf8.encode c).data.toList) ∧ OnlyB B b w w' := by
  have hz : (Utf8.encode c).size ≤ 140737488355328 := by
    have := (Utf.encL_pos c).2
    rw [Utf.size_eq]
    show (Utf.encL c).length ≤ _
    omega
  have hR := fun W => rune_any c W
  obtain ⟨x, hx⟩ : ∃ x, Utf8.encode c = x := ⟨_, rfl⟩
  rw [hx] at hR hz ⊢
  have HR := hid hR
  have HP := hid (put_any B b all x w h hB hbB hal hz)
  clear hR hx h
  go_enter Tryd.func32, Tryd.ntmps32
  go_wp2_with fail
  refine (HR.out _).mono ?_
  rintro e w1 ⟨rfl, rfl⟩
  go_wp2_with fail
  refine HP.out.mono ?_
  rintro e w1 ⟨rfl, hb1, ho1⟩
  have HB := hid hb1
  have HO := hid ho1
  clear hb1 ho1
  go_wp2_with fail
  go_end0
  exact ⟨rfl, HB.out, HO.out⟩

set_option maxRecDepth 100000 in
theorem reset_any (B b : Nat) (all : List UInt8) (w : World) (h : BufAt w B b all) (hbB : b < B) :
    Calls Tryd.prog 31 #[.pointer (some ⟨b, 0, none⟩)] w fun e w' => e = .returned (.tuple #[]) ∧ BufAt w' B b [] ∧ OnlyB B b w w' := by
  obtain ⟨v, hb, ho⟩ := h
  obtain ⟨n, hn⟩ : ∃ n, n = min 4096 all.length := ⟨_, rfl⟩
  rw [← hn] at ho
  obtain ⟨A, c, hv⟩ := slice_form ho
  subst hv
  have hc0 : w.cell? ⟨b, 0, none⟩ = some (.slice A n c) := hb.cell 0
  have hc1 : w.cell? ⟨b, 1, none⟩ = some (.int .i64 all.length) := hb.cell 1
  have hf0 := hb.frozen 0
  have hf1 := hb.frozen 1
  have hbe : BufAt ((w.setCell ⟨b, 0, none⟩ (.slice A 0 c)).setCell ⟨b, 1, none⟩ (.int .i64 0)) B b [] := by
    refine ⟨.slice A 0 c, (hb.set_ 0 _).set_ 1 _, ?_⟩
    have h0 : w.ownsRow B 5 1 (.slice A 0 c) 0 [] := by
      refine ⟨rfl, ?_⟩
      rcases ho.2 with ⟨h1, h2⟩ | ⟨g, cap, cur, h1, h2, h3, h4, h5, h6, h7⟩
      · cases h1; exact .inl ⟨rfl, rfl⟩
      · cases h1
        exact .inr ⟨g, c, cur, rfl, h2, h3, Nat.zero_le _, h5, h6, by simp⟩
    exact own_set (own_set h0 (p := ⟨b, 0, none⟩) hbB _) (p := ⟨b, 1, none⟩) hbB _
  have hoe : OnlyB B b w ((w.setCell ⟨b, 0, none⟩ (.slice A 0 c)).setCell ⟨b, 1, none⟩ (.int .i64 0)) :=
    ⟨rfl, rfl, rfl, by simp [World.setCell], fun k _ hkb => by rw [Below.heap_setCell _ _ _ _ hkb, Below.heap_setCell _ _ _ _ hkb], fun k cs ty hkb _ hk => by unfold Blk at hk ⊢; rw [Below.heap_setCell _ _ _ _ hkb, Below.heap_setCell _ _ _ _ hkb]; exact hk⟩
  have HBE := hid hbe
  have HOE := hid hoe
  clear hbe hoe ho hb hn
  go_enter Tryd.func31, Tryd.ntmps31
  go_wp2_with fail
  all_goals go_end0
  all_goals exact ⟨rfl, HBE.out, HOE.out⟩
end Go.Proofs.YtohlodhkmkhhbaaDoor
