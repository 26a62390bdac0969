/-
  Texts of this claim, joined: TG, Q6, Q7.
-/
import Derived.Deep.DeepCutAuto
import Derived.StillTailTactics
import Derived.Deep.RegionHeld3
import Derived.Test.YtdjhmanccoekjaaGreatDoorN6
import Derived.Test.YtdjhmanccoekjaaGreatDoorN2

section
namespace Go.Proofs.YtdjhmanccoekjaaGreatDoor
open Go.RowKit Go.Proofs

abbrev base3 (k : Int) (ty : ByteArray) (hk : Int) : Value := .agg #[.int .i64 k, .string ty, .int .i64 hk]
theorem below_n {w w' : World} (h : Below w.heap.size w w') (cs : Array Value) (t : TypeId) : Below w.heap.size w (w'.alloc (.cells cs t)) := h.alloc h.size _
/-- What base answers of a value. -/
def BaseIs (v : Value) (b : Value) (ok : Bool) : Prop := ∀ w, Calls Tryz.prog 76 #[v] w fun e w' => e = .returned (.tuple #[b, .bool ok]) ∧ Below w.heap.size w w'
set_option maxRecDepth 100000 in
set_option maxHeartbeats 2000000 in
theorem base_Bool (k : Int) (ty : ByteArray) (hk : Int) (x : Bool) : BaseIs (.iface 179 (.agg #[.int .i64 k, .string ty, .int .i64 hk, .bool x])) (base3 k ty hk) true := by
  intro w
  have h0 := ta_Bool_Bool
  go_enter Tryz.func76, Tryz.ntmps76
  go_wp2_with fail
  refine bodyPost_ret (v := .tuple #[base3 k ty hk, .bool true]) (by simp [results, Tryz.results76, go_sem]) rfl ⟨rfl, ?_⟩
  exact below_n (below_n (Below.refl _ _) _ _) _ _
set_option maxRecDepth 100000 in
set_option maxHeartbeats 2000000 in
theorem base_Int (k : Int) (ty : ByteArray) (hk : Int) (x : Int) : BaseIs (.iface 181 (.agg #[.int .i64 k, .string ty, .int .i64 hk, .int .i64 x])) (base3 k ty hk) true := by
  intro w
  have h0 := ta_Int_Bool
  have h1 := ta_Int_Int
  go_enter Tryz.func76, Tryz.ntmps76
  go_wp2_with fail
  refine bodyPost_ret (v := .tuple #[base3 k ty hk, .bool true]) (by simp [results, Tryz.results76, go_sem]) rfl ⟨rfl, ?_⟩
  exact below_n (below_n (Below.refl _ _) _ _) _ _
set_option maxRecDepth 100000 in
set_option maxHeartbeats 2000000 in
theorem base_Uint (k : Int) (ty : ByteArray) (hk : Int) (x : Int) : BaseIs (.iface 183 (.agg #[.int .i64 k, .string ty, .int .i64 hk, .int .u64 x])) (base3 k ty hk) true := by
  intro w
  have h0 := ta_Uint_Bool
  have h1 := ta_Uint_Int
  have h2 := ta_Uint_Uint
  go_enter Tryz.func76, Tryz.ntmps76
  go_wp2_with fail
  refine bodyPost_ret (v := .tuple #[base3 k ty hk, .bool true]) (by simp [results, Tryz.results76, go_sem]) rfl ⟨rfl, ?_⟩
  exact below_n (below_n (Below.refl _ _) _ _) _ _
set_option maxRecDepth 100000 in
set_option maxHeartbeats 2000000 in
theorem base_Float (k : Int) (ty : ByteArray) (hk : Int) (x : Int) (n : Int) : BaseIs (.iface 185 (.agg #[.int .i64 k, .string ty, .int .i64 hk, .int .u64 x, .int .i64 n])) (base3 k ty hk) true := by
  intro w
  have h0 := ta_Float_Bool
  have h1 := ta_Float_Int
  have h2 := ta_Float_Uint
  have h3 := ta_Float_Float
  go_enter Tryz.func76, Tryz.ntmps76
  go_wp2_with fail
  refine bodyPost_ret (v := .tuple #[base3 k ty hk, .bool true]) (by simp [results, Tryz.results76, go_sem]) rfl ⟨rfl, ?_⟩
  exact below_n (below_n (Below.refl _ _) _ _) _ _
set_option maxRecDepth 100000 in
set_option maxHeartbeats 2000000 in
theorem base_Complex (k : Int) (ty : ByteArray) (hk : Int) (x : Int) (y : Int) (n : Int) : BaseIs (.iface 187 (.agg #[.int .i64 k, .string ty, .int .i64 hk, .int .u64 x, .int .u64 y, .int .i64 n])) (base3 k ty hk) true := by
  intro w
  have h0 := ta_Complex_Bool
  have h1 := ta_Complex_Int
  have h2 := ta_Complex_Uint
  have h3 := ta_Complex_Float
  have h4 := ta_Complex_Complex
  go_enter Tryz.func76, Tryz.ntmps76
  go_wp2_with fail
  refine bodyPost_ret (v := .tuple #[base3 k ty hk, .bool true]) (by simp [results, Tryz.results76, go_sem]) rfl ⟨rfl, ?_⟩
  exact below_n (below_n (Below.refl _ _) _ _) _ _
set_option maxRecDepth 100000 in
set_option maxHeartbeats 2000000 in
theorem base_Text (k : Int) (ty : ByteArray) (hk : Int) (x : ByteArray) : BaseIs (.iface 189 (.agg #[.int .i64 k, .string ty, .int .i64 hk, .string x])) (base3 k ty hk) true := by
  intro w
  have h0 := ta_Text_Bool
  have h1 := ta_Text_Int
  have h2 := ta_Text_Uint
  have h3 := ta_Text_Float
  have h4 := ta_Text_Complex
  have h5 := ta_Text_Text
  go_enter Tryz.func76, Tryz.ntmps76
  go_wp2_with fail
  refine bodyPost_ret (v := .tuple #[base3 k ty hk, .bool true]) (by simp [results, Tryz.results76, go_sem]) rfl ⟨rfl, ?_⟩
  exact below_n (below_n (Below.refl _ _) _ _) _ _
set_option maxRecDepth 100000 in
set_option maxHeartbeats 2000000 in
theorem base_Bytes (k : Int) (ty : ByteArray) (hk : Int) (x : ByteArray) : BaseIs (.iface 190 (.agg #[.int .i64 k, .string ty, .int .i64 hk, .string x])) (base3 k ty hk) true := by
  intro w
  have h0 := ta_Bytes_Bool
  have h1 := ta_Bytes_Int
  have h2 := ta_Bytes_Uint
  have h3 := ta_Bytes_Float
  have h4 := ta_Bytes_Complex
  have h5 := ta_Bytes_Text
  have h6 := ta_Bytes_Bytes
  go_enter Tryz.func76, Tryz.ntmps76
  go_wp2_with fail
  refine bodyPost_ret (v := .tuple #[base3 k ty hk, .bool true]) (by simp [results, Tryz.results76, go_sem]) rfl ⟨rfl, ?_⟩
  exact below_n (below_n (Below.refl _ _) _ _) _ _
set_option maxRecDepth 100000 in
set_option maxHeartbeats 2000000 in
theorem base_Struct (k : Int) (ty : ByteArray) (hk : Int) (A : Option Addr) (n : Nat) (c : Nat) : BaseIs (.iface 193 (.agg #[.int .i64 k, .string ty, .int .i64 hk, .slice A n c])) (base3 k ty hk) true := by
  intro w
  have h0 := ta_Struct_Bool
  have h1 := ta_Struct_Int
  have h2 := ta_Struct_Uint
  have h3 := ta_Struct_Float
  have h4 := ta_Struct_Complex
  have h5 := ta_Struct_Text
  have h6 := ta_Struct_Bytes
  have h7 := ta_Struct_Struct
  go_enter Tryz.func76, Tryz.ntmps76
  go_wp2_with fail
  refine bodyPost_ret (v := .tuple #[base3 k ty hk, .bool true]) (by simp [results, Tryz.results76, go_sem]) rfl ⟨rfl, ?_⟩
  exact below_n (below_n (Below.refl _ _) _ _) _ _
set_option maxRecDepth 100000 in
set_option maxHeartbeats 2000000 in
theorem base_List (k : Int) (ty : ByteArray) (hk : Int) (A : Option Addr) (n : Nat) (c : Nat) : BaseIs (.iface 195 (.agg #[.int .i64 k, .string ty, .int .i64 hk, .slice A n c])) (base3 k ty hk) true := by
  intro w
  have h0 := ta_List_Bool
  have h1 := ta_List_Int
  have h2 := ta_List_Uint
  have h3 := ta_List_Float
  have h4 := ta_List_Complex
  have h5 := ta_List_Text
  have h6 := ta_List_Bytes
  have h7 := ta_List_Struct
  have h8 := ta_List_List
  go_enter Tryz.func76, Tryz.ntmps76
  go_wp2_with fail
  refine bodyPost_ret (v := .tuple #[base3 k ty hk, .bool true]) (by simp [results, Tryz.results76, go_sem]) rfl ⟨rfl, ?_⟩
  exact below_n (below_n (Below.refl _ _) _ _) _ _
set_option maxRecDepth 100000 in
set_option maxHeartbeats 2000000 in
theorem base_Map (k : Int) (ty : ByteArray) (hk : Int) (A : Option Addr) (n : Nat) (c : Nat) : BaseIs (.iface 198 (.agg #[.int .i64 k, .string ty, .int .i64 hk, .slice A n c])) (base3 k ty hk) true := by
  intro w
  have h0 := ta_Map_Bool
  have h1 := ta_Map_Int
  have h2 := ta_Map_Uint
  have h3 := ta_Map_Float
  have h4 := ta_Map_Complex
  have h5 := ta_Map_Text
  have h6 := ta_Map_Bytes
  have h7 := ta_Map_Struct
  have h8 := ta_Map_List
  have h9 := ta_Map_Map
  go_enter Tryz.func76, Tryz.ntmps76
  go_wp2_with fail
  refine bodyPost_ret (v := .tuple #[base3 k ty hk, .bool true]) (by simp [results, Tryz.results76, go_sem]) rfl ⟨rfl, ?_⟩
  exact below_n (below_n (Below.refl _ _) _ _) _ _
set_option maxRecDepth 100000 in
set_option maxHeartbeats 2000000 in
theorem base_Ptr (k : Int) (ty : ByteArray) (hk : Int) (x : Int) (T : TypeId) (y : Value) : BaseIs (.iface 148 (.agg #[.int .i64 k, .string ty, .int .i64 hk, .int .u64 x, .iface T y])) (base3 k ty hk) true := by
  intro w
  have h0 := ta_Ptr_Bool
  have h1 := ta_Ptr_Int
  have h2 := ta_Ptr_Uint
  have h3 := ta_Ptr_Float
  have h4 := ta_Ptr_Complex
  have h5 := ta_Ptr_Text
  have h6 := ta_Ptr_Bytes
  have h7 := ta_Ptr_Struct
  have h8 := ta_Ptr_List
  have h9 := ta_Ptr_Map
  have h10 := ta_Ptr_Ptr
  go_enter Tryz.func76, Tryz.ntmps76
  go_wp2_with fail
  refine bodyPost_ret (v := .tuple #[base3 k ty hk, .bool true]) (by simp [results, Tryz.results76, go_sem]) rfl ⟨rfl, ?_⟩
  exact below_n (below_n (Below.refl _ _) _ _) _ _
set_option maxRecDepth 100000 in
set_option maxHeartbeats 2000000 in
theorem base_Ptr0 (k : Int) (ty : ByteArray) (hk : Int) (x : Int) : BaseIs (.iface 148 (.agg #[.int .i64 k, .string ty, .int .i64 hk, .int .u64 x, .nilIface])) (base3 k ty hk) true := by
  intro w
  have h0 := ta_Ptr_Bool
  have h1 := ta_Ptr_Int
  have h2 := ta_Ptr_Uint
  have h3 := ta_Ptr_Float
  have h4 := ta_Ptr_Complex
  have h5 := ta_Ptr_Text
  have h6 := ta_Ptr_Bytes
  have h7 := ta_Ptr_Struct
  have h8 := ta_Ptr_List
  have h9 := ta_Ptr_Map
  have h10 := ta_Ptr_Ptr
  go_enter Tryz.func76, Tryz.ntmps76
  go_wp2_with fail
  refine bodyPost_ret (v := .tuple #[base3 k ty hk, .bool true]) (by simp [results, Tryz.results76, go_sem]) rfl ⟨rfl, ?_⟩
  exact below_n (below_n (Below.refl _ _) _ _) _ _
set_option maxRecDepth 100000 in
set_option maxHeartbeats 2000000 in
theorem base_Nil : BaseIs (.iface 217 (.agg #[])) (base3 0 ⟨#[]⟩ 0) false := by
  intro w
  have h0 := ta_Nil_Bool
  have h1 := ta_Nil_Int
  have h2 := ta_Nil_Uint
  have h3 := ta_Nil_Float
  have h4 := ta_Nil_Complex
  have h5 := ta_Nil_Text
  have h6 := ta_Nil_Bytes
  have h7 := ta_Nil_Struct
  have h8 := ta_Nil_List
  have h9 := ta_Nil_Map
  have h10 := ta_Nil_Ptr
  go_enter Tryz.func76, Tryz.ntmps76
  go_wp2_with fail
  refine bodyPost_ret (v := .tuple #[base3 0 ⟨#[]⟩ 0, .bool false]) (by simp [results, Tryz.results76, go_sem]) rfl ⟨rfl, ?_⟩
  exact below_n (Below.refl _ _) _ _
set_option maxRecDepth 100000 in
set_option maxHeartbeats 2000000 in
theorem base_nil : BaseIs .nilIface (base3 0 ⟨#[]⟩ 0) false := by
  intro w
  have h0 : ∀ w : World, (Instr.typeAssert .nilIface 103 179 true).run Tryz.prog w = .ok (.tuple #[.agg #[.int .i64 0, .string ⟨#[]⟩, .int .i64 0, .bool false], .bool false]) w := fun _ => by kernel_rfl
  have h1 : ∀ w : World, (Instr.typeAssert .nilIface 103 181 true).run Tryz.prog w = .ok (.tuple #[.agg #[.int .i64 0, .string ⟨#[]⟩, .int .i64 0, .int .i64 0], .bool false]) w := fun _ => by kernel_rfl
  have h2 : ∀ w : World, (Instr.typeAssert .nilIface 103 183 true).run Tryz.prog w = .ok (.tuple #[.agg #[.int .i64 0, .string ⟨#[]⟩, .int .i64 0, .int .u64 0], .bool false]) w := fun _ => by kernel_rfl
  have h3 : ∀ w : World, (Instr.typeAssert .nilIface 103 185 true).run Tryz.prog w = .ok (.tuple #[.agg #[.int .i64 0, .string ⟨#[]⟩, .int .i64 0, .int .u64 0, .int .i64 0], .bool false]) w := fun _ => by kernel_rfl
  have h4 : ∀ w : World, (Instr.typeAssert .nilIface 103 187 true).run Tryz.prog w = .ok (.tuple #[.agg #[.int .i64 0, .string ⟨#[]⟩, .int .i64 0, .int .u64 0, .int .u64 0, .int .i64 0], .bool false]) w := fun _ => by kernel_rfl
  have h5 : ∀ w : World, (Instr.typeAssert .nilIface 103 189 true).run Tryz.prog w = .ok (.tuple #[.agg #[.int .i64 0, .string ⟨#[]⟩, .int .i64 0, .string ⟨#[]⟩], .bool false]) w := fun _ => by kernel_rfl
  have h6 : ∀ w : World, (Instr.typeAssert .nilIface 103 190 true).run Tryz.prog w = .ok (.tuple #[.agg #[.int .i64 0, .string ⟨#[]⟩, .int .i64 0, .string ⟨#[]⟩], .bool false]) w := fun _ => by kernel_rfl
  have h7 : ∀ w : World, (Instr.typeAssert .nilIface 103 193 true).run Tryz.prog w = .ok (.tuple #[.agg #[.int .i64 0, .string ⟨#[]⟩, .int .i64 0, .slice none 0 0], .bool false]) w := fun _ => by kernel_rfl
  have h8 : ∀ w : World, (Instr.typeAssert .nilIface 103 195 true).run Tryz.prog w = .ok (.tuple #[.agg #[.int .i64 0, .string ⟨#[]⟩, .int .i64 0, .slice none 0 0], .bool false]) w := fun _ => by kernel_rfl
  have h9 : ∀ w : World, (Instr.typeAssert .nilIface 103 198 true).run Tryz.prog w = .ok (.tuple #[.agg #[.int .i64 0, .string ⟨#[]⟩, .int .i64 0, .slice none 0 0], .bool false]) w := fun _ => by kernel_rfl
  have h10 : ∀ w : World, (Instr.typeAssert .nilIface 103 148 true).run Tryz.prog w = .ok (.tuple #[.agg #[.int .i64 0, .string ⟨#[]⟩, .int .i64 0, .int .u64 0, .nilIface], .bool false]) w := fun _ => by kernel_rfl
  go_enter Tryz.func76, Tryz.ntmps76
  go_wp2_with fail
  refine bodyPost_ret (v := .tuple #[base3 0 ⟨#[]⟩ 0, .bool false]) (by simp [results, Tryz.results76, go_sem]) rfl ⟨rfl, ?_⟩
  exact below_n (Below.refl _ _) _ _
/-- The kinds' names. -/
def kindNms : List ByteArray := [⟨#[60, 110, 105, 108, 62]⟩, ⟨#[98, 111, 111, 108]⟩, ⟨#[105, 110, 116, 56]⟩, ⟨#[105, 110, 116, 49, 54]⟩, ⟨#[105, 110, 116, 51, 50]⟩, ⟨#[105, 110, 116, 54, 52]⟩, ⟨#[105, 110, 116]⟩, ⟨#[117, 105, 110, 116, 56]⟩, ⟨#[117, 105, 110, 116, 49, 54]⟩, ⟨#[117, 105, 110, 116, 51, 50]⟩, ⟨#[117, 105, 110, 116, 54, 52]⟩, ⟨#[117, 105, 110, 116]⟩, ⟨#[102, 108, 111, 97, 116, 51, 50]⟩, ⟨#[102, 108, 111, 97, 116, 54, 52]⟩, ⟨#[99, 111, 109, 112, 108, 101, 120, 54, 52]⟩, ⟨#[99, 111, 109, 112, 108, 101, 120, 49, 50, 56]⟩, ⟨#[115, 116, 114, 105, 110, 103]⟩, ⟨#[91, 93, 117, 105, 110, 116, 56]⟩, ⟨#[115, 116, 114, 117, 99, 116]⟩, ⟨#[97, 114, 114, 97, 121]⟩, ⟨#[115, 108, 105, 99, 101]⟩, ⟨#[109, 97, 112]⟩, ⟨#[112, 116, 114]⟩]
def kindNm (k : Int) : ByteArray := kindNms.getD k.toNat ⟨#[]⟩
abbrev nmsV : Value := .agg #[.string ⟨#[60, 110, 105, 108, 62]⟩, .string ⟨#[98, 111, 111, 108]⟩, .string ⟨#[105, 110, 116, 56]⟩, .string ⟨#[105, 110, 116, 49, 54]⟩, .string ⟨#[105, 110, 116, 51, 50]⟩, .string ⟨#[105, 110, 116, 54, 52]⟩, .string ⟨#[105, 110, 116]⟩, .string ⟨#[117, 105, 110, 116, 56]⟩, .string ⟨#[117, 105, 110, 116, 49, 54]⟩, .string ⟨#[117, 105, 110, 116, 51, 50]⟩, .string ⟨#[117, 105, 110, 116, 54, 52]⟩, .string ⟨#[117, 105, 110, 116]⟩, .string ⟨#[102, 108, 111, 97, 116, 51, 50]⟩, .string ⟨#[102, 108, 111, 97, 116, 54, 52]⟩, .string ⟨#[99, 111, 109, 112, 108, 101, 120, 54, 52]⟩, .string ⟨#[99, 111, 109, 112, 108, 101, 120, 49, 50, 56]⟩, .string ⟨#[115, 116, 114, 105, 110, 103]⟩, .string ⟨#[91, 93, 117, 105, 110, 116, 56]⟩, .string ⟨#[115, 116, 114, 117, 99, 116]⟩, .string ⟨#[97, 114, 114, 97, 121]⟩, .string ⟨#[115, 108, 105, 99, 101]⟩, .string ⟨#[109, 97, 112]⟩, .string ⟨#[112, 116, 114]⟩]
theorem nm_0 (w : World) : (Instr.index 138 nmsV (.int .i64 0)).run Tryz.prog w = .ok (.string (kindNm 0)) w := by kernel_rfl
theorem nm_1 (w : World) : (Instr.index 138 nmsV (.int .i64 1)).run Tryz.prog w = .ok (.string (kindNm 1)) w := by kernel_rfl
theorem nm_2 (w : World) : (Instr.index 138 nmsV (.int .i64 2)).run Tryz.prog w = .ok (.string (kindNm 2)) w := by kernel_rfl
theorem nm_3 (w : World) : (Instr.index 138 nmsV (.int .i64 3)).run Tryz.prog w = .ok (.string (kindNm 3)) w := by kernel_rfl
theorem nm_4 (w : World) : (Instr.index 138 nmsV (.int .i64 4)).run Tryz.prog w = .ok (.string (kindNm 4)) w := by kernel_rfl
theorem nm_5 (w : World) : (Instr.index 138 nmsV (.int .i64 5)).run Tryz.prog w = .ok (.string (kindNm 5)) w := by kernel_rfl
theorem nm_6 (w : World) : (Instr.index 138 nmsV (.int .i64 6)).run Tryz.prog w = .ok (.string (kindNm 6)) w := by kernel_rfl
theorem nm_7 (w : World) : (Instr.index 138 nmsV (.int .i64 7)).run Tryz.prog w = .ok (.string (kindNm 7)) w := by kernel_rfl
theorem nm_8 (w : World) : (Instr.index 138 nmsV (.int .i64 8)).run Tryz.prog w = .ok (.string (kindNm 8)) w := by kernel_rfl
theorem nm_9 (w : World) : (Instr.index 138 nmsV (.int .i64 9)).run Tryz.prog w = .ok (.string (kindNm 9)) w := by kernel_rfl
theorem nm_10 (w : World) : (Instr.index 138 nmsV (.int .i64 10)).run Tryz.prog w = .ok (.string (kindNm 10)) w := by kernel_rfl
theorem nm_11 (w : World) : (Instr.index 138 nmsV (.int .i64 11)).run Tryz.prog w = .ok (.string (kindNm 11)) w := by kernel_rfl
theorem nm_12 (w : World) : (Instr.index 138 nmsV (.int .i64 12)).run Tryz.prog w = .ok (.string (kindNm 12)) w := by kernel_rfl
theorem nm_13 (w : World) : (Instr.index 138 nmsV (.int .i64 13)).run Tryz.prog w = .ok (.string (kindNm 13)) w := by kernel_rfl
theorem nm_14 (w : World) : (Instr.index 138 nmsV (.int .i64 14)).run Tryz.prog w = .ok (.string (kindNm 14)) w := by kernel_rfl
theorem nm_15 (w : World) : (Instr.index 138 nmsV (.int .i64 15)).run Tryz.prog w = .ok (.string (kindNm 15)) w := by kernel_rfl
theorem nm_16 (w : World) : (Instr.index 138 nmsV (.int .i64 16)).run Tryz.prog w = .ok (.string (kindNm 16)) w := by kernel_rfl
theorem nm_17 (w : World) : (Instr.index 138 nmsV (.int .i64 17)).run Tryz.prog w = .ok (.string (kindNm 17)) w := by kernel_rfl
theorem nm_18 (w : World) : (Instr.index 138 nmsV (.int .i64 18)).run Tryz.prog w = .ok (.string (kindNm 18)) w := by kernel_rfl
theorem nm_19 (w : World) : (Instr.index 138 nmsV (.int .i64 19)).run Tryz.prog w = .ok (.string (kindNm 19)) w := by kernel_rfl
theorem nm_20 (w : World) : (Instr.index 138 nmsV (.int .i64 20)).run Tryz.prog w = .ok (.string (kindNm 20)) w := by kernel_rfl
theorem nm_21 (w : World) : (Instr.index 138 nmsV (.int .i64 21)).run Tryz.prog w = .ok (.string (kindNm 21)) w := by kernel_rfl
theorem nm_22 (w : World) : (Instr.index 138 nmsV (.int .i64 22)).run Tryz.prog w = .ok (.string (kindNm 22)) w := by kernel_rfl
theorem nm_any (k : Int) (h : 0 ≤ k ∧ k ≤ 22) (w : World) : (Instr.index 138 nmsV (.int .i64 k)).run Tryz.prog w = .ok (.string (kindNm k)) w := by
  have hk : k = 0 ∨ k = 1 ∨ k = 2 ∨ k = 3 ∨ k = 4 ∨ k = 5 ∨ k = 6 ∨ k = 7 ∨ k = 8 ∨ k = 9 ∨ k = 10 ∨ k = 11 ∨ k = 12 ∨ k = 13 ∨ k = 14 ∨ k = 15 ∨ k = 16 ∨ k = 17 ∨ k = 18 ∨ k = 19 ∨ k = 20 ∨ k = 21 ∨ k = 22 := by omega
  rcases hk with rfl | rfl | rfl | rfl | rfl | rfl | rfl | rfl | rfl | rfl | rfl | rfl | rfl | rfl | rfl | rfl | rfl | rfl | rfl | rfl | rfl | rfl | rfl
  · exact nm_0 w
  · exact nm_1 w
  · exact nm_2 w
  · exact nm_3 w
  · exact nm_4 w
  · exact nm_5 w
  · exact nm_6 w
  · exact nm_7 w
  · exact nm_8 w
  · exact nm_9 w
  · exact nm_10 w
  · exact nm_11 w
  · exact nm_12 w
  · exact nm_13 w
  · exact nm_14 w
  · exact nm_15 w
  · exact nm_16 w
  · exact nm_17 w
  · exact nm_18 w
  · exact nm_19 w
  · exact nm_20 w
  · exact nm_21 w
  · exact nm_22 w
/-- A type's name. -/
def typeS (k : Int) (ty : ByteArray) : ByteArray := if ty = ⟨#[]⟩ then kindNm k else ty
set_option maxRecDepth 100000 in
set_option maxHeartbeats 2000000 in
theorem type_any (v : Value) (k : Int) (ty : ByteArray) (hk : Int) (ok : Bool) (w : World) (hb : BaseIs v (base3 k ty hk) ok) (h : 0 ≤ k ∧ k ≤ 22) :
    Calls Tryz.prog 49 #[v] w fun e w' => e = .returned (.string (typeS k ty)) ∧ Below w.heap.size w w' := by
  have HB := hid hb
  have ix := nm_any k h
  clear hb h
  by_cases hn : ty = ⟨#[]⟩
  · subst hn
    rw [show typeS k ⟨#[]⟩ = kindNm k by unfold typeS; rw [if_pos rfl]]
    go_enter Tryz.func49, Tryz.ntmps49
    go_wp2_with ((refine (HB.out _).mono ?_); rintro e w1 ⟨rfl, hb⟩)
    have HL := hid (below_n hb #[.int .i64 k, .string ⟨#[]⟩, .int .i64 hk] 135)
    clear hb
    go_ret
    exact ⟨rfl, HL.out⟩
  · rw [show typeS k ty = ty by unfold typeS; rw [if_neg hn]]
    have he : (ty.toList == []) = false := by
      rw [beq_lit ty []]
      simp
      intro h
      exact hn (bytes_ext (by rw [h]))
    go_enter Tryz.func49, Tryz.ntmps49
    go_wp2_with ((refine (HB.out _).mono ?_); rintro e w1 ⟨rfl, hb⟩)
    have HL := hid (below_n hb #[.int .i64 k, .string ty, .int .i64 hk] 135)
    clear hb
    go_ret
    exact ⟨rfl, HL.out⟩
set_option maxRecDepth 100000 in
set_option maxHeartbeats 2000000 in
theorem hook_any (v : Value) (k : Int) (ty : ByteArray) (hk : Int) (ok : Bool) (w : World) (hb : BaseIs v (base3 k ty hk) ok) :
    Calls Tryz.prog 80 #[v] w fun e w' => e = .returned (.int .i64 hk) ∧ Below w.heap.size w w' := by
  have HB := hid hb
  clear hb
  go_enter Tryz.func80, Tryz.ntmps80
  go_wp2_with ((refine (HB.out _).mono ?_); rintro e w1 ⟨rfl, hb⟩)
  have HL := hid (below_n hb #[.int .i64 k, .string ty, .int .i64 hk] 135)
  clear hb
  go_ret
  exact ⟨rfl, HL.out⟩
end Go.Proofs.YtdjhmanccoekjaaGreatDoor
end

section
namespace Go.Proofs.YtdjhmanccoekjaaGreatDoor.IN
open Go.RowKit Go.Proofs

abbrev whole (neg : Bool) (n bits : Int) (uns : Bool) : Value := .agg #[.bool neg, .int .u64 n, .int .u64 bits, .bool uns]
theorem fill_str (k : Int) (hk : k ≤ 1000) : (fillS 48 k).data.toList = List.replicate k.toNat 48 := by
  show fillL 48 k = _
  unfold fillL
  rw [show min k 1000 = k by omega]
  rfl
/-- Noughts ahead of a text. -/
theorem fill_zeros (k : Int) (D : ByteArray) (hk : k ≤ 1000) : fillS 48 (k - D.size) ++ D = ⟨(IP.zerosTo k D.data.toList).toArray⟩ := by
  refine bytes_ext ?_
  rw [ByteArray.data_append, Array.toList_append, fill_str _ (by omega)]
  show _ = IP.zerosTo k D.data.toList
  unfold IP.zerosTo
  rw [Utf.size_eq]

/-- The two boxes of a number under way and its spec, kept. -/
structure Bs (w : World) (H1 H2 : Nat) (C1 C2 : Array Value) (W : World) : Prop where
  b1 : Blk W H1 C1 264
  b2 : Blk W H2 C2 94
  below : Below w.heap.size w W
theorem Bs.kept {w W W' : World} {H1 H2 : Nat} {C1 C2 : Array Value} (h : Bs w H1 H2 C1 C2 W) (hb : Below W.heap.size W W') : Bs w H1 H2 C1 C2 W' :=
  ⟨h.b1.below hb h.b1.lt, h.b2.below hb h.b2.lt, h.below.trans (hb.mono h.below.size)⟩
abbrev wh4 (neg : Bool) (n bits : Int) (uns : Bool) : Array Value := #[.bool neg, .int .u64 n, .int .u64 bits, .bool uns]
abbrev sp8 (pl mi sh sp ze : Bool) (wid prec verb : Int) : Array Value := #[.bool pl, .bool mi, .bool sh, .bool sp, .bool ze, .int .i64 wid, .int .i64 prec, .int .i32 verb]
theorem Bs.cells {w W : World} {H1 H2 : Nat} {neg uns : Bool} {n bits : Int} {pl mi sh sp ze : Bool} {wid prec verb : Int} (h : Bs w H1 H2 (wh4 neg n bits uns) (sp8 pl mi sh sp ze wid prec verb) W) :
    W.cell? ⟨H1, 0, none⟩ = some (.bool neg) ∧ W.cell? ⟨H1, 1, none⟩ = some (.int .u64 n) ∧ W.cell? ⟨H1, 2, none⟩ = some (.int .u64 bits) ∧ W.cell? ⟨H1, 3, none⟩ = some (.bool uns) ∧
    W.cell? ⟨H2, 0, none⟩ = some (.bool pl) ∧ W.cell? ⟨H2, 1, none⟩ = some (.bool mi) ∧ W.cell? ⟨H2, 2, none⟩ = some (.bool sh) ∧ W.cell? ⟨H2, 3, none⟩ = some (.bool sp) ∧ W.cell? ⟨H2, 4, none⟩ = some (.bool ze) ∧ W.cell? ⟨H2, 5, none⟩ = some (.int .i64 wid) ∧ W.cell? ⟨H2, 6, none⟩ = some (.int .i64 prec) ∧ W.cell? ⟨H2, 7, none⟩ = some (.int .i32 verb) ∧ W.frozen? ⟨H2, 4, none⟩ = false :=
  ⟨h.b1.cell 0, h.b1.cell 1, h.b1.cell 2, h.b1.cell 3, h.b2.cell 0, h.b2.cell 1, h.b2.cell 2, h.b2.cell 3, h.b2.cell 4, h.b2.cell 5, h.b2.cell 6, h.b2.cell 7, h.b2.frozen 4⟩
theorem bs_start (w : World) (C1 C2 : Array Value) : Bs w w.heap.size (w.heap.size + 1) C1 C2 ((w.alloc (.cells C1 264)).alloc (.cells C2 94)) := by
  refine ⟨(Blk.new w C1 _).alloc _, ?_, ((Below.refl _ _).alloc (Nat.le_refl _) _).alloc (by simp) _⟩
  have := Blk.new (w.alloc (.cells C1 264)) C2 94
  simpa using this

set_option maxRecDepth 100000 in
set_option maxHeartbeats 2000000 in
theorem based_any (neg uns : Bool) (n bits : Int) (pl mi sh sp ze : Bool) (wid prec verb : Int) (b : Int) (mark : ByteArray) (w : World) (h0 : 0 ≤ n) (h1 : n ≤ 18446744073709551615) (hb2 : 2 ≤ b) (hb16 : b ≤ 16) (hm : mark.size ≤ 10) (hmk : mark = ⟨#[48]⟩ ∨ ((mark.toList == [48]) = false ∧ ¬ mark.data.toList = [48]))
    (hw0 : -9223372036854775808 ≤ wid) (hw1 : wid ≤ 9223372036854775807) :
    Calls Tryz.prog 186 #[whole neg n bits uns, .agg #[.bool pl, .bool mi, .bool sh, .bool sp, .bool ze, .int .i64 wid, .int .i64 prec, .int .i32 verb], .int .u64 b, .string mark] w fun e w' =>
      e = .returned (.string (padS ⟨(IP.bodyL neg n.toNat b.toNat (decide (verb = 88)) mark.data.toList pl mi sp ze wid prec).toArray⟩ mi false wid)) ∧ Below w.heap.size w w' := by
  obtain ⟨P, hP⟩ : ∃ P, IP.limI prec = P := ⟨_, rfl⟩
  have hPb : -1 ≤ P ∧ P ≤ 1000 := by rw [← hP]; unfold IP.limI; omega
  obtain ⟨hPb0, hPb1⟩ := hPb
  have LP := hid (fun W => limit_any prec W)
  rw [hP] at LP
  obtain ⟨g, hg⟩ : ∃ g : Bool, decide (verb = 88) = g := ⟨_, rfl⟩
  rw [hg]
  have DG := hid (fun W => digits_any n b g W h0 h1 hb2 hb16)
  have hdl := IP.dgb_len64 b.toNat g (by omega) n.toNat (by omega)
  have hdp := IP.dgb_pos b.toNat n.toNat g
  obtain ⟨D, hD⟩ : ∃ D : ByteArray, ⟨(IP.dgb b.toNat g n.toNat).toArray⟩ = D := ⟨_, rfl⟩
  rw [hD] at DG
  have hDs : D.size ≤ 64 := by rw [← hD]; simpa [ByteArray.size] using hdl
  have hDp : 1 ≤ D.size := by rw [← hD]; simpa [ByteArray.size] using hdp
  have HD := hid (And.intro hD (And.intro hP hg))
  clear hD hP hdl hdp
  have S0 := hid (bs_start w (wh4 neg n bits uns) (sp8 pl mi sh sp ze wid prec verb))
  go_enter Tryz.func186, Tryz.ntmps186
  go_upto_if 15 with fail
  obtain ⟨W0, hW0⟩ : ∃ W0, (w.alloc (.cells (wh4 neg n bits uns) 264)).alloc (.cells (sp8 pl mi sh sp ze wid prec verb) 94) = W0 := ⟨_, rfl⟩
  obtain ⟨H, hH⟩ : ∃ H, w.heap.size = H := ⟨_, rfl⟩
  have HH := hid hH
  rw [hW0] at S0 ⊢
  rw [hH] at S0 ⊢
  clear hW0 hH
  go_cut [9] (fun v9 wc => v9 = .string (signsS g) ∧ wc = W0)
  case first =>
    rcases (show (verb = 88 ∧ g = true) ∨ ((verb == 88) = false ∧ g = false) by
      by_cases h : verb = 88
      · exact Or.inl ⟨h, by rw [← HD.out.2.2]; exact decide_eq_true h⟩
      · exact Or.inr ⟨beq_eq_false_iff_ne.2 h, by rw [← HD.out.2.2]; exact decide_eq_false h⟩) with ⟨hv, hgg⟩ | ⟨hv, hgg⟩
    · subst hv
      subst hgg
      go_wp2_with fail
      go_meet
      exact ⟨rfl, rfl⟩
    · subst hgg
      go_wp2_with fail
      go_meet
      exact ⟨rfl, rfl⟩
  case rest =>
    obtain ⟨rfl, rfl⟩ := hcut
    obtain ⟨c0, c1, c2, c3, s0, s1, s2, s3, s4, s5, s6, s7, sf⟩ := S0.out.cells
    go_wp2_with fail
    refine (LP.out _).mono ?_
    rintro e w' ⟨rfl, rfl⟩
    go_wp2_with fail
    refine (DG.out _).mono ?_
    rintro e w1 ⟨rfl, hb1⟩
    have S1 := hid (S0.out.kept hb1)
    clear hb1 c0 c1 c2 c3 s0 s1 s2 s3 s4 s5 s6 s7 sf
    obtain ⟨c0, c1, c2, c3, s0, s1, s2, s3, s4, s5, s6, s7, sf⟩ := S1.out.cells
    obtain ⟨zz, hzz⟩ : ∃ zz : Bool, decide (n = 0 ∧ P = 0) = zz := ⟨_, rfl⟩
    have HZ := hid hzz
    clear hzz
    go_upto_region 6 with fail
    go_cut [30] (fun v30 wc => v30 = .bool zz ∧ wc = w1)
    case first =>
      rcases (show (n = 0 ∧ P = 0 ∧ zz = true) ∨ (n = 0 ∧ (P == 0) = false ∧ zz = false) ∨ ((n == 0) = false ∧ zz = false) by
        rw [← HZ.out]
        by_cases a : n = 0
        · by_cases c : P = 0
          · exact Or.inl ⟨a, c, decide_eq_true ⟨a, c⟩⟩
          · exact Or.inr (Or.inl ⟨a, beq_eq_false_iff_ne.2 c, decide_eq_false fun h => c h.2⟩)
        · exact Or.inr (Or.inr ⟨beq_eq_false_iff_ne.2 a, decide_eq_false fun h => a h.1⟩)) with ⟨q1, q2, q3⟩ | ⟨q1, q2, q3⟩ | ⟨q2, q3⟩
      · subst q1
        subst q2
        subst q3
        go_wp2_with fail
        go_meet
        exact ⟨rfl, rfl⟩
      · subst q1
        subst q3
        go_wp2_with fail
        go_meet
        exact ⟨rfl, rfl⟩
      · subst q3
        go_wp2_with fail
        go_meet
        exact ⟨rfl, rfl⟩
    case rest =>
      obtain ⟨rfl, rfl⟩ := hcut
      cases zz
      · have hnz : ¬ (n.toNat = 0 ∧ IP.limI prec = 0) := fun h => by
          have := of_decide_eq_false HZ.out
          rw [HD.out.2.1] at h
          exact this ⟨by omega, h.2⟩
        have FI := hid (fun W => fill_any 48 (P - D.size) W (by omega) (by omega))
        obtain ⟨D1, hD1⟩ : ∃ D1, fillS 48 (P - D.size) ++ D = D1 := ⟨_, rfl⟩
        have hz1 := fillS_size 48 (P - D.size)
        have hD1s : D1.size ≤ 1064 := by rw [← hD1, ByteArray.size_append]; omega
        have hD1p : 0 < D1.size := by rw [← hD1, ByteArray.size_append]; omega
        have hD1l : D1.data.toList = IP.zerosTo P D.data.toList := by rw [← hD1, fill_zeros P D hPb1]
        have HD1 := hid (And.intro hD1 hD1l)
        have hD1e : D1.toList.isEmpty = false := isEmpty_of_pos hD1p
        clear hD1 hD1l
        go_wp2_with fail
        refine (FI.out _).mono ?_
        rintro e w2 ⟨rfl, hb2⟩
        have S2 := hid (S1.out.kept hb2)
        clear hb2 c0 c1 c2 c3 s0 s1 s2 s3 s4 s5 s6 s7 sf
        obtain ⟨c0, c1, c2, c3, s0, s1, s2, s3, s4, s5, s6, s7, sf⟩ := S2.out.cells
        go_upto_region 9 with fail
        rw [HD1.out.1]
        obtain ⟨S, hS⟩ : ∃ S : ByteArray, (⟨(IP.signL neg pl sp).toArray⟩ : ByteArray) = S := ⟨_, rfl⟩
        have hSs : S.size ≤ 1 := by rw [← hS]; simpa [ByteArray.size] using IP.signL_len neg pl sp
        have HS := hid hS
        clear hS
        go_upto_block 0 with fail
        go_cut [12] (fun v12 wn => v12 = .string S ∧ wn = w2)
        case first =>
          cases neg
          · cases pl
            · cases sp
              · have hs : S = ⟨#[]⟩ := HS.out.symm
                subst hs
                go_wp2_with fail
                go_meet
                exact ⟨rfl, rfl⟩
              · have hs : S = ⟨#[32]⟩ := HS.out.symm
                subst hs
                go_wp2_with fail
                go_meet
                exact ⟨rfl, rfl⟩
            · have hs : S = ⟨#[43]⟩ := HS.out.symm
              subst hs
              go_wp2_with fail
              go_meet
              exact ⟨rfl, rfl⟩
          · have hs : S = ⟨#[45]⟩ := HS.out.symm
            subst hs
            go_wp2_with fail
            go_meet
            exact ⟨rfl, rfl⟩
        case rest =>
          obtain ⟨rfl, rfl⟩ := hcut
          obtain ⟨hp, hhp⟩ : ∃ hp, Lib.hasPrefix D1.data.toList [48] = hp := ⟨_, rfl⟩
          have PF := hid (fun W => Tryz.strings_HasPrefix D1 ⟨#[48]⟩ W)
          have ePF : (⟨#[48]⟩ : ByteArray).data.toList = [48] := rfl
          rw [ePF, hhp] at PF
          obtain ⟨mk, hmk2⟩ : ∃ mk : Bool, (decide (mark.data.toList = [48]) && hp) = mk := ⟨_, rfl⟩
          have HM := hid (And.intro hmk2 hhp)
          clear hmk2 hhp ePF
          go_upto_region 16 with fail
          go_cut [52] (fun v52 w4 => v52 = .bool mk ∧ w4 = wc)
          case first =>
            rcases hmk with rfl | ⟨hmk, hmn⟩
            · have hmk : mk = hp := by rw [← HM.out.1]; rfl
              subst hmk
              go_wp2_with fail
              refine (PF.out _).mono ?_
              rintro e w' ⟨rfl, rfl⟩
              go_wp2_with fail
              go_meet
              exact ⟨rfl, rfl⟩
            · have hmk : mk = false := by rw [← HM.out.1, decide_eq_false hmn]; rfl
              subst hmk
              go_wp2_with fail
              go_meet
              exact ⟨rfl, rfl⟩
          case rest =>
            obtain ⟨rfl, rfl⟩ := hcut
            obtain ⟨M, hM⟩ : ∃ M : ByteArray, (if mk then ⟨#[]⟩ else mark) = M := ⟨_, rfl⟩
            have hMs : M.size ≤ 10 := by rw [← hM]; cases mk; exact hm; exact Nat.zero_le _
            have hMl : M.data.toList = IP.markL mark.data.toList D1.data.toList := by
              rw [← hM, ← HM.out.1, ← HM.out.2]
              unfold IP.markL Lib.hasPrefix
              by_cases e : mark.data.toList = [48]
              · rw [e]
                cases hd : D1.data.toList with
                | nil => simp [e]
                | cons x r =>
                  by_cases ex : x = 48
                  · subst ex; simp
                  · simp [Ne.symm ex, ex, e]
              · simp [e]
            obtain ⟨zf, hzf⟩ : ∃ zf : Bool, (ze && !mi && decide (P < 0)) = zf := ⟨_, rfl⟩
            have HMM := hid (And.intro hM (And.intro hMl hzf))
            clear hM hMl hzf
            go_upto_if 52 with fail
            go_cut [3] (fun v3 w5 => v3 = .string M ∧ w5 = wc)
            case first =>
              cases mk
              · have e : M = mark := HMM.out.1.symm
                subst e
                go_wp2_with fail
                go_meet
                exact ⟨rfl, rfl⟩
              · have e : M = ⟨#[]⟩ := HMM.out.1.symm
                subst e
                go_wp2_with fail
                go_meet
                exact ⟨rfl, rfl⟩
            case rest =>
              obtain ⟨rfl, rfl⟩ := hcut
              go_upto_region 20 with fail
              go_cut [65] (fun v65 w6 => v65 = .bool zf ∧ w6 = wc)
              case first =>
                rcases (show (ze = false ∧ zf = false) ∨ (ze = true ∧ mi = true ∧ zf = false) ∨ (ze = true ∧ mi = false ∧ ¬ P < 0 ∧ zf = false) ∨ (ze = true ∧ mi = false ∧ P < 0 ∧ zf = true) by
                  rw [← HMM.out.2.2]
                  cases ze <;> cases mi <;> simp <;> omega) with ⟨rfl, rfl⟩ | ⟨rfl, rfl, rfl⟩ | ⟨rfl, rfl, hlt, rfl⟩ | ⟨rfl, rfl, hlt, rfl⟩
                all_goals
                  go_wp2_with fail
                  go_meet
                  exact ⟨rfl, rfl⟩
              case rest =>
                obtain ⟨rfl, rfl⟩ := hcut
                obtain ⟨D2, hD2⟩ : ∃ D2 : ByteArray, (if zf then fillS 48 (IP.limI wid - S.size - M.size - D1.size) ++ D1 else D1) = D2 := ⟨_, rfl⟩
                have LW := hid (fun W => limit_any wid W)
                obtain ⟨WL, hWL⟩ : ∃ WL, IP.limI wid = WL := ⟨_, rfl⟩
                have hWb : -1 ≤ WL ∧ WL ≤ 1000 := by rw [← hWL]; unfold IP.limI; omega
                obtain ⟨hWb0, hWb1⟩ := hWb
                rw [hWL] at LW hD2
                have hD2s : D2.size ≤ 2064 := by
                  have hq := fillS_size 48 (WL - S.size - M.size - D1.size)
                  rw [← hD2]
                  cases zf
                  · show D1.size ≤ 2064; omega
                  · show (_ ++ D1).size ≤ 2064
                    rw [ByteArray.size_append]; omega
                have FW := hid (fun W => fill_any 48 (WL - S.size - M.size - D1.size) W (by omega) (by omega))
                have HD2 := hid (And.intro hD2 hWL)
                clear hD2 hWL
                have BODY : Hid ((S ++ M ++ D2).data.toList = IP.bodyL neg n.toNat b.toNat g mark.data.toList pl mi sp ze wid prec) := by
                  have hDD : D.data.toList = IP.dgb b.toNat g n.toNat := by rw [← HD.out.1]
                  have hSS : S.data.toList = IP.signL neg pl sp := by rw [← HS.out]
                  have hSl : (S.size : Int) = (IP.signL neg pl sp).length := by rw [Utf.size_eq, hSS]
                  have hMl : (M.size : Int) = (IP.markL mark.data.toList D1.data.toList).length := by rw [Utf.size_eq, HMM.out.2.1]
                  unfold Hid IP.bodyL
                  rw [if_neg hnz, HD.out.2.1]
                  dsimp only
                  rw [← hDD, ← HD1.out.2, HD2.out.2]
                  have hz2 := HMM.out.2.2
                  have hd2 := HD2.out.1
                  simp only [ByteArray.data_append, Array.toList_append, hSS, HMM.out.2.1]
                  cases zf
                  · rw [if_neg (by
                      intro h
                      rw [h.1, h.2.1, decide_eq_true h.2.2] at hz2
                      cases hz2)]
                    rw [← hd2]; rfl
                  · have hc : ze = true ∧ mi = false ∧ P < 0 := by
                      cases ze <;> cases mi <;> simp at hz2
                      exact ⟨rfl, rfl, hz2⟩
                    rw [if_pos hc, ← hd2]
                    show _ ++ (fillS 48 (WL - S.size - M.size - D1.size) ++ D1).data.toList = _
                    have hf := fill_zeros (WL - S.size - M.size) D1 (by omega)
                    rw [hf, hSl, hMl]
                have hA1 : (S ++ M ++ D2).size ≤ 100000 := by rw [ByteArray.size_append, ByteArray.size_append]; omega
                go_upto_if 65 with fail
                go_cut [11] (fun v11 w7 => v11 = .string D2 ∧ Hid (Bs w H (H + 1) (wh4 neg n bits uns) (sp8 pl mi sh sp ze wid prec verb) w7))
                case first =>
                  cases zf
                  · have e : D2 = D1 := HD2.out.1.symm
                    subst e
                    go_wp2_with fail
                    go_meet
                    exact ⟨rfl, S2.out⟩
                  · have e : fillS 48 (WL - S.size - M.size - D1.size) ++ D1 = D2 := HD2.out.1
                    have hfz := fillS_size 48 (WL - S.size - M.size - D1.size)
                    go_wp2_with fail
                    refine (LW.out _).mono ?_
                    rintro e w' ⟨rfl, rfl⟩
                    go_wp2_with fail
                    refine (FW.out _).mono ?_
                    rintro e w8 ⟨rfl, hb8⟩
                    have S8 := hid (S2.out.kept hb8)
                    clear hb8
                    go_wp2_with fail
                    go_meet
                    exact ⟨by rw [HD2.out.1.symm], S8.out⟩
                case rest =>
                  obtain ⟨rfl, S9⟩ := hcut
                  clear c0 c1 c2 c3 s0 s1 s2 s3 s4 s5 s6 s7 sf
                  obtain ⟨_, _, _, _, s0, s1, s2, s3, s4, s5, s6, s7, sf⟩ := S9.out.cells
                  have PAD := hid (fun W => pad_any (S ++ M ++ D2) pl mi sh sp false wid prec verb W (by omega) hw0 hw1)
                  have hsm : S.size + M.size ≤ 11 := by omega
                  have BF := hid (S9.out.below.setCell (p := ⟨H + 1, 4, none⟩) (by rw [HH.out]; exact Nat.le_succ _) (.bool false))
                  go_wp2_with fail
                  refine (PAD.out _).mono ?_
                  rintro e w9 ⟨rfl, hb9⟩
                  have hfin : (⟨(IP.bodyL neg n.toNat b.toNat g mark.data.toList pl mi sp ze wid prec).toArray⟩ : ByteArray) = S ++ M ++ D2 := bytes_ext (by rw [BODY.out])
                  have HFIN := hid hfin
                  have HB9 := hid hb9
                  clear hfin hb9
                  go_wp2_with fail
                  go_ret
                  exact ⟨by rw [HFIN.out]; rfl, BF.out.trans (HB9.out.mono BF.out.size)⟩
      · obtain ⟨rfl, rfl⟩ := of_decide_eq_true HZ.out
        have hbody : IP.bodyL neg (0 : Int).toNat b.toNat g mark.data.toList pl mi sp ze wid prec = [] := by
          unfold IP.bodyL
          rw [if_pos ⟨rfl, HD.out.2.1⟩]
        have HBODY := hid hbody
        have F0 : fillS 48 0 = ⟨#[]⟩ := rfl
        have FI := hid (fun W => fill_any 48 0 W (by decide) (by decide))
        rw [F0] at FI
        have hEE : ((⟨#[]⟩ : ByteArray) ++ (⟨#[]⟩ : ByteArray)) = ⟨#[]⟩ := rfl
        clear hbody F0
        go_wp2_with fail
        refine (FI.out _).mono ?_
        rintro e w2 ⟨rfl, hb2⟩
        have S2 := hid (S1.out.kept hb2)
        clear hb2 c0 c1 c2 c3 s0 s1 s2 s3 s4 s5 s6 s7 sf
        obtain ⟨c0, c1, c2, c3, s0, s1, s2, s3, s4, s5, s6, s7, sf⟩ := S2.out.cells
        go_upto_block 0 with fail
        go_cut [12] (fun v12 wn => (∃ S : ByteArray, v12 = .string S ∧ S.size ≤ 1) ∧ wn = w2)
        case first =>
          cases neg
          · cases pl
            · cases sp
              · go_wp2_with fail
                go_meet
                exact ⟨⟨_, rfl, by decide⟩, rfl⟩
              · go_wp2_with fail
                go_meet
                exact ⟨⟨_, rfl, by decide⟩, rfl⟩
            · go_wp2_with fail
              go_meet
              exact ⟨⟨_, rfl, by decide⟩, rfl⟩
          · go_wp2_with fail
            go_meet
            exact ⟨⟨_, rfl, by decide⟩, rfl⟩
        case rest =>
          obtain ⟨⟨S, rfl, hSs⟩, rfl⟩ := hcut
          have PF := hid (fun W => Tryz.strings_HasPrefix ⟨#[]⟩ ⟨#[48]⟩ W)
          have ePF : Lib.hasPrefix (⟨#[]⟩ : ByteArray).data.toList (⟨#[48]⟩ : ByteArray).data.toList = false := rfl
          rw [ePF] at PF
          clear ePF
          go_upto_region 16 with fail
          go_cut [52] (fun v52 wn => v52 = .bool false ∧ wn = wc)
          case first =>
            rcases hmk with rfl | ⟨hmk, hmn⟩
            · go_wp2_with fail
              refine (PF.out _).mono ?_
              rintro e w' ⟨rfl, rfl⟩
              go_wp2_with fail
              go_meet
              exact ⟨rfl, rfl⟩
            · go_wp2_with fail
              go_meet
              exact ⟨rfl, rfl⟩
          case rest =>
            obtain ⟨rfl, rfl⟩ := hcut
            go_upto_region 20 with fail
            go_cut [65] (fun v65 wn => v65 = .bool false ∧ wn = wc)
            case first =>
              cases ze <;> cases mi
              all_goals
                go_wp2_with fail
                go_meet
                exact ⟨rfl, rfl⟩
            case rest =>
              obtain ⟨rfl, rfl⟩ := hcut
              have PAD := hid (fun W => pad_any (⟨#[]⟩ : ByteArray) pl mi sh sp false wid prec verb W (by decide) hw0 hw1)
              have BF := hid (S2.out.below.setCell (p := ⟨H + 1, 4, none⟩) (by rw [HH.out]; exact Nat.le_succ _) (.bool false))
              go_wp2_with fail
              refine (PAD.out _).mono ?_
              rintro e w9 ⟨rfl, hb9⟩
              have HB9 := hid hb9
              clear hb9
              go_wp2_with fail
              go_ret
              exact ⟨by rw [HBODY.out]; rfl, BF.out.trans (HB9.out.mono BF.out.size)⟩
end Go.Proofs.YtdjhmanccoekjaaGreatDoor.IN
end

section
namespace Go.Proofs.YtdjhmanccoekjaaGreatDoor.IN
open Go.RowKit Go.Proofs

def basedS (neg : Bool) (n b : Nat) (g : Bool) (mark : List UInt8) (pl mi sp ze : Bool) (wid prec : Int) : ByteArray := padS ⟨(IP.bodyL neg n b g mark pl mi sp ze wid prec).toArray⟩ mi false wid
/-- What is written of a number by any verb; none: the verb is refused. -/
def writeS (neg uns : Bool) (n bits : Nat) (pl mi sh sp ze : Bool) (wid prec verb : Int) : Option ByteArray :=
  if verb = 99 then some (padS (Utf8.encode (IP.pointI bits)) mi ze wid)
  else if verb = 113 then some (padS ⟨(IP.charL (IP.pointI bits) pl).toArray⟩ mi ze wid)
  else if verb = 85 then some (padS ⟨(IP.uniL bits sh prec).toArray⟩ mi false wid)
  else if verb = 118 ∧ uns = true ∧ sh = true then some (basedS neg n 16 false [48, 120] pl mi sp ze wid prec)
  else match IP.baseOf verb with
    | none => none
    | some (b, m, al, g) => some (basedS neg n b g (if al || sh then m else []) pl mi sp ze wid prec)
/-- A text and whether there is one. -/
def tupS : Option ByteArray → Value
  | none => .tuple #[.string ⟨#[]⟩, .bool false]
  | some s => .tuple #[.string s, .bool true]

theorem sharp_any (pl mi sh sp ze : Bool) (wid prec verb : Int) (m : ByteArray) (w : World) : Calls Tryz.prog 187 #[.agg #[.bool pl, .bool mi, .bool sh, .bool sp, .bool ze, .int .i64 wid, .int .i64 prec, .int .i32 verb], .string m] w fun e w' => e = .returned (.string (if sh then m else ⟨#[]⟩)) ∧ Below w.heap.size w w' := by
  cases sh
  all_goals
    go_enter Tryz.func187, Tryz.ntmps187
    go_wp2_with fail
    go_ret
    exact ⟨rfl, (Below.refl _ _).alloc (Nat.le_refl _) _⟩
theorem ipoint_any (neg uns : Bool) (n bits : Int) (w : World) (h0 : 0 ≤ bits) (h1 : bits ≤ 18446744073709551615) : Calls Tryz.prog 188 #[whole neg n bits uns] w fun e w' => e = .returned (.int .i32 (IP.pointI bits.toNat)) ∧ Below w.heap.size w w' := by
  by_cases h : 1114111 < bits
  · have hr : IP.pointI bits.toNat = 65533 := by unfold IP.pointI; rw [if_pos (by omega)]
    rw [hr]
    clear hr
    go_enter Tryz.func188, Tryz.ntmps188
    go_wp2_with fail
    go_ret
    exact ⟨rfl, (Below.refl _ _).alloc (Nat.le_refl _) _⟩
  · have hr : IP.pointI bits.toNat = bits := by unfold IP.pointI; rw [if_neg (by omega)]; omega
    rw [hr]
    clear hr
    go_enter Tryz.func188, Tryz.ntmps188
    go_wp2_with fail
    go_ret
    exact ⟨rfl, (Below.refl _ _).alloc (Nat.le_refl _) _⟩
set_option maxRecDepth 100000 in
set_option maxHeartbeats 2000000 in
theorem unicode_any (neg uns : Bool) (n bits : Int) (pl mi sh sp ze : Bool) (wid prec verb : Int) (w : World) (h0 : 0 ≤ bits) (h1 : bits ≤ 18446744073709551615) (hw0 : -9223372036854775808 ≤ wid) (hw1 : wid ≤ 9223372036854775807) :
    Calls Tryz.prog 190 #[whole neg n bits uns, .agg #[.bool pl, .bool mi, .bool sh, .bool sp, .bool ze, .int .i64 wid, .int .i64 prec, .int .i32 verb]] w fun e w' => e = .returned (.string (padS ⟨(IP.uniL bits.toNat sh prec).toArray⟩ mi false wid)) ∧ Below w.heap.size w w' := by
  obtain ⟨P, hP⟩ : ∃ P, IP.limI prec = P := ⟨_, rfl⟩
  have hPb : -1 ≤ P ∧ P ≤ 1000 := by rw [← hP]; unfold IP.limI; omega
  obtain ⟨hPb0, hPb1⟩ := hPb
  have LP := hid (fun W => limit_any prec W)
  rw [hP] at LP
  have DG := hid (fun W => digits_any bits 16 true W h0 h1 (by decide) (by decide))
  have hdl := IP.dgb_len64 16 true (by decide) bits.toNat (by omega)
  obtain ⟨D, hD⟩ : ∃ D : ByteArray, ⟨(IP.dgb (16 : Int).toNat true bits.toNat).toArray⟩ = D := ⟨_, rfl⟩
  rw [hD] at DG
  have hDs : D.size ≤ 64 := by rw [← hD]; simpa [ByteArray.size] using hdl
  obtain ⟨Q, hQ⟩ : ∃ Q, max 4 P = Q := ⟨_, rfl⟩
  have hQb : 4 ≤ Q ∧ Q ≤ 1000 := by omega
  obtain ⟨hQ0, hQ1⟩ := hQb
  have FI := hid (fun W => fill_any 48 (Q - D.size) W (by omega) (by omega))
  have hfs := fillS_size 48 (Q - D.size)
  have RU := hid (fun W => rune_any bits W)
  have PL := hid (fun W => qplain_any bits W)
  obtain ⟨U, hU⟩ : ∃ U : ByteArray, (⟨#[85, 43]⟩ : ByteArray) ++ fillS 48 (Q - D.size) ++ D = U := ⟨_, rfl⟩
  have hUs : U.size ≤ 1066 := by
    rw [← hU, ByteArray.size_append, ByteArray.size_append]
    show 2 + _ + _ ≤ 1066
    omega
  have hUl : U.data.toList = [85, 43] ++ IP.zerosTo (max 4 (IP.limI prec)) (IP.dgb 16 true bits.toNat) := by
    rw [← hU, hP, hQ]
    have hf := fill_zeros Q D hQ1
    rw [ByteArray.append_assoc, hf]
    simp only [ByteArray.data_append, Array.toList_append]
    rw [← hD]
    rfl
  have HU := hid (And.intro hU (And.intro hUl hQ))
  have S0 := hid (bs_start w (wh4 neg n bits uns) (sp8 pl mi sh sp ze wid prec verb))
  clear hD hP hU hUl hQ hdl
  go_enter Tryz.func190, Tryz.ntmps190
  go_upto_region 1 with fail
  obtain ⟨W0, hW0⟩ : ∃ W0, (w.alloc (.cells (wh4 neg n bits uns) 264)).alloc (.cells (sp8 pl mi sh sp ze wid prec verb) 94) = W0 := ⟨_, rfl⟩
  obtain ⟨H, hH⟩ : ∃ H, w.heap.size = H := ⟨_, rfl⟩
  have HH := hid hH
  rw [hW0] at S0 ⊢
  rw [hH] at S0 ⊢
  clear hW0 hH
  obtain ⟨c0, c1, c2, c3, s0, s1, s2, s3, s4, s5, s6, s7, sf⟩ := S0.out.cells
  go_wp2_with fail
  refine (DG.out _).mono ?_
  rintro e w1 ⟨rfl, hb1⟩
  have S1 := hid (S0.out.kept hb1)
  clear hb1 c0 c1 c2 c3 s0 s1 s2 s3 s4 s5 s6 s7 sf
  obtain ⟨c0, c1, c2, c3, s0, s1, s2, s3, s4, s5, s6, s7, sf⟩ := S1.out.cells
  go_wp2_with fail
  refine (LP.out _).mono ?_
  rintro e w' ⟨rfl, rfl⟩
  go_wp2_with fail
  rw [HU.out.2.2]
  refine (FI.out _).mono ?_
  rintro e w2 ⟨rfl, hb2⟩
  have S2 := hid (S1.out.kept hb2)
  clear hb2 c0 c1 c2 c3 s0 s1 s2 s3 s4 s5 s6 s7 sf
  obtain ⟨c0, c1, c2, c3, s0, s1, s2, s3, s4, s5, s6, s7, sf⟩ := S2.out.cells
  obtain ⟨zf, hzf⟩ : ∃ zf : Bool, (sh && decide (bits ≤ 1114111) && IP.plainB bits) = zf := ⟨_, rfl⟩
  have HZ := hid hzf
  clear hzf
  go_upto_region 3 with fail
  rw [HU.out.1]
  go_cut [33] (fun v33 wn => v33 = .bool zf ∧ wn = w2)
  case first =>
    cases sh
    · have e : zf = false := HZ.out.symm
      subst e
      go_wp2_with fail
      go_meet
      exact ⟨rfl, rfl⟩
    · by_cases hbb : bits ≤ 1114111
      · have e : zf = IP.plainB bits := by rw [← HZ.out, decide_eq_true hbb]; rfl
        subst e
        go_wp2_with fail
        refine (PL.out _).mono ?_
        rintro e w' ⟨rfl, rfl⟩
        go_wp2_with fail
        go_meet
        exact ⟨rfl, rfl⟩
      · have e : zf = false := by rw [← HZ.out, decide_eq_false hbb]; rfl
        subst e
        go_wp2_with fail
        go_meet
        exact ⟨rfl, rfl⟩
  case rest =>
    obtain ⟨rfl, rfl⟩ := hcut
    obtain ⟨V, hV⟩ : ∃ V : ByteArray, (if zf then U ++ ((⟨#[32, 39]⟩ : ByteArray) ++ Utf8.encode bits ++ ⟨#[39]⟩) else U) = V := ⟨_, rfl⟩
    have hes : (Utf8.encode bits).size ≤ 4 := by
      rw [Utf.size_eq]
      exact (Utf.encL_pos bits).2
    have hVs : V.size ≤ 2000 := by
      rw [← hV]
      cases zf
      · show U.size ≤ 2000; omega
      · show (U ++ _).size ≤ 2000
        rw [ByteArray.size_append, ByteArray.size_append, ByteArray.size_append]
        show U.size + (2 + _ + 1) ≤ 2000
        omega
    have hVl : V.data.toList = IP.uniL bits.toNat sh prec := by
      have hbn : (bits.toNat : Int) = bits := by omega
      unfold IP.uniL
      rw [← hV, ← HU.out.2.1, hbn]
      by_cases hc : sh = true ∧ bits.toNat ≤ 1114111 ∧ IP.plainB bits = true
      · have e : zf = true := by rw [← HZ.out, hc.1, hc.2.2, decide_eq_true (show bits ≤ 1114111 by omega)]; rfl
        rw [if_pos hc, if_pos e]
        simp only [ByteArray.data_append, Array.toList_append, Utf.encL]
      · have e : ¬ zf = true := by
          intro e
          rw [← HZ.out] at e
          simp only [Bool.and_eq_true, decide_eq_true_eq] at e
          exact hc ⟨e.1.1, by omega, e.2⟩
        rw [if_neg hc, if_neg e, List.append_nil]
    have HV := hid (And.intro hV hVl)
    clear hV hVl
    go_upto_if 33 with fail
    go_cut [6] (fun v6 wn => v6 = .string V ∧ wn = wc)
    case first =>
      cases zf
      · have e : V = U := HV.out.1.symm
        subst e
        go_wp2_with fail
        go_meet
        exact ⟨rfl, rfl⟩
      · have hbb : bits ≤ 1114111 := by
          have e := HZ.out
          simp only [Bool.and_eq_true, decide_eq_true_eq] at e
          exact e.1.2
        go_wp2_with fail
        refine (RU.out _).mono ?_
        rintro e w' ⟨rfl, rfl⟩
        go_wp2_with fail
        go_meet
        exact ⟨by rw [← HV.out.1]; rfl, rfl⟩
    case rest =>
      obtain ⟨rfl, rfl⟩ := hcut
      have PAD := hid (fun W => pad_any V pl mi sh sp false wid prec verb W (by omega) hw0 hw1)
      have BF := hid (S2.out.below.setCell (p := ⟨H + 1, 4, none⟩) (by rw [HH.out]; exact Nat.le_succ _) (.bool false))
      go_wp2_with fail
      refine (PAD.out _).mono ?_
      rintro e w9 ⟨rfl, hb9⟩
      have HB9 := hid hb9
      have hfin : (⟨(IP.uniL bits.toNat sh prec).toArray⟩ : ByteArray) = V := bytes_ext (by rw [HV.out.2])
      have HFIN := hid hfin
      clear hb9 hfin
      go_wp2_with fail
      go_ret
      exact ⟨by rw [HFIN.out]; rfl, BF.out.trans (HB9.out.mono BF.out.size)⟩
end Go.Proofs.YtdjhmanccoekjaaGreatDoor.IN
end
