/- Functions of Slices, read without their frames; that each is enough. Printed by a program of mine (wip/lift/gen.py). -/
import Derived.Test.YtblmoilneiffgaaOrc
set_option maxRecDepth 100000
namespace Go.Proofs.Ytblmoilneiffgaa
open Go.RowKit

-- slices.Clone[[]int,int]
def slices_Clone_sl_int_int_sh (s_1 : Sl) (w : World) (K : Value → World → Prop) : Prop :=
 brB (Option.isNone s_1.ptr)
 (K (.slice none 0 0) w)
 (∀ (b2 : Nat) (w3 : World), b2 = w.heap.size → w3 = World.alloc w (.cells #[] T_int) →
 ∃ s4 : Sl, ∃ w5 : World, (Builtin.append_ #[T_sl_int, T_sl_int] T_sl_int #[.slice (some ⟨b2, 0, none⟩) 0 0, s_1.val]).run Try.prog w3 = .ok (s4.val) w5 ∧
 K (s4.val) w5)
def slices_Clone_sl_int_int_an : An := ⟨[], [], []⟩
theorem slices_Clone_sl_int_int_lift {s_1 : Sl} {w : World} {K : Value → World → Prop} (h : slices_Clone_sl_int_int_sh s_1 w K) : Calls Try.prog fn_slices_Clone_sl_int_int #[s_1.val] w fun e w' => ∃ v, e = .returned v ∧ K v w' :=
   lift_calls (A := slices_Clone_sl_int_int_an) (c := bodyOf Try.f64) (args := [s_1.val]) orc orc_wide Try.func64 (by kernel_rfl) (by kernel_rfl) (Eq.mp (by kernel_rfl : slices_Clone_sl_int_int_sh s_1 w K = wpc orc Try.f64.ntmps slices_Clone_sl_int_int_an (bodyOf Try.f64) (argl 0 [s_1.val]) w (retQ orc Try.f64.results.toList K)) h)

-- slices.Clone[[]holloway/api.Ins,holloway/api.Ins]
def slices_Clone_sl_api_Ins_api_Ins_sh (s_1 : Sl) (w : World) (K : Value → World → Prop) : Prop :=
 brB (Option.isNone s_1.ptr)
 (K (.slice none 0 0) w)
 (∀ (b2 : Nat) (w3 : World), b2 = w.heap.size → w3 = World.alloc w (.cells #[] T_api_Ins) →
 ∃ s4 : Sl, ∃ w5 : World, (Builtin.append_ #[T_sl_api_Ins, T_sl_api_Ins] T_sl_api_Ins #[.slice (some ⟨b2, 0, none⟩) 0 0, s_1.val]).run Try.prog w3 = .ok (s4.val) w5 ∧
 K (s4.val) w5)
def slices_Clone_sl_api_Ins_api_Ins_an : An := ⟨[], [], []⟩
theorem slices_Clone_sl_api_Ins_api_Ins_lift {s_1 : Sl} {w : World} {K : Value → World → Prop} (h : slices_Clone_sl_api_Ins_api_Ins_sh s_1 w K) : Calls Try.prog fn_slices_Clone_sl_api_Ins_api_Ins #[s_1.val] w fun e w' => ∃ v, e = .returned v ∧ K v w' :=
   lift_calls (A := slices_Clone_sl_api_Ins_api_Ins_an) (c := bodyOf Try.f148) (args := [s_1.val]) orc orc_wide Try.func148 (by kernel_rfl) (by kernel_rfl) (Eq.mp (by kernel_rfl : slices_Clone_sl_api_Ins_api_Ins_sh s_1 w K = wpc orc Try.f148.ntmps slices_Clone_sl_api_Ins_api_Ins_an (bodyOf Try.f148) (argl 0 [s_1.val]) w (retQ orc Try.f148.results.toList K)) h)

-- slices.Clone[[]holloway/api.Out,holloway/api.Out]
def slices_Clone_sl_api_Out_api_Out_sh (s_1 : Sl) (w : World) (K : Value → World → Prop) : Prop :=
 brB (Option.isNone s_1.ptr)
 (K (.slice none 0 0) w)
 (∀ (b2 : Nat) (w3 : World), b2 = w.heap.size → w3 = World.alloc w (.cells #[] T_api_Out) →
 ∃ s4 : Sl, ∃ w5 : World, (Builtin.append_ #[T_sl_api_Out, T_sl_api_Out] T_sl_api_Out #[.slice (some ⟨b2, 0, none⟩) 0 0, s_1.val]).run Try.prog w3 = .ok (s4.val) w5 ∧
 K (s4.val) w5)
def slices_Clone_sl_api_Out_api_Out_an : An := ⟨[], [], []⟩
theorem slices_Clone_sl_api_Out_api_Out_lift {s_1 : Sl} {w : World} {K : Value → World → Prop} (h : slices_Clone_sl_api_Out_api_Out_sh s_1 w K) : Calls Try.prog fn_slices_Clone_sl_api_Out_api_Out #[s_1.val] w fun e w' => ∃ v, e = .returned v ∧ K v w' :=
   lift_calls (A := slices_Clone_sl_api_Out_api_Out_an) (c := bodyOf Try.f149) (args := [s_1.val]) orc orc_wide Try.func149 (by kernel_rfl) (by kernel_rfl) (Eq.mp (by kernel_rfl : slices_Clone_sl_api_Out_api_Out_sh s_1 w K = wpc orc Try.f149.ntmps slices_Clone_sl_api_Out_api_Out_an (bodyOf Try.f149) (argl 0 [s_1.val]) w (retQ orc Try.f149.results.toList K)) h)

-- slices.IndexFunc[[]int,int]
-- slices.IndexFunc[[]int,int]: not lifted: a call of a function that is not known

-- slices.Contains[[]int,int]
def slices_Contains_sl_int_int_sh (s_1 : Sl) (v_2 : Int) (w : World) (K : Value → World → Prop) : Prop :=
 Calls Try.prog fn_slices_Index_sl_int_int #[s_1.val, .int .i64 v_2] w fun e3 w4 => ∃ n5 : Int, e3 = .returned (.int .i64 n5) ∧
 K (.bool (decide (n5 ≥ (0 : Int)))) w4
def slices_Contains_sl_int_int_an : An := ⟨[], [], []⟩
theorem slices_Contains_sl_int_int_lift {s_1 : Sl} {v_2 : Int} {w : World} {K : Value → World → Prop} (h : slices_Contains_sl_int_int_sh s_1 v_2 w K) : Calls Try.prog fn_slices_Contains_sl_int_int #[s_1.val, .int .i64 v_2] w fun e w' => ∃ v, e = .returned v ∧ K v w' :=
   lift_calls (A := slices_Contains_sl_int_int_an) (c := bodyOf Try.f172) (args := [s_1.val, .int .i64 v_2]) orc orc_wide Try.func172 (by kernel_rfl) (by kernel_rfl) (Eq.mp (by kernel_rfl : slices_Contains_sl_int_int_sh s_1 v_2 w K = wpc orc Try.f172.ntmps slices_Contains_sl_int_int_an (bodyOf Try.f172) (argl 0 [s_1.val, .int .i64 v_2]) w (retQ orc Try.f172.results.toList K)) h)

-- slices.Index[[]int,int]
def slices_Index_sl_int_int_sh (s_1 : Sl) (v_2 : Int) (w : World) (K : Value → World → Prop) : Prop :=
 ∃ (I1 : Int → World → Prop) (μ1 : Int → World → Nat), I1 (0 : Int) w ∧ ∀ (n4 : Int) (w3 : World), I1 n4 w3 →
 brB (decide (n4 < (s_1.len : Int)))
 (∃ a5 : Addr, s_1.ptr = some a5 ∧ 0 ≤ n4 ∧ n4 < (s_1.len : Int) ∧
 ∃ n6 : Int, w3.cell? (Addr.add a5 (Int.toNat n4 * 1)) = some (.int .i64 n6) ∧
 brB (v_2 == n6)
 (K (.int .i64 n4) w3)
 (I1 (wr (n4 + (1 : Int))) w3 ∧ μ1 (wr (n4 + (1 : Int))) w3 < μ1 n4 w3))
 (K (.int .i64 (-1 : Int)) w3)
def slices_Index_sl_int_int_an : An := ⟨[(2, [(8, .int .i64)])], [], []⟩
theorem slices_Index_sl_int_int_lift {s_1 : Sl} {v_2 : Int} {w : World} {K : Value → World → Prop} (h : slices_Index_sl_int_int_sh s_1 v_2 w K) : Calls Try.prog fn_slices_Index_sl_int_int #[s_1.val, .int .i64 v_2] w fun e w' => ∃ v, e = .returned v ∧ K v w' :=
   lift_calls (A := slices_Index_sl_int_int_an) (c := bodyOf Try.f174) (args := [s_1.val, .int .i64 v_2]) orc orc_wide Try.func174 (by kernel_rfl) (by kernel_rfl) (Eq.mp (by kernel_rfl : slices_Index_sl_int_int_sh s_1 v_2 w K = wpc orc Try.f174.ntmps slices_Index_sl_int_int_an (bodyOf Try.f174) (argl 0 [s_1.val, .int .i64 v_2]) w (retQ orc Try.f174.results.toList K)) h)

-- slices.IndexFunc[[]int,int]@@1=holloway/slots.allot$1
def slices_IndexFunc_sl_int_int_at_slots_allot_1_sh (s_1 : Sl) (c2 : Nat) (w : World) (K : Value → World → Prop) : Prop :=
 ∃ (I1 : Int → World → Prop) (μ1 : Int → World → Nat), I1 (0 : Int) w ∧ ∀ (n4 : Int) (w3 : World), I1 n4 w3 →
 brB (decide (n4 < (s_1.len : Int)))
 (∃ a5 : Addr, s_1.ptr = some a5 ∧ 0 ≤ n4 ∧ n4 < (s_1.len : Int) ∧
 ∃ n6 : Int, w3.cell? (Addr.add a5 (Int.toNat n4 * 1)) = some (.int .i64 n6) ∧
 Calls Try.prog fn_slots_allot_1 #[.int .i64 n6, .pointer (some ⟨c2, 0, none⟩)] w3 fun e7 w8 => ∃ b9 : Bool, e7 = .returned (.bool b9) ∧
 brB b9
 (K (.int .i64 n4) w8)
 (I1 (wr (n4 + (1 : Int))) w8 ∧ μ1 (wr (n4 + (1 : Int))) w8 < μ1 n4 w3))
 (K (.int .i64 (-1 : Int)) w3)
def slices_IndexFunc_sl_int_int_at_slots_allot_1_an : An := ⟨[(2, [(8, .int .i64)])], [], []⟩
theorem slices_IndexFunc_sl_int_int_at_slots_allot_1_lift {s_1 : Sl} {c2 : Nat} {w : World} {K : Value → World → Prop} (h : slices_IndexFunc_sl_int_int_at_slots_allot_1_sh s_1 c2 w K) : Calls Try.prog fn_slices_IndexFunc_sl_int_int #[s_1.val, .func (.func fn_slots_allot_1) #[] #[.pointer (some ⟨c2, 0, none⟩)]] w fun e w' => ∃ v, e = .returned v ∧ K v w' :=
   lift_calls (A := slices_IndexFunc_sl_int_int_at_slots_allot_1_an) (c := bodyOf Try.f152) (args := [s_1.val, .func (.func fn_slots_allot_1) #[] #[.pointer (some ⟨c2, 0, none⟩)]]) orc orc_wide Try.func152 (by kernel_rfl) (by kernel_rfl) (Eq.mp (by kernel_rfl : slices_IndexFunc_sl_int_int_at_slots_allot_1_sh s_1 c2 w K = wpc orc Try.f152.ntmps slices_IndexFunc_sl_int_int_at_slots_allot_1_an (bodyOf Try.f152) (argl 0 [s_1.val, .func (.func fn_slots_allot_1) #[] #[.pointer (some ⟨c2, 0, none⟩)]]) w (retQ orc Try.f152.results.toList K)) h)

end Go.Proofs.Ytblmoilneiffgaa
