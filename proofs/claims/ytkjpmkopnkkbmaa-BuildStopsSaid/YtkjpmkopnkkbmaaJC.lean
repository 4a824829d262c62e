/- The lifted texts of the laws. -/
import Derived.Test.YtkjpmkopnkkbmaaJ4

/- Functions of Hollowaylaw16, read without their frames; that each is enough. Printed by a program of mine (wip/lift/gen.py). -/
set_option maxRecDepth 100000
namespace Go.Proofs.Ytkjpmkopnkkbmaa
open Go.RowKit

-- holloway/hollowaylaw16.BuildStops
def hollowaylaw16_BuildStops_sh (s__Ip1 : Int) (s__Handler2 : Int) (s__Stack3 : Sl) (s__Back4 : Sl) (s__Mem5 : Sl) (s__Out6 : ByteArray) (s__In7 : ByteArray) (s__Read8 : Int) (s__Status9 : Int) (s__Code10 : Int) (most11 : Int) (at_12 : Int) (v_13 : Int) (w : World) (K : Value → World → Prop) : Prop :=
 ∀ (b14 : Nat) (w15 : World), b14 = w.heap.size → w15 = World.alloc w (.cells #[.int .i64 s__Ip1, .int .i64 s__Handler2, s__Stack3.val, s__Back4.val, s__Mem5.val, .string s__Out6, .string s__In7, .int .i64 s__Read8, .int .i64 s__Status9, .int .i64 s__Code10] T_api_State) →
 wrOk w15 ⟨b14, 8, none⟩ 1 ∧ ∀ w16 : World, w16 = stW w15 ⟨b14, 8, none⟩ 0 [.int .i64 (0 : Int)] →
 ∃ J4 : Bool → World → Prop, (∀ (b35 : Bool) (w34 : World), J4 b35 w34 →
 brB b35
 (Calls Try.prog fn_hollowaylaw16_alive #[] w34 fun e36 w37 => ∃ b38 : Bool, e36 = .returned (.bool b38) ∧
 K (.bool b38) w37)
 (∃ n_Ip39 : Int, ∃ n_Handler40 : Int, ∃ s_Stack41 : Sl, ∃ s_Back42 : Sl, ∃ s_Mem43 : Sl, ∃ t_Out44 : ByteArray, ∃ t_In45 : ByteArray, ∃ n_Read46 : Int, ∃ n_Status47 : Int, ∃ n_Code48 : Int, w34.cell? ⟨b14, 0, none⟩ = some (.int .i64 n_Ip39) ∧ w34.cell? ⟨b14, 1, none⟩ = some (.int .i64 n_Handler40) ∧ w34.cell? ⟨b14, 2, none⟩ = some (s_Stack41.val) ∧ w34.cell? ⟨b14, 3, none⟩ = some (s_Back42.val) ∧ w34.cell? ⟨b14, 4, none⟩ = some (s_Mem43.val) ∧ w34.cell? ⟨b14, 5, none⟩ = some (.string t_Out44) ∧ w34.cell? ⟨b14, 6, none⟩ = some (.string t_In45) ∧ w34.cell? ⟨b14, 7, none⟩ = some (.int .i64 n_Read46) ∧ w34.cell? ⟨b14, 8, none⟩ = some (.int .i64 n_Status47) ∧ w34.cell? ⟨b14, 9, none⟩ = some (.int .i64 n_Code48) ∧
 Calls Try.prog fn_hollowayref9_Record #[.agg #[.int .i64 n_Ip39, .int .i64 n_Handler40, s_Stack41.val, s_Back42.val, s_Mem43.val, .string t_Out44, .string t_In45, .int .i64 n_Read46, .int .i64 n_Status47, .int .i64 n_Code48], .int .i64 most11] w34 fun e49 w50 => ∃ n_Start51 : Int, ∃ n_End52 : Int, ∃ b_Loop53 : Bool, ∃ s_Steps54 : Sl, e49 = .returned (.agg #[.int .i64 n_Start51, .int .i64 n_End52, .bool b_Loop53, s_Steps54.val]) ∧
 ∀ (b55 : Nat) (w56 : World), b55 = w50.heap.size → w56 = World.alloc w50 (.cells #[.int .i64 (0 : Int), .int .i64 (0 : Int), .bool false, .slice none 0 0] T_api_Recording) →
 wrOk w56 ⟨b55, 0, none⟩ 4 ∧ ∀ w57 : World, w57 = stW w56 ⟨b55, 0, none⟩ 0 [.int .i64 n_Start51, .int .i64 n_End52, .bool b_Loop53, s_Steps54.val] →
 ∃ s58 : Sl, w57.cell? ⟨b55, 3, none⟩ = some (s58.val) ∧
 brB ((s58.len : Int) == (0 : Int))
 (∃ n_Start59 : Int, ∃ n_End60 : Int, ∃ b_Loop61 : Bool, ∃ s_Steps62 : Sl, w57.cell? ⟨b55, 0, none⟩ = some (.int .i64 n_Start59) ∧ w57.cell? ⟨b55, 1, none⟩ = some (.int .i64 n_End60) ∧ w57.cell? ⟨b55, 2, none⟩ = some (.bool b_Loop61) ∧ w57.cell? ⟨b55, 3, none⟩ = some (s_Steps62.val) ∧
 Calls Try.prog fn_build_Trace #[.agg #[.int .i64 n_Start59, .int .i64 n_End60, .bool b_Loop61, s_Steps62.val]] w57 fun e63 w64 => ∃ n_Start65 : Int, ∃ n_Slots66 : Int, ∃ n_Backs67 : Int, ∃ n_Grow68 : Int, ∃ n_GrowBack69 : Int, ∃ s_Ins70 : Sl, ∃ s_Outs71 : Sl, ∃ n_Last72 : Int, ∃ s_Cells73 : Sl, ∃ b74 : Bool, e63 = .returned (.tuple #[.agg #[.int .i64 n_Start65, .int .i64 n_Slots66, .int .i64 n_Backs67, .int .i64 n_Grow68, .int .i64 n_GrowBack69, s_Ins70.val, s_Outs71.val, .int .i64 n_Last72, s_Cells73.val], .bool b74]) ∧
 ∀ (b75 : Nat) (w76 : World), b75 = w64.heap.size → w76 = World.alloc w64 (.cells #[.int .i64 (0 : Int), .int .i64 (0 : Int), .int .i64 (0 : Int), .int .i64 (0 : Int), .int .i64 (0 : Int), .slice none 0 0, .slice none 0 0, .int .i64 (0 : Int), .slice none 0 0] T_api_Trace) →
 wrOk w76 ⟨b75, 0, none⟩ 9 ∧ ∀ w77 : World, w77 = stW w76 ⟨b75, 0, none⟩ 0 [.int .i64 n_Start65, .int .i64 n_Slots66, .int .i64 n_Backs67, .int .i64 n_Grow68, .int .i64 n_GrowBack69, s_Ins70.val, s_Outs71.val, .int .i64 n_Last72, s_Cells73.val] →
 ∃ n_Start78 : Int, ∃ n_End79 : Int, ∃ b_Loop80 : Bool, ∃ s_Steps81 : Sl, w77.cell? ⟨b55, 0, none⟩ = some (.int .i64 n_Start78) ∧ w77.cell? ⟨b55, 1, none⟩ = some (.int .i64 n_End79) ∧ w77.cell? ⟨b55, 2, none⟩ = some (.bool b_Loop80) ∧ w77.cell? ⟨b55, 3, none⟩ = some (s_Steps81.val) ∧
 Calls Try.prog fn_build_Needs #[.agg #[.int .i64 n_Start78, .int .i64 n_End79, .bool b_Loop80, s_Steps81.val]] w77 fun e82 w83 => ∃ n84 : Int, ∃ n85 : Int, ∃ n86 : Int, ∃ n87 : Int, e82 = .returned (.tuple #[.int .i64 n84, .int .i64 n85, .int .i64 n86, .int .i64 n87]) ∧
 brB (!b74)
 (K (.bool ((wr ((wr ((wr (n84 + n85)) + n86)) + n87)) == (0 : Int))) w83)
 (K (.bool false) w83))
 (∀ w90 : World, w90 = World.drew w57 →
 ∃ s91 : Sl, held (Lw w90) ⟨b55, 3, none⟩ (s91.val) ∧
 (s91.len : Int) ≠ 0 ∧ ∃ s92 : Sl, held (Lw w90) ⟨b55, 3, none⟩ (s92.val) ∧
 ∃ s93 : Sl, held (Lw w90) ⟨b55, 3, none⟩ (s93.val) ∧
 (s93.len : Int) ≠ 0 ∧ ∃ n_Start94 : Int, ∃ n_End95 : Int, ∃ b_Loop96 : Bool, ∃ s_Steps97 : Sl, w90.cell? ⟨b55, 0, none⟩ = some (.int .i64 n_Start94) ∧ w90.cell? ⟨b55, 1, none⟩ = some (.int .i64 n_End95) ∧ w90.cell? ⟨b55, 2, none⟩ = some (.bool b_Loop96) ∧ w90.cell? ⟨b55, 3, none⟩ = some (s_Steps97.val) ∧
 ∀ (b98 : Nat) (w99 : World), b98 = w90.heap.size → w99 = World.alloc w90 (.cells #[.int .i64 (0 : Int), .int .i64 (0 : Int), .bool false, .slice none 0 0] T_api_Recording) →
 wrOk w99 ⟨b98, 0, none⟩ 4 ∧ ∀ w100 : World, w100 = stW w99 ⟨b98, 0, none⟩ 0 [.int .i64 n_Start94, .int .i64 n_End95, .bool b_Loop96, s_Steps97.val] →
 ∃ s101 : Sl, w100.cell? ⟨b55, 3, none⟩ = some (s101.val) ∧
 ∃ s102 : Sl, ∃ w103 : World, (Builtin.append_ #[T_sl_api_Seen, T_sl_api_Seen] T_sl_api_Seen #[.slice none 0 0, s101.val]).run Try.prog w100 = .ok (s102.val) w103 ∧
 wrOk w103 ⟨b98, 3, none⟩ 1 ∧ ∀ w104 : World, w104 = stW w103 ⟨b98, 3, none⟩ 0 [s102.val] →
 ∃ s105 : Sl, w104.cell? ⟨b98, 3, none⟩ = some (s105.val) ∧
 ∃ a106 : Addr, s105.ptr = some a106 ∧ 0 ≤ (Int.tmod (wr ((Int.tmod at_12 (s91.len : Int)) + (s92.len : Int))) (s93.len : Int)) ∧ (Int.tmod (wr ((Int.tmod at_12 (s91.len : Int)) + (s92.len : Int))) (s93.len : Int)) < (s105.len : Int) ∧
 wrOk w104 (Addr.add (Addr.add a106 (Int.toNat (Int.tmod (wr ((Int.tmod at_12 (s91.len : Int)) + (s92.len : Int))) (s93.len : Int)) * 4)) 3) 1 ∧ ∀ w107 : World, w107 = stW w104 (Addr.add (Addr.add a106 (Int.toNat (Int.tmod (wr ((Int.tmod at_12 (s91.len : Int)) + (s92.len : Int))) (s93.len : Int)) * 4)) 3) 0 [.int .i64 v_13] →
 ∃ n_Start108 : Int, ∃ n_End109 : Int, ∃ b_Loop110 : Bool, ∃ s_Steps111 : Sl, w107.cell? ⟨b98, 0, none⟩ = some (.int .i64 n_Start108) ∧ w107.cell? ⟨b98, 1, none⟩ = some (.int .i64 n_End109) ∧ w107.cell? ⟨b98, 2, none⟩ = some (.bool b_Loop110) ∧ w107.cell? ⟨b98, 3, none⟩ = some (s_Steps111.val) ∧
 Calls Try.prog fn_build_Trace #[.agg #[.int .i64 n_Start108, .int .i64 n_End109, .bool b_Loop110, s_Steps111.val]] w107 fun e112 w113 => ∃ n_Start114 : Int, ∃ n_Slots115 : Int, ∃ n_Backs116 : Int, ∃ n_Grow117 : Int, ∃ n_GrowBack118 : Int, ∃ s_Ins119 : Sl, ∃ s_Outs120 : Sl, ∃ n_Last121 : Int, ∃ s_Cells122 : Sl, ∃ b123 : Bool, e112 = .returned (.tuple #[.agg #[.int .i64 n_Start114, .int .i64 n_Slots115, .int .i64 n_Backs116, .int .i64 n_Grow117, .int .i64 n_GrowBack118, s_Ins119.val, s_Outs120.val, .int .i64 n_Last121, s_Cells122.val], .bool b123]) ∧
 ∀ (b124 : Nat) (w125 : World), b124 = w113.heap.size → w125 = World.alloc w113 (.cells #[.int .i64 (0 : Int), .int .i64 (0 : Int), .int .i64 (0 : Int), .int .i64 (0 : Int), .int .i64 (0 : Int), .slice none 0 0, .slice none 0 0, .int .i64 (0 : Int), .slice none 0 0] T_api_Trace) →
 wrOk w125 ⟨b124, 0, none⟩ 9 ∧ ∀ w126 : World, w126 = stW w125 ⟨b124, 0, none⟩ 0 [.int .i64 n_Start114, .int .i64 n_Slots115, .int .i64 n_Backs116, .int .i64 n_Grow117, .int .i64 n_GrowBack118, s_Ins119.val, s_Outs120.val, .int .i64 n_Last121, s_Cells122.val] →
 ∃ n_Start127 : Int, ∃ n_End128 : Int, ∃ b_Loop129 : Bool, ∃ s_Steps130 : Sl, w126.cell? ⟨b98, 0, none⟩ = some (.int .i64 n_Start127) ∧ w126.cell? ⟨b98, 1, none⟩ = some (.int .i64 n_End128) ∧ w126.cell? ⟨b98, 2, none⟩ = some (.bool b_Loop129) ∧ w126.cell? ⟨b98, 3, none⟩ = some (s_Steps130.val) ∧
 Calls Try.prog fn_hollowayref9_Recorded #[.agg #[.int .i64 n_Start127, .int .i64 n_End128, .bool b_Loop129, s_Steps130.val]] w126 fun e131 w132 => ∃ b133 : Bool, e131 = .returned (.bool b133) ∧
 brB (!b133)
 (brB (!b123)
 (∃ s134 : Sl, w132.cell? ⟨b124, 5, none⟩ = some (s134.val) ∧
 ∃ s135 : Sl, w132.cell? ⟨b124, 6, none⟩ = some (s135.val) ∧
 K (.bool ((wr ((s134.len : Int) + (s135.len : Int))) == (0 : Int))) w132)
 (K (.bool false) w132))
 (brB (!b123)
 (K (.bool true) w132)
 (∃ n_Start138 : Int, ∃ n_Slots139 : Int, ∃ n_Backs140 : Int, ∃ n_Grow141 : Int, ∃ n_GrowBack142 : Int, ∃ s_Ins143 : Sl, ∃ s_Outs144 : Sl, ∃ n_Last145 : Int, ∃ s_Cells146 : Sl, w132.cell? ⟨b124, 0, none⟩ = some (.int .i64 n_Start138) ∧ w132.cell? ⟨b124, 1, none⟩ = some (.int .i64 n_Slots139) ∧ w132.cell? ⟨b124, 2, none⟩ = some (.int .i64 n_Backs140) ∧ w132.cell? ⟨b124, 3, none⟩ = some (.int .i64 n_Grow141) ∧ w132.cell? ⟨b124, 4, none⟩ = some (.int .i64 n_GrowBack142) ∧ w132.cell? ⟨b124, 5, none⟩ = some (s_Ins143.val) ∧ w132.cell? ⟨b124, 6, none⟩ = some (s_Outs144.val) ∧ w132.cell? ⟨b124, 7, none⟩ = some (.int .i64 n_Last145) ∧ w132.cell? ⟨b124, 8, none⟩ = some (s_Cells146.val) ∧
 ∃ n_Start147 : Int, ∃ n_End148 : Int, ∃ b_Loop149 : Bool, ∃ s_Steps150 : Sl, w132.cell? ⟨b98, 0, none⟩ = some (.int .i64 n_Start147) ∧ w132.cell? ⟨b98, 1, none⟩ = some (.int .i64 n_End148) ∧ w132.cell? ⟨b98, 2, none⟩ = some (.bool b_Loop149) ∧ w132.cell? ⟨b98, 3, none⟩ = some (s_Steps150.val) ∧
 Calls Try.prog fn_hollowaylaw16_Frame #[.agg #[.int .i64 n_Start138, .int .i64 n_Slots139, .int .i64 n_Backs140, .int .i64 n_Grow141, .int .i64 n_GrowBack142, s_Ins143.val, s_Outs144.val, .int .i64 n_Last145, s_Cells146.val], .agg #[.int .i64 n_Start147, .int .i64 n_End148, .bool b_Loop149, s_Steps150.val]] w132 fun e151 w152 => ∃ b153 : Bool, e151 = .returned (.bool b153) ∧
 K (.bool b153) w152))))) ∧
 ∃ s17 : Sl, w16.cell? ⟨b14, 4, none⟩ = some (s17.val) ∧
 brB (decide ((s17.len : Int) > (700 : Int)))
 (J4 true w16)
 (∃ n_Ip18 : Int, ∃ n_Handler19 : Int, ∃ s_Stack20 : Sl, ∃ s_Back21 : Sl, ∃ s_Mem22 : Sl, ∃ t_Out23 : ByteArray, ∃ t_In24 : ByteArray, ∃ n_Read25 : Int, ∃ n_Status26 : Int, ∃ n_Code27 : Int, w16.cell? ⟨b14, 0, none⟩ = some (.int .i64 n_Ip18) ∧ w16.cell? ⟨b14, 1, none⟩ = some (.int .i64 n_Handler19) ∧ w16.cell? ⟨b14, 2, none⟩ = some (s_Stack20.val) ∧ w16.cell? ⟨b14, 3, none⟩ = some (s_Back21.val) ∧ w16.cell? ⟨b14, 4, none⟩ = some (s_Mem22.val) ∧ w16.cell? ⟨b14, 5, none⟩ = some (.string t_Out23) ∧ w16.cell? ⟨b14, 6, none⟩ = some (.string t_In24) ∧ w16.cell? ⟨b14, 7, none⟩ = some (.int .i64 n_Read25) ∧ w16.cell? ⟨b14, 8, none⟩ = some (.int .i64 n_Status26) ∧ w16.cell? ⟨b14, 9, none⟩ = some (.int .i64 n_Code27) ∧
 Calls Try.prog fn_hollowayref9_Right #[.agg #[.int .i64 n_Ip18, .int .i64 n_Handler19, s_Stack20.val, s_Back21.val, s_Mem22.val, .string t_Out23, .string t_In24, .int .i64 n_Read25, .int .i64 n_Status26, .int .i64 n_Code27]] w16 fun e28 w29 => ∃ b30 : Bool, e28 = .returned (.bool b30) ∧
 brB (!b30)
 (J4 true w29)
 (Calls Try.prog fn_hollowaylaw16_alive #[] w29 fun e31 w32 => ∃ b33 : Bool, e31 = .returned (.bool b33) ∧
 J4 (!b33) w32))
def hollowaylaw16_BuildStops_an : An := ⟨[], [(9, (14, .st 0 (.st 1 (.st 2 (.st 3 (.st 4 (.st 5 (.st 6 (.st 7 (.st 8 (.st 9 (.st 10 (.st 11 (.st 12 (.st 13 .done))))))))))))), 0))], [(3, [(33, .bool)])]⟩
theorem hollowaylaw16_BuildStops_lift {s__Ip1 : Int} {s__Handler2 : Int} {s__Stack3 : Sl} {s__Back4 : Sl} {s__Mem5 : Sl} {s__Out6 : ByteArray} {s__In7 : ByteArray} {s__Read8 : Int} {s__Status9 : Int} {s__Code10 : Int} {most11 : Int} {at_12 : Int} {v_13 : Int} {w : World} {K : Value → World → Prop} (h : hollowaylaw16_BuildStops_sh s__Ip1 s__Handler2 s__Stack3 s__Back4 s__Mem5 s__Out6 s__In7 s__Read8 s__Status9 s__Code10 most11 at_12 v_13 w K) : Calls Try.prog fn_hollowaylaw16_BuildStops #[.agg #[.int .i64 s__Ip1, .int .i64 s__Handler2, s__Stack3.val, s__Back4.val, s__Mem5.val, .string s__Out6, .string s__In7, .int .i64 s__Read8, .int .i64 s__Status9, .int .i64 s__Code10], .int .i64 most11, .int .i64 at_12, .int .i64 v_13] w fun e w' => ∃ v, e = .returned v ∧ K v w' :=
   lift_calls (A := hollowaylaw16_BuildStops_an) (c := bodyOf Try.f3) (args := [.agg #[.int .i64 s__Ip1, .int .i64 s__Handler2, s__Stack3.val, s__Back4.val, s__Mem5.val, .string s__Out6, .string s__In7, .int .i64 s__Read8, .int .i64 s__Status9, .int .i64 s__Code10], .int .i64 most11, .int .i64 at_12, .int .i64 v_13]) orc orc_wide Try.func3 (by kernel_rfl) (by kernel_rfl) (Eq.mp (by kernel_rfl : hollowaylaw16_BuildStops_sh s__Ip1 s__Handler2 s__Stack3 s__Back4 s__Mem5 s__Out6 s__In7 s__Read8 s__Status9 s__Code10 most11 at_12 v_13 w K = wpc orc Try.f3.ntmps hollowaylaw16_BuildStops_an (bodyOf Try.f3) (argl 0 [.agg #[.int .i64 s__Ip1, .int .i64 s__Handler2, s__Stack3.val, s__Back4.val, s__Mem5.val, .string s__Out6, .string s__In7, .int .i64 s__Read8, .int .i64 s__Status9, .int .i64 s__Code10], .int .i64 most11, .int .i64 at_12, .int .i64 v_13]) w (retQ orc Try.f3.results.toList K)) h)

-- holloway/hollowaylaw16.alive
def hollowaylaw16_alive_sh  (w : World) (K : Value → World → Prop) : Prop :=
 ∀ (b1 : Nat) (w2 : World), b1 = w.heap.size → w2 = World.alloc w (.cells #[.int .i64 (200 : Int), .int .i64 (6 : Int), .int .i64 (0 : Int), .int .i64 (201 : Int), .int .i64 (201 : Int), .int .i64 (11 : Int), .int .i64 (0 : Int), .int .i64 (202 : Int)] T_api_Seen) →
 ∀ (b3 : Nat) (w4 : World), b3 = w2.heap.size → w4 = World.alloc w2 (.cells #[.int .i64 (0 : Int), .int .i64 (0 : Int), .bool false, .slice none 0 0] T_api_Recording) →
 wrOk w4 ⟨b3, 0, none⟩ 4 ∧ ∀ w5 : World, w5 = stW w4 ⟨b3, 0, none⟩ 0 [.int .i64 (200 : Int), .int .i64 (202 : Int), .bool false, .slice (some ⟨b1, 0, none⟩) 2 2] →
 ∃ n_Start6 : Int, ∃ n_End7 : Int, ∃ b_Loop8 : Bool, ∃ s_Steps9 : Sl, w5.cell? ⟨b3, 0, none⟩ = some (.int .i64 n_Start6) ∧ w5.cell? ⟨b3, 1, none⟩ = some (.int .i64 n_End7) ∧ w5.cell? ⟨b3, 2, none⟩ = some (.bool b_Loop8) ∧ w5.cell? ⟨b3, 3, none⟩ = some (s_Steps9.val) ∧
 Calls Try.prog fn_build_Needs #[.agg #[.int .i64 n_Start6, .int .i64 n_End7, .bool b_Loop8, s_Steps9.val]] w5 fun e10 w11 => ∃ n12 : Int, ∃ n13 : Int, ∃ n14 : Int, ∃ n15 : Int, e10 = .returned (.tuple #[.int .i64 n12, .int .i64 n13, .int .i64 n14, .int .i64 n15]) ∧
 ∃ n_Start16 : Int, ∃ n_End17 : Int, ∃ b_Loop18 : Bool, ∃ s_Steps19 : Sl, w11.cell? ⟨b3, 0, none⟩ = some (.int .i64 n_Start16) ∧ w11.cell? ⟨b3, 1, none⟩ = some (.int .i64 n_End17) ∧ w11.cell? ⟨b3, 2, none⟩ = some (.bool b_Loop18) ∧ w11.cell? ⟨b3, 3, none⟩ = some (s_Steps19.val) ∧
 Calls Try.prog fn_build_Trace #[.agg #[.int .i64 n_Start16, .int .i64 n_End17, .bool b_Loop18, s_Steps19.val]] w11 fun e20 w21 => ∃ n_Start22 : Int, ∃ n_Slots23 : Int, ∃ n_Backs24 : Int, ∃ n_Grow25 : Int, ∃ n_GrowBack26 : Int, ∃ s_Ins27 : Sl, ∃ s_Outs28 : Sl, ∃ n_Last29 : Int, ∃ s_Cells30 : Sl, ∃ b31 : Bool, e20 = .returned (.tuple #[.agg #[.int .i64 n_Start22, .int .i64 n_Slots23, .int .i64 n_Backs24, .int .i64 n_Grow25, .int .i64 n_GrowBack26, s_Ins27.val, s_Outs28.val, .int .i64 n_Last29, s_Cells30.val], .bool b31]) ∧
 ∀ (b32 : Nat) (w33 : World), b32 = w21.heap.size → w33 = World.alloc w21 (.cells #[.int .i64 (0 : Int), .int .i64 (0 : Int), .int .i64 (0 : Int), .int .i64 (0 : Int), .int .i64 (0 : Int), .slice none 0 0, .slice none 0 0, .int .i64 (0 : Int), .slice none 0 0] T_api_Trace) →
 wrOk w33 ⟨b32, 0, none⟩ 9 ∧ ∀ w34 : World, w34 = stW w33 ⟨b32, 0, none⟩ 0 [.int .i64 n_Start22, .int .i64 n_Slots23, .int .i64 n_Backs24, .int .i64 n_Grow25, .int .i64 n_GrowBack26, s_Ins27.val, s_Outs28.val, .int .i64 n_Last29, s_Cells30.val] →
 brB (n12 == (1 : Int))
 (brB (n13 == (1 : Int))
 (brB (n14 == (0 : Int))
 (brB (n15 == (0 : Int))
 (brB b31
 (∃ n35 : Int, w34.cell? ⟨b32, 0, none⟩ = some (.int .i64 n35) ∧
 brB (n35 == (200 : Int))
 (∃ n36 : Int, w34.cell? ⟨b32, 1, none⟩ = some (.int .i64 n36) ∧
 brB (n36 == (1 : Int))
 (∃ n37 : Int, w34.cell? ⟨b32, 3, none⟩ = some (.int .i64 n37) ∧
 brB (n37 == (1 : Int))
 (∃ s38 : Sl, w34.cell? ⟨b32, 8, none⟩ = some (s38.val) ∧
 brB ((s38.len : Int) == (2 : Int))
 (∃ n_Start39 : Int, ∃ n_Slots40 : Int, ∃ n_Backs41 : Int, ∃ n_Grow42 : Int, ∃ n_GrowBack43 : Int, ∃ s_Ins44 : Sl, ∃ s_Outs45 : Sl, ∃ n_Last46 : Int, ∃ s_Cells47 : Sl, w34.cell? ⟨b32, 0, none⟩ = some (.int .i64 n_Start39) ∧ w34.cell? ⟨b32, 1, none⟩ = some (.int .i64 n_Slots40) ∧ w34.cell? ⟨b32, 2, none⟩ = some (.int .i64 n_Backs41) ∧ w34.cell? ⟨b32, 3, none⟩ = some (.int .i64 n_Grow42) ∧ w34.cell? ⟨b32, 4, none⟩ = some (.int .i64 n_GrowBack43) ∧ w34.cell? ⟨b32, 5, none⟩ = some (s_Ins44.val) ∧ w34.cell? ⟨b32, 6, none⟩ = some (s_Outs45.val) ∧ w34.cell? ⟨b32, 7, none⟩ = some (.int .i64 n_Last46) ∧ w34.cell? ⟨b32, 8, none⟩ = some (s_Cells47.val) ∧
 Calls Try.prog fn_hollowayref15_Right #[.agg #[.int .i64 n_Start39, .int .i64 n_Slots40, .int .i64 n_Backs41, .int .i64 n_Grow42, .int .i64 n_GrowBack43, s_Ins44.val, s_Outs45.val, .int .i64 n_Last46, s_Cells47.val]] w34 fun e48 w49 => ∃ b50 : Bool, e48 = .returned (.bool b50) ∧
 K (.bool b50) w49)
 (K (.bool false) w34))
 (K (.bool false) w34))
 (K (.bool false) w34))
 (K (.bool false) w34))
 (K (.bool false) w34))
 (K (.bool false) w34))
 (K (.bool false) w34))
 (K (.bool false) w34))
 (K (.bool false) w34)
def hollowaylaw16_alive_an : An := ⟨[], [], []⟩
theorem hollowaylaw16_alive_lift  {w : World} {K : Value → World → Prop} (h : hollowaylaw16_alive_sh  w K) : Calls Try.prog fn_hollowaylaw16_alive #[] w fun e w' => ∃ v, e = .returned v ∧ K v w' :=
   lift_calls (A := hollowaylaw16_alive_an) (c := bodyOf Try.f5) (args := []) orc orc_wide Try.func5 (by kernel_rfl) (by kernel_rfl) (Eq.mp (by kernel_rfl : hollowaylaw16_alive_sh  w K = wpc orc Try.f5.ntmps hollowaylaw16_alive_an (bodyOf Try.f5) (argl 0 []) w (retQ orc Try.f5.results.toList K)) h)

-- holloway/hollowaylaw16.Frame
def hollowaylaw16_Frame_sh (t__Start1 : Int) (t__Slots2 : Int) (t__Backs3 : Int) (t__Grow4 : Int) (t__GrowBack5 : Int) (t__Ins6 : Sl) (t__Outs7 : Sl) (t__Last8 : Int) (t__Cells9 : Sl) (r__Start10 : Int) (r__End11 : Int) (r__Loop12 : Bool) (r__Steps13 : Sl) (w : World) (K : Value → World → Prop) : Prop :=
 ∀ (b14 : Nat) (w15 : World), b14 = w.heap.size → w15 = World.alloc w (.cells #[.int .i64 t__Start1, .int .i64 t__Slots2, .int .i64 t__Backs3, .int .i64 t__Grow4, .int .i64 t__GrowBack5, t__Ins6.val, t__Outs7.val, .int .i64 t__Last8, t__Cells9.val] T_api_Trace) →
 ∀ (b16 : Nat) (w17 : World), b16 = w15.heap.size → w17 = World.alloc w15 (.cells #[.int .i64 r__Start10, .int .i64 r__End11, .bool r__Loop12, r__Steps13.val] T_api_Recording) →
 ∃ n_Start18 : Int, ∃ n_End19 : Int, ∃ b_Loop20 : Bool, ∃ s_Steps21 : Sl, w17.cell? ⟨b16, 0, none⟩ = some (.int .i64 n_Start18) ∧ w17.cell? ⟨b16, 1, none⟩ = some (.int .i64 n_End19) ∧ w17.cell? ⟨b16, 2, none⟩ = some (.bool b_Loop20) ∧ w17.cell? ⟨b16, 3, none⟩ = some (s_Steps21.val) ∧
 Calls Try.prog fn_hollowayref9_Needs #[.agg #[.int .i64 n_Start18, .int .i64 n_End19, .bool b_Loop20, s_Steps21.val]] w17 fun e22 w23 => ∃ n24 : Int, ∃ n25 : Int, ∃ n26 : Int, ∃ n27 : Int, e22 = .returned (.tuple #[.int .i64 n24, .int .i64 n25, .int .i64 n26, .int .i64 n27]) ∧
 ∃ n_Start28 : Int, ∃ n_Slots29 : Int, ∃ n_Backs30 : Int, ∃ n_Grow31 : Int, ∃ n_GrowBack32 : Int, ∃ s_Ins33 : Sl, ∃ s_Outs34 : Sl, ∃ n_Last35 : Int, ∃ s_Cells36 : Sl, w23.cell? ⟨b14, 0, none⟩ = some (.int .i64 n_Start28) ∧ w23.cell? ⟨b14, 1, none⟩ = some (.int .i64 n_Slots29) ∧ w23.cell? ⟨b14, 2, none⟩ = some (.int .i64 n_Backs30) ∧ w23.cell? ⟨b14, 3, none⟩ = some (.int .i64 n_Grow31) ∧ w23.cell? ⟨b14, 4, none⟩ = some (.int .i64 n_GrowBack32) ∧ w23.cell? ⟨b14, 5, none⟩ = some (s_Ins33.val) ∧ w23.cell? ⟨b14, 6, none⟩ = some (s_Outs34.val) ∧ w23.cell? ⟨b14, 7, none⟩ = some (.int .i64 n_Last35) ∧ w23.cell? ⟨b14, 8, none⟩ = some (s_Cells36.val) ∧
 Calls Try.prog fn_hollowayref15_Right #[.agg #[.int .i64 n_Start28, .int .i64 n_Slots29, .int .i64 n_Backs30, .int .i64 n_Grow31, .int .i64 n_GrowBack32, s_Ins33.val, s_Outs34.val, .int .i64 n_Last35, s_Cells36.val]] w23 fun e37 w38 => ∃ b39 : Bool, e37 = .returned (.bool b39) ∧
 brB (!b39)
 (K (.bool false) w38)
 (∃ s40 : Sl, w38.cell? ⟨b14, 6, none⟩ = some (s40.val) ∧
 ∃ n41 : Int, w38.cell? ⟨b14, 7, none⟩ = some (.int .i64 n41) ∧
 ∃ a42 : Addr, s40.ptr = some a42 ∧ 0 ≤ n41 ∧ n41 < (s40.len : Int) ∧
 ∃ n_Ip43 : Int, ∃ n_Steps44 : Int, ∃ s_Stack45 : Sl, ∃ s_Back46 : Sl, w38.cell? (Addr.add a42 (Int.toNat n41 * 4)) = some (.int .i64 n_Ip43) ∧ w38.cell? (Addr.add (Addr.add a42 (Int.toNat n41 * 4)) 1) = some (.int .i64 n_Steps44) ∧ w38.cell? (Addr.add (Addr.add a42 (Int.toNat n41 * 4)) 2) = some (s_Stack45.val) ∧ w38.cell? (Addr.add (Addr.add a42 (Int.toNat n41 * 4)) 3) = some (s_Back46.val) ∧
 ∀ (b47 : Nat) (w48 : World), b47 = w38.heap.size → w48 = World.alloc w38 (.cells #[.int .i64 (0 : Int), .int .i64 (0 : Int), .slice none 0 0, .slice none 0 0] T_api_Out) →
 wrOk w48 ⟨b47, 0, none⟩ 4 ∧ ∀ w49 : World, w49 = stW w48 ⟨b47, 0, none⟩ 0 [.int .i64 n_Ip43, .int .i64 n_Steps44, s_Stack45.val, s_Back46.val] →
 ∀ w50 : World, w50 = World.drew w49 →
 ∃ S51 : World → Prop, S51 w50 ∧
 ∃ n52 : Int, held S51 ⟨b14, 0, none⟩ (.int .i64 n52) ∧
 ∃ n53 : Int, held S51 ⟨b16, 0, none⟩ (.int .i64 n53) ∧
 brB (n52 == n53)
 (∃ n54 : Int, held S51 ⟨b14, 1, none⟩ (.int .i64 n54) ∧
 brB (n54 == n24)
 (∃ n55 : Int, held S51 ⟨b14, 3, none⟩ (.int .i64 n55) ∧
 brB (n55 == n25)
 (∃ n56 : Int, held S51 ⟨b14, 2, none⟩ (.int .i64 n56) ∧
 brB (n56 == n26)
 (∃ n57 : Int, held S51 ⟨b14, 4, none⟩ (.int .i64 n57) ∧
 brB (n57 == n27)
 (∃ s58 : Sl, held S51 ⟨b14, 8, none⟩ (s58.val) ∧
 ∃ n_Start59 : Int, ∃ n_End60 : Int, ∃ b_Loop61 : Bool, ∃ s_Steps62 : Sl, held S51 ⟨b16, 0, none⟩ (.int .i64 n_Start59) ∧ held S51 ⟨b16, 1, none⟩ (.int .i64 n_End60) ∧ held S51 ⟨b16, 2, none⟩ (.bool b_Loop61) ∧ held S51 ⟨b16, 3, none⟩ (s_Steps62.val) ∧
 Calls Try.prog fn_hollowayref9_Cells #[.agg #[.int .i64 n_Start59, .int .i64 n_End60, .bool b_Loop61, s_Steps62.val]] w50 fun e63 w64 => ∃ s65 : Sl, e63 = .returned (s65.val) ∧
 S51 w64 ∧
 Calls Try.prog fn_hollowaybook_SameInts #[s58.val, s65.val] w64 fun e66 w67 => ∃ b68 : Bool, e66 = .returned (.bool b68) ∧
 S51 w67 ∧
 brB b68
 (∃ n69 : Int, held S51 ⟨b47, 1, none⟩ (.int .i64 n69) ∧
 ∃ s70 : Sl, held S51 ⟨b16, 3, none⟩ (s70.val) ∧
 brB (n69 == (s70.len : Int))
 (∃ n71 : Int, held S51 ⟨b47, 0, none⟩ (.int .i64 n71) ∧
 ∃ n72 : Int, held S51 ⟨b16, 1, none⟩ (.int .i64 n72) ∧
 K (.bool (n71 == n72)) w67)
 (K (.bool false) w67))
 (K (.bool false) w67))
 (K (.bool false) w50))
 (K (.bool false) w50))
 (K (.bool false) w50))
 (K (.bool false) w50))
 (K (.bool false) w50))
def hollowaylaw16_Frame_an : An := ⟨[], [(5, (49, .st 0 (.st 1 (.st 2 (.st 3 (.st 4 (.st 5 (.st 6 (.st 7 (.st 8 (.st 9 (.st 10 (.st 11 (.st 12 (.st 13 (.st 14 (.st 15 (.st 16 (.st 17 (.st 18 (.st 19 (.st 20 (.st 21 (.st 22 (.st 23 (.st 24 (.st 25 (.st 26 (.st 27 (.st 28 (.st 29 (.st 30 (.st 31 (.st 32 (.ef 33 (.ef 34 (.st 35 (.st 36 (.st 37 (.st 38 (.st 39 (.st 40 (.st 41 (.st 42 (.st 43 (.st 44 (.st 45 (.st 46 (.st 47 (.st 48 .done)))))))))))))))))))))))))))))))))))))))))))))))), 1))], []⟩
theorem hollowaylaw16_Frame_lift {t__Start1 : Int} {t__Slots2 : Int} {t__Backs3 : Int} {t__Grow4 : Int} {t__GrowBack5 : Int} {t__Ins6 : Sl} {t__Outs7 : Sl} {t__Last8 : Int} {t__Cells9 : Sl} {r__Start10 : Int} {r__End11 : Int} {r__Loop12 : Bool} {r__Steps13 : Sl} {w : World} {K : Value → World → Prop} (h : hollowaylaw16_Frame_sh t__Start1 t__Slots2 t__Backs3 t__Grow4 t__GrowBack5 t__Ins6 t__Outs7 t__Last8 t__Cells9 r__Start10 r__End11 r__Loop12 r__Steps13 w K) : Calls Try.prog fn_hollowaylaw16_Frame #[.agg #[.int .i64 t__Start1, .int .i64 t__Slots2, .int .i64 t__Backs3, .int .i64 t__Grow4, .int .i64 t__GrowBack5, t__Ins6.val, t__Outs7.val, .int .i64 t__Last8, t__Cells9.val], .agg #[.int .i64 r__Start10, .int .i64 r__End11, .bool r__Loop12, r__Steps13.val]] w fun e w' => ∃ v, e = .returned v ∧ K v w' :=
   lift_calls (A := hollowaylaw16_Frame_an) (c := bodyOf Try.f10) (args := [.agg #[.int .i64 t__Start1, .int .i64 t__Slots2, .int .i64 t__Backs3, .int .i64 t__Grow4, .int .i64 t__GrowBack5, t__Ins6.val, t__Outs7.val, .int .i64 t__Last8, t__Cells9.val], .agg #[.int .i64 r__Start10, .int .i64 r__End11, .bool r__Loop12, r__Steps13.val]]) orc orc_wide Try.func10 (by kernel_rfl) (by kernel_rfl) (Eq.mp (by kernel_rfl : hollowaylaw16_Frame_sh t__Start1 t__Slots2 t__Backs3 t__Grow4 t__GrowBack5 t__Ins6 t__Outs7 t__Last8 t__Cells9 r__Start10 r__End11 r__Loop12 r__Steps13 w K = wpc orc Try.f10.ntmps hollowaylaw16_Frame_an (bodyOf Try.f10) (argl 0 [.agg #[.int .i64 t__Start1, .int .i64 t__Slots2, .int .i64 t__Backs3, .int .i64 t__Grow4, .int .i64 t__GrowBack5, t__Ins6.val, t__Outs7.val, .int .i64 t__Last8, t__Cells9.val], .agg #[.int .i64 r__Start10, .int .i64 r__End11, .bool r__Loop12, r__Steps13.val]]) w (retQ orc Try.f10.results.toList K)) h)

end Go.Proofs.Ytkjpmkopnkkbmaa
