/- Functions of Hollowaylaw13, read without their frames; that each is enough. Printed by a program of mine (wip/lift/gen.py). -/
import Derived.Test.YtkjpmkopnkkbmaaGreatDoorOrc
set_option maxRecDepth 100000
namespace Go.Proofs.YtkjpmkopnkkbmaaGreatDoor
open Go.RowKit

-- holloway/hollowaylaw13.RecordStays
def hollowaylaw13_RecordStays_sh (s__Ip1 : Int) (s__Handler2 : Int) (s__Stack3 : Sl) (s__Back4 : Sl) (s__Mem5 : Sl) (s__Out6 : ByteArray) (s__In7 : ByteArray) (s__Read8 : Int) (s__Status9 : Int) (s__Code10 : Int) (most11 : Int) (w : World) (K : Value → World → Prop) : Prop :=
 ∀ (b12 : Nat) (w13 : World), b12 = w.heap.size → w13 = World.alloc w (.cells #[.int .i64 s__Ip1, .int .i64 s__Handler2, s__Stack3.val, s__Back4.val, s__Mem5.val, .string s__Out6, .string s__In7, .int .i64 s__Read8, .int .i64 s__Status9, .int .i64 s__Code10] T_api_State) →
 ∃ J3 : Bool → World → Prop, (∀ (b31 : Bool) (w30 : World), J3 b31 w30 →
 brB b31
 (Calls Tryz.prog fn_hollowaylaw13_alive #[] w30 fun e32 w33 => ∃ b34 : Bool, e32 = .returned (.bool b34) ∧
 K (.bool b34) w33)
 (∃ n_Ip35 : Int, ∃ n_Handler36 : Int, ∃ s_Stack37 : Sl, ∃ s_Back38 : Sl, ∃ s_Mem39 : Sl, ∃ t_Out40 : ByteArray, ∃ t_In41 : ByteArray, ∃ n_Read42 : Int, ∃ n_Status43 : Int, ∃ n_Code44 : Int, w30.cell? ⟨b12, 0, none⟩ = some (.int .i64 n_Ip35) ∧ w30.cell? ⟨b12, 1, none⟩ = some (.int .i64 n_Handler36) ∧ w30.cell? ⟨b12, 2, none⟩ = some (s_Stack37.val) ∧ w30.cell? ⟨b12, 3, none⟩ = some (s_Back38.val) ∧ w30.cell? ⟨b12, 4, none⟩ = some (s_Mem39.val) ∧ w30.cell? ⟨b12, 5, none⟩ = some (.string t_Out40) ∧ w30.cell? ⟨b12, 6, none⟩ = some (.string t_In41) ∧ w30.cell? ⟨b12, 7, none⟩ = some (.int .i64 n_Read42) ∧ w30.cell? ⟨b12, 8, none⟩ = some (.int .i64 n_Status43) ∧ w30.cell? ⟨b12, 9, none⟩ = some (.int .i64 n_Code44) ∧
 Calls Tryz.prog fn_record_Loop #[.agg #[.int .i64 n_Ip35, .int .i64 n_Handler36, s_Stack37.val, s_Back38.val, s_Mem39.val, .string t_Out40, .string t_In41, .int .i64 n_Read42, .int .i64 n_Status43, .int .i64 n_Code44], .int .i64 most11] w30 fun e45 w46 => ∃ n_Start47 : Int, ∃ n_End48 : Int, ∃ b_Loop49 : Bool, ∃ s_Steps50 : Sl, e45 = .returned (.agg #[.int .i64 n_Start47, .int .i64 n_End48, .bool b_Loop49, s_Steps50.val]) ∧
 ∀ (b51 : Nat) (w52 : World), b51 = w46.heap.size → w52 = World.alloc w46 (.cells #[.int .i64 (0 : Int), .int .i64 (0 : Int), .bool false, .slice none 0 0] T_api_Recording) →
 wrOk w52 ⟨b51, 0, none⟩ 4 ∧ ∀ w53 : World, w53 = stW w52 ⟨b51, 0, none⟩ 0 [.int .i64 n_Start47, .int .i64 n_End48, .bool b_Loop49, s_Steps50.val] →
 ∃ J7 : Bool → World → Prop, (∀ (b56 : Bool) (w55 : World), J7 b56 w55 →
 brB b56
 (∃ s57 : Sl, w55.cell? ⟨b51, 3, none⟩ = some (s57.val) ∧
 brB ((s57.len : Int) == (0 : Int))
 (∃ n58 : Int, w55.cell? ⟨b51, 0, none⟩ = some (.int .i64 n58) ∧
 ∃ n59 : Int, w55.cell? ⟨b12, 0, none⟩ = some (.int .i64 n59) ∧
 brB (n58 == n59)
 (∃ n60 : Int, w55.cell? ⟨b51, 1, none⟩ = some (.int .i64 n60) ∧
 ∃ n61 : Int, w55.cell? ⟨b12, 0, none⟩ = some (.int .i64 n61) ∧
 brB (n60 == n61)
 (∃ b62 : Bool, w55.cell? ⟨b51, 2, none⟩ = some (.bool b62) ∧
 K (.bool (!b62)) w55)
 (K (.bool false) w55))
 (K (.bool false) w55))
 (K (.bool false) w55))
 (∃ n_Ip65 : Int, ∃ n_Handler66 : Int, ∃ s_Stack67 : Sl, ∃ s_Back68 : Sl, ∃ s_Mem69 : Sl, ∃ t_Out70 : ByteArray, ∃ t_In71 : ByteArray, ∃ n_Read72 : Int, ∃ n_Status73 : Int, ∃ n_Code74 : Int, w55.cell? ⟨b12, 0, none⟩ = some (.int .i64 n_Ip65) ∧ w55.cell? ⟨b12, 1, none⟩ = some (.int .i64 n_Handler66) ∧ w55.cell? ⟨b12, 2, none⟩ = some (s_Stack67.val) ∧ w55.cell? ⟨b12, 3, none⟩ = some (s_Back68.val) ∧ w55.cell? ⟨b12, 4, none⟩ = some (s_Mem69.val) ∧ w55.cell? ⟨b12, 5, none⟩ = some (.string t_Out70) ∧ w55.cell? ⟨b12, 6, none⟩ = some (.string t_In71) ∧ w55.cell? ⟨b12, 7, none⟩ = some (.int .i64 n_Read72) ∧ w55.cell? ⟨b12, 8, none⟩ = some (.int .i64 n_Status73) ∧ w55.cell? ⟨b12, 9, none⟩ = some (.int .i64 n_Code74) ∧
 ∃ s75 : Sl, w55.cell? ⟨b51, 3, none⟩ = some (s75.val) ∧
 Calls Tryz.prog fn_hollowayref9_Run #[.agg #[.int .i64 n_Ip65, .int .i64 n_Handler66, s_Stack67.val, s_Back68.val, s_Mem69.val, .string t_Out70, .string t_In71, .int .i64 n_Read72, .int .i64 n_Status73, .int .i64 n_Code74], .int .i64 (s75.len : Int)] w55 fun e76 w77 => ∃ n_Ip78 : Int, ∃ n_Handler79 : Int, ∃ s_Stack80 : Sl, ∃ s_Back81 : Sl, ∃ s_Mem82 : Sl, ∃ t_Out83 : ByteArray, ∃ t_In84 : ByteArray, ∃ n_Read85 : Int, ∃ n_Status86 : Int, ∃ n_Code87 : Int, ∃ n88 : Int, e76 = .returned (.tuple #[.agg #[.int .i64 n_Ip78, .int .i64 n_Handler79, s_Stack80.val, s_Back81.val, s_Mem82.val, .string t_Out83, .string t_In84, .int .i64 n_Read85, .int .i64 n_Status86, .int .i64 n_Code87], .int .i64 n88]) ∧
 ∀ (b89 : Nat) (w90 : World), b89 = w77.heap.size → w90 = World.alloc w77 (.cells #[.int .i64 (0 : Int), .int .i64 (0 : Int), .slice none 0 0, .slice none 0 0, .slice none 0 0, .string (bs []), .string (bs []), .int .i64 (0 : Int), .int .i64 (0 : Int), .int .i64 (0 : Int)] T_api_State) →
 wrOk w90 ⟨b89, 0, none⟩ 10 ∧ ∀ w91 : World, w91 = stW w90 ⟨b89, 0, none⟩ 0 [.int .i64 n_Ip78, .int .i64 n_Handler79, s_Stack80.val, s_Back81.val, s_Mem82.val, .string t_Out83, .string t_In84, .int .i64 n_Read85, .int .i64 n_Status86, .int .i64 n_Code87] →
 brB (n88 == (0 : Int))
 (∃ n92 : Int, w91.cell? ⟨b89, 0, none⟩ = some (.int .i64 n92) ∧
 ∃ n93 : Int, w91.cell? ⟨b51, 1, none⟩ = some (.int .i64 n93) ∧
 brB (n92 == n93)
 (∃ n94 : Int, w91.cell? ⟨b89, 8, none⟩ = some (.int .i64 n94) ∧
 brB (n94 == (0 : Int))
 (K (.bool true) w91)
 (∃ s95 : Sl, w91.cell? ⟨b51, 3, none⟩ = some (s95.val) ∧
 K (.bool ((s95.len : Int) == (0 : Int))) w91))
 (∃ s96 : Sl, w91.cell? ⟨b51, 3, none⟩ = some (s96.val) ∧
 K (.bool ((s96.len : Int) == (0 : Int))) w91))
 (∃ s97 : Sl, w91.cell? ⟨b51, 3, none⟩ = some (s97.val) ∧
 K (.bool ((s97.len : Int) == (0 : Int))) w91))) ∧
 ∃ n54 : Int, w53.cell? ⟨b12, 8, none⟩ = some (.int .i64 n54) ∧
 brB (n54 != (0 : Int))
 (J7 true w53)
 (J7 (most11 == (0 : Int)) w53))) ∧
 ∃ n_Ip14 : Int, ∃ n_Handler15 : Int, ∃ s_Stack16 : Sl, ∃ s_Back17 : Sl, ∃ s_Mem18 : Sl, ∃ t_Out19 : ByteArray, ∃ t_In20 : ByteArray, ∃ n_Read21 : Int, ∃ n_Status22 : Int, ∃ n_Code23 : Int, w13.cell? ⟨b12, 0, none⟩ = some (.int .i64 n_Ip14) ∧ w13.cell? ⟨b12, 1, none⟩ = some (.int .i64 n_Handler15) ∧ w13.cell? ⟨b12, 2, none⟩ = some (s_Stack16.val) ∧ w13.cell? ⟨b12, 3, none⟩ = some (s_Back17.val) ∧ w13.cell? ⟨b12, 4, none⟩ = some (s_Mem18.val) ∧ w13.cell? ⟨b12, 5, none⟩ = some (.string t_Out19) ∧ w13.cell? ⟨b12, 6, none⟩ = some (.string t_In20) ∧ w13.cell? ⟨b12, 7, none⟩ = some (.int .i64 n_Read21) ∧ w13.cell? ⟨b12, 8, none⟩ = some (.int .i64 n_Status22) ∧ w13.cell? ⟨b12, 9, none⟩ = some (.int .i64 n_Code23) ∧
 Calls Tryz.prog fn_hollowaylaw9_Light #[.agg #[.int .i64 n_Ip14, .int .i64 n_Handler15, s_Stack16.val, s_Back17.val, s_Mem18.val, .string t_Out19, .string t_In20, .int .i64 n_Read21, .int .i64 n_Status22, .int .i64 n_Code23]] w13 fun e24 w25 => ∃ b26 : Bool, e24 = .returned (.bool b26) ∧
 brB (!b26)
 (J3 true w25)
 (brB (decide (most11 < (0 : Int)))
 (J3 true w25)
 (brB (decide (most11 > (120 : Int)))
 (J3 true w25)
 (Calls Tryz.prog fn_hollowaylaw13_alive #[] w25 fun e27 w28 => ∃ b29 : Bool, e27 = .returned (.bool b29) ∧
 J3 (!b29) w28)))
def hollowaylaw13_RecordStays_an : An := ⟨[], [], [(2, [(22, .bool)]), (5, [(33, .bool)])]⟩
theorem hollowaylaw13_RecordStays_lift {s__Ip1 : Int} {s__Handler2 : Int} {s__Stack3 : Sl} {s__Back4 : Sl} {s__Mem5 : Sl} {s__Out6 : ByteArray} {s__In7 : ByteArray} {s__Read8 : Int} {s__Status9 : Int} {s__Code10 : Int} {most11 : Int} {w : World} {K : Value → World → Prop} (h : hollowaylaw13_RecordStays_sh s__Ip1 s__Handler2 s__Stack3 s__Back4 s__Mem5 s__Out6 s__In7 s__Read8 s__Status9 s__Code10 most11 w K) : Calls Tryz.prog fn_hollowaylaw13_RecordStays #[.agg #[.int .i64 s__Ip1, .int .i64 s__Handler2, s__Stack3.val, s__Back4.val, s__Mem5.val, .string s__Out6, .string s__In7, .int .i64 s__Read8, .int .i64 s__Status9, .int .i64 s__Code10], .int .i64 most11] w fun e w' => ∃ v, e = .returned v ∧ K v w' :=
   lift_calls (A := hollowaylaw13_RecordStays_an) (c := bodyOf Tryz.f5) (args := [.agg #[.int .i64 s__Ip1, .int .i64 s__Handler2, s__Stack3.val, s__Back4.val, s__Mem5.val, .string s__Out6, .string s__In7, .int .i64 s__Read8, .int .i64 s__Status9, .int .i64 s__Code10], .int .i64 most11]) orc orc_wide Tryz.func5 (by kernel_rfl) (by kernel_rfl) (Eq.mp (by kernel_rfl : hollowaylaw13_RecordStays_sh s__Ip1 s__Handler2 s__Stack3 s__Back4 s__Mem5 s__Out6 s__In7 s__Read8 s__Status9 s__Code10 most11 w K = wpc orc Tryz.f5.ntmps hollowaylaw13_RecordStays_an (bodyOf Tryz.f5) (argl 0 [.agg #[.int .i64 s__Ip1, .int .i64 s__Handler2, s__Stack3.val, s__Back4.val, s__Mem5.val, .string s__Out6, .string s__In7, .int .i64 s__Read8, .int .i64 s__Status9, .int .i64 s__Code10], .int .i64 most11]) w (retQ orc Tryz.f5.results.toList K)) h)

-- holloway/hollowaylaw13.RecordCells
def hollowaylaw13_RecordCells_sh (s__Ip1 : Int) (s__Handler2 : Int) (s__Stack3 : Sl) (s__Back4 : Sl) (s__Mem5 : Sl) (s__Out6 : ByteArray) (s__In7 : ByteArray) (s__Read8 : Int) (s__Status9 : Int) (s__Code10 : Int) (most11 : Int) (at_12 : Int) (v_13 : Int) (w : World) (K : Value → World → Prop) : Prop :=
 ∀ (b14 : Nat) (w15 : World), b14 = w.heap.size → w15 = World.alloc w (.cells #[.int .i64 s__Ip1, .int .i64 s__Handler2, s__Stack3.val, s__Back4.val, s__Mem5.val, .string s__Out6, .string s__In7, .int .i64 s__Read8, .int .i64 s__Status9, .int .i64 s__Code10] T_api_State) →
 ∃ J3 : Bool → World → Prop, (∀ (b33 : Bool) (w32 : World), J3 b33 w32 →
 brB b33
 (Calls Tryz.prog fn_hollowaylaw13_alive #[] w32 fun e34 w35 => ∃ b36 : Bool, e34 = .returned (.bool b36) ∧
 K (.bool b36) w35)
 (wrOk w32 ⟨b14, 8, none⟩ 1 ∧ ∀ w37 : World, w37 = stW w32 ⟨b14, 8, none⟩ 0 [.int .i64 (0 : Int)] →
 ∃ n_Ip38 : Int, ∃ n_Handler39 : Int, ∃ s_Stack40 : Sl, ∃ s_Back41 : Sl, ∃ s_Mem42 : Sl, ∃ t_Out43 : ByteArray, ∃ t_In44 : ByteArray, ∃ n_Read45 : Int, ∃ n_Status46 : Int, ∃ n_Code47 : Int, w37.cell? ⟨b14, 0, none⟩ = some (.int .i64 n_Ip38) ∧ w37.cell? ⟨b14, 1, none⟩ = some (.int .i64 n_Handler39) ∧ w37.cell? ⟨b14, 2, none⟩ = some (s_Stack40.val) ∧ w37.cell? ⟨b14, 3, none⟩ = some (s_Back41.val) ∧ w37.cell? ⟨b14, 4, none⟩ = some (s_Mem42.val) ∧ w37.cell? ⟨b14, 5, none⟩ = some (.string t_Out43) ∧ w37.cell? ⟨b14, 6, none⟩ = some (.string t_In44) ∧ w37.cell? ⟨b14, 7, none⟩ = some (.int .i64 n_Read45) ∧ w37.cell? ⟨b14, 8, none⟩ = some (.int .i64 n_Status46) ∧ w37.cell? ⟨b14, 9, none⟩ = some (.int .i64 n_Code47) ∧
 Calls Tryz.prog fn_record_Loop #[.agg #[.int .i64 n_Ip38, .int .i64 n_Handler39, s_Stack40.val, s_Back41.val, s_Mem42.val, .string t_Out43, .string t_In44, .int .i64 n_Read45, .int .i64 n_Status46, .int .i64 n_Code47], .int .i64 most11] w37 fun e48 w49 => ∃ n_Start50 : Int, ∃ n_End51 : Int, ∃ b_Loop52 : Bool, ∃ s_Steps53 : Sl, e48 = .returned (.agg #[.int .i64 n_Start50, .int .i64 n_End51, .bool b_Loop52, s_Steps53.val]) ∧
 ∀ (b54 : Nat) (w55 : World), b54 = w49.heap.size → w55 = World.alloc w49 (.cells #[.int .i64 (0 : Int), .int .i64 (0 : Int), .bool false, .slice none 0 0] T_api_Recording) →
 wrOk w55 ⟨b54, 0, none⟩ 4 ∧ ∀ w56 : World, w56 = stW w55 ⟨b54, 0, none⟩ 0 [.int .i64 n_Start50, .int .i64 n_End51, .bool b_Loop52, s_Steps53.val] →
 ∃ n_Start57 : Int, ∃ n_End58 : Int, ∃ b_Loop59 : Bool, ∃ s_Steps60 : Sl, w56.cell? ⟨b54, 0, none⟩ = some (.int .i64 n_Start57) ∧ w56.cell? ⟨b54, 1, none⟩ = some (.int .i64 n_End58) ∧ w56.cell? ⟨b54, 2, none⟩ = some (.bool b_Loop59) ∧ w56.cell? ⟨b54, 3, none⟩ = some (s_Steps60.val) ∧
 Calls Tryz.prog fn_record_Cells #[.agg #[.int .i64 n_Start57, .int .i64 n_End58, .bool b_Loop59, s_Steps60.val]] w56 fun e61 w62 => ∃ s63 : Sl, e61 = .returned (s63.val) ∧
 ∃ (I1 : Int → World → Prop) (μ1 : Int → World → Nat), I1 (0 : Int) w62 ∧ ∀ (k65 : Int) (w64 : World), I1 k65 w64 →
 brB (decide (k65 < (s63.len : Int)))
 (∃ J13 : Bool → World → Prop, (∀ (b74 : Bool) (w73 : World), J13 b74 w73 →
 brB b74
 (∀ w75 : World, w75 = World.drew w73 →
 brB (k65 == (0 : Int))
 (K (.bool true) w75)
 (∃ a76 : Addr, s63.ptr = some a76 ∧ 0 ≤ (wr (k65 - (1 : Int))) ∧ (wr (k65 - (1 : Int))) < (s63.len : Int) ∧
 ∃ n77 : Int, held (Lw w75) (Addr.add a76 (Int.toNat (wr (k65 - (1 : Int))) * 1)) (.int .i64 n77) ∧
 ∃ a78 : Addr, s63.ptr = some a78 ∧ 0 ≤ k65 ∧ k65 < (s63.len : Int) ∧
 ∃ n79 : Int, held (Lw w75) (Addr.add a78 (Int.toNat k65 * 1)) (.int .i64 n79) ∧
 K (.bool (decide (n77 < n79))) w75))
 (I1 (wr (k65 + (1 : Int))) w73 ∧ μ1 (wr (k65 + (1 : Int))) w73 < μ1 k65 w64)) ∧
 ∀ w66 : World, w66 = World.drew w64 →
 ∃ a67 : Addr, s63.ptr = some a67 ∧ 0 ≤ k65 ∧ k65 < (s63.len : Int) ∧
 ∃ n68 : Int, held (Lw w66) (Addr.add a67 (Int.toNat k65 * 1)) (.int .i64 n68) ∧
 brB (n68 == at_12)
 (J13 true w66)
 (brB (decide (k65 > (0 : Int)))
 (∃ a69 : Addr, s63.ptr = some a69 ∧ 0 ≤ (wr (k65 - (1 : Int))) ∧ (wr (k65 - (1 : Int))) < (s63.len : Int) ∧
 ∃ n70 : Int, held (Lw w66) (Addr.add a69 (Int.toNat (wr (k65 - (1 : Int))) * 1)) (.int .i64 n70) ∧
 ∃ a71 : Addr, s63.ptr = some a71 ∧ 0 ≤ k65 ∧ k65 < (s63.len : Int) ∧
 ∃ n72 : Int, held (Lw w66) (Addr.add a71 (Int.toNat k65 * 1)) (.int .i64 n72) ∧
 J13 (decide (n70 ≥ n72)) w66)
 (J13 false w66)))
 (∃ (I2 : Int → World → Prop) (μ2 : Int → World → Nat), I2 (0 : Int) w64 ∧ ∀ (i83 : Int) (w82 : World), I2 i83 w82 →
 ∃ s84 : Sl, w82.cell? ⟨b54, 3, none⟩ = some (s84.val) ∧
 brB (decide (i83 < (s84.len : Int)))
 (∃ s85 : Sl, w82.cell? ⟨b54, 3, none⟩ = some (s85.val) ∧
 ∃ a86 : Addr, s85.ptr = some a86 ∧ 0 ≤ i83 ∧ i83 < (s85.len : Int) ∧
 ∃ n87 : Int, w82.cell? (Addr.add (Addr.add a86 (Int.toNat i83 * 4)) 1) = some (.int .i64 n87) ∧
 ∃ J21 : Bool → World → Prop, (∀ (b89 : Bool) (w88 : World), J21 b89 w88 →
 brB b89
 (K (.bool true) w88)
 (I2 (wr (i83 + (1 : Int))) w88 ∧ μ2 (wr (i83 + (1 : Int))) w88 < μ2 i83 w82)) ∧
 brB (n87 == (30 : Int))
 (J21 true w82)
 (brB (n87 == (32 : Int))
 (J21 true w82)
 (J21 (n87 == (44 : Int)) w82)))
 (∃ n_Ip90 : Int, ∃ n_Handler91 : Int, ∃ s_Stack92 : Sl, ∃ s_Back93 : Sl, ∃ s_Mem94 : Sl, ∃ t_Out95 : ByteArray, ∃ t_In96 : ByteArray, ∃ n_Read97 : Int, ∃ n_Status98 : Int, ∃ n_Code99 : Int, w82.cell? ⟨b14, 0, none⟩ = some (.int .i64 n_Ip90) ∧ w82.cell? ⟨b14, 1, none⟩ = some (.int .i64 n_Handler91) ∧ w82.cell? ⟨b14, 2, none⟩ = some (s_Stack92.val) ∧ w82.cell? ⟨b14, 3, none⟩ = some (s_Back93.val) ∧ w82.cell? ⟨b14, 4, none⟩ = some (s_Mem94.val) ∧ w82.cell? ⟨b14, 5, none⟩ = some (.string t_Out95) ∧ w82.cell? ⟨b14, 6, none⟩ = some (.string t_In96) ∧ w82.cell? ⟨b14, 7, none⟩ = some (.int .i64 n_Read97) ∧ w82.cell? ⟨b14, 8, none⟩ = some (.int .i64 n_Status98) ∧ w82.cell? ⟨b14, 9, none⟩ = some (.int .i64 n_Code99) ∧
 Calls Tryz.prog fn_hollowayref9_Copy #[.agg #[.int .i64 n_Ip90, .int .i64 n_Handler91, s_Stack92.val, s_Back93.val, s_Mem94.val, .string t_Out95, .string t_In96, .int .i64 n_Read97, .int .i64 n_Status98, .int .i64 n_Code99]] w82 fun e100 w101 => ∃ n_Ip102 : Int, ∃ n_Handler103 : Int, ∃ s_Stack104 : Sl, ∃ s_Back105 : Sl, ∃ s_Mem106 : Sl, ∃ t_Out107 : ByteArray, ∃ t_In108 : ByteArray, ∃ n_Read109 : Int, ∃ n_Status110 : Int, ∃ n_Code111 : Int, e100 = .returned (.agg #[.int .i64 n_Ip102, .int .i64 n_Handler103, s_Stack104.val, s_Back105.val, s_Mem106.val, .string t_Out107, .string t_In108, .int .i64 n_Read109, .int .i64 n_Status110, .int .i64 n_Code111]) ∧
 ∀ (b112 : Nat) (w113 : World), b112 = w101.heap.size → w113 = World.alloc w101 (.cells #[.int .i64 (0 : Int), .int .i64 (0 : Int), .slice none 0 0, .slice none 0 0, .slice none 0 0, .string (bs []), .string (bs []), .int .i64 (0 : Int), .int .i64 (0 : Int), .int .i64 (0 : Int)] T_api_State) →
 wrOk w113 ⟨b112, 0, none⟩ 10 ∧ ∀ w114 : World, w114 = stW w113 ⟨b112, 0, none⟩ 0 [.int .i64 n_Ip102, .int .i64 n_Handler103, s_Stack104.val, s_Back105.val, s_Mem106.val, .string t_Out107, .string t_In108, .int .i64 n_Read109, .int .i64 n_Status110, .int .i64 n_Code111] →
 ∃ J25 : Bool → World → Prop, (∀ (b117 : Bool) (w116 : World), J25 b117 w116 →
 brB b117
 (K (.bool true) w116)
 (∃ s118 : Sl, w116.cell? ⟨b112, 4, none⟩ = some (s118.val) ∧
 ∃ a119 : Addr, s118.ptr = some a119 ∧ 0 ≤ at_12 ∧ at_12 < (s118.len : Int) ∧
 wrOk w116 (Addr.add a119 (Int.toNat at_12 * 1)) 1 ∧ ∀ w120 : World, w120 = stW w116 (Addr.add a119 (Int.toNat at_12 * 1)) 0 [.int .i64 v_13] →
 ∃ n_Ip121 : Int, ∃ n_Handler122 : Int, ∃ s_Stack123 : Sl, ∃ s_Back124 : Sl, ∃ s_Mem125 : Sl, ∃ t_Out126 : ByteArray, ∃ t_In127 : ByteArray, ∃ n_Read128 : Int, ∃ n_Status129 : Int, ∃ n_Code130 : Int, w120.cell? ⟨b112, 0, none⟩ = some (.int .i64 n_Ip121) ∧ w120.cell? ⟨b112, 1, none⟩ = some (.int .i64 n_Handler122) ∧ w120.cell? ⟨b112, 2, none⟩ = some (s_Stack123.val) ∧ w120.cell? ⟨b112, 3, none⟩ = some (s_Back124.val) ∧ w120.cell? ⟨b112, 4, none⟩ = some (s_Mem125.val) ∧ w120.cell? ⟨b112, 5, none⟩ = some (.string t_Out126) ∧ w120.cell? ⟨b112, 6, none⟩ = some (.string t_In127) ∧ w120.cell? ⟨b112, 7, none⟩ = some (.int .i64 n_Read128) ∧ w120.cell? ⟨b112, 8, none⟩ = some (.int .i64 n_Status129) ∧ w120.cell? ⟨b112, 9, none⟩ = some (.int .i64 n_Code130) ∧
 ∃ s131 : Sl, w120.cell? ⟨b54, 3, none⟩ = some (s131.val) ∧
 Calls Tryz.prog fn_record_Loop #[.agg #[.int .i64 n_Ip121, .int .i64 n_Handler122, s_Stack123.val, s_Back124.val, s_Mem125.val, .string t_Out126, .string t_In127, .int .i64 n_Read128, .int .i64 n_Status129, .int .i64 n_Code130], .int .i64 (s131.len : Int)] w120 fun e132 w133 => ∃ n_Start134 : Int, ∃ n_End135 : Int, ∃ b_Loop136 : Bool, ∃ s_Steps137 : Sl, e132 = .returned (.agg #[.int .i64 n_Start134, .int .i64 n_End135, .bool b_Loop136, s_Steps137.val]) ∧
 ∀ (b138 : Nat) (w139 : World), b138 = w133.heap.size → w139 = World.alloc w133 (.cells #[.int .i64 (0 : Int), .int .i64 (0 : Int), .bool false, .slice none 0 0] T_api_Recording) →
 wrOk w139 ⟨b138, 0, none⟩ 4 ∧ ∀ w140 : World, w140 = stW w139 ⟨b138, 0, none⟩ 0 [.int .i64 n_Start134, .int .i64 n_End135, .bool b_Loop136, s_Steps137.val] →
 ∃ s141 : Sl, w140.cell? ⟨b138, 3, none⟩ = some (s141.val) ∧
 ∃ s142 : Sl, w140.cell? ⟨b54, 3, none⟩ = some (s142.val) ∧
 Calls Tryz.prog fn_hollowaybook_SameSeens #[s141.val, s142.val] w140 fun e143 w144 => ∃ b145 : Bool, e143 = .returned (.bool b145) ∧
 K (.bool b145) w144)) ∧
 brB (decide (at_12 < (0 : Int)))
 (J25 true w114)
 (∃ s115 : Sl, w114.cell? ⟨b112, 4, none⟩ = some (s115.val) ∧
 J25 (decide (at_12 ≥ (s115.len : Int))) w114))))) ∧
 ∃ n_Ip16 : Int, ∃ n_Handler17 : Int, ∃ s_Stack18 : Sl, ∃ s_Back19 : Sl, ∃ s_Mem20 : Sl, ∃ t_Out21 : ByteArray, ∃ t_In22 : ByteArray, ∃ n_Read23 : Int, ∃ n_Status24 : Int, ∃ n_Code25 : Int, w15.cell? ⟨b14, 0, none⟩ = some (.int .i64 n_Ip16) ∧ w15.cell? ⟨b14, 1, none⟩ = some (.int .i64 n_Handler17) ∧ w15.cell? ⟨b14, 2, none⟩ = some (s_Stack18.val) ∧ w15.cell? ⟨b14, 3, none⟩ = some (s_Back19.val) ∧ w15.cell? ⟨b14, 4, none⟩ = some (s_Mem20.val) ∧ w15.cell? ⟨b14, 5, none⟩ = some (.string t_Out21) ∧ w15.cell? ⟨b14, 6, none⟩ = some (.string t_In22) ∧ w15.cell? ⟨b14, 7, none⟩ = some (.int .i64 n_Read23) ∧ w15.cell? ⟨b14, 8, none⟩ = some (.int .i64 n_Status24) ∧ w15.cell? ⟨b14, 9, none⟩ = some (.int .i64 n_Code25) ∧
 Calls Tryz.prog fn_hollowaylaw9_Light #[.agg #[.int .i64 n_Ip16, .int .i64 n_Handler17, s_Stack18.val, s_Back19.val, s_Mem20.val, .string t_Out21, .string t_In22, .int .i64 n_Read23, .int .i64 n_Status24, .int .i64 n_Code25]] w15 fun e26 w27 => ∃ b28 : Bool, e26 = .returned (.bool b28) ∧
 brB (!b28)
 (J3 true w27)
 (Calls Tryz.prog fn_hollowaylaw13_alive #[] w27 fun e29 w30 => ∃ b31 : Bool, e29 = .returned (.bool b31) ∧
 J3 (!b31) w30)
def hollowaylaw13_RecordCells_an : An := ⟨[(7, [(11, .int .i64)]), (12, [(12, .int .i64)])], [(9, (22, .st 0 (.st 1 (.st 2 (.st 3 (.st 4 (.st 5 (.st 6 (.st 7 (.st 8 (.st 9 (.st 10 (.st 11 (.st 12 (.st 13 (.st 14 (.st 15 (.st 16 (.st 17 (.st 18 (.st 19 (.st 20 (.st 21 .done))))))))))))))))))))), 0)), (10, (15, .st 0 (.st 1 (.st 2 (.st 3 (.st 4 (.st 5 (.st 6 (.st 7 (.st 8 (.st 9 (.st 10 (.st 11 (.st 12 (.st 13 (.st 14 .done)))))))))))))), 0))], [(2, [(22, .bool)]), (10, [(57, .bool)]), (16, [(94, .bool)]), (19, [(105, .bool)])]⟩
theorem hollowaylaw13_RecordCells_lift {s__Ip1 : Int} {s__Handler2 : Int} {s__Stack3 : Sl} {s__Back4 : Sl} {s__Mem5 : Sl} {s__Out6 : ByteArray} {s__In7 : ByteArray} {s__Read8 : Int} {s__Status9 : Int} {s__Code10 : Int} {most11 : Int} {at_12 : Int} {v_13 : Int} {w : World} {K : Value → World → Prop} (h : hollowaylaw13_RecordCells_sh s__Ip1 s__Handler2 s__Stack3 s__Back4 s__Mem5 s__Out6 s__In7 s__Read8 s__Status9 s__Code10 most11 at_12 v_13 w K) : Calls Tryz.prog fn_hollowaylaw13_RecordCells #[.agg #[.int .i64 s__Ip1, .int .i64 s__Handler2, s__Stack3.val, s__Back4.val, s__Mem5.val, .string s__Out6, .string s__In7, .int .i64 s__Read8, .int .i64 s__Status9, .int .i64 s__Code10], .int .i64 most11, .int .i64 at_12, .int .i64 v_13] w fun e w' => ∃ v, e = .returned v ∧ K v w' :=
   lift_calls (A := hollowaylaw13_RecordCells_an) (c := bodyOf Tryz.f6) (args := [.agg #[.int .i64 s__Ip1, .int .i64 s__Handler2, s__Stack3.val, s__Back4.val, s__Mem5.val, .string s__Out6, .string s__In7, .int .i64 s__Read8, .int .i64 s__Status9, .int .i64 s__Code10], .int .i64 most11, .int .i64 at_12, .int .i64 v_13]) orc orc_wide Tryz.func6 (by kernel_rfl) (by kernel_rfl) (Eq.mp (by kernel_rfl : hollowaylaw13_RecordCells_sh s__Ip1 s__Handler2 s__Stack3 s__Back4 s__Mem5 s__Out6 s__In7 s__Read8 s__Status9 s__Code10 most11 at_12 v_13 w K = wpc orc Tryz.f6.ntmps hollowaylaw13_RecordCells_an (bodyOf Tryz.f6) (argl 0 [.agg #[.int .i64 s__Ip1, .int .i64 s__Handler2, s__Stack3.val, s__Back4.val, s__Mem5.val, .string s__Out6, .string s__In7, .int .i64 s__Read8, .int .i64 s__Status9, .int .i64 s__Code10], .int .i64 most11, .int .i64 at_12, .int .i64 v_13]) w (retQ orc Tryz.f6.results.toList K)) h)

-- holloway/hollowaylaw13.RecordTells
def hollowaylaw13_RecordTells_sh (s__Ip1 : Int) (s__Handler2 : Int) (s__Stack3 : Sl) (s__Back4 : Sl) (s__Mem5 : Sl) (s__Out6 : ByteArray) (s__In7 : ByteArray) (s__Read8 : Int) (s__Status9 : Int) (s__Code10 : Int) (most11 : Int) (w : World) (K : Value → World → Prop) : Prop :=
 ∀ (b12 : Nat) (w13 : World), b12 = w.heap.size → w13 = World.alloc w (.cells #[.int .i64 s__Ip1, .int .i64 s__Handler2, s__Stack3.val, s__Back4.val, s__Mem5.val, .string s__Out6, .string s__In7, .int .i64 s__Read8, .int .i64 s__Status9, .int .i64 s__Code10] T_api_State) →
 ∃ J3 : Bool → World → Prop, (∀ (b31 : Bool) (w30 : World), J3 b31 w30 →
 brB b31
 (Calls Tryz.prog fn_hollowaylaw13_alive #[] w30 fun e32 w33 => ∃ b34 : Bool, e32 = .returned (.bool b34) ∧
 K (.bool b34) w33)
 (∃ n_Ip35 : Int, ∃ n_Handler36 : Int, ∃ s_Stack37 : Sl, ∃ s_Back38 : Sl, ∃ s_Mem39 : Sl, ∃ t_Out40 : ByteArray, ∃ t_In41 : ByteArray, ∃ n_Read42 : Int, ∃ n_Status43 : Int, ∃ n_Code44 : Int, w30.cell? ⟨b12, 0, none⟩ = some (.int .i64 n_Ip35) ∧ w30.cell? ⟨b12, 1, none⟩ = some (.int .i64 n_Handler36) ∧ w30.cell? ⟨b12, 2, none⟩ = some (s_Stack37.val) ∧ w30.cell? ⟨b12, 3, none⟩ = some (s_Back38.val) ∧ w30.cell? ⟨b12, 4, none⟩ = some (s_Mem39.val) ∧ w30.cell? ⟨b12, 5, none⟩ = some (.string t_Out40) ∧ w30.cell? ⟨b12, 6, none⟩ = some (.string t_In41) ∧ w30.cell? ⟨b12, 7, none⟩ = some (.int .i64 n_Read42) ∧ w30.cell? ⟨b12, 8, none⟩ = some (.int .i64 n_Status43) ∧ w30.cell? ⟨b12, 9, none⟩ = some (.int .i64 n_Code44) ∧
 Calls Tryz.prog fn_hollowaybook_LentState #[.agg #[.int .i64 n_Ip35, .int .i64 n_Handler36, s_Stack37.val, s_Back38.val, s_Mem39.val, .string t_Out40, .string t_In41, .int .i64 n_Read42, .int .i64 n_Status43, .int .i64 n_Code44]] w30 fun e45 w46 => ∃ n_Ip47 : Int, ∃ n_Handler48 : Int, ∃ s_Stack49 : Sl, ∃ s_Back50 : Sl, ∃ s_Mem51 : Sl, ∃ t_Out52 : ByteArray, ∃ t_In53 : ByteArray, ∃ n_Read54 : Int, ∃ n_Status55 : Int, ∃ n_Code56 : Int, e45 = .returned (.agg #[.int .i64 n_Ip47, .int .i64 n_Handler48, s_Stack49.val, s_Back50.val, s_Mem51.val, .string t_Out52, .string t_In53, .int .i64 n_Read54, .int .i64 n_Status55, .int .i64 n_Code56]) ∧
 ∀ (b57 : Nat) (w58 : World), b57 = w46.heap.size → w58 = World.alloc w46 (.cells #[.int .i64 (0 : Int), .int .i64 (0 : Int), .slice none 0 0, .slice none 0 0, .slice none 0 0, .string (bs []), .string (bs []), .int .i64 (0 : Int), .int .i64 (0 : Int), .int .i64 (0 : Int)] T_api_State) →
 wrOk w58 ⟨b57, 0, none⟩ 10 ∧ ∀ w59 : World, w59 = stW w58 ⟨b57, 0, none⟩ 0 [.int .i64 n_Ip47, .int .i64 n_Handler48, s_Stack49.val, s_Back50.val, s_Mem51.val, .string t_Out52, .string t_In53, .int .i64 n_Read54, .int .i64 n_Status55, .int .i64 n_Code56] →
 ∀ (b60 : Nat) (w61 : World), b60 = w59.heap.size → w61 = World.alloc w59 (.cells #[.slice none 0 0, .slice none 0 0, .slice none 0 0, .slice none 0 0, .slice none 0 0, .slice none 0 0, .slice none 0 0, .slice none 0 0, .slice none 0 0, .slice none 0 0, .slice none 0 0, .slice none 0 0] T_hollowaybook_Book) →
 ∀ w62 : World, w62 = World.drew w61 →
 ∃ S63 : World → Prop, S63 w62 ∧
 ∃ n_Ip64 : Int, ∃ n_Handler65 : Int, ∃ s_Stack66 : Sl, ∃ s_Back67 : Sl, ∃ s_Mem68 : Sl, ∃ t_Out69 : ByteArray, ∃ t_In70 : ByteArray, ∃ n_Read71 : Int, ∃ n_Status72 : Int, ∃ n_Code73 : Int, held S63 ⟨b57, 0, none⟩ (.int .i64 n_Ip64) ∧ held S63 ⟨b57, 1, none⟩ (.int .i64 n_Handler65) ∧ held S63 ⟨b57, 2, none⟩ (s_Stack66.val) ∧ held S63 ⟨b57, 3, none⟩ (s_Back67.val) ∧ held S63 ⟨b57, 4, none⟩ (s_Mem68.val) ∧ held S63 ⟨b57, 5, none⟩ (.string t_Out69) ∧ held S63 ⟨b57, 6, none⟩ (.string t_In70) ∧ held S63 ⟨b57, 7, none⟩ (.int .i64 n_Read71) ∧ held S63 ⟨b57, 8, none⟩ (.int .i64 n_Status72) ∧ held S63 ⟨b57, 9, none⟩ (.int .i64 n_Code73) ∧
 ∃ n_Ip74 : Int, ∃ n_Handler75 : Int, ∃ s_Stack76 : Sl, ∃ s_Back77 : Sl, ∃ s_Mem78 : Sl, ∃ t_Out79 : ByteArray, ∃ t_In80 : ByteArray, ∃ n_Read81 : Int, ∃ n_Status82 : Int, ∃ n_Code83 : Int, held S63 ⟨b57, 0, none⟩ (.int .i64 n_Ip74) ∧ held S63 ⟨b57, 1, none⟩ (.int .i64 n_Handler75) ∧ held S63 ⟨b57, 2, none⟩ (s_Stack76.val) ∧ held S63 ⟨b57, 3, none⟩ (s_Back77.val) ∧ held S63 ⟨b57, 4, none⟩ (s_Mem78.val) ∧ held S63 ⟨b57, 5, none⟩ (.string t_Out79) ∧ held S63 ⟨b57, 6, none⟩ (.string t_In80) ∧ held S63 ⟨b57, 7, none⟩ (.int .i64 n_Read81) ∧ held S63 ⟨b57, 8, none⟩ (.int .i64 n_Status82) ∧ held S63 ⟨b57, 9, none⟩ (.int .i64 n_Code83) ∧
 ∃ Z84 : List (Nat × List Value) → World → Prop, Z84 [] w62 ∧
 (∀ lg85 : List (Nat × List Value), ∀ w86 : World, S63 w86 → Z84 lg85 w86 →
 Calls Tryz.prog fn_record_Loop #[.agg #[.int .i64 n_Ip64, .int .i64 n_Handler65, s_Stack66.val, s_Back67.val, s_Mem68.val, .string t_Out69, .string t_In70, .int .i64 n_Read71, .int .i64 n_Status72, .int .i64 n_Code73], .int .i64 most11] w86 fun e87 w88 => ∃ n_Start89 : Int, ∃ n_End90 : Int, ∃ b_Loop91 : Bool, ∃ s_Steps92 : Sl, e87 = .returned (.agg #[.int .i64 n_Start89, .int .i64 n_End90, .bool b_Loop91, s_Steps92.val]) ∧
 S63 w88 ∧ True ∧ Z84 (lg85 ++ [(2, ([.int .i64 n_Start89, .int .i64 n_End90, .bool b_Loop91, s_Steps92.val] : List Value))]) w88) ∧
 (∀ lg93 : List (Nat × List Value), ∀ w94 : World, S63 w94 → Z84 lg93 w94 →
 Calls Tryz.prog fn_record_Loop #[.agg #[.int .i64 n_Ip74, .int .i64 n_Handler75, s_Stack76.val, s_Back77.val, s_Mem78.val, .string t_Out79, .string t_In80, .int .i64 n_Read81, .int .i64 n_Status82, .int .i64 n_Code83], .int .i64 most11] w94 fun e95 w96 => ∃ n_Start97 : Int, ∃ n_End98 : Int, ∃ b_Loop99 : Bool, ∃ s_Steps100 : Sl, e95 = .returned (.agg #[.int .i64 n_Start97, .int .i64 n_End98, .bool b_Loop99, s_Steps100.val]) ∧
 S63 w96 ∧ True ∧ Z84 (lg93 ++ [(5, ([.int .i64 n_Start97, .int .i64 n_End98, .bool b_Loop99, s_Steps100.val] : List Value))]) w96) ∧
 (∀ lg101 : List (Nat × List Value), ∀ w102 : World, S63 w102 → Z84 lg101 w102 →
 ∀ (b103 : Nat) (w104 : World), b103 = w102.heap.size → w104 = World.alloc w102 (.cells #[.int .i64 (0 : Int), .int .i64 (0 : Int), .bool false, .slice none 0 0] T_api_Recording) →
 S63 w104 ∧ True ∧ Z84 (lg101 ++ [(6, ([.pointer (some ⟨b103, 0, none⟩)] : List Value))]) w104) ∧
 (∀ lg105 : List (Nat × List Value), ∀ w106 : World, S63 w106 → Z84 lg105 w106 →
 ∀ (b107 : Nat) (w108 : World), b107 = w106.heap.size → w108 = World.alloc w106 (.cells #[.int .i64 (0 : Int), .int .i64 (0 : Int), .bool false, .slice none 0 0] T_api_Recording) →
 S63 w108 ∧ True ∧ Z84 (lg105 ++ [(7, ([.pointer (some ⟨b107, 0, none⟩)] : List Value))]) w108) ∧
 ∀ lg109 : List (Nat × List Value), ∀ w110 : World, S63 w110 → Z84 lg109 w110 →
 ∀ (n111 : Int) (n112 : Int) (b113 : Bool) (s114 : Sl), (2, ([.int .i64 n111, .int .i64 n112, .bool b113, s114.val] : List Value)) ∈ lg109 →
 ∀ (n115 : Int) (n116 : Int) (b117 : Bool) (s118 : Sl), (5, ([.int .i64 n115, .int .i64 n116, .bool b117, s118.val] : List Value)) ∈ lg109 →
 ∀ (a119 : Nat), (6, ([.pointer (some ⟨a119, 0, none⟩)] : List Value)) ∈ lg109 →
 ∀ (b120 : Nat), (7, ([.pointer (some ⟨b120, 0, none⟩)] : List Value)) ∈ lg109 →
 wrOk w110 ⟨a119, 0, none⟩ 4 ∧ ∀ w121 : World, w121 = stW w110 ⟨a119, 0, none⟩ 0 [.int .i64 n111, .int .i64 n112, .bool b113, s114.val] →
 wrOk w121 ⟨b120, 0, none⟩ 4 ∧ ∀ w122 : World, w122 = stW w121 ⟨b120, 0, none⟩ 0 [.int .i64 n115, .int .i64 n116, .bool b117, s118.val] →
 ∃ s123 : Sl, w122.cell? ⟨a119, 3, none⟩ = some (s123.val) ∧
 Calls Tryz.prog fn_hollowaybook_Book_Seens #[.pointer (some ⟨b60, 0, none⟩), s123.val] w122 fun e124 w125 => e124 = .returned (.tuple #[]) ∧
 ∃ s126 : Sl, w125.cell? ⟨b120, 3, none⟩ = some (s126.val) ∧
 Calls Tryz.prog fn_hollowaybook_Book_Seens #[.pointer (some ⟨b60, 0, none⟩), s126.val] w125 fun e127 w128 => e127 = .returned (.tuple #[]) ∧
 ∃ n_Ip129 : Int, ∃ n_Handler130 : Int, ∃ s_Stack131 : Sl, ∃ s_Back132 : Sl, ∃ s_Mem133 : Sl, ∃ t_Out134 : ByteArray, ∃ t_In135 : ByteArray, ∃ n_Read136 : Int, ∃ n_Status137 : Int, ∃ n_Code138 : Int, w128.cell? ⟨b12, 0, none⟩ = some (.int .i64 n_Ip129) ∧ w128.cell? ⟨b12, 1, none⟩ = some (.int .i64 n_Handler130) ∧ w128.cell? ⟨b12, 2, none⟩ = some (s_Stack131.val) ∧ w128.cell? ⟨b12, 3, none⟩ = some (s_Back132.val) ∧ w128.cell? ⟨b12, 4, none⟩ = some (s_Mem133.val) ∧ w128.cell? ⟨b12, 5, none⟩ = some (.string t_Out134) ∧ w128.cell? ⟨b12, 6, none⟩ = some (.string t_In135) ∧ w128.cell? ⟨b12, 7, none⟩ = some (.int .i64 n_Read136) ∧ w128.cell? ⟨b12, 8, none⟩ = some (.int .i64 n_Status137) ∧ w128.cell? ⟨b12, 9, none⟩ = some (.int .i64 n_Code138) ∧
 Calls Tryz.prog fn_hollowayref9_Record #[.agg #[.int .i64 n_Ip129, .int .i64 n_Handler130, s_Stack131.val, s_Back132.val, s_Mem133.val, .string t_Out134, .string t_In135, .int .i64 n_Read136, .int .i64 n_Status137, .int .i64 n_Code138], .int .i64 most11] w128 fun e139 w140 => ∃ n_Start141 : Int, ∃ n_End142 : Int, ∃ b_Loop143 : Bool, ∃ s_Steps144 : Sl, e139 = .returned (.agg #[.int .i64 n_Start141, .int .i64 n_End142, .bool b_Loop143, s_Steps144.val]) ∧
 ∀ (b145 : Nat) (w146 : World), b145 = w140.heap.size → w146 = World.alloc w140 (.cells #[.int .i64 (0 : Int), .int .i64 (0 : Int), .bool false, .slice none 0 0] T_api_Recording) →
 wrOk w146 ⟨b145, 0, none⟩ 4 ∧ ∀ w147 : World, w147 = stW w146 ⟨b145, 0, none⟩ 0 [.int .i64 n_Start141, .int .i64 n_End142, .bool b_Loop143, s_Steps144.val] →
 ∃ J12 : Bool → World → Prop, (∀ (b180 : Bool) (w179 : World), J12 b180 w179 →
 brB b180
 (K (.bool false) w179)
 (∀ w181 : World, w181 = World.drew w179 →
 ∃ S182 : World → Prop, S182 w181 ∧
 ∃ n_Start183 : Int, ∃ n_End184 : Int, ∃ b_Loop185 : Bool, ∃ s_Steps186 : Sl, held S182 ⟨a119, 0, none⟩ (.int .i64 n_Start183) ∧ held S182 ⟨a119, 1, none⟩ (.int .i64 n_End184) ∧ held S182 ⟨a119, 2, none⟩ (.bool b_Loop185) ∧ held S182 ⟨a119, 3, none⟩ (s_Steps186.val) ∧
 ∃ n_Start187 : Int, ∃ n_End188 : Int, ∃ b_Loop189 : Bool, ∃ s_Steps190 : Sl, held S182 ⟨b120, 0, none⟩ (.int .i64 n_Start187) ∧ held S182 ⟨b120, 1, none⟩ (.int .i64 n_End188) ∧ held S182 ⟨b120, 2, none⟩ (.bool b_Loop189) ∧ held S182 ⟨b120, 3, none⟩ (s_Steps190.val) ∧
 Calls Tryz.prog fn_record_Cells #[.agg #[.int .i64 n_Start183, .int .i64 n_End184, .bool b_Loop185, s_Steps186.val]] w181 fun e191 w192 => ∃ s193 : Sl, e191 = .returned (s193.val) ∧
 S182 w192 ∧
 Calls Tryz.prog fn_record_Cells #[.agg #[.int .i64 n_Start187, .int .i64 n_End188, .bool b_Loop189, s_Steps190.val]] w192 fun e194 w195 => ∃ s196 : Sl, e194 = .returned (s196.val) ∧
 Calls Tryz.prog fn_hollowaybook_Book_Ints #[.pointer (some ⟨b60, 0, none⟩), s193.val] w195 fun e197 w198 => e197 = .returned (.tuple #[]) ∧
 Calls Tryz.prog fn_hollowaybook_Book_Ints #[.pointer (some ⟨b60, 0, none⟩), s196.val] w198 fun e199 w200 => e199 = .returned (.tuple #[]) ∧
 ∃ n_Ip201 : Int, ∃ n_Handler202 : Int, ∃ s_Stack203 : Sl, ∃ s_Back204 : Sl, ∃ s_Mem205 : Sl, ∃ t_Out206 : ByteArray, ∃ t_In207 : ByteArray, ∃ n_Read208 : Int, ∃ n_Status209 : Int, ∃ n_Code210 : Int, w200.cell? ⟨b12, 0, none⟩ = some (.int .i64 n_Ip201) ∧ w200.cell? ⟨b12, 1, none⟩ = some (.int .i64 n_Handler202) ∧ w200.cell? ⟨b12, 2, none⟩ = some (s_Stack203.val) ∧ w200.cell? ⟨b12, 3, none⟩ = some (s_Back204.val) ∧ w200.cell? ⟨b12, 4, none⟩ = some (s_Mem205.val) ∧ w200.cell? ⟨b12, 5, none⟩ = some (.string t_Out206) ∧ w200.cell? ⟨b12, 6, none⟩ = some (.string t_In207) ∧ w200.cell? ⟨b12, 7, none⟩ = some (.int .i64 n_Read208) ∧ w200.cell? ⟨b12, 8, none⟩ = some (.int .i64 n_Status209) ∧ w200.cell? ⟨b12, 9, none⟩ = some (.int .i64 n_Code210) ∧
 ∀ (b211 : Nat) (w212 : World), b211 = w200.heap.size → w212 = World.alloc w200 (.cells #[.int .i64 (0 : Int), .int .i64 (0 : Int), .slice none 0 0, .slice none 0 0, .slice none 0 0, .string (bs []), .string (bs []), .int .i64 (0 : Int), .int .i64 (0 : Int), .int .i64 (0 : Int)] T_api_State) →
 wrOk w212 ⟨b211, 0, none⟩ 10 ∧ ∀ w213 : World, w213 = stW w212 ⟨b211, 0, none⟩ 0 [.int .i64 n_Ip201, .int .i64 n_Handler202, s_Stack203.val, s_Back204.val, s_Mem205.val, .string t_Out206, .string t_In207, .int .i64 n_Read208, .int .i64 n_Status209, .int .i64 n_Code210] →
 ∃ (I1 : Int → World → Prop) (μ1 : Int → World → Nat), I1 (0 : Int) w213 ∧ ∀ (i215 : Int) (w214 : World), I1 i215 w214 →
 ∃ s216 : Sl, w214.cell? ⟨b145, 3, none⟩ = some (s216.val) ∧
 brB (decide (i215 < (s216.len : Int)))
 (∃ n_Ip217 : Int, ∃ n_Handler218 : Int, ∃ s_Stack219 : Sl, ∃ s_Back220 : Sl, ∃ s_Mem221 : Sl, ∃ t_Out222 : ByteArray, ∃ t_In223 : ByteArray, ∃ n_Read224 : Int, ∃ n_Status225 : Int, ∃ n_Code226 : Int, w214.cell? ⟨b211, 0, none⟩ = some (.int .i64 n_Ip217) ∧ w214.cell? ⟨b211, 1, none⟩ = some (.int .i64 n_Handler218) ∧ w214.cell? ⟨b211, 2, none⟩ = some (s_Stack219.val) ∧ w214.cell? ⟨b211, 3, none⟩ = some (s_Back220.val) ∧ w214.cell? ⟨b211, 4, none⟩ = some (s_Mem221.val) ∧ w214.cell? ⟨b211, 5, none⟩ = some (.string t_Out222) ∧ w214.cell? ⟨b211, 6, none⟩ = some (.string t_In223) ∧ w214.cell? ⟨b211, 7, none⟩ = some (.int .i64 n_Read224) ∧ w214.cell? ⟨b211, 8, none⟩ = some (.int .i64 n_Status225) ∧ w214.cell? ⟨b211, 9, none⟩ = some (.int .i64 n_Code226) ∧
 Calls Tryz.prog fn_hollowayref9_Step #[.agg #[.int .i64 n_Ip217, .int .i64 n_Handler218, s_Stack219.val, s_Back220.val, s_Mem221.val, .string t_Out222, .string t_In223, .int .i64 n_Read224, .int .i64 n_Status225, .int .i64 n_Code226]] w214 fun e227 w228 => ∃ n_Ip229 : Int, ∃ n_Handler230 : Int, ∃ s_Stack231 : Sl, ∃ s_Back232 : Sl, ∃ s_Mem233 : Sl, ∃ t_Out234 : ByteArray, ∃ t_In235 : ByteArray, ∃ n_Read236 : Int, ∃ n_Status237 : Int, ∃ n_Code238 : Int, e227 = .returned (.agg #[.int .i64 n_Ip229, .int .i64 n_Handler230, s_Stack231.val, s_Back232.val, s_Mem233.val, .string t_Out234, .string t_In235, .int .i64 n_Read236, .int .i64 n_Status237, .int .i64 n_Code238]) ∧
 wrOk w228 ⟨b211, 0, none⟩ 10 ∧ ∀ w239 : World, w239 = stW w228 ⟨b211, 0, none⟩ 0 [.int .i64 n_Ip229, .int .i64 n_Handler230, s_Stack231.val, s_Back232.val, s_Mem233.val, .string t_Out234, .string t_In235, .int .i64 n_Read236, .int .i64 n_Status237, .int .i64 n_Code238] →
 I1 (wr (i215 + (1 : Int))) w239 ∧ μ1 (wr (i215 + (1 : Int))) w239 < μ1 i215 w214)
 (∃ n_Ip240 : Int, ∃ n_Handler241 : Int, ∃ s_Stack242 : Sl, ∃ s_Back243 : Sl, ∃ s_Mem244 : Sl, ∃ t_Out245 : ByteArray, ∃ t_In246 : ByteArray, ∃ n_Read247 : Int, ∃ n_Status248 : Int, ∃ n_Code249 : Int, w214.cell? ⟨b57, 0, none⟩ = some (.int .i64 n_Ip240) ∧ w214.cell? ⟨b57, 1, none⟩ = some (.int .i64 n_Handler241) ∧ w214.cell? ⟨b57, 2, none⟩ = some (s_Stack242.val) ∧ w214.cell? ⟨b57, 3, none⟩ = some (s_Back243.val) ∧ w214.cell? ⟨b57, 4, none⟩ = some (s_Mem244.val) ∧ w214.cell? ⟨b57, 5, none⟩ = some (.string t_Out245) ∧ w214.cell? ⟨b57, 6, none⟩ = some (.string t_In246) ∧ w214.cell? ⟨b57, 7, none⟩ = some (.int .i64 n_Read247) ∧ w214.cell? ⟨b57, 8, none⟩ = some (.int .i64 n_Status248) ∧ w214.cell? ⟨b57, 9, none⟩ = some (.int .i64 n_Code249) ∧
 ∃ n_Start250 : Int, ∃ n_End251 : Int, ∃ b_Loop252 : Bool, ∃ s_Steps253 : Sl, w214.cell? ⟨a119, 0, none⟩ = some (.int .i64 n_Start250) ∧ w214.cell? ⟨a119, 1, none⟩ = some (.int .i64 n_End251) ∧ w214.cell? ⟨a119, 2, none⟩ = some (.bool b_Loop252) ∧ w214.cell? ⟨a119, 3, none⟩ = some (s_Steps253.val) ∧
 Calls Tryz.prog fn_record_After #[.agg #[.int .i64 n_Ip240, .int .i64 n_Handler241, s_Stack242.val, s_Back243.val, s_Mem244.val, .string t_Out245, .string t_In246, .int .i64 n_Read247, .int .i64 n_Status248, .int .i64 n_Code249], .agg #[.int .i64 n_Start250, .int .i64 n_End251, .bool b_Loop252, s_Steps253.val]] w214 fun e254 w255 => ∃ n_Ip256 : Int, ∃ n_Handler257 : Int, ∃ s_Stack258 : Sl, ∃ s_Back259 : Sl, ∃ s_Mem260 : Sl, ∃ t_Out261 : ByteArray, ∃ t_In262 : ByteArray, ∃ n_Read263 : Int, ∃ n_Status264 : Int, ∃ n_Code265 : Int, e254 = .returned (.agg #[.int .i64 n_Ip256, .int .i64 n_Handler257, s_Stack258.val, s_Back259.val, s_Mem260.val, .string t_Out261, .string t_In262, .int .i64 n_Read263, .int .i64 n_Status264, .int .i64 n_Code265]) ∧
 ∀ (b266 : Nat) (w267 : World), b266 = w255.heap.size → w267 = World.alloc w255 (.cells #[.int .i64 (0 : Int), .int .i64 (0 : Int), .slice none 0 0, .slice none 0 0, .slice none 0 0, .string (bs []), .string (bs []), .int .i64 (0 : Int), .int .i64 (0 : Int), .int .i64 (0 : Int)] T_api_State) →
 wrOk w267 ⟨b266, 0, none⟩ 10 ∧ ∀ w268 : World, w268 = stW w267 ⟨b266, 0, none⟩ 0 [.int .i64 n_Ip256, .int .i64 n_Handler257, s_Stack258.val, s_Back259.val, s_Mem260.val, .string t_Out261, .string t_In262, .int .i64 n_Read263, .int .i64 n_Status264, .int .i64 n_Code265] →
 ∃ n_Ip269 : Int, ∃ n_Handler270 : Int, ∃ s_Stack271 : Sl, ∃ s_Back272 : Sl, ∃ s_Mem273 : Sl, ∃ t_Out274 : ByteArray, ∃ t_In275 : ByteArray, ∃ n_Read276 : Int, ∃ n_Status277 : Int, ∃ n_Code278 : Int, w268.cell? ⟨b266, 0, none⟩ = some (.int .i64 n_Ip269) ∧ w268.cell? ⟨b266, 1, none⟩ = some (.int .i64 n_Handler270) ∧ w268.cell? ⟨b266, 2, none⟩ = some (s_Stack271.val) ∧ w268.cell? ⟨b266, 3, none⟩ = some (s_Back272.val) ∧ w268.cell? ⟨b266, 4, none⟩ = some (s_Mem273.val) ∧ w268.cell? ⟨b266, 5, none⟩ = some (.string t_Out274) ∧ w268.cell? ⟨b266, 6, none⟩ = some (.string t_In275) ∧ w268.cell? ⟨b266, 7, none⟩ = some (.int .i64 n_Read276) ∧ w268.cell? ⟨b266, 8, none⟩ = some (.int .i64 n_Status277) ∧ w268.cell? ⟨b266, 9, none⟩ = some (.int .i64 n_Code278) ∧
 Calls Tryz.prog fn_hollowaybook_Book_State #[.pointer (some ⟨b60, 0, none⟩), .agg #[.int .i64 n_Ip269, .int .i64 n_Handler270, s_Stack271.val, s_Back272.val, s_Mem273.val, .string t_Out274, .string t_In275, .int .i64 n_Read276, .int .i64 n_Status277, .int .i64 n_Code278]] w268 fun e279 w280 => e279 = .returned (.tuple #[]) ∧
 ∃ n_Start281 : Int, ∃ n_End282 : Int, ∃ b_Loop283 : Bool, ∃ s_Steps284 : Sl, w280.cell? ⟨b145, 0, none⟩ = some (.int .i64 n_Start281) ∧ w280.cell? ⟨b145, 1, none⟩ = some (.int .i64 n_End282) ∧ w280.cell? ⟨b145, 2, none⟩ = some (.bool b_Loop283) ∧ w280.cell? ⟨b145, 3, none⟩ = some (s_Steps284.val) ∧
 Calls Tryz.prog fn_hollowayref9_Cells #[.agg #[.int .i64 n_Start281, .int .i64 n_End282, .bool b_Loop283, s_Steps284.val]] w280 fun e285 w286 => ∃ s287 : Sl, e285 = .returned (s287.val) ∧
 Calls Tryz.prog fn_hollowaybook_SameInts #[s193.val, s287.val] w286 fun e288 w289 => ∃ b290 : Bool, e288 = .returned (.bool b290) ∧
 brB b290
 (∃ n_Ip291 : Int, ∃ n_Handler292 : Int, ∃ s_Stack293 : Sl, ∃ s_Back294 : Sl, ∃ s_Mem295 : Sl, ∃ t_Out296 : ByteArray, ∃ t_In297 : ByteArray, ∃ n_Read298 : Int, ∃ n_Status299 : Int, ∃ n_Code300 : Int, w289.cell? ⟨b266, 0, none⟩ = some (.int .i64 n_Ip291) ∧ w289.cell? ⟨b266, 1, none⟩ = some (.int .i64 n_Handler292) ∧ w289.cell? ⟨b266, 2, none⟩ = some (s_Stack293.val) ∧ w289.cell? ⟨b266, 3, none⟩ = some (s_Back294.val) ∧ w289.cell? ⟨b266, 4, none⟩ = some (s_Mem295.val) ∧ w289.cell? ⟨b266, 5, none⟩ = some (.string t_Out296) ∧ w289.cell? ⟨b266, 6, none⟩ = some (.string t_In297) ∧ w289.cell? ⟨b266, 7, none⟩ = some (.int .i64 n_Read298) ∧ w289.cell? ⟨b266, 8, none⟩ = some (.int .i64 n_Status299) ∧ w289.cell? ⟨b266, 9, none⟩ = some (.int .i64 n_Code300) ∧
 ∃ n_Ip301 : Int, ∃ n_Handler302 : Int, ∃ s_Stack303 : Sl, ∃ s_Back304 : Sl, ∃ s_Mem305 : Sl, ∃ t_Out306 : ByteArray, ∃ t_In307 : ByteArray, ∃ n_Read308 : Int, ∃ n_Status309 : Int, ∃ n_Code310 : Int, w289.cell? ⟨b211, 0, none⟩ = some (.int .i64 n_Ip301) ∧ w289.cell? ⟨b211, 1, none⟩ = some (.int .i64 n_Handler302) ∧ w289.cell? ⟨b211, 2, none⟩ = some (s_Stack303.val) ∧ w289.cell? ⟨b211, 3, none⟩ = some (s_Back304.val) ∧ w289.cell? ⟨b211, 4, none⟩ = some (s_Mem305.val) ∧ w289.cell? ⟨b211, 5, none⟩ = some (.string t_Out306) ∧ w289.cell? ⟨b211, 6, none⟩ = some (.string t_In307) ∧ w289.cell? ⟨b211, 7, none⟩ = some (.int .i64 n_Read308) ∧ w289.cell? ⟨b211, 8, none⟩ = some (.int .i64 n_Status309) ∧ w289.cell? ⟨b211, 9, none⟩ = some (.int .i64 n_Code310) ∧
 Calls Tryz.prog fn_hollowaybook_SameState #[.agg #[.int .i64 n_Ip291, .int .i64 n_Handler292, s_Stack293.val, s_Back294.val, s_Mem295.val, .string t_Out296, .string t_In297, .int .i64 n_Read298, .int .i64 n_Status299, .int .i64 n_Code300], .agg #[.int .i64 n_Ip301, .int .i64 n_Handler302, s_Stack303.val, s_Back304.val, s_Mem305.val, .string t_Out306, .string t_In307, .int .i64 n_Read308, .int .i64 n_Status309, .int .i64 n_Code310]] w289 fun e311 w312 => ∃ b313 : Bool, e311 = .returned (.bool b313) ∧
 brB b313
 (∃ n_Ip314 : Int, ∃ n_Handler315 : Int, ∃ s_Stack316 : Sl, ∃ s_Back317 : Sl, ∃ s_Mem318 : Sl, ∃ t_Out319 : ByteArray, ∃ t_In320 : ByteArray, ∃ n_Read321 : Int, ∃ n_Status322 : Int, ∃ n_Code323 : Int, w312.cell? ⟨b57, 0, none⟩ = some (.int .i64 n_Ip314) ∧ w312.cell? ⟨b57, 1, none⟩ = some (.int .i64 n_Handler315) ∧ w312.cell? ⟨b57, 2, none⟩ = some (s_Stack316.val) ∧ w312.cell? ⟨b57, 3, none⟩ = some (s_Back317.val) ∧ w312.cell? ⟨b57, 4, none⟩ = some (s_Mem318.val) ∧ w312.cell? ⟨b57, 5, none⟩ = some (.string t_Out319) ∧ w312.cell? ⟨b57, 6, none⟩ = some (.string t_In320) ∧ w312.cell? ⟨b57, 7, none⟩ = some (.int .i64 n_Read321) ∧ w312.cell? ⟨b57, 8, none⟩ = some (.int .i64 n_Status322) ∧ w312.cell? ⟨b57, 9, none⟩ = some (.int .i64 n_Code323) ∧
 ∃ n_Ip324 : Int, ∃ n_Handler325 : Int, ∃ s_Stack326 : Sl, ∃ s_Back327 : Sl, ∃ s_Mem328 : Sl, ∃ t_Out329 : ByteArray, ∃ t_In330 : ByteArray, ∃ n_Read331 : Int, ∃ n_Status332 : Int, ∃ n_Code333 : Int, w312.cell? ⟨b12, 0, none⟩ = some (.int .i64 n_Ip324) ∧ w312.cell? ⟨b12, 1, none⟩ = some (.int .i64 n_Handler325) ∧ w312.cell? ⟨b12, 2, none⟩ = some (s_Stack326.val) ∧ w312.cell? ⟨b12, 3, none⟩ = some (s_Back327.val) ∧ w312.cell? ⟨b12, 4, none⟩ = some (s_Mem328.val) ∧ w312.cell? ⟨b12, 5, none⟩ = some (.string t_Out329) ∧ w312.cell? ⟨b12, 6, none⟩ = some (.string t_In330) ∧ w312.cell? ⟨b12, 7, none⟩ = some (.int .i64 n_Read331) ∧ w312.cell? ⟨b12, 8, none⟩ = some (.int .i64 n_Status332) ∧ w312.cell? ⟨b12, 9, none⟩ = some (.int .i64 n_Code333) ∧
 Calls Tryz.prog fn_hollowaybook_StaysState #[.agg #[.int .i64 n_Ip314, .int .i64 n_Handler315, s_Stack316.val, s_Back317.val, s_Mem318.val, .string t_Out319, .string t_In320, .int .i64 n_Read321, .int .i64 n_Status322, .int .i64 n_Code323], .agg #[.int .i64 n_Ip324, .int .i64 n_Handler325, s_Stack326.val, s_Back327.val, s_Mem328.val, .string t_Out329, .string t_In330, .int .i64 n_Read331, .int .i64 n_Status332, .int .i64 n_Code333]] w312 fun e334 w335 => ∃ b336 : Bool, e334 = .returned (.bool b336) ∧
 brB b336
 (Calls Tryz.prog fn_hollowaybook_Book_Apart #[.pointer (some ⟨b60, 0, none⟩)] w335 fun e337 w338 => ∃ b339 : Bool, e337 = .returned (.bool b339) ∧
 K (.bool b339) w338)
 (K (.bool false) w335))
 (K (.bool false) w312))
 (K (.bool false) w289)))) ∧
 ∃ n_Start148 : Int, ∃ n_End149 : Int, ∃ b_Loop150 : Bool, ∃ s_Steps151 : Sl, w147.cell? ⟨a119, 0, none⟩ = some (.int .i64 n_Start148) ∧ w147.cell? ⟨a119, 1, none⟩ = some (.int .i64 n_End149) ∧ w147.cell? ⟨a119, 2, none⟩ = some (.bool b_Loop150) ∧ w147.cell? ⟨a119, 3, none⟩ = some (s_Steps151.val) ∧
 ∃ n_Start152 : Int, ∃ n_End153 : Int, ∃ b_Loop154 : Bool, ∃ s_Steps155 : Sl, w147.cell? ⟨b145, 0, none⟩ = some (.int .i64 n_Start152) ∧ w147.cell? ⟨b145, 1, none⟩ = some (.int .i64 n_End153) ∧ w147.cell? ⟨b145, 2, none⟩ = some (.bool b_Loop154) ∧ w147.cell? ⟨b145, 3, none⟩ = some (s_Steps155.val) ∧
 Calls Tryz.prog fn_hollowaylaw13_same #[.agg #[.int .i64 n_Start148, .int .i64 n_End149, .bool b_Loop150, s_Steps151.val], .agg #[.int .i64 n_Start152, .int .i64 n_End153, .bool b_Loop154, s_Steps155.val]] w147 fun e156 w157 => ∃ b158 : Bool, e156 = .returned (.bool b158) ∧
 brB (!b158)
 (J12 true w157)
 (∃ n_Start159 : Int, ∃ n_End160 : Int, ∃ b_Loop161 : Bool, ∃ s_Steps162 : Sl, w157.cell? ⟨b120, 0, none⟩ = some (.int .i64 n_Start159) ∧ w157.cell? ⟨b120, 1, none⟩ = some (.int .i64 n_End160) ∧ w157.cell? ⟨b120, 2, none⟩ = some (.bool b_Loop161) ∧ w157.cell? ⟨b120, 3, none⟩ = some (s_Steps162.val) ∧
 ∃ n_Start163 : Int, ∃ n_End164 : Int, ∃ b_Loop165 : Bool, ∃ s_Steps166 : Sl, w157.cell? ⟨b145, 0, none⟩ = some (.int .i64 n_Start163) ∧ w157.cell? ⟨b145, 1, none⟩ = some (.int .i64 n_End164) ∧ w157.cell? ⟨b145, 2, none⟩ = some (.bool b_Loop165) ∧ w157.cell? ⟨b145, 3, none⟩ = some (s_Steps166.val) ∧
 Calls Tryz.prog fn_hollowaylaw13_same #[.agg #[.int .i64 n_Start159, .int .i64 n_End160, .bool b_Loop161, s_Steps162.val], .agg #[.int .i64 n_Start163, .int .i64 n_End164, .bool b_Loop165, s_Steps166.val]] w157 fun e167 w168 => ∃ b169 : Bool, e167 = .returned (.bool b169) ∧
 brB (!b169)
 (J12 true w168)
 (∃ n170 : Int, w168.cell? ⟨b12, 0, none⟩ = some (.int .i64 n170) ∧
 brB (decide (n170 ≥ (0 : Int)))
 (∃ n171 : Int, w168.cell? ⟨b12, 0, none⟩ = some (.int .i64 n171) ∧
 brB (decide (n171 < (3000 : Int)))
 (∃ n_Start172 : Int, ∃ n_End173 : Int, ∃ b_Loop174 : Bool, ∃ s_Steps175 : Sl, w168.cell? ⟨a119, 0, none⟩ = some (.int .i64 n_Start172) ∧ w168.cell? ⟨a119, 1, none⟩ = some (.int .i64 n_End173) ∧ w168.cell? ⟨a119, 2, none⟩ = some (.bool b_Loop174) ∧ w168.cell? ⟨a119, 3, none⟩ = some (s_Steps175.val) ∧
 Calls Tryz.prog fn_record_Right #[.agg #[.int .i64 n_Start172, .int .i64 n_End173, .bool b_Loop174, s_Steps175.val]] w168 fun e176 w177 => ∃ b178 : Bool, e176 = .returned (.bool b178) ∧
 J12 (!b178) w177)
 (J12 false w168))
 (J12 false w168))))) ∧
 ∃ n_Ip14 : Int, ∃ n_Handler15 : Int, ∃ s_Stack16 : Sl, ∃ s_Back17 : Sl, ∃ s_Mem18 : Sl, ∃ t_Out19 : ByteArray, ∃ t_In20 : ByteArray, ∃ n_Read21 : Int, ∃ n_Status22 : Int, ∃ n_Code23 : Int, w13.cell? ⟨b12, 0, none⟩ = some (.int .i64 n_Ip14) ∧ w13.cell? ⟨b12, 1, none⟩ = some (.int .i64 n_Handler15) ∧ w13.cell? ⟨b12, 2, none⟩ = some (s_Stack16.val) ∧ w13.cell? ⟨b12, 3, none⟩ = some (s_Back17.val) ∧ w13.cell? ⟨b12, 4, none⟩ = some (s_Mem18.val) ∧ w13.cell? ⟨b12, 5, none⟩ = some (.string t_Out19) ∧ w13.cell? ⟨b12, 6, none⟩ = some (.string t_In20) ∧ w13.cell? ⟨b12, 7, none⟩ = some (.int .i64 n_Read21) ∧ w13.cell? ⟨b12, 8, none⟩ = some (.int .i64 n_Status22) ∧ w13.cell? ⟨b12, 9, none⟩ = some (.int .i64 n_Code23) ∧
 Calls Tryz.prog fn_hollowaylaw9_Light #[.agg #[.int .i64 n_Ip14, .int .i64 n_Handler15, s_Stack16.val, s_Back17.val, s_Mem18.val, .string t_Out19, .string t_In20, .int .i64 n_Read21, .int .i64 n_Status22, .int .i64 n_Code23]] w13 fun e24 w25 => ∃ b26 : Bool, e24 = .returned (.bool b26) ∧
 brB (!b26)
 (J3 true w25)
 (Calls Tryz.prog fn_hollowaylaw13_alive #[] w25 fun e27 w28 => ∃ b29 : Bool, e27 = .returned (.bool b29) ∧
 J3 (!b29) w28)
def hollowaylaw13_RecordTells_an : An := ⟨[(16, [(13, .int .i64)])], [(5, (8, .st 0 (.st 1 (.st 3 (.st 4 (.log [(2, true, [.int .i64, .int .i64, .bool, .sl]), (5, true, [.int .i64, .int .i64, .bool, .sl]), (6, false, [.blk]), (7, false, [.blk])] (.done))))), 1)), (11, (3, .st 0 (.st 2 (.ef 1 .done)), 1))], [(2, [(21, .bool)]), (10, [(68, .bool)])]⟩
theorem hollowaylaw13_RecordTells_lift {s__Ip1 : Int} {s__Handler2 : Int} {s__Stack3 : Sl} {s__Back4 : Sl} {s__Mem5 : Sl} {s__Out6 : ByteArray} {s__In7 : ByteArray} {s__Read8 : Int} {s__Status9 : Int} {s__Code10 : Int} {most11 : Int} {w : World} {K : Value → World → Prop} (h : hollowaylaw13_RecordTells_sh s__Ip1 s__Handler2 s__Stack3 s__Back4 s__Mem5 s__Out6 s__In7 s__Read8 s__Status9 s__Code10 most11 w K) : Calls Tryz.prog fn_hollowaylaw13_RecordTells #[.agg #[.int .i64 s__Ip1, .int .i64 s__Handler2, s__Stack3.val, s__Back4.val, s__Mem5.val, .string s__Out6, .string s__In7, .int .i64 s__Read8, .int .i64 s__Status9, .int .i64 s__Code10], .int .i64 most11] w fun e w' => ∃ v, e = .returned v ∧ K v w' :=
   lift_calls (A := hollowaylaw13_RecordTells_an) (c := bodyOf Tryz.f7) (args := [.agg #[.int .i64 s__Ip1, .int .i64 s__Handler2, s__Stack3.val, s__Back4.val, s__Mem5.val, .string s__Out6, .string s__In7, .int .i64 s__Read8, .int .i64 s__Status9, .int .i64 s__Code10], .int .i64 most11]) orc orc_wide Tryz.func7 (by kernel_rfl) (by kernel_rfl) (Eq.mp (by kernel_rfl : hollowaylaw13_RecordTells_sh s__Ip1 s__Handler2 s__Stack3 s__Back4 s__Mem5 s__Out6 s__In7 s__Read8 s__Status9 s__Code10 most11 w K = wpc orc Tryz.f7.ntmps hollowaylaw13_RecordTells_an (bodyOf Tryz.f7) (argl 0 [.agg #[.int .i64 s__Ip1, .int .i64 s__Handler2, s__Stack3.val, s__Back4.val, s__Mem5.val, .string s__Out6, .string s__In7, .int .i64 s__Read8, .int .i64 s__Status9, .int .i64 s__Code10], .int .i64 most11]) w (retQ orc Tryz.f7.results.toList K)) h)

-- holloway/hollowaylaw13.alive
def hollowaylaw13_alive_sh  (w : World) (K : Value → World → Prop) : Prop :=
 Calls Tryz.prog fn_hollowayref9_Boot #[.int .i64 (300 : Int), .string (bs [])] w fun e1 w2 => ∃ n_Ip3 : Int, ∃ n_Handler4 : Int, ∃ s_Stack5 : Sl, ∃ s_Back6 : Sl, ∃ s_Mem7 : Sl, ∃ t_Out8 : ByteArray, ∃ t_In9 : ByteArray, ∃ n_Read10 : Int, ∃ n_Status11 : Int, ∃ n_Code12 : Int, e1 = .returned (.agg #[.int .i64 n_Ip3, .int .i64 n_Handler4, s_Stack5.val, s_Back6.val, s_Mem7.val, .string t_Out8, .string t_In9, .int .i64 n_Read10, .int .i64 n_Status11, .int .i64 n_Code12]) ∧
 Calls Tryz.prog fn_hollowayref9_Enter #[.agg #[.int .i64 n_Ip3, .int .i64 n_Handler4, s_Stack5.val, s_Back6.val, s_Mem7.val, .string t_Out8, .string t_In9, .int .i64 n_Read10, .int .i64 n_Status11, .int .i64 n_Code12], .int .i64 (200 : Int)] w2 fun e13 w14 => ∃ n_Ip15 : Int, ∃ n_Handler16 : Int, ∃ s_Stack17 : Sl, ∃ s_Back18 : Sl, ∃ s_Mem19 : Sl, ∃ t_Out20 : ByteArray, ∃ t_In21 : ByteArray, ∃ n_Read22 : Int, ∃ n_Status23 : Int, ∃ n_Code24 : Int, e13 = .returned (.agg #[.int .i64 n_Ip15, .int .i64 n_Handler16, s_Stack17.val, s_Back18.val, s_Mem19.val, .string t_Out20, .string t_In21, .int .i64 n_Read22, .int .i64 n_Status23, .int .i64 n_Code24]) ∧
 ∀ (b25 : Nat) (w26 : World), b25 = w14.heap.size → w26 = World.alloc w14 (.cells #[.int .i64 (0 : Int), .int .i64 (0 : Int), .slice none 0 0, .slice none 0 0, .slice none 0 0, .string (bs []), .string (bs []), .int .i64 (0 : Int), .int .i64 (0 : Int), .int .i64 (0 : Int)] T_api_State) →
 wrOk w26 ⟨b25, 0, none⟩ 10 ∧ ∀ w27 : World, w27 = stW w26 ⟨b25, 0, none⟩ 0 [.int .i64 n_Ip15, .int .i64 n_Handler16, s_Stack17.val, s_Back18.val, s_Mem19.val, .string t_Out20, .string t_In21, .int .i64 n_Read22, .int .i64 n_Status23, .int .i64 n_Code24] →
 ∀ w28 : World, w28 = World.drew w27 →
 ∃ S29 : World → Prop, S29 w28 ∧
 ∃ s30 : Sl, held S29 ⟨b25, 4, none⟩ (s30.val) ∧
 ∃ s31 : Sl, held S29 ⟨b25, 4, none⟩ (s31.val) ∧
 ∃ s32 : Sl, held S29 ⟨b25, 4, none⟩ (s32.val) ∧
 ∃ s33 : Sl, held S29 ⟨b25, 4, none⟩ (s33.val) ∧
 ∃ a34 : Addr, s30.ptr = some a34 ∧ 0 ≤ (200 : Int) ∧ (200 : Int) < (s30.len : Int) ∧
 wrOk w28 (Addr.add a34 (Int.toNat (200 : Int) * 1)) 1 ∧ ∀ w35 : World, w35 = stW w28 (Addr.add a34 (Int.toNat (200 : Int) * 1)) 0 [.int .i64 (6 : Int)] →
 S29 w35 ∧
 ∃ a36 : Addr, s31.ptr = some a36 ∧ 0 ≤ (201 : Int) ∧ (201 : Int) < (s31.len : Int) ∧
 wrOk w35 (Addr.add a36 (Int.toNat (201 : Int) * 1)) 1 ∧ ∀ w37 : World, w37 = stW w35 (Addr.add a36 (Int.toNat (201 : Int) * 1)) 0 [.int .i64 (7 : Int)] →
 S29 w37 ∧
 ∃ a38 : Addr, s32.ptr = some a38 ∧ 0 ≤ (202 : Int) ∧ (202 : Int) < (s32.len : Int) ∧
 wrOk w37 (Addr.add a38 (Int.toNat (202 : Int) * 1)) 1 ∧ ∀ w39 : World, w39 = stW w37 (Addr.add a38 (Int.toNat (202 : Int) * 1)) 0 [.int .i64 (3 : Int)] →
 S29 w39 ∧
 ∃ a40 : Addr, s33.ptr = some a40 ∧ 0 ≤ (203 : Int) ∧ (203 : Int) < (s33.len : Int) ∧
 wrOk w39 (Addr.add a40 (Int.toNat (203 : Int) * 1)) 1 ∧ ∀ w41 : World, w41 = stW w39 (Addr.add a40 (Int.toNat (203 : Int) * 1)) 0 [.int .i64 (200 : Int)] →
 ∀ (b42 : Nat) (w43 : World), b42 = w41.heap.size → w43 = World.alloc w41 (.cells #[.int .i64 (1 : Int)] T_int) →
 wrOk w43 ⟨b25, 2, none⟩ 1 ∧ ∀ w44 : World, w44 = stW w43 ⟨b25, 2, none⟩ 0 [.slice (some ⟨b42, 0, none⟩) 1 1] →
 ∃ n_Ip45 : Int, ∃ n_Handler46 : Int, ∃ s_Stack47 : Sl, ∃ s_Back48 : Sl, ∃ s_Mem49 : Sl, ∃ t_Out50 : ByteArray, ∃ t_In51 : ByteArray, ∃ n_Read52 : Int, ∃ n_Status53 : Int, ∃ n_Code54 : Int, w44.cell? ⟨b25, 0, none⟩ = some (.int .i64 n_Ip45) ∧ w44.cell? ⟨b25, 1, none⟩ = some (.int .i64 n_Handler46) ∧ w44.cell? ⟨b25, 2, none⟩ = some (s_Stack47.val) ∧ w44.cell? ⟨b25, 3, none⟩ = some (s_Back48.val) ∧ w44.cell? ⟨b25, 4, none⟩ = some (s_Mem49.val) ∧ w44.cell? ⟨b25, 5, none⟩ = some (.string t_Out50) ∧ w44.cell? ⟨b25, 6, none⟩ = some (.string t_In51) ∧ w44.cell? ⟨b25, 7, none⟩ = some (.int .i64 n_Read52) ∧ w44.cell? ⟨b25, 8, none⟩ = some (.int .i64 n_Status53) ∧ w44.cell? ⟨b25, 9, none⟩ = some (.int .i64 n_Code54) ∧
 Calls Tryz.prog fn_record_Loop #[.agg #[.int .i64 n_Ip45, .int .i64 n_Handler46, s_Stack47.val, s_Back48.val, s_Mem49.val, .string t_Out50, .string t_In51, .int .i64 n_Read52, .int .i64 n_Status53, .int .i64 n_Code54], .int .i64 (9 : Int)] w44 fun e55 w56 => ∃ n_Start57 : Int, ∃ n_End58 : Int, ∃ b_Loop59 : Bool, ∃ s_Steps60 : Sl, e55 = .returned (.agg #[.int .i64 n_Start57, .int .i64 n_End58, .bool b_Loop59, s_Steps60.val]) ∧
 ∀ (b61 : Nat) (w62 : World), b61 = w56.heap.size → w62 = World.alloc w56 (.cells #[.int .i64 (0 : Int), .int .i64 (0 : Int), .bool false, .slice none 0 0] T_api_Recording) →
 wrOk w62 ⟨b61, 0, none⟩ 4 ∧ ∀ w63 : World, w63 = stW w62 ⟨b61, 0, none⟩ 0 [.int .i64 n_Start57, .int .i64 n_End58, .bool b_Loop59, s_Steps60.val] →
 ∃ b64 : Bool, w63.cell? ⟨b61, 2, none⟩ = some (.bool b64) ∧
 brB b64
 (∃ s65 : Sl, w63.cell? ⟨b61, 3, none⟩ = some (s65.val) ∧
 brB ((s65.len : Int) == (3 : Int))
 (∃ n66 : Int, w63.cell? ⟨b61, 0, none⟩ = some (.int .i64 n66) ∧
 brB (n66 == (200 : Int))
 (∃ n67 : Int, w63.cell? ⟨b61, 1, none⟩ = some (.int .i64 n67) ∧
 brB (n67 == (200 : Int))
 (∃ s68 : Sl, w63.cell? ⟨b61, 3, none⟩ = some (s68.val) ∧
 ∃ a69 : Addr, s68.ptr = some a69 ∧ 0 ≤ (2 : Int) ∧ (2 : Int) < (s68.len : Int) ∧
 ∃ n_Ip70 : Int, ∃ n_Cell71 : Int, ∃ n_Arg72 : Int, ∃ n_Next73 : Int, w63.cell? (Addr.add a69 (Int.toNat (2 : Int) * 4)) = some (.int .i64 n_Ip70) ∧ w63.cell? (Addr.add (Addr.add a69 (Int.toNat (2 : Int) * 4)) 1) = some (.int .i64 n_Cell71) ∧ w63.cell? (Addr.add (Addr.add a69 (Int.toNat (2 : Int) * 4)) 2) = some (.int .i64 n_Arg72) ∧ w63.cell? (Addr.add (Addr.add a69 (Int.toNat (2 : Int) * 4)) 3) = some (.int .i64 n_Next73) ∧
 ∃ b74 : Bool, ∃ w75 : World, ((do eqGuard .eql T_api_Seen (.tmp 43) (.tmp 44) (.agg #[.int .i64 n_Ip70, .int .i64 n_Cell71, .int .i64 n_Arg72, .int .i64 n_Next73]) (.agg #[.int .i64 (202 : Int), .int .i64 (3 : Int), .int .i64 (200 : Int), .int .i64 (200 : Int)]); binOp .eql T_api_Seen (.agg #[.int .i64 n_Ip70, .int .i64 n_Cell71, .int .i64 n_Arg72, .int .i64 n_Next73]) (.agg #[.int .i64 (202 : Int), .int .i64 (3 : Int), .int .i64 (200 : Int), .int .i64 (200 : Int)]) : Sem Value)).run Tryz.prog w63 = .ok (.bool b74) w75 ∧
 brB b74
 (∃ n_Start76 : Int, ∃ n_End77 : Int, ∃ b_Loop78 : Bool, ∃ s_Steps79 : Sl, w75.cell? ⟨b61, 0, none⟩ = some (.int .i64 n_Start76) ∧ w75.cell? ⟨b61, 1, none⟩ = some (.int .i64 n_End77) ∧ w75.cell? ⟨b61, 2, none⟩ = some (.bool b_Loop78) ∧ w75.cell? ⟨b61, 3, none⟩ = some (s_Steps79.val) ∧
 Calls Tryz.prog fn_record_Right #[.agg #[.int .i64 n_Start76, .int .i64 n_End77, .bool b_Loop78, s_Steps79.val]] w75 fun e80 w81 => ∃ b82 : Bool, e80 = .returned (.bool b82) ∧
 K (.bool b82) w81)
 (K (.bool false) w75))
 (K (.bool false) w63))
 (K (.bool false) w63))
 (K (.bool false) w63))
 (K (.bool false) w63)
def hollowaylaw13_alive_an : An := ⟨[], [(2, (14, .st 0 (.st 1 (.st 2 (.st 3 (.st 4 (.st 5 (.st 6 (.st 7 (.st 8 (.ef 9 (.st 10 (.ef 11 (.st 12 (.ef 13 .done))))))))))))), 1))], []⟩
theorem hollowaylaw13_alive_lift  {w : World} {K : Value → World → Prop} (h : hollowaylaw13_alive_sh  w K) : Calls Tryz.prog fn_hollowaylaw13_alive #[] w fun e w' => ∃ v, e = .returned v ∧ K v w' :=
   lift_calls (A := hollowaylaw13_alive_an) (c := bodyOf Tryz.f28) (args := []) orc orc_wide Tryz.func28 (by kernel_rfl) (by kernel_rfl) (Eq.mp (by kernel_rfl : hollowaylaw13_alive_sh  w K = wpc orc Tryz.f28.ntmps hollowaylaw13_alive_an (bodyOf Tryz.f28) (argl 0 []) w (retQ orc Tryz.f28.results.toList K)) h)

-- holloway/hollowaylaw13.same
def hollowaylaw13_same_sh (a__Start1 : Int) (a__End2 : Int) (a__Loop3 : Bool) (a__Steps4 : Sl) (b__Start5 : Int) (b__End6 : Int) (b__Loop7 : Bool) (b__Steps8 : Sl) (w : World) (K : Value → World → Prop) : Prop :=
 ∀ (b9 : Nat) (w10 : World), b9 = w.heap.size → w10 = World.alloc w (.cells #[.int .i64 a__Start1, .int .i64 a__End2, .bool a__Loop3, a__Steps4.val] T_api_Recording) →
 ∀ (b11 : Nat) (w12 : World), b11 = w10.heap.size → w12 = World.alloc w10 (.cells #[.int .i64 b__Start5, .int .i64 b__End6, .bool b__Loop7, b__Steps8.val] T_api_Recording) →
 ∃ n13 : Int, w12.cell? ⟨b9, 0, none⟩ = some (.int .i64 n13) ∧
 ∃ n14 : Int, w12.cell? ⟨b11, 0, none⟩ = some (.int .i64 n14) ∧
 brB (n13 == n14)
 (∃ n15 : Int, w12.cell? ⟨b9, 1, none⟩ = some (.int .i64 n15) ∧
 ∃ n16 : Int, w12.cell? ⟨b11, 1, none⟩ = some (.int .i64 n16) ∧
 brB (n15 == n16)
 (∃ b17 : Bool, w12.cell? ⟨b9, 2, none⟩ = some (.bool b17) ∧
 ∃ b18 : Bool, w12.cell? ⟨b11, 2, none⟩ = some (.bool b18) ∧
 brB (b17 == b18)
 (∃ s19 : Sl, w12.cell? ⟨b9, 3, none⟩ = some (s19.val) ∧
 ∃ s20 : Sl, w12.cell? ⟨b11, 3, none⟩ = some (s20.val) ∧
 Calls Tryz.prog fn_hollowaybook_SameSeens #[s19.val, s20.val] w12 fun e21 w22 => ∃ b23 : Bool, e21 = .returned (.bool b23) ∧
 K (.bool b23) w22)
 (K (.bool false) w12))
 (K (.bool false) w12))
 (K (.bool false) w12)
def hollowaylaw13_same_an : An := ⟨[], [], []⟩
theorem hollowaylaw13_same_lift {a__Start1 : Int} {a__End2 : Int} {a__Loop3 : Bool} {a__Steps4 : Sl} {b__Start5 : Int} {b__End6 : Int} {b__Loop7 : Bool} {b__Steps8 : Sl} {w : World} {K : Value → World → Prop} (h : hollowaylaw13_same_sh a__Start1 a__End2 a__Loop3 a__Steps4 b__Start5 b__End6 b__Loop7 b__Steps8 w K) : Calls Tryz.prog fn_hollowaylaw13_same #[.agg #[.int .i64 a__Start1, .int .i64 a__End2, .bool a__Loop3, a__Steps4.val], .agg #[.int .i64 b__Start5, .int .i64 b__End6, .bool b__Loop7, b__Steps8.val]] w fun e w' => ∃ v, e = .returned v ∧ K v w' :=
   lift_calls (A := hollowaylaw13_same_an) (c := bodyOf Tryz.f35) (args := [.agg #[.int .i64 a__Start1, .int .i64 a__End2, .bool a__Loop3, a__Steps4.val], .agg #[.int .i64 b__Start5, .int .i64 b__End6, .bool b__Loop7, b__Steps8.val]]) orc orc_wide Tryz.func35 (by kernel_rfl) (by kernel_rfl) (Eq.mp (by kernel_rfl : hollowaylaw13_same_sh a__Start1 a__End2 a__Loop3 a__Steps4 b__Start5 b__End6 b__Loop7 b__Steps8 w K = wpc orc Tryz.f35.ntmps hollowaylaw13_same_an (bodyOf Tryz.f35) (argl 0 [.agg #[.int .i64 a__Start1, .int .i64 a__End2, .bool a__Loop3, a__Steps4.val], .agg #[.int .i64 b__Start5, .int .i64 b__End6, .bool b__Loop7, b__Steps8.val]]) w (retQ orc Tryz.f35.results.toList K)) h)

end Go.Proofs.YtkjpmkopnkkbmaaGreatDoor
