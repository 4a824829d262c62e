/- The lifted texts of the packages eval and hollowayref15. -/
import Derived.Test.YtblmoilneiffgaaJ4

/- Functions of Eval, read without their frames; that each is enough. Printed by a program of mine (wip/lift/gen.py). -/
set_option maxRecDepth 100000
namespace Go.Proofs.Ytblmoilneiffgaa
open Go.RowKit

-- holloway/eval.Run
-- holloway/eval.May
def eval_May_sh (t__Start1 : Int) (t__Slots2 : Int) (t__Backs3 : Int) (t__Grow4 : Int) (t__GrowBack5 : Int) (t__Ins6 : Sl) (t__Outs7 : Sl) (t__Last8 : Int) (t__Cells9 : Sl) (s__Ip10 : Int) (s__Handler11 : Int) (s__Stack12 : Sl) (s__Back13 : Sl) (s__Mem14 : Sl) (s__Out15 : ByteArray) (s__In16 : ByteArray) (s__Read17 : Int) (s__Status18 : Int) (s__Code19 : Int) (w : World) (K : Value → World → Prop) : Prop :=
 ∀ (b20 : Nat) (w21 : World), b20 = w.heap.size → w21 = World.alloc w (.cells #[.int .i64 t__Start1, .int .i64 t__Slots2, .int .i64 t__Backs3, .int .i64 t__Grow4, .int .i64 t__GrowBack5, t__Ins6.val, t__Outs7.val, .int .i64 t__Last8, t__Cells9.val] T_api_Trace) →
 ∀ (b22 : Nat) (w23 : World), b22 = w21.heap.size → w23 = World.alloc w21 (.cells #[.int .i64 s__Ip10, .int .i64 s__Handler11, s__Stack12.val, s__Back13.val, s__Mem14.val, .string s__Out15, .string s__In16, .int .i64 s__Read17, .int .i64 s__Status18, .int .i64 s__Code19] T_api_State) →
 ∃ J3 : Bool → World → Prop, (∀ (b28 : Bool) (w27 : World), J3 b28 w27 →
 brB b28
 (K (.bool false) w27)
 (∃ J5 : Bool → World → Prop, (∀ (stack34 : Bool) (w33 : World), J5 stack34 w33 →
 brB stack34
 (∃ s35 : Sl, w33.cell? ⟨b22, 3, none⟩ = some (s35.val) ∧
 ∃ n36 : Int, w33.cell? ⟨b20, 2, none⟩ = some (.int .i64 n36) ∧
 brB (decide ((s35.len : Int) ≥ n36))
 (∃ s37 : Sl, w33.cell? ⟨b22, 3, none⟩ = some (s37.val) ∧
 ∃ n38 : Int, w33.cell? ⟨b20, 4, none⟩ = some (.int .i64 n38) ∧
 K (.bool (decide ((wr ((s37.len : Int) + n38)) ≤ (48 : Int)))) w33)
 (K (.bool false) w33))
 (K (.bool false) w33)) ∧
 ∃ s29 : Sl, w27.cell? ⟨b22, 2, none⟩ = some (s29.val) ∧
 ∃ n30 : Int, w27.cell? ⟨b20, 1, none⟩ = some (.int .i64 n30) ∧
 brB (decide ((s29.len : Int) ≥ n30))
 (∃ s31 : Sl, w27.cell? ⟨b22, 2, none⟩ = some (s31.val) ∧
 ∃ n32 : Int, w27.cell? ⟨b20, 3, none⟩ = some (.int .i64 n32) ∧
 J5 (decide ((wr ((s31.len : Int) + n32)) ≤ (48 : Int))) w27)
 (J5 false w27))) ∧
 ∃ n24 : Int, w23.cell? ⟨b22, 8, none⟩ = some (.int .i64 n24) ∧
 brB (n24 != (0 : Int))
 (J3 true w23)
 (∃ n25 : Int, w23.cell? ⟨b22, 0, none⟩ = some (.int .i64 n25) ∧
 ∃ n26 : Int, w23.cell? ⟨b20, 0, none⟩ = some (.int .i64 n26) ∧
 J3 (n25 != n26) w23)
def eval_May_an : An := ⟨[], [], [(2, [(15, .bool)]), (4, [(5, .bool)])]⟩
theorem eval_May_lift {t__Start1 : Int} {t__Slots2 : Int} {t__Backs3 : Int} {t__Grow4 : Int} {t__GrowBack5 : Int} {t__Ins6 : Sl} {t__Outs7 : Sl} {t__Last8 : Int} {t__Cells9 : Sl} {s__Ip10 : Int} {s__Handler11 : Int} {s__Stack12 : Sl} {s__Back13 : Sl} {s__Mem14 : Sl} {s__Out15 : ByteArray} {s__In16 : ByteArray} {s__Read17 : Int} {s__Status18 : Int} {s__Code19 : Int} {w : World} {K : Value → World → Prop} (h : eval_May_sh t__Start1 t__Slots2 t__Backs3 t__Grow4 t__GrowBack5 t__Ins6 t__Outs7 t__Last8 t__Cells9 s__Ip10 s__Handler11 s__Stack12 s__Back13 s__Mem14 s__Out15 s__In16 s__Read17 s__Status18 s__Code19 w K) : Calls Try.prog fn_eval_May #[.agg #[.int .i64 t__Start1, .int .i64 t__Slots2, .int .i64 t__Backs3, .int .i64 t__Grow4, .int .i64 t__GrowBack5, t__Ins6.val, t__Outs7.val, .int .i64 t__Last8, t__Cells9.val], .agg #[.int .i64 s__Ip10, .int .i64 s__Handler11, s__Stack12.val, s__Back13.val, s__Mem14.val, .string s__Out15, .string s__In16, .int .i64 s__Read17, .int .i64 s__Status18, .int .i64 s__Code19]] w fun e w' => ∃ v, e = .returned v ∧ K v w' :=
   lift_calls (A := eval_May_an) (c := bodyOf Try.f23) (args := [.agg #[.int .i64 t__Start1, .int .i64 t__Slots2, .int .i64 t__Backs3, .int .i64 t__Grow4, .int .i64 t__GrowBack5, t__Ins6.val, t__Outs7.val, .int .i64 t__Last8, t__Cells9.val], .agg #[.int .i64 s__Ip10, .int .i64 s__Handler11, s__Stack12.val, s__Back13.val, s__Mem14.val, .string s__Out15, .string s__In16, .int .i64 s__Read17, .int .i64 s__Status18, .int .i64 s__Code19]]) orc orc_wide Try.func23 (by kernel_rfl) (by kernel_rfl) (Eq.mp (by kernel_rfl : eval_May_sh t__Start1 t__Slots2 t__Backs3 t__Grow4 t__GrowBack5 t__Ins6 t__Outs7 t__Last8 t__Cells9 s__Ip10 s__Handler11 s__Stack12 s__Back13 s__Mem14 s__Out15 s__In16 s__Read17 s__Status18 s__Code19 w K = wpc orc Try.f23.ntmps eval_May_an (bodyOf Try.f23) (argl 0 [.agg #[.int .i64 t__Start1, .int .i64 t__Slots2, .int .i64 t__Backs3, .int .i64 t__Grow4, .int .i64 t__GrowBack5, t__Ins6.val, t__Outs7.val, .int .i64 t__Last8, t__Cells9.val], .agg #[.int .i64 s__Ip10, .int .i64 s__Handler11, s__Stack12.val, s__Back13.val, s__Mem14.val, .string s__Out15, .string s__In16, .int .i64 s__Read17, .int .i64 s__Status18, .int .i64 s__Code19]]) w (retQ orc Try.f23.results.toList K)) h)

-- holloway/eval.Through
def eval_Through_sh (t__Start1 : Int) (t__Slots2 : Int) (t__Backs3 : Int) (t__Grow4 : Int) (t__GrowBack5 : Int) (t__Ins6 : Sl) (t__Outs7 : Sl) (t__Last8 : Int) (t__Cells9 : Sl) (s__Ip10 : Int) (s__Handler11 : Int) (s__Stack12 : Sl) (s__Back13 : Sl) (s__Mem14 : Sl) (s__Out15 : ByteArray) (s__In16 : ByteArray) (s__Read17 : Int) (s__Status18 : Int) (s__Code19 : Int) (at_20 : Sl) (n_21 : Int) (watched22 : Sl) (w : World) (K : Value → World → Prop) : Prop :=
 ∀ (b23 : Nat) (w24 : World), b23 = w.heap.size → w24 = World.alloc w (.cells #[.int .i64 t__Start1, .int .i64 t__Slots2, .int .i64 t__Backs3, .int .i64 t__Grow4, .int .i64 t__GrowBack5, t__Ins6.val, t__Outs7.val, .int .i64 t__Last8, t__Cells9.val] T_api_Trace) →
 ∀ (b25 : Nat) (w26 : World), b25 = w24.heap.size → w26 = World.alloc w24 (.cells #[.int .i64 s__Ip10, .int .i64 s__Handler11, s__Stack12.val, s__Back13.val, s__Mem14.val, .string s__Out15, .string s__In16, .int .i64 s__Read17, .int .i64 s__Status18, .int .i64 s__Code19] T_api_State) →
 ∀ (b27 : Nat) (w28 : World), b27 = w26.heap.size → w28 = World.alloc w26 (.cells #[.int .i64 (0 : Int), .int .i64 (0 : Int), .slice none 0 0, .slice none 0 0, .slice none 0 0, .string (bs []), .string (bs []), .int .i64 (0 : Int), .int .i64 (0 : Int), .int .i64 (0 : Int)] T_api_State) →
 ∀ (b29 : Nat) (w30 : World), b29 = w28.heap.size → w30 = World.alloc w28 (.cells #[.int .i64 (0 : Int), .int .i64 (0 : Int), .bool false] T_eval_Done) →
 ∃ n_Ip31 : Int, ∃ n_Handler32 : Int, ∃ s_Stack33 : Sl, ∃ s_Back34 : Sl, ∃ s_Mem35 : Sl, ∃ t_Out36 : ByteArray, ∃ t_In37 : ByteArray, ∃ n_Read38 : Int, ∃ n_Status39 : Int, ∃ n_Code40 : Int, w30.cell? ⟨b25, 0, none⟩ = some (.int .i64 n_Ip31) ∧ w30.cell? ⟨b25, 1, none⟩ = some (.int .i64 n_Handler32) ∧ w30.cell? ⟨b25, 2, none⟩ = some (s_Stack33.val) ∧ w30.cell? ⟨b25, 3, none⟩ = some (s_Back34.val) ∧ w30.cell? ⟨b25, 4, none⟩ = some (s_Mem35.val) ∧ w30.cell? ⟨b25, 5, none⟩ = some (.string t_Out36) ∧ w30.cell? ⟨b25, 6, none⟩ = some (.string t_In37) ∧ w30.cell? ⟨b25, 7, none⟩ = some (.int .i64 n_Read38) ∧ w30.cell? ⟨b25, 8, none⟩ = some (.int .i64 n_Status39) ∧ w30.cell? ⟨b25, 9, none⟩ = some (.int .i64 n_Code40) ∧
 Calls Try.prog fn_inner_Copy #[.agg #[.int .i64 n_Ip31, .int .i64 n_Handler32, s_Stack33.val, s_Back34.val, s_Mem35.val, .string t_Out36, .string t_In37, .int .i64 n_Read38, .int .i64 n_Status39, .int .i64 n_Code40]] w30 fun e41 w42 => ∃ n_Ip43 : Int, ∃ n_Handler44 : Int, ∃ s_Stack45 : Sl, ∃ s_Back46 : Sl, ∃ s_Mem47 : Sl, ∃ t_Out48 : ByteArray, ∃ t_In49 : ByteArray, ∃ n_Read50 : Int, ∃ n_Status51 : Int, ∃ n_Code52 : Int, e41 = .returned (.agg #[.int .i64 n_Ip43, .int .i64 n_Handler44, s_Stack45.val, s_Back46.val, s_Mem47.val, .string t_Out48, .string t_In49, .int .i64 n_Read50, .int .i64 n_Status51, .int .i64 n_Code52]) ∧
 wrOk w42 ⟨b25, 0, none⟩ 10 ∧ ∀ w53 : World, w53 = stW w42 ⟨b25, 0, none⟩ 0 [.int .i64 n_Ip43, .int .i64 n_Handler44, s_Stack45.val, s_Back46.val, s_Mem47.val, .string t_Out48, .string t_In49, .int .i64 n_Read50, .int .i64 n_Status51, .int .i64 n_Code52] →
 ∃ n_Start54 : Int, ∃ n_Slots55 : Int, ∃ n_Backs56 : Int, ∃ n_Grow57 : Int, ∃ n_GrowBack58 : Int, ∃ s_Ins59 : Sl, ∃ s_Outs60 : Sl, ∃ n_Last61 : Int, ∃ s_Cells62 : Sl, w53.cell? ⟨b23, 0, none⟩ = some (.int .i64 n_Start54) ∧ w53.cell? ⟨b23, 1, none⟩ = some (.int .i64 n_Slots55) ∧ w53.cell? ⟨b23, 2, none⟩ = some (.int .i64 n_Backs56) ∧ w53.cell? ⟨b23, 3, none⟩ = some (.int .i64 n_Grow57) ∧ w53.cell? ⟨b23, 4, none⟩ = some (.int .i64 n_GrowBack58) ∧ w53.cell? ⟨b23, 5, none⟩ = some (s_Ins59.val) ∧ w53.cell? ⟨b23, 6, none⟩ = some (s_Outs60.val) ∧ w53.cell? ⟨b23, 7, none⟩ = some (.int .i64 n_Last61) ∧ w53.cell? ⟨b23, 8, none⟩ = some (s_Cells62.val) ∧
 ∃ n_Ip63 : Int, ∃ n_Handler64 : Int, ∃ s_Stack65 : Sl, ∃ s_Back66 : Sl, ∃ s_Mem67 : Sl, ∃ t_Out68 : ByteArray, ∃ t_In69 : ByteArray, ∃ n_Read70 : Int, ∃ n_Status71 : Int, ∃ n_Code72 : Int, w53.cell? ⟨b25, 0, none⟩ = some (.int .i64 n_Ip63) ∧ w53.cell? ⟨b25, 1, none⟩ = some (.int .i64 n_Handler64) ∧ w53.cell? ⟨b25, 2, none⟩ = some (s_Stack65.val) ∧ w53.cell? ⟨b25, 3, none⟩ = some (s_Back66.val) ∧ w53.cell? ⟨b25, 4, none⟩ = some (s_Mem67.val) ∧ w53.cell? ⟨b25, 5, none⟩ = some (.string t_Out68) ∧ w53.cell? ⟨b25, 6, none⟩ = some (.string t_In69) ∧ w53.cell? ⟨b25, 7, none⟩ = some (.int .i64 n_Read70) ∧ w53.cell? ⟨b25, 8, none⟩ = some (.int .i64 n_Status71) ∧ w53.cell? ⟨b25, 9, none⟩ = some (.int .i64 n_Code72) ∧
 Calls Try.prog fn_eval_May #[.agg #[.int .i64 n_Start54, .int .i64 n_Slots55, .int .i64 n_Backs56, .int .i64 n_Grow57, .int .i64 n_GrowBack58, s_Ins59.val, s_Outs60.val, .int .i64 n_Last61, s_Cells62.val], .agg #[.int .i64 n_Ip63, .int .i64 n_Handler64, s_Stack65.val, s_Back66.val, s_Mem67.val, .string t_Out68, .string t_In69, .int .i64 n_Read70, .int .i64 n_Status71, .int .i64 n_Code72]] w53 fun e73 w74 => ∃ b75 : Bool, e73 = .returned (.bool b75) ∧
 brB (!b75)
 (∃ n_Ip76 : Int, ∃ n_Handler77 : Int, ∃ s_Stack78 : Sl, ∃ s_Back79 : Sl, ∃ s_Mem80 : Sl, ∃ t_Out81 : ByteArray, ∃ t_In82 : ByteArray, ∃ n_Read83 : Int, ∃ n_Status84 : Int, ∃ n_Code85 : Int, w74.cell? ⟨b25, 0, none⟩ = some (.int .i64 n_Ip76) ∧ w74.cell? ⟨b25, 1, none⟩ = some (.int .i64 n_Handler77) ∧ w74.cell? ⟨b25, 2, none⟩ = some (s_Stack78.val) ∧ w74.cell? ⟨b25, 3, none⟩ = some (s_Back79.val) ∧ w74.cell? ⟨b25, 4, none⟩ = some (s_Mem80.val) ∧ w74.cell? ⟨b25, 5, none⟩ = some (.string t_Out81) ∧ w74.cell? ⟨b25, 6, none⟩ = some (.string t_In82) ∧ w74.cell? ⟨b25, 7, none⟩ = some (.int .i64 n_Read83) ∧ w74.cell? ⟨b25, 8, none⟩ = some (.int .i64 n_Status84) ∧ w74.cell? ⟨b25, 9, none⟩ = some (.int .i64 n_Code85) ∧
 wrOk w74 ⟨b27, 0, none⟩ 10 ∧ ∀ w86 : World, w86 = stW w74 ⟨b27, 0, none⟩ 0 [.int .i64 n_Ip76, .int .i64 n_Handler77, s_Stack78.val, s_Back79.val, s_Mem80.val, .string t_Out81, .string t_In82, .int .i64 n_Read83, .int .i64 n_Status84, .int .i64 n_Code85] →
 wrOk w86 ⟨b29, 0, none⟩ 3 ∧ ∀ w87 : World, w87 = stW w86 ⟨b29, 0, none⟩ 0 [.int .i64 (-1 : Int), .int .i64 (0 : Int), .bool false] →
 ∃ r_Ip88 : Int, ∃ r_Handler89 : Int, ∃ r_Stack90 : Sl, ∃ r_Back91 : Sl, ∃ r_Mem92 : Sl, ∃ r_Out93 : ByteArray, ∃ r_In94 : ByteArray, ∃ r_Read95 : Int, ∃ r_Status96 : Int, ∃ r_Code97 : Int, w87.cell? ⟨b27, 0, none⟩ = some (.int .i64 r_Ip88) ∧ w87.cell? ⟨b27, 1, none⟩ = some (.int .i64 r_Handler89) ∧ w87.cell? ⟨b27, 2, none⟩ = some (r_Stack90.val) ∧ w87.cell? ⟨b27, 3, none⟩ = some (r_Back91.val) ∧ w87.cell? ⟨b27, 4, none⟩ = some (r_Mem92.val) ∧ w87.cell? ⟨b27, 5, none⟩ = some (.string r_Out93) ∧ w87.cell? ⟨b27, 6, none⟩ = some (.string r_In94) ∧ w87.cell? ⟨b27, 7, none⟩ = some (.int .i64 r_Read95) ∧ w87.cell? ⟨b27, 8, none⟩ = some (.int .i64 r_Status96) ∧ w87.cell? ⟨b27, 9, none⟩ = some (.int .i64 r_Code97) ∧
 ∃ r_Exit98 : Int, ∃ r_Steps99 : Int, ∃ r_Hit100 : Bool, w87.cell? ⟨b29, 0, none⟩ = some (.int .i64 r_Exit98) ∧ w87.cell? ⟨b29, 1, none⟩ = some (.int .i64 r_Steps99) ∧ w87.cell? ⟨b29, 2, none⟩ = some (.bool r_Hit100) ∧
 K (.tuple #[.agg #[.int .i64 r_Ip88, .int .i64 r_Handler89, r_Stack90.val, r_Back91.val, r_Mem92.val, .string r_Out93, .string r_In94, .int .i64 r_Read95, .int .i64 r_Status96, .int .i64 r_Code97], .agg #[.int .i64 r_Exit98, .int .i64 r_Steps99, .bool r_Hit100], .int .i64 (-1 : Int)]) w87)
 (∀ w101 : World, w101 = World.drew w74 →
 ∃ S102 : World → Prop, S102 w101 ∧
 ∃ n_Start103 : Int, ∃ n_Slots104 : Int, ∃ n_Backs105 : Int, ∃ n_Grow106 : Int, ∃ n_GrowBack107 : Int, ∃ s_Ins108 : Sl, ∃ s_Outs109 : Sl, ∃ n_Last110 : Int, ∃ s_Cells111 : Sl, held S102 ⟨b23, 0, none⟩ (.int .i64 n_Start103) ∧ held S102 ⟨b23, 1, none⟩ (.int .i64 n_Slots104) ∧ held S102 ⟨b23, 2, none⟩ (.int .i64 n_Backs105) ∧ held S102 ⟨b23, 3, none⟩ (.int .i64 n_Grow106) ∧ held S102 ⟨b23, 4, none⟩ (.int .i64 n_GrowBack107) ∧ held S102 ⟨b23, 5, none⟩ (s_Ins108.val) ∧ held S102 ⟨b23, 6, none⟩ (s_Outs109.val) ∧ held S102 ⟨b23, 7, none⟩ (.int .i64 n_Last110) ∧ held S102 ⟨b23, 8, none⟩ (s_Cells111.val) ∧
 ∃ n_Ip112 : Int, ∃ n_Handler113 : Int, ∃ s_Stack114 : Sl, ∃ s_Back115 : Sl, ∃ s_Mem116 : Sl, ∃ t_Out117 : ByteArray, ∃ t_In118 : ByteArray, ∃ n_Read119 : Int, ∃ n_Status120 : Int, ∃ n_Code121 : Int, held S102 ⟨b25, 0, none⟩ (.int .i64 n_Ip112) ∧ held S102 ⟨b25, 1, none⟩ (.int .i64 n_Handler113) ∧ held S102 ⟨b25, 2, none⟩ (s_Stack114.val) ∧ held S102 ⟨b25, 3, none⟩ (s_Back115.val) ∧ held S102 ⟨b25, 4, none⟩ (s_Mem116.val) ∧ held S102 ⟨b25, 5, none⟩ (.string t_Out117) ∧ held S102 ⟨b25, 6, none⟩ (.string t_In118) ∧ held S102 ⟨b25, 7, none⟩ (.int .i64 n_Read119) ∧ held S102 ⟨b25, 8, none⟩ (.int .i64 n_Status120) ∧ held S102 ⟨b25, 9, none⟩ (.int .i64 n_Code121) ∧
 ∃ s122 : Sl, ∃ w123 : World, (Instr.makeSlice T_sl_int (.int .i64 n_21) (.int .i64 n_21)).run Try.prog w101 = .ok s122.val w123 ∧
 S102 w123 ∧
 ∀ (b124 : Nat) (w125 : World), b124 = w123.heap.size → w125 = World.alloc w123 (.cells #[.int .i64 n_Start103, .int .i64 n_Slots104, .int .i64 n_Backs105, .int .i64 n_Grow106, .int .i64 n_GrowBack107, s_Ins108.val, s_Outs109.val, .int .i64 n_Last110, s_Cells111.val, .int .i64 n_Ip112, .int .i64 n_Handler113, s_Stack114.val, s_Back115.val, s_Mem116.val, .string t_Out117, .string t_In118, .int .i64 n_Read119, .int .i64 n_Status120, .int .i64 n_Code121, s122.val, at_20.val, watched22.val, .int .i64 (-1 : Int)] T_eval_engine) →
 ∃ s126 : Sl, w125.cell? ⟨b23, 5, none⟩ = some (s126.val) ∧
 ∃ (I1 : Int → World → Prop) (μ1 : Int → World → Nat), I1 (0 : Int) w125 ∧ ∀ (n128 : Int) (w127 : World), I1 n128 w127 →
 brB (decide (n128 < (s126.len : Int)))
 (∃ a129 : Addr, s126.ptr = some a129 ∧ 0 ≤ n128 ∧ n128 < (s126.len : Int) ∧
 ∃ n_Op130 : Int, ∃ n_A131 : Int, ∃ n_B132 : Int, ∃ n_C133 : Int, ∃ n_X134 : Int, w127.cell? (Addr.add a129 (Int.toNat n128 * 5)) = some (.int .i64 n_Op130) ∧ w127.cell? (Addr.add (Addr.add a129 (Int.toNat n128 * 5)) 1) = some (.int .i64 n_A131) ∧ w127.cell? (Addr.add (Addr.add a129 (Int.toNat n128 * 5)) 2) = some (.int .i64 n_B132) ∧ w127.cell? (Addr.add (Addr.add a129 (Int.toNat n128 * 5)) 3) = some (.int .i64 n_C133) ∧ w127.cell? (Addr.add (Addr.add a129 (Int.toNat n128 * 5)) 4) = some (.int .i64 n_X134) ∧
 ∀ (b135 : Nat) (w136 : World), b135 = w127.heap.size → w136 = World.alloc w127 (.cells #[.int .i64 (0 : Int), .int .i64 (0 : Int), .int .i64 (0 : Int), .int .i64 (0 : Int), .int .i64 (0 : Int)] T_api_Ins) →
 wrOk w136 ⟨b135, 0, none⟩ 5 ∧ ∀ w137 : World, w137 = stW w136 ⟨b135, 0, none⟩ 0 [.int .i64 n_Op130, .int .i64 n_A131, .int .i64 n_B132, .int .i64 n_C133, .int .i64 n_X134] →
 ∃ n_Op138 : Int, ∃ n_A139 : Int, ∃ n_B140 : Int, ∃ n_C141 : Int, ∃ n_X142 : Int, w137.cell? ⟨b135, 0, none⟩ = some (.int .i64 n_Op138) ∧ w137.cell? ⟨b135, 1, none⟩ = some (.int .i64 n_A139) ∧ w137.cell? ⟨b135, 2, none⟩ = some (.int .i64 n_B140) ∧ w137.cell? ⟨b135, 3, none⟩ = some (.int .i64 n_C141) ∧ w137.cell? ⟨b135, 4, none⟩ = some (.int .i64 n_X142) ∧
 Calls Try.prog fn_eval_engine_ins #[.pointer (some ⟨b124, 0, none⟩), .int .i64 n128, .agg #[.int .i64 n_Op138, .int .i64 n_A139, .int .i64 n_B140, .int .i64 n_C141, .int .i64 n_X142]] w137 fun e143 w144 => ∃ n145 : Int, e143 = .returned (.int .i64 n145) ∧
 brB (decide (n145 ≥ (0 : Int)))
 (Calls Try.prog fn_eval_engine_leave #[.pointer (some ⟨b124, 0, none⟩), .int .i64 n145] w144 fun e146 w147 => ∃ n_Ip148 : Int, ∃ n_Handler149 : Int, ∃ s_Stack150 : Sl, ∃ s_Back151 : Sl, ∃ s_Mem152 : Sl, ∃ t_Out153 : ByteArray, ∃ t_In154 : ByteArray, ∃ n_Read155 : Int, ∃ n_Status156 : Int, ∃ n_Code157 : Int, ∃ n_Exit158 : Int, ∃ n_Steps159 : Int, ∃ b_Hit160 : Bool, ∃ n161 : Int, e146 = .returned (.tuple #[.agg #[.int .i64 n_Ip148, .int .i64 n_Handler149, s_Stack150.val, s_Back151.val, s_Mem152.val, .string t_Out153, .string t_In154, .int .i64 n_Read155, .int .i64 n_Status156, .int .i64 n_Code157], .agg #[.int .i64 n_Exit158, .int .i64 n_Steps159, .bool b_Hit160], .int .i64 n161]) ∧
 wrOk w147 ⟨b27, 0, none⟩ 10 ∧ ∀ w162 : World, w162 = stW w147 ⟨b27, 0, none⟩ 0 [.int .i64 n_Ip148, .int .i64 n_Handler149, s_Stack150.val, s_Back151.val, s_Mem152.val, .string t_Out153, .string t_In154, .int .i64 n_Read155, .int .i64 n_Status156, .int .i64 n_Code157] →
 wrOk w162 ⟨b29, 0, none⟩ 3 ∧ ∀ w163 : World, w163 = stW w162 ⟨b29, 0, none⟩ 0 [.int .i64 n_Exit158, .int .i64 n_Steps159, .bool b_Hit160] →
 ∃ r_Ip164 : Int, ∃ r_Handler165 : Int, ∃ r_Stack166 : Sl, ∃ r_Back167 : Sl, ∃ r_Mem168 : Sl, ∃ r_Out169 : ByteArray, ∃ r_In170 : ByteArray, ∃ r_Read171 : Int, ∃ r_Status172 : Int, ∃ r_Code173 : Int, w163.cell? ⟨b27, 0, none⟩ = some (.int .i64 r_Ip164) ∧ w163.cell? ⟨b27, 1, none⟩ = some (.int .i64 r_Handler165) ∧ w163.cell? ⟨b27, 2, none⟩ = some (r_Stack166.val) ∧ w163.cell? ⟨b27, 3, none⟩ = some (r_Back167.val) ∧ w163.cell? ⟨b27, 4, none⟩ = some (r_Mem168.val) ∧ w163.cell? ⟨b27, 5, none⟩ = some (.string r_Out169) ∧ w163.cell? ⟨b27, 6, none⟩ = some (.string r_In170) ∧ w163.cell? ⟨b27, 7, none⟩ = some (.int .i64 r_Read171) ∧ w163.cell? ⟨b27, 8, none⟩ = some (.int .i64 r_Status172) ∧ w163.cell? ⟨b27, 9, none⟩ = some (.int .i64 r_Code173) ∧
 ∃ r_Exit174 : Int, ∃ r_Steps175 : Int, ∃ r_Hit176 : Bool, w163.cell? ⟨b29, 0, none⟩ = some (.int .i64 r_Exit174) ∧ w163.cell? ⟨b29, 1, none⟩ = some (.int .i64 r_Steps175) ∧ w163.cell? ⟨b29, 2, none⟩ = some (.bool r_Hit176) ∧
 K (.tuple #[.agg #[.int .i64 r_Ip164, .int .i64 r_Handler165, r_Stack166.val, r_Back167.val, r_Mem168.val, .string r_Out169, .string r_In170, .int .i64 r_Read171, .int .i64 r_Status172, .int .i64 r_Code173], .agg #[.int .i64 r_Exit174, .int .i64 r_Steps175, .bool r_Hit176], .int .i64 n161]) w163)
 (I1 (wr (n128 + (1 : Int))) w144 ∧ μ1 (wr (n128 + (1 : Int))) w144 < μ1 n128 w127))
 (∃ n177 : Int, w127.cell? ⟨b23, 7, none⟩ = some (.int .i64 n177) ∧
 Calls Try.prog fn_eval_engine_leave #[.pointer (some ⟨b124, 0, none⟩), .int .i64 n177] w127 fun e178 w179 => ∃ n_Ip180 : Int, ∃ n_Handler181 : Int, ∃ s_Stack182 : Sl, ∃ s_Back183 : Sl, ∃ s_Mem184 : Sl, ∃ t_Out185 : ByteArray, ∃ t_In186 : ByteArray, ∃ n_Read187 : Int, ∃ n_Status188 : Int, ∃ n_Code189 : Int, ∃ n_Exit190 : Int, ∃ n_Steps191 : Int, ∃ b_Hit192 : Bool, ∃ n193 : Int, e178 = .returned (.tuple #[.agg #[.int .i64 n_Ip180, .int .i64 n_Handler181, s_Stack182.val, s_Back183.val, s_Mem184.val, .string t_Out185, .string t_In186, .int .i64 n_Read187, .int .i64 n_Status188, .int .i64 n_Code189], .agg #[.int .i64 n_Exit190, .int .i64 n_Steps191, .bool b_Hit192], .int .i64 n193]) ∧
 wrOk w179 ⟨b27, 0, none⟩ 10 ∧ ∀ w194 : World, w194 = stW w179 ⟨b27, 0, none⟩ 0 [.int .i64 n_Ip180, .int .i64 n_Handler181, s_Stack182.val, s_Back183.val, s_Mem184.val, .string t_Out185, .string t_In186, .int .i64 n_Read187, .int .i64 n_Status188, .int .i64 n_Code189] →
 wrOk w194 ⟨b29, 0, none⟩ 3 ∧ ∀ w195 : World, w195 = stW w194 ⟨b29, 0, none⟩ 0 [.int .i64 n_Exit190, .int .i64 n_Steps191, .bool b_Hit192] →
 ∃ r_Ip196 : Int, ∃ r_Handler197 : Int, ∃ r_Stack198 : Sl, ∃ r_Back199 : Sl, ∃ r_Mem200 : Sl, ∃ r_Out201 : ByteArray, ∃ r_In202 : ByteArray, ∃ r_Read203 : Int, ∃ r_Status204 : Int, ∃ r_Code205 : Int, w195.cell? ⟨b27, 0, none⟩ = some (.int .i64 r_Ip196) ∧ w195.cell? ⟨b27, 1, none⟩ = some (.int .i64 r_Handler197) ∧ w195.cell? ⟨b27, 2, none⟩ = some (r_Stack198.val) ∧ w195.cell? ⟨b27, 3, none⟩ = some (r_Back199.val) ∧ w195.cell? ⟨b27, 4, none⟩ = some (r_Mem200.val) ∧ w195.cell? ⟨b27, 5, none⟩ = some (.string r_Out201) ∧ w195.cell? ⟨b27, 6, none⟩ = some (.string r_In202) ∧ w195.cell? ⟨b27, 7, none⟩ = some (.int .i64 r_Read203) ∧ w195.cell? ⟨b27, 8, none⟩ = some (.int .i64 r_Status204) ∧ w195.cell? ⟨b27, 9, none⟩ = some (.int .i64 r_Code205) ∧
 ∃ r_Exit206 : Int, ∃ r_Steps207 : Int, ∃ r_Hit208 : Bool, w195.cell? ⟨b29, 0, none⟩ = some (.int .i64 r_Exit206) ∧ w195.cell? ⟨b29, 1, none⟩ = some (.int .i64 r_Steps207) ∧ w195.cell? ⟨b29, 2, none⟩ = some (.bool r_Hit208) ∧
 K (.tuple #[.agg #[.int .i64 r_Ip196, .int .i64 r_Handler197, r_Stack198.val, r_Back199.val, r_Mem200.val, .string r_Out201, .string r_In202, .int .i64 r_Read203, .int .i64 r_Status204, .int .i64 r_Code205], .agg #[.int .i64 r_Exit206, .int .i64 r_Steps207, .bool r_Hit208], .int .i64 n193]) w195))
def eval_Through_an : An := ⟨[(6, [(36, .int .i64)])], [(4, (6, .st 0 (.st 1 (.st 2 (.st 4 (.st 5 (.ef 3 .done))))), 1))], []⟩
theorem eval_Through_lift {t__Start1 : Int} {t__Slots2 : Int} {t__Backs3 : Int} {t__Grow4 : Int} {t__GrowBack5 : Int} {t__Ins6 : Sl} {t__Outs7 : Sl} {t__Last8 : Int} {t__Cells9 : Sl} {s__Ip10 : Int} {s__Handler11 : Int} {s__Stack12 : Sl} {s__Back13 : Sl} {s__Mem14 : Sl} {s__Out15 : ByteArray} {s__In16 : ByteArray} {s__Read17 : Int} {s__Status18 : Int} {s__Code19 : Int} {at_20 : Sl} {n_21 : Int} {watched22 : Sl} {w : World} {K : Value → World → Prop} (h : eval_Through_sh t__Start1 t__Slots2 t__Backs3 t__Grow4 t__GrowBack5 t__Ins6 t__Outs7 t__Last8 t__Cells9 s__Ip10 s__Handler11 s__Stack12 s__Back13 s__Mem14 s__Out15 s__In16 s__Read17 s__Status18 s__Code19 at_20 n_21 watched22 w K) : Calls Try.prog fn_eval_Through #[.agg #[.int .i64 t__Start1, .int .i64 t__Slots2, .int .i64 t__Backs3, .int .i64 t__Grow4, .int .i64 t__GrowBack5, t__Ins6.val, t__Outs7.val, .int .i64 t__Last8, t__Cells9.val], .agg #[.int .i64 s__Ip10, .int .i64 s__Handler11, s__Stack12.val, s__Back13.val, s__Mem14.val, .string s__Out15, .string s__In16, .int .i64 s__Read17, .int .i64 s__Status18, .int .i64 s__Code19], at_20.val, .int .i64 n_21, watched22.val] w fun e w' => ∃ v, e = .returned v ∧ K v w' :=
   lift_calls (A := eval_Through_an) (c := bodyOf Try.f55) (args := [.agg #[.int .i64 t__Start1, .int .i64 t__Slots2, .int .i64 t__Backs3, .int .i64 t__Grow4, .int .i64 t__GrowBack5, t__Ins6.val, t__Outs7.val, .int .i64 t__Last8, t__Cells9.val], .agg #[.int .i64 s__Ip10, .int .i64 s__Handler11, s__Stack12.val, s__Back13.val, s__Mem14.val, .string s__Out15, .string s__In16, .int .i64 s__Read17, .int .i64 s__Status18, .int .i64 s__Code19], at_20.val, .int .i64 n_21, watched22.val]) orc orc_wide Try.func55 (by kernel_rfl) (by kernel_rfl) (Eq.mp (by kernel_rfl : eval_Through_sh t__Start1 t__Slots2 t__Backs3 t__Grow4 t__GrowBack5 t__Ins6 t__Outs7 t__Last8 t__Cells9 s__Ip10 s__Handler11 s__Stack12 s__Back13 s__Mem14 s__Out15 s__In16 s__Read17 s__Status18 s__Code19 at_20 n_21 watched22 w K = wpc orc Try.f55.ntmps eval_Through_an (bodyOf Try.f55) (argl 0 [.agg #[.int .i64 t__Start1, .int .i64 t__Slots2, .int .i64 t__Backs3, .int .i64 t__Grow4, .int .i64 t__GrowBack5, t__Ins6.val, t__Outs7.val, .int .i64 t__Last8, t__Cells9.val], .agg #[.int .i64 s__Ip10, .int .i64 s__Handler11, s__Stack12.val, s__Back13.val, s__Mem14.val, .string s__Out15, .string s__In16, .int .i64 s__Read17, .int .i64 s__Status18, .int .i64 s__Code19], at_20.val, .int .i64 n_21, watched22.val]) w (retQ orc Try.f55.results.toList K)) h)

-- (*holloway/eval.engine).ins
def eval_engine_ins_j1 (b8 : Nat) (e_1 : Nat) (place2 : Int) (n10 : Int) (J4 : World → Prop) (b14 : Bool) (w13 : World) (K : Value → World → Prop) : Prop :=
 brB b14
 (∃ n_Op45 : Int, ∃ n_A46 : Int, ∃ n_B47 : Int, ∃ n_C48 : Int, ∃ n_X49 : Int, w13.cell? ⟨b8, 0, none⟩ = some (.int .i64 n_Op45) ∧ w13.cell? ⟨b8, 1, none⟩ = some (.int .i64 n_A46) ∧ w13.cell? ⟨b8, 2, none⟩ = some (.int .i64 n_B47) ∧ w13.cell? ⟨b8, 3, none⟩ = some (.int .i64 n_C48) ∧ w13.cell? ⟨b8, 4, none⟩ = some (.int .i64 n_X49) ∧
 Calls Try.prog fn_eval_engine_memory #[.pointer (some ⟨e_1, 0, none⟩), .int .i64 place2, .agg #[.int .i64 n_Op45, .int .i64 n_A46, .int .i64 n_B47, .int .i64 n_C48, .int .i64 n_X49]] w13 fun e50 w51 => ∃ n52 : Int, e50 = .returned (.int .i64 n52) ∧
 K (.int .i64 n52) w51)
 (brB (n10 == (7 : Int))
 (∀ w53 : World, w53 = World.drew w13 →
 ∃ S54 : World → Prop, S54 w53 ∧
 ∃ n55 : Int, held S54 ⟨b8, 2, none⟩ (.int .i64 n55) ∧
 ∃ n56 : Int, held S54 ⟨b8, 4, none⟩ (.int .i64 n56) ∧
 Calls Try.prog fn_eval_engine_value #[.pointer (some ⟨e_1, 0, none⟩), .int .i64 n55] w53 fun e57 w58 => ∃ n59 : Int, e57 = .returned (.int .i64 n59) ∧
 S54 w58 ∧
 Calls Try.prog fn_eval_must #[.bool (n59 != (0 : Int)), .int .i64 n56] w58 fun e60 w61 => ∃ n62 : Int, e60 = .returned (.int .i64 n62) ∧
 K (.int .i64 n62) w61)
 (brB (n10 == (8 : Int))
 (∀ w63 : World, w63 = World.drew w13 →
 ∃ S64 : World → Prop, S64 w63 ∧
 ∃ n65 : Int, held S64 ⟨b8, 2, none⟩ (.int .i64 n65) ∧
 ∃ n66 : Int, held S64 ⟨b8, 4, none⟩ (.int .i64 n66) ∧
 Calls Try.prog fn_eval_engine_value #[.pointer (some ⟨e_1, 0, none⟩), .int .i64 n65] w63 fun e67 w68 => ∃ n69 : Int, e67 = .returned (.int .i64 n69) ∧
 S64 w68 ∧
 Calls Try.prog fn_eval_must #[.bool (n69 == (0 : Int)), .int .i64 n66] w68 fun e70 w71 => ∃ n72 : Int, e70 = .returned (.int .i64 n72) ∧
 K (.int .i64 n72) w71)
 (brB (n10 == (9 : Int))
 (∀ w73 : World, w73 = World.drew w13 →
 ∃ S74 : World → Prop, S74 w73 ∧
 ∃ n75 : Int, held S74 ⟨b8, 2, none⟩ (.int .i64 n75) ∧
 ∃ n76 : Int, held S74 ⟨b8, 3, none⟩ (.int .i64 n76) ∧
 ∃ n77 : Int, held S74 ⟨b8, 4, none⟩ (.int .i64 n77) ∧
 Calls Try.prog fn_eval_engine_value #[.pointer (some ⟨e_1, 0, none⟩), .int .i64 n75] w73 fun e78 w79 => ∃ n80 : Int, e78 = .returned (.int .i64 n80) ∧
 S74 w79 ∧
 Calls Try.prog fn_eval_engine_value #[.pointer (some ⟨e_1, 0, none⟩), .int .i64 n76] w79 fun e81 w82 => ∃ n83 : Int, e81 = .returned (.int .i64 n83) ∧
 S74 w82 ∧
 Calls Try.prog fn_eval_must #[.bool (n80 == n83), .int .i64 n77] w82 fun e84 w85 => ∃ n86 : Int, e84 = .returned (.int .i64 n86) ∧
 K (.int .i64 n86) w85)
 (brB (n10 == (10 : Int))
 (J4  w13)
 (brB (n10 == (11 : Int))
 (J4  w13)
 (Calls Try.prog fn_eval_engine_ask #[.pointer (some ⟨e_1, 0, none⟩), .int .i64 place2] w13 fun e96 w97 => ∃ n98 : Int, e96 = .returned (.int .i64 n98) ∧
 K (.int .i64 n98) w97))))))
def eval_engine_ins_sh (e_1 : Nat) (place2 : Int) (i__Op3 : Int) (i__A4 : Int) (i__B5 : Int) (i__C6 : Int) (i__X7 : Int) (w : World) (K : Value → World → Prop) : Prop :=
 ∀ (b8 : Nat) (w9 : World), b8 = w.heap.size → w9 = World.alloc w (.cells #[.int .i64 i__Op3, .int .i64 i__A4, .int .i64 i__B5, .int .i64 i__C6, .int .i64 i__X7] T_api_Ins) →
 ∃ n10 : Int, w9.cell? ⟨b8, 0, none⟩ = some (.int .i64 n10) ∧
 ∃ J4 : World → Prop, (∀ (w87 : World), J4  w87 →
 ∃ n_Op88 : Int, ∃ n_A89 : Int, ∃ n_B90 : Int, ∃ n_C91 : Int, ∃ n_X92 : Int, w87.cell? ⟨b8, 0, none⟩ = some (.int .i64 n_Op88) ∧ w87.cell? ⟨b8, 1, none⟩ = some (.int .i64 n_A89) ∧ w87.cell? ⟨b8, 2, none⟩ = some (.int .i64 n_B90) ∧ w87.cell? ⟨b8, 3, none⟩ = some (.int .i64 n_C91) ∧ w87.cell? ⟨b8, 4, none⟩ = some (.int .i64 n_X92) ∧
 Calls Try.prog fn_eval_engine_say #[.pointer (some ⟨e_1, 0, none⟩), .agg #[.int .i64 n_Op88, .int .i64 n_A89, .int .i64 n_B90, .int .i64 n_C91, .int .i64 n_X92]] w87 fun e93 w94 => ∃ n95 : Int, e93 = .returned (.int .i64 n95) ∧
 K (.int .i64 n95) w94) ∧
 brB (n10 == (1 : Int))
 (∃ n15 : Int, w9.cell? ⟨b8, 1, none⟩ = some (.int .i64 n15) ∧
 Calls Try.prog fn_eval_engine_set #[.pointer (some ⟨e_1, 0, none⟩), .int .i64 place2, .int .i64 n15] w9 fun e16 w17 => ∃ n18 : Int, e16 = .returned (.int .i64 n18) ∧
 K (.int .i64 n18) w17)
 (brB (n10 == (2 : Int))
 (∀ w19 : World, w19 = World.drew w9 →
 ∃ s20 : Sl, held (Lw w19) ⟨e_1, 11, none⟩ (s20.val) ∧
 ∃ s21 : Sl, held (Lw w19) ⟨e_1, 11, none⟩ (s21.val) ∧
 ∃ n22 : Int, held (Lw w19) ⟨b8, 1, none⟩ (.int .i64 n22) ∧
 ∃ a23 : Addr, s20.ptr = some a23 ∧ 0 ≤ (wr ((wr ((s21.len : Int) - (1 : Int))) - n22)) ∧ (wr ((wr ((s21.len : Int) - (1 : Int))) - n22)) < (s20.len : Int) ∧
 ∃ n24 : Int, held (Lw w19) (Addr.add a23 (Int.toNat (wr ((wr ((s21.len : Int) - (1 : Int))) - n22)) * 1)) (.int .i64 n24) ∧
 Calls Try.prog fn_eval_engine_set #[.pointer (some ⟨e_1, 0, none⟩), .int .i64 place2, .int .i64 n24] w19 fun e25 w26 => ∃ n27 : Int, e25 = .returned (.int .i64 n27) ∧
 K (.int .i64 n27) w26)
 (brB (n10 == (3 : Int))
 (∀ w28 : World, w28 = World.drew w9 →
 ∃ s29 : Sl, held (Lw w28) ⟨e_1, 12, none⟩ (s29.val) ∧
 ∃ s30 : Sl, held (Lw w28) ⟨e_1, 12, none⟩ (s30.val) ∧
 ∃ n31 : Int, held (Lw w28) ⟨b8, 1, none⟩ (.int .i64 n31) ∧
 ∃ a32 : Addr, s29.ptr = some a32 ∧ 0 ≤ (wr ((wr ((s30.len : Int) - (1 : Int))) - n31)) ∧ (wr ((wr ((s30.len : Int) - (1 : Int))) - n31)) < (s29.len : Int) ∧
 ∃ n33 : Int, held (Lw w28) (Addr.add a32 (Int.toNat (wr ((wr ((s30.len : Int) - (1 : Int))) - n31)) * 1)) (.int .i64 n33) ∧
 Calls Try.prog fn_eval_engine_set #[.pointer (some ⟨e_1, 0, none⟩), .int .i64 place2, .int .i64 n33] w28 fun e34 w35 => ∃ n36 : Int, e34 = .returned (.int .i64 n36) ∧
 K (.int .i64 n36) w35)
 (brB (n10 == (4 : Int))
 (∃ n_Op37 : Int, ∃ n_A38 : Int, ∃ n_B39 : Int, ∃ n_C40 : Int, ∃ n_X41 : Int, w9.cell? ⟨b8, 0, none⟩ = some (.int .i64 n_Op37) ∧ w9.cell? ⟨b8, 1, none⟩ = some (.int .i64 n_A38) ∧ w9.cell? ⟨b8, 2, none⟩ = some (.int .i64 n_B39) ∧ w9.cell? ⟨b8, 3, none⟩ = some (.int .i64 n_C40) ∧ w9.cell? ⟨b8, 4, none⟩ = some (.int .i64 n_X41) ∧
 Calls Try.prog fn_eval_engine_calc #[.pointer (some ⟨e_1, 0, none⟩), .int .i64 place2, .agg #[.int .i64 n_Op37, .int .i64 n_A38, .int .i64 n_B39, .int .i64 n_C40, .int .i64 n_X41]] w9 fun e42 w43 => ∃ n44 : Int, e42 = .returned (.int .i64 n44) ∧
 K (.int .i64 n44) w43)
 (brB (n10 == (5 : Int))
 (eval_engine_ins_j1 b8 e_1 place2 n10 J4 (n10 == (5 : Int)) w9 K)
 (eval_engine_ins_j1 b8 e_1 place2 n10 J4 (n10 == (6 : Int)) w9 K)))))
def eval_engine_ins_an : An := ⟨[], [(14, (19, .st 0 (.st 1 (.st 2 (.st 3 (.st 4 (.st 5 (.st 6 (.st 7 (.st 8 (.st 9 (.st 10 (.st 11 (.st 12 (.st 13 (.st 14 (.st 15 (.st 16 (.st 17 (.st 18 .done)))))))))))))))))), 0)), (15, (19, .st 0 (.st 1 (.st 2 (.st 3 (.st 4 (.st 5 (.st 6 (.st 7 (.st 8 (.st 9 (.st 10 (.st 11 (.st 12 (.st 13 (.st 14 (.st 15 (.st 16 (.st 17 (.st 18 .done)))))))))))))))))), 0)), (18, (7, .st 0 (.st 1 (.st 2 (.st 5 (.st 6 (.ef 3 (.st 4 .done)))))), 1)), (19, (7, .st 0 (.st 1 (.st 2 (.st 5 (.st 6 (.ef 3 (.st 4 .done)))))), 1)), (20, (11, .st 0 (.st 1 (.st 2 (.st 4 (.st 5 (.st 6 (.st 9 (.st 10 (.ef 3 (.ef 7 (.st 8 .done)))))))))), 1))], [(21, [])]⟩
theorem eval_engine_ins_lift {e_1 : Nat} {place2 : Int} {i__Op3 : Int} {i__A4 : Int} {i__B5 : Int} {i__C6 : Int} {i__X7 : Int} {w : World} {K : Value → World → Prop} (h : eval_engine_ins_sh e_1 place2 i__Op3 i__A4 i__B5 i__C6 i__X7 w K) : Calls Try.prog fn_eval_engine_ins #[.pointer (some ⟨e_1, 0, none⟩), .int .i64 place2, .agg #[.int .i64 i__Op3, .int .i64 i__A4, .int .i64 i__B5, .int .i64 i__C6, .int .i64 i__X7]] w fun e w' => ∃ v, e = .returned v ∧ K v w' :=
   lift_calls (A := eval_engine_ins_an) (c := bodyOf Try.f117) (args := [.pointer (some ⟨e_1, 0, none⟩), .int .i64 place2, .agg #[.int .i64 i__Op3, .int .i64 i__A4, .int .i64 i__B5, .int .i64 i__C6, .int .i64 i__X7]]) orc orc_wide Try.func117 (by kernel_rfl) (by kernel_rfl) (Eq.mp (by kernel_rfl : eval_engine_ins_sh e_1 place2 i__Op3 i__A4 i__B5 i__C6 i__X7 w K = wpc orc Try.f117.ntmps eval_engine_ins_an (bodyOf Try.f117) (argl 0 [.pointer (some ⟨e_1, 0, none⟩), .int .i64 place2, .agg #[.int .i64 i__Op3, .int .i64 i__A4, .int .i64 i__B5, .int .i64 i__C6, .int .i64 i__X7]]) w (retQ orc Try.f117.results.toList K)) h)

-- (*holloway/eval.engine).leave
def eval_engine_leave_j1 (b3 : Nat) (b5 : Nat) (n64 : Int) (w84 : World) (K : Value → World → Prop) : Prop :=
 ∃ r_Ip85 : Int, ∃ r_Handler86 : Int, ∃ r_Stack87 : Sl, ∃ r_Back88 : Sl, ∃ r_Mem89 : Sl, ∃ r_Out90 : ByteArray, ∃ r_In91 : ByteArray, ∃ r_Read92 : Int, ∃ r_Status93 : Int, ∃ r_Code94 : Int, w84.cell? ⟨b3, 0, none⟩ = some (.int .i64 r_Ip85) ∧ w84.cell? ⟨b3, 1, none⟩ = some (.int .i64 r_Handler86) ∧ w84.cell? ⟨b3, 2, none⟩ = some (r_Stack87.val) ∧ w84.cell? ⟨b3, 3, none⟩ = some (r_Back88.val) ∧ w84.cell? ⟨b3, 4, none⟩ = some (r_Mem89.val) ∧ w84.cell? ⟨b3, 5, none⟩ = some (.string r_Out90) ∧ w84.cell? ⟨b3, 6, none⟩ = some (.string r_In91) ∧ w84.cell? ⟨b3, 7, none⟩ = some (.int .i64 r_Read92) ∧ w84.cell? ⟨b3, 8, none⟩ = some (.int .i64 r_Status93) ∧ w84.cell? ⟨b3, 9, none⟩ = some (.int .i64 r_Code94) ∧
 ∃ r_Exit95 : Int, ∃ r_Steps96 : Int, ∃ r_Hit97 : Bool, w84.cell? ⟨b5, 0, none⟩ = some (.int .i64 r_Exit95) ∧ w84.cell? ⟨b5, 1, none⟩ = some (.int .i64 r_Steps96) ∧ w84.cell? ⟨b5, 2, none⟩ = some (.bool r_Hit97) ∧
 K (.tuple #[.agg #[.int .i64 r_Ip85, .int .i64 r_Handler86, r_Stack87.val, r_Back88.val, r_Mem89.val, .string r_Out90, .string r_In91, .int .i64 r_Read92, .int .i64 r_Status93, .int .i64 r_Code94], .agg #[.int .i64 r_Exit95, .int .i64 r_Steps96, .bool r_Hit97], .int .i64 n64]) w84
def eval_engine_leave_sh (e_1 : Nat) (x_2 : Int) (w : World) (K : Value → World → Prop) : Prop :=
 ∀ (b3 : Nat) (w4 : World), b3 = w.heap.size → w4 = World.alloc w (.cells #[.int .i64 (0 : Int), .int .i64 (0 : Int), .slice none 0 0, .slice none 0 0, .slice none 0 0, .string (bs []), .string (bs []), .int .i64 (0 : Int), .int .i64 (0 : Int), .int .i64 (0 : Int)] T_api_State) →
 ∀ (b5 : Nat) (w6 : World), b5 = w4.heap.size → w6 = World.alloc w4 (.cells #[.int .i64 (0 : Int), .int .i64 (0 : Int), .bool false] T_eval_Done) →
 ∃ s7 : Sl, w6.cell? ⟨e_1, 6, none⟩ = some (s7.val) ∧
 ∃ a8 : Addr, s7.ptr = some a8 ∧ 0 ≤ x_2 ∧ x_2 < (s7.len : Int) ∧
 ∃ n_Ip9 : Int, ∃ n_Steps10 : Int, ∃ s_Stack11 : Sl, ∃ s_Back12 : Sl, w6.cell? (Addr.add a8 (Int.toNat x_2 * 4)) = some (.int .i64 n_Ip9) ∧ w6.cell? (Addr.add (Addr.add a8 (Int.toNat x_2 * 4)) 1) = some (.int .i64 n_Steps10) ∧ w6.cell? (Addr.add (Addr.add a8 (Int.toNat x_2 * 4)) 2) = some (s_Stack11.val) ∧ w6.cell? (Addr.add (Addr.add a8 (Int.toNat x_2 * 4)) 3) = some (s_Back12.val) ∧
 ∀ (b13 : Nat) (w14 : World), b13 = w6.heap.size → w14 = World.alloc w6 (.cells #[.int .i64 (0 : Int), .int .i64 (0 : Int), .slice none 0 0, .slice none 0 0] T_api_Out) →
 wrOk w14 ⟨b13, 0, none⟩ 4 ∧ ∀ w15 : World, w15 = stW w14 ⟨b13, 0, none⟩ 0 [.int .i64 n_Ip9, .int .i64 n_Steps10, s_Stack11.val, s_Back12.val] →
 ∃ n16 : Int, w15.cell? ⟨b13, 0, none⟩ = some (.int .i64 n16) ∧
 wrOk w15 ⟨e_1, 9, none⟩ 1 ∧ ∀ w17 : World, w17 = stW w15 ⟨e_1, 9, none⟩ 0 [.int .i64 n16] →
 ∀ w18 : World, w18 = World.drew w17 →
 ∃ s19 : Sl, held (Lw w18) ⟨e_1, 11, none⟩ (s19.val) ∧
 ∃ s20 : Sl, held (Lw w18) ⟨e_1, 11, none⟩ (s20.val) ∧
 ∃ n21 : Int, held (Lw w18) ⟨e_1, 1, none⟩ (.int .i64 n21) ∧
 0 ≤ (wr ((s20.len : Int) - n21)) ∧ (wr ((s20.len : Int) - n21)) ≤ (s19.cap : Int) ∧ 
 ∀ w22 : World, w22 = World.drew w18 →
 ∃ s23 : Sl, held (Lw w22) ⟨e_1, 12, none⟩ (s23.val) ∧
 ∃ s24 : Sl, held (Lw w22) ⟨e_1, 12, none⟩ (s24.val) ∧
 ∃ n25 : Int, held (Lw w22) ⟨e_1, 2, none⟩ (.int .i64 n25) ∧
 0 ≤ (wr ((s24.len : Int) - n25)) ∧ (wr ((s24.len : Int) - n25)) ≤ (s23.cap : Int) ∧ 
 ∀ w26 : World, w26 = World.drew w22 →
 ∃ S27 : World → Prop, S27 w26 ∧
 ∃ s28 : Sl, held S27 ⟨b13, 2, none⟩ (s28.val) ∧
 Calls Try.prog fn_slices_Clone_sl_int_int #[(Sl.sub s19.ptr s19.cap 0 (Int.toNat (wr ((s20.len : Int) - n21))) 1).val] w26 fun e29 w30 => ∃ s31 : Sl, e29 = .returned (s31.val) ∧
 S27 w30 ∧
 Calls Try.prog fn_eval_engine_values #[.pointer (some ⟨e_1, 0, none⟩), s28.val] w30 fun e32 w33 => ∃ s34 : Sl, e32 = .returned (s34.val) ∧
 S27 w33 ∧
 ∃ s35 : Sl, ∃ w36 : World, (Builtin.append_ #[T_sl_int, T_sl_int] T_sl_int #[s31.val, s34.val]).run Try.prog w33 = .ok (s35.val) w36 ∧
 S27 w36 ∧
 wrOk w36 ⟨e_1, 11, none⟩ 1 ∧ ∀ w37 : World, w37 = stW w36 ⟨e_1, 11, none⟩ 0 [s35.val] →
 ∀ w38 : World, w38 = World.drew w37 →
 ∃ S39 : World → Prop, S39 w38 ∧
 ∃ s40 : Sl, held S39 ⟨b13, 3, none⟩ (s40.val) ∧
 Calls Try.prog fn_slices_Clone_sl_int_int #[(Sl.sub s23.ptr s23.cap 0 (Int.toNat (wr ((s24.len : Int) - n25))) 1).val] w38 fun e41 w42 => ∃ s43 : Sl, e41 = .returned (s43.val) ∧
 S39 w42 ∧
 Calls Try.prog fn_eval_engine_values #[.pointer (some ⟨e_1, 0, none⟩), s40.val] w42 fun e44 w45 => ∃ s46 : Sl, e44 = .returned (s46.val) ∧
 S39 w45 ∧
 ∃ s47 : Sl, ∃ w48 : World, (Builtin.append_ #[T_sl_int, T_sl_int] T_sl_int #[s43.val, s46.val]).run Try.prog w45 = .ok (s47.val) w48 ∧
 S39 w48 ∧
 wrOk w48 ⟨e_1, 12, none⟩ 1 ∧ ∀ w49 : World, w49 = stW w48 ⟨e_1, 12, none⟩ 0 [s47.val] →
 ∀ w50 : World, w50 = World.drew w49 →
 ∃ S51 : World → Prop, S51 w50 ∧
 ∃ n_Ip52 : Int, ∃ n_Handler53 : Int, ∃ s_Stack54 : Sl, ∃ s_Back55 : Sl, ∃ s_Mem56 : Sl, ∃ t_Out57 : ByteArray, ∃ t_In58 : ByteArray, ∃ n_Read59 : Int, ∃ n_Status60 : Int, ∃ n_Code61 : Int, held S51 ⟨e_1, 9, none⟩ (.int .i64 n_Ip52) ∧ held S51 ⟨e_1, 10, none⟩ (.int .i64 n_Handler53) ∧ held S51 ⟨e_1, 11, none⟩ (s_Stack54.val) ∧ held S51 ⟨e_1, 12, none⟩ (s_Back55.val) ∧ held S51 ⟨e_1, 13, none⟩ (s_Mem56.val) ∧ held S51 ⟨e_1, 14, none⟩ (.string t_Out57) ∧ held S51 ⟨e_1, 15, none⟩ (.string t_In58) ∧ held S51 ⟨e_1, 16, none⟩ (.int .i64 n_Read59) ∧ held S51 ⟨e_1, 17, none⟩ (.int .i64 n_Status60) ∧ held S51 ⟨e_1, 18, none⟩ (.int .i64 n_Code61) ∧
 ∃ n62 : Int, held S51 ⟨b13, 1, none⟩ (.int .i64 n62) ∧
 ∃ n63 : Int, held S51 ⟨e_1, 22, none⟩ (.int .i64 n63) ∧
 ∃ n64 : Int, held S51 ⟨e_1, 22, none⟩ (.int .i64 n64) ∧
 (S51 w50 ∧
 wrOk w50 ⟨b3, 0, none⟩ 10 ∧ ∀ w65 : World, w65 = stW w50 ⟨b3, 0, none⟩ 0 [.int .i64 n_Ip52, .int .i64 n_Handler53, s_Stack54.val, s_Back55.val, s_Mem56.val, .string t_Out57, .string t_In58, .int .i64 n_Read59, .int .i64 n_Status60, .int .i64 n_Code61] →
 S51 w65 ∧
 wrOk w65 ⟨b5, 0, none⟩ 3 ∧ ∀ w66 : World, w66 = stW w65 ⟨b5, 0, none⟩ 0 [.int .i64 x_2, .int .i64 n62, .bool (decide (n63 ≥ (0 : Int)))] →
 S51 w66 ∧
 eval_engine_leave_j1 b3 b5 n64 w66 K) ∧
 (wrOk w50 ⟨b3, 0, none⟩ 10 ∧ ∀ w67 : World, w67 = stW w50 ⟨b3, 0, none⟩ 0 [.int .i64 n_Ip52, .int .i64 n_Handler53, s_Stack54.val, s_Back55.val, s_Mem56.val, .string t_Out57, .string t_In58, .int .i64 n_Read59, .int .i64 n_Status60, .int .i64 n_Code61] →
 S51 w67 ∧
 S51 w67 ∧
 wrOk w67 ⟨b5, 0, none⟩ 3 ∧ ∀ w68 : World, w68 = stW w67 ⟨b5, 0, none⟩ 0 [.int .i64 x_2, .int .i64 n62, .bool (decide (n63 ≥ (0 : Int)))] →
 S51 w68 ∧
 eval_engine_leave_j1 b3 b5 n64 w68 K)
def eval_engine_leave_an : An := ⟨[], [(3, (19, .st 0 (.st 1 (.st 2 (.st 3 (.st 4 (.st 5 (.st 6 (.st 7 (.st 8 (.st 9 (.st 10 (.st 11 (.st 12 (.st 13 (.st 14 (.st 15 (.st 16 (.st 17 (.st 18 .done)))))))))))))))))), 0)), (4, (19, .st 0 (.st 1 (.st 2 (.st 3 (.st 4 (.st 5 (.st 6 (.st 7 (.st 8 (.st 9 (.st 10 (.st 11 (.st 12 (.st 13 (.st 14 (.st 15 (.st 16 (.st 17 (.st 18 .done)))))))))))))))))), 0)), (5, (8, .st 0 (.st 1 (.st 3 (.st 4 (.st 5 (.ef 2 (.ef 6 (.ef 7 .done))))))), 1)), (6, (8, .st 0 (.st 1 (.st 3 (.st 4 (.st 5 (.ef 2 (.ef 6 (.ef 7 .done))))))), 1)), (7, (19, .st 0 (.st 1 (.st 2 (.st 3 (.st 4 (.st 5 (.st 6 (.st 7 (.st 8 (.st 9 (.st 10 (.st 11 (.st 13 (.st 14 (.st 15 (.st 16 (.two 12 (.ef 17 (.ef 18 .done)) 17 (.ef 12 (.ef 18 .done)))))))))))))))))), 1))], []⟩
theorem eval_engine_leave_lift {e_1 : Nat} {x_2 : Int} {w : World} {K : Value → World → Prop} (h : eval_engine_leave_sh e_1 x_2 w K) : Calls Try.prog fn_eval_engine_leave #[.pointer (some ⟨e_1, 0, none⟩), .int .i64 x_2] w fun e w' => ∃ v, e = .returned v ∧ K v w' :=
   lift_calls (A := eval_engine_leave_an) (c := bodyOf Try.f118) (args := [.pointer (some ⟨e_1, 0, none⟩), .int .i64 x_2]) orc orc_wide Try.func118 (by kernel_rfl) (by kernel_rfl) (Eq.mp (by kernel_rfl : eval_engine_leave_sh e_1 x_2 w K = wpc orc Try.f118.ntmps eval_engine_leave_an (bodyOf Try.f118) (argl 0 [.pointer (some ⟨e_1, 0, none⟩), .int .i64 x_2]) w (retQ orc Try.f118.results.toList K)) h)

-- (*holloway/eval.engine).set
def eval_engine_set_sh (e_1 : Nat) (place2 : Int) (v_3 : Int) (w : World) (K : Value → World → Prop) : Prop :=
 ∀ w4 : World, w4 = World.drew w →
 ∃ s5 : Sl, held (Lw w4) ⟨e_1, 19, none⟩ (s5.val) ∧
 ∃ s6 : Sl, held (Lw w4) ⟨e_1, 20, none⟩ (s6.val) ∧
 ∃ a7 : Addr, s6.ptr = some a7 ∧ 0 ≤ place2 ∧ place2 < (s6.len : Int) ∧
 ∃ n8 : Int, held (Lw w4) (Addr.add a7 (Int.toNat place2 * 1)) (.int .i64 n8) ∧
 ∃ a9 : Addr, s5.ptr = some a9 ∧ 0 ≤ n8 ∧ n8 < (s5.len : Int) ∧
 wrOk w4 (Addr.add a9 (Int.toNat n8 * 1)) 1 ∧ ∀ w10 : World, w10 = stW w4 (Addr.add a9 (Int.toNat n8 * 1)) 0 [.int .i64 v_3] →
 K (.int .i64 (-1 : Int)) w10
def eval_engine_set_an : An := ⟨[], [(1, (13, .st 0 (.st 1 (.st 2 (.st 3 (.st 4 (.st 5 (.st 6 (.st 7 (.st 8 (.st 9 (.st 10 (.st 11 (.st 12 .done)))))))))))), 0))], []⟩
theorem eval_engine_set_lift {e_1 : Nat} {place2 : Int} {v_3 : Int} {w : World} {K : Value → World → Prop} (h : eval_engine_set_sh e_1 place2 v_3 w K) : Calls Try.prog fn_eval_engine_set #[.pointer (some ⟨e_1, 0, none⟩), .int .i64 place2, .int .i64 v_3] w fun e w' => ∃ v, e = .returned v ∧ K v w' :=
   lift_calls (A := eval_engine_set_an) (c := bodyOf Try.f154) (args := [.pointer (some ⟨e_1, 0, none⟩), .int .i64 place2, .int .i64 v_3]) orc orc_wide Try.func154 (by kernel_rfl) (by kernel_rfl) (Eq.mp (by kernel_rfl : eval_engine_set_sh e_1 place2 v_3 w K = wpc orc Try.f154.ntmps eval_engine_set_an (bodyOf Try.f154) (argl 0 [.pointer (some ⟨e_1, 0, none⟩), .int .i64 place2, .int .i64 v_3]) w (retQ orc Try.f154.results.toList K)) h)

-- (*holloway/eval.engine).calc
def eval_engine_calc_sh (e_1 : Nat) (place2 : Int) (i__Op3 : Int) (i__A4 : Int) (i__B5 : Int) (i__C6 : Int) (i__X7 : Int) (w : World) (K : Value → World → Prop) : Prop :=
 ∀ (b8 : Nat) (w9 : World), b8 = w.heap.size → w9 = World.alloc w (.cells #[.int .i64 i__Op3, .int .i64 i__A4, .int .i64 i__B5, .int .i64 i__C6, .int .i64 i__X7] T_api_Ins) →
 ∃ n10 : Int, w9.cell? ⟨b8, 2, none⟩ = some (.int .i64 n10) ∧
 Calls Try.prog fn_eval_engine_value #[.pointer (some ⟨e_1, 0, none⟩), .int .i64 n10] w9 fun e11 w12 => ∃ n13 : Int, e11 = .returned (.int .i64 n13) ∧
 ∃ n14 : Int, w12.cell? ⟨b8, 1, none⟩ = some (.int .i64 n14) ∧
 Calls Try.prog fn_cell_One #[.int .i64 n14, .int .i64 n13] w12 fun e15 w16 => ∃ n17 : Int, ∃ b18 : Bool, e15 = .returned (.tuple #[.int .i64 n17, .bool b18]) ∧
 brB b18
 (Calls Try.prog fn_eval_engine_set #[.pointer (some ⟨e_1, 0, none⟩), .int .i64 place2, .int .i64 n17] w16 fun e19 w20 => ∃ n21 : Int, e19 = .returned (.int .i64 n21) ∧
 K (.int .i64 n21) w20)
 (∀ w22 : World, w22 = World.drew w16 →
 ∃ S23 : World → Prop, S23 w22 ∧
 ∃ n24 : Int, held S23 ⟨b8, 1, none⟩ (.int .i64 n24) ∧
 ∃ n25 : Int, held S23 ⟨b8, 3, none⟩ (.int .i64 n25) ∧
 Calls Try.prog fn_eval_engine_value #[.pointer (some ⟨e_1, 0, none⟩), .int .i64 n25] w22 fun e26 w27 => ∃ n28 : Int, e26 = .returned (.int .i64 n28) ∧
 S23 w27 ∧
 Calls Try.prog fn_cell_Two #[.int .i64 n24, .int .i64 n13, .int .i64 n28] w27 fun e29 w30 => ∃ n31 : Int, ∃ b32 : Bool, e29 = .returned (.tuple #[.int .i64 n31, .bool b32]) ∧
 S23 w30 ∧
 brB (!b32)
 (∃ n33 : Int, w30.cell? ⟨b8, 4, none⟩ = some (.int .i64 n33) ∧
 K (.int .i64 n33) w30)
 (Calls Try.prog fn_eval_engine_set #[.pointer (some ⟨e_1, 0, none⟩), .int .i64 place2, .int .i64 n31] w30 fun e34 w35 => ∃ n36 : Int, e34 = .returned (.int .i64 n36) ∧
 K (.int .i64 n36) w35))
def eval_engine_calc_an : An := ⟨[], [(5, (12, .st 0 (.st 1 (.st 2 (.st 3 (.st 4 (.st 5 (.ef 6 (.ef 7 (.st 8 (.st 9 (.st 10 (.st 11 .done))))))))))), 1))], []⟩
theorem eval_engine_calc_lift {e_1 : Nat} {place2 : Int} {i__Op3 : Int} {i__A4 : Int} {i__B5 : Int} {i__C6 : Int} {i__X7 : Int} {w : World} {K : Value → World → Prop} (h : eval_engine_calc_sh e_1 place2 i__Op3 i__A4 i__B5 i__C6 i__X7 w K) : Calls Try.prog fn_eval_engine_calc #[.pointer (some ⟨e_1, 0, none⟩), .int .i64 place2, .agg #[.int .i64 i__Op3, .int .i64 i__A4, .int .i64 i__B5, .int .i64 i__C6, .int .i64 i__X7]] w fun e w' => ∃ v, e = .returned v ∧ K v w' :=
   lift_calls (A := eval_engine_calc_an) (c := bodyOf Try.f155) (args := [.pointer (some ⟨e_1, 0, none⟩), .int .i64 place2, .agg #[.int .i64 i__Op3, .int .i64 i__A4, .int .i64 i__B5, .int .i64 i__C6, .int .i64 i__X7]]) orc orc_wide Try.func155 (by kernel_rfl) (by kernel_rfl) (Eq.mp (by kernel_rfl : eval_engine_calc_sh e_1 place2 i__Op3 i__A4 i__B5 i__C6 i__X7 w K = wpc orc Try.f155.ntmps eval_engine_calc_an (bodyOf Try.f155) (argl 0 [.pointer (some ⟨e_1, 0, none⟩), .int .i64 place2, .agg #[.int .i64 i__Op3, .int .i64 i__A4, .int .i64 i__B5, .int .i64 i__C6, .int .i64 i__X7]]) w (retQ orc Try.f155.results.toList K)) h)

-- (*holloway/eval.engine).memory
def eval_engine_memory_sh (e_1 : Nat) (place2 : Int) (i__Op3 : Int) (i__A4 : Int) (i__B5 : Int) (i__C6 : Int) (i__X7 : Int) (w : World) (K : Value → World → Prop) : Prop :=
 ∀ (b8 : Nat) (w9 : World), b8 = w.heap.size → w9 = World.alloc w (.cells #[.int .i64 i__Op3, .int .i64 i__A4, .int .i64 i__B5, .int .i64 i__C6, .int .i64 i__X7] T_api_Ins) →
 ∃ n10 : Int, w9.cell? ⟨b8, 2, none⟩ = some (.int .i64 n10) ∧
 Calls Try.prog fn_eval_engine_value #[.pointer (some ⟨e_1, 0, none⟩), .int .i64 n10] w9 fun e11 w12 => ∃ n13 : Int, e11 = .returned (.int .i64 n13) ∧
 ∃ J4 : Bool → World → Prop, (∀ (b16 : Bool) (w15 : World), J4 b16 w15 →
 brB b16
 (∃ n17 : Int, w15.cell? ⟨b8, 4, none⟩ = some (.int .i64 n17) ∧
 K (.int .i64 n17) w15)
 (∃ n18 : Int, w15.cell? ⟨b8, 0, none⟩ = some (.int .i64 n18) ∧
 brB (n18 == (5 : Int))
 (∃ s19 : Sl, w15.cell? ⟨e_1, 13, none⟩ = some (s19.val) ∧
 ∃ a20 : Addr, s19.ptr = some a20 ∧ 0 ≤ n13 ∧ n13 < (s19.len : Int) ∧
 ∃ n21 : Int, w15.cell? (Addr.add a20 (Int.toNat n13 * 1)) = some (.int .i64 n21) ∧
 Calls Try.prog fn_eval_engine_set #[.pointer (some ⟨e_1, 0, none⟩), .int .i64 place2, .int .i64 n21] w15 fun e22 w23 => ∃ n24 : Int, e22 = .returned (.int .i64 n24) ∧
 K (.int .i64 n24) w23)
 (∀ w25 : World, w25 = World.drew w15 →
 ∃ S26 : World → Prop, S26 w25 ∧
 ∃ s27 : Sl, held S26 ⟨e_1, 13, none⟩ (s27.val) ∧
 ∃ n28 : Int, held S26 ⟨b8, 3, none⟩ (.int .i64 n28) ∧
 Calls Try.prog fn_eval_engine_value #[.pointer (some ⟨e_1, 0, none⟩), .int .i64 n28] w25 fun e29 w30 => ∃ n31 : Int, e29 = .returned (.int .i64 n31) ∧
 S26 w30 ∧
 ∃ a32 : Addr, s27.ptr = some a32 ∧ 0 ≤ n13 ∧ n13 < (s27.len : Int) ∧
 wrOk w30 (Addr.add a32 (Int.toNat n13 * 1)) 1 ∧ ∀ w33 : World, w33 = stW w30 (Addr.add a32 (Int.toNat n13 * 1)) 0 [.int .i64 n31] →
 ∃ s34 : Sl, w33.cell? ⟨e_1, 21, none⟩ = some (s34.val) ∧
 Calls Try.prog fn_slices_Contains_sl_int_int #[s34.val, .int .i64 n13] w33 fun e35 w36 => ∃ b37 : Bool, e35 = .returned (.bool b37) ∧
 brB b37
 (wrOk w36 ⟨e_1, 22, none⟩ 1 ∧ ∀ w38 : World, w38 = stW w36 ⟨e_1, 22, none⟩ 0 [.int .i64 n13] →
 ∃ n39 : Int, w38.cell? ⟨b8, 1, none⟩ = some (.int .i64 n39) ∧
 K (.int .i64 n39) w38)
 (K (.int .i64 (-1 : Int)) w36)))) ∧
 brB (decide (n13 < (0 : Int)))
 (J4 true w12)
 (∃ s14 : Sl, w12.cell? ⟨e_1, 13, none⟩ = some (s14.val) ∧
 J4 (decide (n13 ≥ (s14.len : Int))) w12)
def eval_engine_memory_an : An := ⟨[], [(6, (10, .st 0 (.st 1 (.st 2 (.st 3 (.st 4 (.st 5 (.st 6 (.st 7 (.st 8 (.ef 9 .done))))))))), 1))], [(3, [(12, .bool)])]⟩
theorem eval_engine_memory_lift {e_1 : Nat} {place2 : Int} {i__Op3 : Int} {i__A4 : Int} {i__B5 : Int} {i__C6 : Int} {i__X7 : Int} {w : World} {K : Value → World → Prop} (h : eval_engine_memory_sh e_1 place2 i__Op3 i__A4 i__B5 i__C6 i__X7 w K) : Calls Try.prog fn_eval_engine_memory #[.pointer (some ⟨e_1, 0, none⟩), .int .i64 place2, .agg #[.int .i64 i__Op3, .int .i64 i__A4, .int .i64 i__B5, .int .i64 i__C6, .int .i64 i__X7]] w fun e w' => ∃ v, e = .returned v ∧ K v w' :=
   lift_calls (A := eval_engine_memory_an) (c := bodyOf Try.f156) (args := [.pointer (some ⟨e_1, 0, none⟩), .int .i64 place2, .agg #[.int .i64 i__Op3, .int .i64 i__A4, .int .i64 i__B5, .int .i64 i__C6, .int .i64 i__X7]]) orc orc_wide Try.func156 (by kernel_rfl) (by kernel_rfl) (Eq.mp (by kernel_rfl : eval_engine_memory_sh e_1 place2 i__Op3 i__A4 i__B5 i__C6 i__X7 w K = wpc orc Try.f156.ntmps eval_engine_memory_an (bodyOf Try.f156) (argl 0 [.pointer (some ⟨e_1, 0, none⟩), .int .i64 place2, .agg #[.int .i64 i__Op3, .int .i64 i__A4, .int .i64 i__B5, .int .i64 i__C6, .int .i64 i__X7]]) w (retQ orc Try.f156.results.toList K)) h)

-- holloway/eval.must
def eval_must_sh (is1 : Bool) (x_2 : Int) (w : World) (K : Value → World → Prop) : Prop :=
 brB is1
 (K (.int .i64 (-1 : Int)) w)
 (K (.int .i64 x_2) w)
def eval_must_an : An := ⟨[], [], []⟩
theorem eval_must_lift {is1 : Bool} {x_2 : Int} {w : World} {K : Value → World → Prop} (h : eval_must_sh is1 x_2 w K) : Calls Try.prog fn_eval_must #[.bool is1, .int .i64 x_2] w fun e w' => ∃ v, e = .returned v ∧ K v w' :=
   lift_calls (A := eval_must_an) (c := bodyOf Try.f157) (args := [.bool is1, .int .i64 x_2]) orc orc_wide Try.func157 (by kernel_rfl) (by kernel_rfl) (Eq.mp (by kernel_rfl : eval_must_sh is1 x_2 w K = wpc orc Try.f157.ntmps eval_must_an (bodyOf Try.f157) (argl 0 [.bool is1, .int .i64 x_2]) w (retQ orc Try.f157.results.toList K)) h)

-- (*holloway/eval.engine).value
def eval_engine_value_sh (e_1 : Nat) (place2 : Int) (w : World) (K : Value → World → Prop) : Prop :=
 ∀ w3 : World, w3 = World.drew w →
 ∃ s4 : Sl, held (Lw w3) ⟨e_1, 19, none⟩ (s4.val) ∧
 ∃ s5 : Sl, held (Lw w3) ⟨e_1, 20, none⟩ (s5.val) ∧
 ∃ a6 : Addr, s5.ptr = some a6 ∧ 0 ≤ place2 ∧ place2 < (s5.len : Int) ∧
 ∃ n7 : Int, held (Lw w3) (Addr.add a6 (Int.toNat place2 * 1)) (.int .i64 n7) ∧
 ∃ a8 : Addr, s4.ptr = some a8 ∧ 0 ≤ n7 ∧ n7 < (s4.len : Int) ∧
 ∃ n9 : Int, held (Lw w3) (Addr.add a8 (Int.toNat n7 * 1)) (.int .i64 n9) ∧
 K (.int .i64 n9) w3
def eval_engine_value_an : An := ⟨[], [(1, (14, .st 0 (.st 1 (.st 2 (.st 3 (.st 4 (.st 5 (.st 6 (.st 7 (.st 8 (.st 9 (.st 10 (.st 11 (.st 12 (.st 13 .done))))))))))))), 0))], []⟩
theorem eval_engine_value_lift {e_1 : Nat} {place2 : Int} {w : World} {K : Value → World → Prop} (h : eval_engine_value_sh e_1 place2 w K) : Calls Try.prog fn_eval_engine_value #[.pointer (some ⟨e_1, 0, none⟩), .int .i64 place2] w fun e w' => ∃ v, e = .returned v ∧ K v w' :=
   lift_calls (A := eval_engine_value_an) (c := bodyOf Try.f158) (args := [.pointer (some ⟨e_1, 0, none⟩), .int .i64 place2]) orc orc_wide Try.func158 (by kernel_rfl) (by kernel_rfl) (Eq.mp (by kernel_rfl : eval_engine_value_sh e_1 place2 w K = wpc orc Try.f158.ntmps eval_engine_value_an (bodyOf Try.f158) (argl 0 [.pointer (some ⟨e_1, 0, none⟩), .int .i64 place2]) w (retQ orc Try.f158.results.toList K)) h)

-- (*holloway/eval.engine).say
def eval_engine_say_sh (e_1 : Nat) (i__Op2 : Int) (i__A3 : Int) (i__B4 : Int) (i__C5 : Int) (i__X6 : Int) (w : World) (K : Value → World → Prop) : Prop :=
 ∀ (b7 : Nat) (w8 : World), b7 = w.heap.size → w8 = World.alloc w (.cells #[.int .i64 i__Op2, .int .i64 i__A3, .int .i64 i__B4, .int .i64 i__C5, .int .i64 i__X6] T_api_Ins) →
 ∃ n9 : Int, w8.cell? ⟨b7, 2, none⟩ = some (.int .i64 n9) ∧
 Calls Try.prog fn_eval_engine_value #[.pointer (some ⟨e_1, 0, none⟩), .int .i64 n9] w8 fun e10 w11 => ∃ n12 : Int, e10 = .returned (.int .i64 n12) ∧
 ∀ (b13 : Nat) (w14 : World), b13 = w11.heap.size → w14 = World.alloc w11 (.cells #[.int .u8 (IntKind.wrap .u8 n12)] T_uint8) →
 ∃ t15 : ByteArray, ∃ w16 : World, (convert T_sl_uint8 T_string (.slice (some ⟨b13, 0, none⟩) 1 1)).run Try.prog w14 = .ok (.string t15) w16 ∧
 ∃ J4 : ByteArray → World → Prop, (∀ (text23 : ByteArray) (w21 : World), J4 text23 w21 →
 ∃ t22 : ByteArray, w21.cell? ⟨e_1, 14, none⟩ = some (.string t22) ∧
 brB (decide ((wr ((t22.size : Int) + (text23.size : Int))) > (2000 : Int)))
 (∃ n24 : Int, w21.cell? ⟨b7, 4, none⟩ = some (.int .i64 n24) ∧
 K (.int .i64 n24) w21)
 (∃ t25 : ByteArray, w21.cell? ⟨e_1, 14, none⟩ = some (.string t25) ∧
 ((t25).size : Int) + ((text23).size : Int) ≤ 9223372036854775807 ∧ wrOk w21 ⟨e_1, 14, none⟩ 1 ∧ ∀ w26 : World, w26 = stW w21 ⟨e_1, 14, none⟩ 0 [.string (t25 ++ text23)] →
 K (.int .i64 (-1 : Int)) w26)) ∧
 ∃ n17 : Int, w16.cell? ⟨b7, 0, none⟩ = some (.int .i64 n17) ∧
 brB (n17 == (11 : Int))
 (Calls Try.prog fn_digits_Put #[.int .i64 n12, .int .i64 (10 : Int)] w16 fun e18 w19 => ∃ t20 : ByteArray, e18 = .returned (.string t20) ∧
 ((t20).size : Int) + (((bs [32])).size : Int) ≤ 9223372036854775807 ∧ J4 (t20 ++ (bs [32])) w19)
 (J4 t15 w16)
def eval_engine_say_an : An := ⟨[], [], [(5, [(6, .str)])]⟩
theorem eval_engine_say_lift {e_1 : Nat} {i__Op2 : Int} {i__A3 : Int} {i__B4 : Int} {i__C5 : Int} {i__X6 : Int} {w : World} {K : Value → World → Prop} (h : eval_engine_say_sh e_1 i__Op2 i__A3 i__B4 i__C5 i__X6 w K) : Calls Try.prog fn_eval_engine_say #[.pointer (some ⟨e_1, 0, none⟩), .agg #[.int .i64 i__Op2, .int .i64 i__A3, .int .i64 i__B4, .int .i64 i__C5, .int .i64 i__X6]] w fun e w' => ∃ v, e = .returned v ∧ K v w' :=
   lift_calls (A := eval_engine_say_an) (c := bodyOf Try.f159) (args := [.pointer (some ⟨e_1, 0, none⟩), .agg #[.int .i64 i__Op2, .int .i64 i__A3, .int .i64 i__B4, .int .i64 i__C5, .int .i64 i__X6]]) orc orc_wide Try.func159 (by kernel_rfl) (by kernel_rfl) (Eq.mp (by kernel_rfl : eval_engine_say_sh e_1 i__Op2 i__A3 i__B4 i__C5 i__X6 w K = wpc orc Try.f159.ntmps eval_engine_say_an (bodyOf Try.f159) (argl 0 [.pointer (some ⟨e_1, 0, none⟩), .agg #[.int .i64 i__Op2, .int .i64 i__A3, .int .i64 i__B4, .int .i64 i__C5, .int .i64 i__X6]]) w (retQ orc Try.f159.results.toList K)) h)

-- (*holloway/eval.engine).ask
def eval_engine_ask_sh (e_1 : Nat) (place2 : Int) (w : World) (K : Value → World → Prop) : Prop :=
 ∀ w3 : World, w3 = World.drew w →
 ∃ n4 : Int, held (Lw w3) ⟨e_1, 16, none⟩ (.int .i64 n4) ∧
 ∃ t5 : ByteArray, held (Lw w3) ⟨e_1, 15, none⟩ (.string t5) ∧
 brB (decide (n4 ≥ (t5.size : Int)))
 (Calls Try.prog fn_eval_engine_set #[.pointer (some ⟨e_1, 0, none⟩), .int .i64 place2, .int .i64 (-1 : Int)] w3 fun e6 w7 => ∃ n8 : Int, e6 = .returned (.int .i64 n8) ∧
 K (.int .i64 n8) w7)
 (∃ n9 : Int, w3.cell? ⟨e_1, 16, none⟩ = some (.int .i64 n9) ∧
 wrOk w3 ⟨e_1, 16, none⟩ 1 ∧ ∀ w10 : World, w10 = stW w3 ⟨e_1, 16, none⟩ 0 [.int .i64 (wr (n9 + (1 : Int)))] →
 ∀ w11 : World, w11 = World.drew w10 →
 ∃ t12 : ByteArray, held (Lw w11) ⟨e_1, 15, none⟩ (.string t12) ∧
 ∃ n13 : Int, held (Lw w11) ⟨e_1, 16, none⟩ (.int .i64 n13) ∧
 0 ≤ (wr (n13 - (1 : Int))) ∧ (wr (n13 - (1 : Int))) < (t12.size : Int) ∧
 Calls Try.prog fn_eval_engine_set #[.pointer (some ⟨e_1, 0, none⟩), .int .i64 place2, .int .i64 (wr (sb t12 (wr (n13 - (1 : Int)))))] w11 fun e14 w15 => ∃ n16 : Int, e14 = .returned (.int .i64 n16) ∧
 K (.int .i64 n16) w15)
def eval_engine_ask_an : An := ⟨[], [(1, (12, .st 0 (.st 1 (.st 2 (.st 3 (.st 4 (.st 5 (.st 6 (.st 7 (.st 8 (.st 9 (.st 10 (.st 11 .done))))))))))), 0)), (4, (15, .st 0 (.st 1 (.st 2 (.st 3 (.st 4 (.st 5 (.st 6 (.st 7 (.st 8 (.st 9 (.st 10 (.st 11 (.st 12 (.st 13 (.st 14 .done)))))))))))))), 0))], []⟩
theorem eval_engine_ask_lift {e_1 : Nat} {place2 : Int} {w : World} {K : Value → World → Prop} (h : eval_engine_ask_sh e_1 place2 w K) : Calls Try.prog fn_eval_engine_ask #[.pointer (some ⟨e_1, 0, none⟩), .int .i64 place2] w fun e w' => ∃ v, e = .returned v ∧ K v w' :=
   lift_calls (A := eval_engine_ask_an) (c := bodyOf Try.f160) (args := [.pointer (some ⟨e_1, 0, none⟩), .int .i64 place2]) orc orc_wide Try.func160 (by kernel_rfl) (by kernel_rfl) (Eq.mp (by kernel_rfl : eval_engine_ask_sh e_1 place2 w K = wpc orc Try.f160.ntmps eval_engine_ask_an (bodyOf Try.f160) (argl 0 [.pointer (some ⟨e_1, 0, none⟩), .int .i64 place2]) w (retQ orc Try.f160.results.toList K)) h)

-- (*holloway/eval.engine).values
def eval_engine_values_sh (e_1 : Nat) (l_2 : Sl) (w : World) (K : Value → World → Prop) : Prop :=
 ∃ (I1 : Sl → Int → World → Prop) (μ1 : Sl → Int → World → Nat), I1 (⟨none, 0, 0⟩ : Sl) (0 : Int) w ∧ ∀ (out7 : Sl) (n4 : Int) (w3 : World), I1 out7 n4 w3 →
 brB (decide (n4 < (l_2.len : Int)))
 (∃ a5 : Addr, l_2.ptr = some a5 ∧ 0 ≤ n4 ∧ n4 < (l_2.len : Int) ∧
 ∃ n6 : Int, w3.cell? (Addr.add a5 (Int.toNat n4 * 1)) = some (.int .i64 n6) ∧
 Calls Try.prog fn_eval_engine_value #[.pointer (some ⟨e_1, 0, none⟩), .int .i64 n6] w3 fun e8 w9 => ∃ n10 : Int, e8 = .returned (.int .i64 n10) ∧
 ∀ (b11 : Nat) (w12 : World), b11 = w9.heap.size → w12 = World.alloc w9 (.cells #[.int .i64 n10] T_int) →
 ∃ s13 : Sl, ∃ w14 : World, (Builtin.append_ #[T_sl_int, T_sl_int] T_sl_int #[out7.val, .slice (some ⟨b11, 0, none⟩) 1 1]).run Try.prog w12 = .ok (s13.val) w14 ∧
 I1 s13 (wr (n4 + (1 : Int))) w14 ∧ μ1 s13 (wr (n4 + (1 : Int))) w14 < μ1 out7 n4 w3)
 (K (out7.val) w3)
def eval_engine_values_an : An := ⟨[(3, [(5, .sl), (10, .int .i64)])], [], []⟩
theorem eval_engine_values_lift {e_1 : Nat} {l_2 : Sl} {w : World} {K : Value → World → Prop} (h : eval_engine_values_sh e_1 l_2 w K) : Calls Try.prog fn_eval_engine_values #[.pointer (some ⟨e_1, 0, none⟩), l_2.val] w fun e w' => ∃ v, e = .returned v ∧ K v w' :=
   lift_calls (A := eval_engine_values_an) (c := bodyOf Try.f161) (args := [.pointer (some ⟨e_1, 0, none⟩), l_2.val]) orc orc_wide Try.func161 (by kernel_rfl) (by kernel_rfl) (Eq.mp (by kernel_rfl : eval_engine_values_sh e_1 l_2 w K = wpc orc Try.f161.ntmps eval_engine_values_an (bodyOf Try.f161) (argl 0 [.pointer (some ⟨e_1, 0, none⟩), l_2.val]) w (retQ orc Try.f161.results.toList K)) h)

end Go.Proofs.Ytblmoilneiffgaa

/- Functions of Hollowayref15, read without their frames; that each is enough. Printed by a program of mine (wip/lift/gen.py). -/
set_option maxRecDepth 100000
namespace Go.Proofs.Ytblmoilneiffgaa
open Go.RowKit

-- holloway/hollowayref15.Right
-- holloway/hollowayref15.May
-- holloway/hollowayref15.Run
-- holloway/hollowayref15.within
-- holloway/hollowayref15.named
-- holloway/hollowayref15.Uses
-- holloway/hollowayref15.Outs
-- holloway/hollowayref15.out
-- holloway/hollowayref15.leave
-- holloway/hollowayref15.Gives
end Go.Proofs.Ytblmoilneiffgaa
