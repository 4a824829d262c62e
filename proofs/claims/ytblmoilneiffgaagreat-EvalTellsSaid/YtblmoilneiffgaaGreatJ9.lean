/- The lifted texts of the packages eval and hollowayref15. -/
import Derived.Test.YtblmoilneiffgaaGreatJ4

/- Functions of Eval, read without their frames; that each is enough. Printed by a program of mine (wip/lift/gen.py). -/
set_option maxRecDepth 100000
namespace Go.Proofs.YtblmoilneiffgaaGreat
open Go.RowKit

-- holloway/eval.Run
def eval_Run_sh (t__Start1 : Int) (t__Slots2 : Int) (t__Backs3 : Int) (t__Grow4 : Int) (t__GrowBack5 : Int) (t__Ins6 : Sl) (t__Outs7 : Sl) (t__Last8 : Int) (t__Cells9 : Sl) (s__Ip10 : Int) (s__Handler11 : Int) (s__Stack12 : Sl) (s__Back13 : Sl) (s__Mem14 : Sl) (s__Out15 : ByteArray) (s__In16 : ByteArray) (s__Read17 : Int) (s__Status18 : Int) (s__Code19 : Int) (watched20 : Sl) (w : World) (K : Value → World → Prop) : Prop :=
 ∀ (b21 : Nat) (w22 : World), b21 = w.heap.size → w22 = World.alloc w (.cells #[.int .i64 t__Start1, .int .i64 t__Slots2, .int .i64 t__Backs3, .int .i64 t__Grow4, .int .i64 t__GrowBack5, t__Ins6.val, t__Outs7.val, .int .i64 t__Last8, t__Cells9.val] T_api_Trace) →
 ∀ (b23 : Nat) (w24 : World), b23 = w22.heap.size → w24 = World.alloc w22 (.cells #[.int .i64 s__Ip10, .int .i64 s__Handler11, s__Stack12.val, s__Back13.val, s__Mem14.val, .string s__Out15, .string s__In16, .int .i64 s__Read17, .int .i64 s__Status18, .int .i64 s__Code19] T_api_State) →
 ∀ (b25 : Nat) (w26 : World), b25 = w24.heap.size → w26 = World.alloc w24 (.cells #[.int .i64 (0 : Int), .int .i64 (0 : Int), .slice none 0 0, .slice none 0 0, .slice none 0 0, .string (bs []), .string (bs []), .int .i64 (0 : Int), .int .i64 (0 : Int), .int .i64 (0 : Int)] T_api_State) →
 ∀ (b27 : Nat) (w28 : World), b27 = w26.heap.size → w28 = World.alloc w26 (.cells #[.int .i64 (0 : Int), .int .i64 (0 : Int), .bool false] T_eval_Done) →
 ∃ s29 : Sl, w28.cell? ⟨b21, 5, none⟩ = some (s29.val) ∧
 ∃ s30 : Sl, ∃ w31 : World, (Instr.makeSlice T_sl_int (.int .i64 (s29.len : Int)) (.int .i64 (s29.len : Int))).run Tryz.prog w28 = .ok s30.val w31 ∧
 ∃ (I1 : Int → World → Prop) (μ1 : Int → World → Nat), I1 (0 : Int) w31 ∧ ∀ (n33 : Int) (w32 : World), I1 n33 w32 →
 brB (decide (n33 < (s30.len : Int)))
 (∃ a34 : Addr, s30.ptr = some a34 ∧ 0 ≤ n33 ∧ n33 < (s30.len : Int) ∧
 wrOk w32 (Addr.add a34 (Int.toNat n33 * 1)) 1 ∧ ∀ w35 : World, w35 = stW w32 (Addr.add a34 (Int.toNat n33 * 1)) 0 [.int .i64 n33] →
 I1 (wr (n33 + (1 : Int))) w35 ∧ μ1 (wr (n33 + (1 : Int))) w35 < μ1 n33 w32)
 (∃ n_Start36 : Int, ∃ n_Slots37 : Int, ∃ n_Backs38 : Int, ∃ n_Grow39 : Int, ∃ n_GrowBack40 : Int, ∃ s_Ins41 : Sl, ∃ s_Outs42 : Sl, ∃ n_Last43 : Int, ∃ s_Cells44 : Sl, w32.cell? ⟨b21, 0, none⟩ = some (.int .i64 n_Start36) ∧ w32.cell? ⟨b21, 1, none⟩ = some (.int .i64 n_Slots37) ∧ w32.cell? ⟨b21, 2, none⟩ = some (.int .i64 n_Backs38) ∧ w32.cell? ⟨b21, 3, none⟩ = some (.int .i64 n_Grow39) ∧ w32.cell? ⟨b21, 4, none⟩ = some (.int .i64 n_GrowBack40) ∧ w32.cell? ⟨b21, 5, none⟩ = some (s_Ins41.val) ∧ w32.cell? ⟨b21, 6, none⟩ = some (s_Outs42.val) ∧ w32.cell? ⟨b21, 7, none⟩ = some (.int .i64 n_Last43) ∧ w32.cell? ⟨b21, 8, none⟩ = some (s_Cells44.val) ∧
 ∃ n_Ip45 : Int, ∃ n_Handler46 : Int, ∃ s_Stack47 : Sl, ∃ s_Back48 : Sl, ∃ s_Mem49 : Sl, ∃ t_Out50 : ByteArray, ∃ t_In51 : ByteArray, ∃ n_Read52 : Int, ∃ n_Status53 : Int, ∃ n_Code54 : Int, w32.cell? ⟨b23, 0, none⟩ = some (.int .i64 n_Ip45) ∧ w32.cell? ⟨b23, 1, none⟩ = some (.int .i64 n_Handler46) ∧ w32.cell? ⟨b23, 2, none⟩ = some (s_Stack47.val) ∧ w32.cell? ⟨b23, 3, none⟩ = some (s_Back48.val) ∧ w32.cell? ⟨b23, 4, none⟩ = some (s_Mem49.val) ∧ w32.cell? ⟨b23, 5, none⟩ = some (.string t_Out50) ∧ w32.cell? ⟨b23, 6, none⟩ = some (.string t_In51) ∧ w32.cell? ⟨b23, 7, none⟩ = some (.int .i64 n_Read52) ∧ w32.cell? ⟨b23, 8, none⟩ = some (.int .i64 n_Status53) ∧ w32.cell? ⟨b23, 9, none⟩ = some (.int .i64 n_Code54) ∧
 Calls Tryz.prog fn_eval_Through #[.agg #[.int .i64 n_Start36, .int .i64 n_Slots37, .int .i64 n_Backs38, .int .i64 n_Grow39, .int .i64 n_GrowBack40, s_Ins41.val, s_Outs42.val, .int .i64 n_Last43, s_Cells44.val], .agg #[.int .i64 n_Ip45, .int .i64 n_Handler46, s_Stack47.val, s_Back48.val, s_Mem49.val, .string t_Out50, .string t_In51, .int .i64 n_Read52, .int .i64 n_Status53, .int .i64 n_Code54], s30.val, .int .i64 (s30.len : Int), watched20.val] w32 fun e55 w56 => ∃ n_Ip57 : Int, ∃ n_Handler58 : Int, ∃ s_Stack59 : Sl, ∃ s_Back60 : Sl, ∃ s_Mem61 : Sl, ∃ t_Out62 : ByteArray, ∃ t_In63 : ByteArray, ∃ n_Read64 : Int, ∃ n_Status65 : Int, ∃ n_Code66 : Int, ∃ n_Exit67 : Int, ∃ n_Steps68 : Int, ∃ b_Hit69 : Bool, ∃ n70 : Int, e55 = .returned (.tuple #[.agg #[.int .i64 n_Ip57, .int .i64 n_Handler58, s_Stack59.val, s_Back60.val, s_Mem61.val, .string t_Out62, .string t_In63, .int .i64 n_Read64, .int .i64 n_Status65, .int .i64 n_Code66], .agg #[.int .i64 n_Exit67, .int .i64 n_Steps68, .bool b_Hit69], .int .i64 n70]) ∧
 ∀ (b71 : Nat) (w72 : World), b71 = w56.heap.size → w72 = World.alloc w56 (.cells #[.int .i64 (0 : Int), .int .i64 (0 : Int), .slice none 0 0, .slice none 0 0, .slice none 0 0, .string (bs []), .string (bs []), .int .i64 (0 : Int), .int .i64 (0 : Int), .int .i64 (0 : Int)] T_api_State) →
 ∀ (b73 : Nat) (w74 : World), b73 = w72.heap.size → w74 = World.alloc w72 (.cells #[.int .i64 (0 : Int), .int .i64 (0 : Int), .bool false] T_eval_Done) →
 wrOk w74 ⟨b71, 0, none⟩ 10 ∧ ∀ w75 : World, w75 = stW w74 ⟨b71, 0, none⟩ 0 [.int .i64 n_Ip57, .int .i64 n_Handler58, s_Stack59.val, s_Back60.val, s_Mem61.val, .string t_Out62, .string t_In63, .int .i64 n_Read64, .int .i64 n_Status65, .int .i64 n_Code66] →
 wrOk w75 ⟨b73, 0, none⟩ 3 ∧ ∀ w76 : World, w76 = stW w75 ⟨b73, 0, none⟩ 0 [.int .i64 n_Exit67, .int .i64 n_Steps68, .bool b_Hit69] →
 ∀ w77 : World, w77 = World.drew w76 →
 ∃ S78 : World → Prop, S78 w77 ∧
 ∃ n_Ip79 : Int, ∃ n_Handler80 : Int, ∃ s_Stack81 : Sl, ∃ s_Back82 : Sl, ∃ s_Mem83 : Sl, ∃ t_Out84 : ByteArray, ∃ t_In85 : ByteArray, ∃ n_Read86 : Int, ∃ n_Status87 : Int, ∃ n_Code88 : Int, held S78 ⟨b71, 0, none⟩ (.int .i64 n_Ip79) ∧ held S78 ⟨b71, 1, none⟩ (.int .i64 n_Handler80) ∧ held S78 ⟨b71, 2, none⟩ (s_Stack81.val) ∧ held S78 ⟨b71, 3, none⟩ (s_Back82.val) ∧ held S78 ⟨b71, 4, none⟩ (s_Mem83.val) ∧ held S78 ⟨b71, 5, none⟩ (.string t_Out84) ∧ held S78 ⟨b71, 6, none⟩ (.string t_In85) ∧ held S78 ⟨b71, 7, none⟩ (.int .i64 n_Read86) ∧ held S78 ⟨b71, 8, none⟩ (.int .i64 n_Status87) ∧ held S78 ⟨b71, 9, none⟩ (.int .i64 n_Code88) ∧
 ∃ n_Exit89 : Int, ∃ n_Steps90 : Int, ∃ b_Hit91 : Bool, held S78 ⟨b73, 0, none⟩ (.int .i64 n_Exit89) ∧ held S78 ⟨b73, 1, none⟩ (.int .i64 n_Steps90) ∧ held S78 ⟨b73, 2, none⟩ (.bool b_Hit91) ∧
 wrOk w77 ⟨b25, 0, none⟩ 10 ∧ ∀ w92 : World, w92 = stW w77 ⟨b25, 0, none⟩ 0 [.int .i64 n_Ip79, .int .i64 n_Handler80, s_Stack81.val, s_Back82.val, s_Mem83.val, .string t_Out84, .string t_In85, .int .i64 n_Read86, .int .i64 n_Status87, .int .i64 n_Code88] →
 S78 w92 ∧
 wrOk w92 ⟨b27, 0, none⟩ 3 ∧ ∀ w93 : World, w93 = stW w92 ⟨b27, 0, none⟩ 0 [.int .i64 n_Exit89, .int .i64 n_Steps90, .bool b_Hit91] →
 ∃ r_Ip94 : Int, ∃ r_Handler95 : Int, ∃ r_Stack96 : Sl, ∃ r_Back97 : Sl, ∃ r_Mem98 : Sl, ∃ r_Out99 : ByteArray, ∃ r_In100 : ByteArray, ∃ r_Read101 : Int, ∃ r_Status102 : Int, ∃ r_Code103 : Int, w93.cell? ⟨b25, 0, none⟩ = some (.int .i64 r_Ip94) ∧ w93.cell? ⟨b25, 1, none⟩ = some (.int .i64 r_Handler95) ∧ w93.cell? ⟨b25, 2, none⟩ = some (r_Stack96.val) ∧ w93.cell? ⟨b25, 3, none⟩ = some (r_Back97.val) ∧ w93.cell? ⟨b25, 4, none⟩ = some (r_Mem98.val) ∧ w93.cell? ⟨b25, 5, none⟩ = some (.string r_Out99) ∧ w93.cell? ⟨b25, 6, none⟩ = some (.string r_In100) ∧ w93.cell? ⟨b25, 7, none⟩ = some (.int .i64 r_Read101) ∧ w93.cell? ⟨b25, 8, none⟩ = some (.int .i64 r_Status102) ∧ w93.cell? ⟨b25, 9, none⟩ = some (.int .i64 r_Code103) ∧
 ∃ r_Exit104 : Int, ∃ r_Steps105 : Int, ∃ r_Hit106 : Bool, w93.cell? ⟨b27, 0, none⟩ = some (.int .i64 r_Exit104) ∧ w93.cell? ⟨b27, 1, none⟩ = some (.int .i64 r_Steps105) ∧ w93.cell? ⟨b27, 2, none⟩ = some (.bool r_Hit106) ∧
 K (.tuple #[.agg #[.int .i64 r_Ip94, .int .i64 r_Handler95, r_Stack96.val, r_Back97.val, r_Mem98.val, .string r_Out99, .string r_In100, .int .i64 r_Read101, .int .i64 r_Status102, .int .i64 r_Code103], .agg #[.int .i64 r_Exit104, .int .i64 r_Steps105, .bool r_Hit106]]) w93)
def eval_Run_an : An := ⟨[(3, [(19, .int .i64)])], [(8, (3, .st 0 (.st 1 (.ef 2 .done)), 1))], []⟩
theorem eval_Run_lift {t__Start1 : Int} {t__Slots2 : Int} {t__Backs3 : Int} {t__Grow4 : Int} {t__GrowBack5 : Int} {t__Ins6 : Sl} {t__Outs7 : Sl} {t__Last8 : Int} {t__Cells9 : Sl} {s__Ip10 : Int} {s__Handler11 : Int} {s__Stack12 : Sl} {s__Back13 : Sl} {s__Mem14 : Sl} {s__Out15 : ByteArray} {s__In16 : ByteArray} {s__Read17 : Int} {s__Status18 : Int} {s__Code19 : Int} {watched20 : Sl} {w : World} {K : Value → World → Prop} (h : eval_Run_sh t__Start1 t__Slots2 t__Backs3 t__Grow4 t__GrowBack5 t__Ins6 t__Outs7 t__Last8 t__Cells9 s__Ip10 s__Handler11 s__Stack12 s__Back13 s__Mem14 s__Out15 s__In16 s__Read17 s__Status18 s__Code19 watched20 w K) : Calls Tryz.prog fn_eval_Run #[.agg #[.int .i64 t__Start1, .int .i64 t__Slots2, .int .i64 t__Backs3, .int .i64 t__Grow4, .int .i64 t__GrowBack5, t__Ins6.val, t__Outs7.val, .int .i64 t__Last8, t__Cells9.val], .agg #[.int .i64 s__Ip10, .int .i64 s__Handler11, s__Stack12.val, s__Back13.val, s__Mem14.val, .string s__Out15, .string s__In16, .int .i64 s__Read17, .int .i64 s__Status18, .int .i64 s__Code19], watched20.val] w fun e w' => ∃ v, e = .returned v ∧ K v w' :=
   lift_calls (A := eval_Run_an) (c := bodyOf Tryz.f15) (args := [.agg #[.int .i64 t__Start1, .int .i64 t__Slots2, .int .i64 t__Backs3, .int .i64 t__Grow4, .int .i64 t__GrowBack5, t__Ins6.val, t__Outs7.val, .int .i64 t__Last8, t__Cells9.val], .agg #[.int .i64 s__Ip10, .int .i64 s__Handler11, s__Stack12.val, s__Back13.val, s__Mem14.val, .string s__Out15, .string s__In16, .int .i64 s__Read17, .int .i64 s__Status18, .int .i64 s__Code19], watched20.val]) orc orc_wide Tryz.func15 (by kernel_rfl) (by kernel_rfl) (Eq.mp (by kernel_rfl : eval_Run_sh t__Start1 t__Slots2 t__Backs3 t__Grow4 t__GrowBack5 t__Ins6 t__Outs7 t__Last8 t__Cells9 s__Ip10 s__Handler11 s__Stack12 s__Back13 s__Mem14 s__Out15 s__In16 s__Read17 s__Status18 s__Code19 watched20 w K = wpc orc Tryz.f15.ntmps eval_Run_an (bodyOf Tryz.f15) (argl 0 [.agg #[.int .i64 t__Start1, .int .i64 t__Slots2, .int .i64 t__Backs3, .int .i64 t__Grow4, .int .i64 t__GrowBack5, t__Ins6.val, t__Outs7.val, .int .i64 t__Last8, t__Cells9.val], .agg #[.int .i64 s__Ip10, .int .i64 s__Handler11, s__Stack12.val, s__Back13.val, s__Mem14.val, .string s__Out15, .string s__In16, .int .i64 s__Read17, .int .i64 s__Status18, .int .i64 s__Code19], watched20.val]) w (retQ orc Tryz.f15.results.toList K)) h)

-- holloway/eval.May
def eval_May_sh (t__Start1 : Int) (t__Slots2 : Int) (t__Backs3 : Int) (t__Grow4 : Int) (t__GrowBack5 : Int) (t__Ins6 : Sl) (t__Outs7 : Sl) (t__Last8 : Int) (t__Cells9 : Sl) (s__Ip10 : Int) (s__Handler11 : Int) (s__Stack12 : Sl) (s__Back13 : Sl) (s__Mem14 : Sl) (s__Out15 : ByteArray) (s__In16 : ByteArray) (s__Read17 : Int) (s__Status18 : Int) (s__Code19 : Int) (w : World) (K : Value → World → Prop) : Prop :=
 ∀ (b20 : Nat) (w21 : World), b20 = w.heap.size → w21 = World.alloc w (.cells #[.int .i64 t__Start1, .int .i64 t__Slots2, .int .i64 t__Backs3, .int .i64 t__Grow4, .int .i64 t__GrowBack5, t__Ins6.val, t__Outs7.val, .int .i64 t__Last8, t__Cells9.val] T_api_Trace) →
 ∀ (b22 : Nat) (w23 : World), b22 = w21.heap.size → w23 = World.alloc w21 (.cells #[.int .i64 s__Ip10, .int .i64 s__Handler11, s__Stack12.val, s__Back13.val, s__Mem14.val, .string s__Out15, .string s__In16, .int .i64 s__Read17, .int .i64 s__Status18, .int .i64 s__Code19] T_api_State) →
 ∃ J3 : Bool → World → Prop, (∀ (b28 : Bool) (w27 : World), J3 b28 w27 →
 brB b28
 (K (.bool false) w27)
 (∃ J5 : Bool → World → Prop, (∀ (stack34 : Bool) (w33 : World), J5 stack34 w33 →
 brB stack34
 (∃ s35 : Sl, w33.cell? ⟨b22, 3, none⟩ = some (s35.val) ∧
 ∃ n36 : Int, w33.cell? ⟨b20, 2, none⟩ = some (.int .i64 n36) ∧
 brB (decide ((s35.len : Int) ≥ n36))
 (∃ s37 : Sl, w33.cell? ⟨b22, 3, none⟩ = some (s37.val) ∧
 ∃ n38 : Int, w33.cell? ⟨b20, 4, none⟩ = some (.int .i64 n38) ∧
 K (.bool (decide ((wr ((s37.len : Int) + n38)) ≤ (48 : Int)))) w33)
 (K (.bool false) w33))
 (K (.bool false) w33)) ∧
 ∃ s29 : Sl, w27.cell? ⟨b22, 2, none⟩ = some (s29.val) ∧
 ∃ n30 : Int, w27.cell? ⟨b20, 1, none⟩ = some (.int .i64 n30) ∧
 brB (decide ((s29.len : Int) ≥ n30))
 (∃ s31 : Sl, w27.cell? ⟨b22, 2, none⟩ = some (s31.val) ∧
 ∃ n32 : Int, w27.cell? ⟨b20, 3, none⟩ = some (.int .i64 n32) ∧
 J5 (decide ((wr ((s31.len : Int) + n32)) ≤ (48 : Int))) w27)
 (J5 false w27))) ∧
 ∃ n24 : Int, w23.cell? ⟨b22, 8, none⟩ = some (.int .i64 n24) ∧
 brB (n24 != (0 : Int))
 (J3 true w23)
 (∃ n25 : Int, w23.cell? ⟨b22, 0, none⟩ = some (.int .i64 n25) ∧
 ∃ n26 : Int, w23.cell? ⟨b20, 0, none⟩ = some (.int .i64 n26) ∧
 J3 (n25 != n26) w23)
def eval_May_an : An := ⟨[], [], [(2, [(15, .bool)]), (4, [(5, .bool)])]⟩
theorem eval_May_lift {t__Start1 : Int} {t__Slots2 : Int} {t__Backs3 : Int} {t__Grow4 : Int} {t__GrowBack5 : Int} {t__Ins6 : Sl} {t__Outs7 : Sl} {t__Last8 : Int} {t__Cells9 : Sl} {s__Ip10 : Int} {s__Handler11 : Int} {s__Stack12 : Sl} {s__Back13 : Sl} {s__Mem14 : Sl} {s__Out15 : ByteArray} {s__In16 : ByteArray} {s__Read17 : Int} {s__Status18 : Int} {s__Code19 : Int} {w : World} {K : Value → World → Prop} (h : eval_May_sh t__Start1 t__Slots2 t__Backs3 t__Grow4 t__GrowBack5 t__Ins6 t__Outs7 t__Last8 t__Cells9 s__Ip10 s__Handler11 s__Stack12 s__Back13 s__Mem14 s__Out15 s__In16 s__Read17 s__Status18 s__Code19 w K) : Calls Tryz.prog fn_eval_May #[.agg #[.int .i64 t__Start1, .int .i64 t__Slots2, .int .i64 t__Backs3, .int .i64 t__Grow4, .int .i64 t__GrowBack5, t__Ins6.val, t__Outs7.val, .int .i64 t__Last8, t__Cells9.val], .agg #[.int .i64 s__Ip10, .int .i64 s__Handler11, s__Stack12.val, s__Back13.val, s__Mem14.val, .string s__Out15, .string s__In16, .int .i64 s__Read17, .int .i64 s__Status18, .int .i64 s__Code19]] w fun e w' => ∃ v, e = .returned v ∧ K v w' :=
   lift_calls (A := eval_May_an) (c := bodyOf Tryz.f18) (args := [.agg #[.int .i64 t__Start1, .int .i64 t__Slots2, .int .i64 t__Backs3, .int .i64 t__Grow4, .int .i64 t__GrowBack5, t__Ins6.val, t__Outs7.val, .int .i64 t__Last8, t__Cells9.val], .agg #[.int .i64 s__Ip10, .int .i64 s__Handler11, s__Stack12.val, s__Back13.val, s__Mem14.val, .string s__Out15, .string s__In16, .int .i64 s__Read17, .int .i64 s__Status18, .int .i64 s__Code19]]) orc orc_wide Tryz.func18 (by kernel_rfl) (by kernel_rfl) (Eq.mp (by kernel_rfl : eval_May_sh t__Start1 t__Slots2 t__Backs3 t__Grow4 t__GrowBack5 t__Ins6 t__Outs7 t__Last8 t__Cells9 s__Ip10 s__Handler11 s__Stack12 s__Back13 s__Mem14 s__Out15 s__In16 s__Read17 s__Status18 s__Code19 w K = wpc orc Tryz.f18.ntmps eval_May_an (bodyOf Tryz.f18) (argl 0 [.agg #[.int .i64 t__Start1, .int .i64 t__Slots2, .int .i64 t__Backs3, .int .i64 t__Grow4, .int .i64 t__GrowBack5, t__Ins6.val, t__Outs7.val, .int .i64 t__Last8, t__Cells9.val], .agg #[.int .i64 s__Ip10, .int .i64 s__Handler11, s__Stack12.val, s__Back13.val, s__Mem14.val, .string s__Out15, .string s__In16, .int .i64 s__Read17, .int .i64 s__Status18, .int .i64 s__Code19]]) w (retQ orc Tryz.f18.results.toList K)) h)

-- holloway/eval.Through
def eval_Through_sh (t__Start1 : Int) (t__Slots2 : Int) (t__Backs3 : Int) (t__Grow4 : Int) (t__GrowBack5 : Int) (t__Ins6 : Sl) (t__Outs7 : Sl) (t__Last8 : Int) (t__Cells9 : Sl) (s__Ip10 : Int) (s__Handler11 : Int) (s__Stack12 : Sl) (s__Back13 : Sl) (s__Mem14 : Sl) (s__Out15 : ByteArray) (s__In16 : ByteArray) (s__Read17 : Int) (s__Status18 : Int) (s__Code19 : Int) (at_20 : Sl) (n_21 : Int) (watched22 : Sl) (w : World) (K : Value → World → Prop) : Prop :=
 ∀ (b23 : Nat) (w24 : World), b23 = w.heap.size → w24 = World.alloc w (.cells #[.int .i64 t__Start1, .int .i64 t__Slots2, .int .i64 t__Backs3, .int .i64 t__Grow4, .int .i64 t__GrowBack5, t__Ins6.val, t__Outs7.val, .int .i64 t__Last8, t__Cells9.val] T_api_Trace) →
 ∀ (b25 : Nat) (w26 : World), b25 = w24.heap.size → w26 = World.alloc w24 (.cells #[.int .i64 s__Ip10, .int .i64 s__Handler11, s__Stack12.val, s__Back13.val, s__Mem14.val, .string s__Out15, .string s__In16, .int .i64 s__Read17, .int .i64 s__Status18, .int .i64 s__Code19] T_api_State) →
 ∀ (b27 : Nat) (w28 : World), b27 = w26.heap.size → w28 = World.alloc w26 (.cells #[.int .i64 (0 : Int), .int .i64 (0 : Int), .slice none 0 0, .slice none 0 0, .slice none 0 0, .string (bs []), .string (bs []), .int .i64 (0 : Int), .int .i64 (0 : Int), .int .i64 (0 : Int)] T_api_State) →
 ∀ (b29 : Nat) (w30 : World), b29 = w28.heap.size → w30 = World.alloc w28 (.cells #[.int .i64 (0 : Int), .int .i64 (0 : Int), .bool false] T_eval_Done) →
 ∃ n_Ip31 : Int, ∃ n_Handler32 : Int, ∃ s_Stack33 : Sl, ∃ s_Back34 : Sl, ∃ s_Mem35 : Sl, ∃ t_Out36 : ByteArray, ∃ t_In37 : ByteArray, ∃ n_Read38 : Int, ∃ n_Status39 : Int, ∃ n_Code40 : Int, w30.cell? ⟨b25, 0, none⟩ = some (.int .i64 n_Ip31) ∧ w30.cell? ⟨b25, 1, none⟩ = some (.int .i64 n_Handler32) ∧ w30.cell? ⟨b25, 2, none⟩ = some (s_Stack33.val) ∧ w30.cell? ⟨b25, 3, none⟩ = some (s_Back34.val) ∧ w30.cell? ⟨b25, 4, none⟩ = some (s_Mem35.val) ∧ w30.cell? ⟨b25, 5, none⟩ = some (.string t_Out36) ∧ w30.cell? ⟨b25, 6, none⟩ = some (.string t_In37) ∧ w30.cell? ⟨b25, 7, none⟩ = some (.int .i64 n_Read38) ∧ w30.cell? ⟨b25, 8, none⟩ = some (.int .i64 n_Status39) ∧ w30.cell? ⟨b25, 9, none⟩ = some (.int .i64 n_Code40) ∧
 Calls Tryz.prog fn_inner_Copy #[.agg #[.int .i64 n_Ip31, .int .i64 n_Handler32, s_Stack33.val, s_Back34.val, s_Mem35.val, .string t_Out36, .string t_In37, .int .i64 n_Read38, .int .i64 n_Status39, .int .i64 n_Code40]] w30 fun e41 w42 => ∃ n_Ip43 : Int, ∃ n_Handler44 : Int, ∃ s_Stack45 : Sl, ∃ s_Back46 : Sl, ∃ s_Mem47 : Sl, ∃ t_Out48 : ByteArray, ∃ t_In49 : ByteArray, ∃ n_Read50 : Int, ∃ n_Status51 : Int, ∃ n_Code52 : Int, e41 = .returned (.agg #[.int .i64 n_Ip43, .int .i64 n_Handler44, s_Stack45.val, s_Back46.val, s_Mem47.val, .string t_Out48, .string t_In49, .int .i64 n_Read50, .int .i64 n_Status51, .int .i64 n_Code52]) ∧
 wrOk w42 ⟨b25, 0, none⟩ 10 ∧ ∀ w53 : World, w53 = stW w42 ⟨b25, 0, none⟩ 0 [.int .i64 n_Ip43, .int .i64 n_Handler44, s_Stack45.val, s_Back46.val, s_Mem47.val, .string t_Out48, .string t_In49, .int .i64 n_Read50, .int .i64 n_Status51, .int .i64 n_Code52] →
 ∃ n_Start54 : Int, ∃ n_Slots55 : Int, ∃ n_Backs56 : Int, ∃ n_Grow57 : Int, ∃ n_GrowBack58 : Int, ∃ s_Ins59 : Sl, ∃ s_Outs60 : Sl, ∃ n_Last61 : Int, ∃ s_Cells62 : Sl, w53.cell? ⟨b23, 0, none⟩ = some (.int .i64 n_Start54) ∧ w53.cell? ⟨b23, 1, none⟩ = some (.int .i64 n_Slots55) ∧ w53.cell? ⟨b23, 2, none⟩ = some (.int .i64 n_Backs56) ∧ w53.cell? ⟨b23, 3, none⟩ = some (.int .i64 n_Grow57) ∧ w53.cell? ⟨b23, 4, none⟩ = some (.int .i64 n_GrowBack58) ∧ w53.cell? ⟨b23, 5, none⟩ = some (s_Ins59.val) ∧ w53.cell? ⟨b23, 6, none⟩ = some (s_Outs60.val) ∧ w53.cell? ⟨b23, 7, none⟩ = some (.int .i64 n_Last61) ∧ w53.cell? ⟨b23, 8, none⟩ = some (s_Cells62.val) ∧
 ∃ n_Ip63 : Int, ∃ n_Handler64 : Int, ∃ s_Stack65 : Sl, ∃ s_Back66 : Sl, ∃ s_Mem67 : Sl, ∃ t_Out68 : ByteArray, ∃ t_In69 : ByteArray, ∃ n_Read70 : Int, ∃ n_Status71 : Int, ∃ n_Code72 : Int, w53.cell? ⟨b25, 0, none⟩ = some (.int .i64 n_Ip63) ∧ w53.cell? ⟨b25, 1, none⟩ = some (.int .i64 n_Handler64) ∧ w53.cell? ⟨b25, 2, none⟩ = some (s_Stack65.val) ∧ w53.cell? ⟨b25, 3, none⟩ = some (s_Back66.val) ∧ w53.cell? ⟨b25, 4, none⟩ = some (s_Mem67.val) ∧ w53.cell? ⟨b25, 5, none⟩ = some (.string t_Out68) ∧ w53.cell? ⟨b25, 6, none⟩ = some (.string t_In69) ∧ w53.cell? ⟨b25, 7, none⟩ = some (.int .i64 n_Read70) ∧ w53.cell? ⟨b25, 8, none⟩ = some (.int .i64 n_Status71) ∧ w53.cell? ⟨b25, 9, none⟩ = some (.int .i64 n_Code72) ∧
 Calls Tryz.prog fn_eval_May #[.agg #[.int .i64 n_Start54, .int .i64 n_Slots55, .int .i64 n_Backs56, .int .i64 n_Grow57, .int .i64 n_GrowBack58, s_Ins59.val, s_Outs60.val, .int .i64 n_Last61, s_Cells62.val], .agg #[.int .i64 n_Ip63, .int .i64 n_Handler64, s_Stack65.val, s_Back66.val, s_Mem67.val, .string t_Out68, .string t_In69, .int .i64 n_Read70, .int .i64 n_Status71, .int .i64 n_Code72]] w53 fun e73 w74 => ∃ b75 : Bool, e73 = .returned (.bool b75) ∧
 brB (!b75)
 (∃ n_Ip76 : Int, ∃ n_Handler77 : Int, ∃ s_Stack78 : Sl, ∃ s_Back79 : Sl, ∃ s_Mem80 : Sl, ∃ t_Out81 : ByteArray, ∃ t_In82 : ByteArray, ∃ n_Read83 : Int, ∃ n_Status84 : Int, ∃ n_Code85 : Int, w74.cell? ⟨b25, 0, none⟩ = some (.int .i64 n_Ip76) ∧ w74.cell? ⟨b25, 1, none⟩ = some (.int .i64 n_Handler77) ∧ w74.cell? ⟨b25, 2, none⟩ = some (s_Stack78.val) ∧ w74.cell? ⟨b25, 3, none⟩ = some (s_Back79.val) ∧ w74.cell? ⟨b25, 4, none⟩ = some (s_Mem80.val) ∧ w74.cell? ⟨b25, 5, none⟩ = some (.string t_Out81) ∧ w74.cell? ⟨b25, 6, none⟩ = some (.string t_In82) ∧ w74.cell? ⟨b25, 7, none⟩ = some (.int .i64 n_Read83) ∧ w74.cell? ⟨b25, 8, none⟩ = some (.int .i64 n_Status84) ∧ w74.cell? ⟨b25, 9, none⟩ = some (.int .i64 n_Code85) ∧
 wrOk w74 ⟨b27, 0, none⟩ 10 ∧ ∀ w86 : World, w86 = stW w74 ⟨b27, 0, none⟩ 0 [.int .i64 n_Ip76, .int .i64 n_Handler77, s_Stack78.val, s_Back79.val, s_Mem80.val, .string t_Out81, .string t_In82, .int .i64 n_Read83, .int .i64 n_Status84, .int .i64 n_Code85] →
 wrOk w86 ⟨b29, 0, none⟩ 3 ∧ ∀ w87 : World, w87 = stW w86 ⟨b29, 0, none⟩ 0 [.int .i64 (-1 : Int), .int .i64 (0 : Int), .bool false] →
 ∃ r_Ip88 : Int, ∃ r_Handler89 : Int, ∃ r_Stack90 : Sl, ∃ r_Back91 : Sl, ∃ r_Mem92 : Sl, ∃ r_Out93 : ByteArray, ∃ r_In94 : ByteArray, ∃ r_Read95 : Int, ∃ r_Status96 : Int, ∃ r_Code97 : Int, w87.cell? ⟨b27, 0, none⟩ = some (.int .i64 r_Ip88) ∧ w87.cell? ⟨b27, 1, none⟩ = some (.int .i64 r_Handler89) ∧ w87.cell? ⟨b27, 2, none⟩ = some (r_Stack90.val) ∧ w87.cell? ⟨b27, 3, none⟩ = some (r_Back91.val) ∧ w87.cell? ⟨b27, 4, none⟩ = some (r_Mem92.val) ∧ w87.cell? ⟨b27, 5, none⟩ = some (.string r_Out93) ∧ w87.cell? ⟨b27, 6, none⟩ = some (.string r_In94) ∧ w87.cell? ⟨b27, 7, none⟩ = some (.int .i64 r_Read95) ∧ w87.cell? ⟨b27, 8, none⟩ = some (.int .i64 r_Status96) ∧ w87.cell? ⟨b27, 9, none⟩ = some (.int .i64 r_Code97) ∧
 ∃ r_Exit98 : Int, ∃ r_Steps99 : Int, ∃ r_Hit100 : Bool, w87.cell? ⟨b29, 0, none⟩ = some (.int .i64 r_Exit98) ∧ w87.cell? ⟨b29, 1, none⟩ = some (.int .i64 r_Steps99) ∧ w87.cell? ⟨b29, 2, none⟩ = some (.bool r_Hit100) ∧
 K (.tuple #[.agg #[.int .i64 r_Ip88, .int .i64 r_Handler89, r_Stack90.val, r_Back91.val, r_Mem92.val, .string r_Out93, .string r_In94, .int .i64 r_Read95, .int .i64 r_Status96, .int .i64 r_Code97], .agg #[.int .i64 r_Exit98, .int .i64 r_Steps99, .bool r_Hit100], .int .i64 (-1 : Int)]) w87)
 (∀ w101 : World, w101 = World.drew w74 →
 ∃ S102 : World → Prop, S102 w101 ∧
 ∃ n_Start103 : Int, ∃ n_Slots104 : Int, ∃ n_Backs105 : Int, ∃ n_Grow106 : Int, ∃ n_GrowBack107 : Int, ∃ s_Ins108 : Sl, ∃ s_Outs109 : Sl, ∃ n_Last110 : Int, ∃ s_Cells111 : Sl, held S102 ⟨b23, 0, none⟩ (.int .i64 n_Start103) ∧ held S102 ⟨b23, 1, none⟩ (.int .i64 n_Slots104) ∧ held S102 ⟨b23, 2, none⟩ (.int .i64 n_Backs105) ∧ held S102 ⟨b23, 3, none⟩ (.int .i64 n_Grow106) ∧ held S102 ⟨b23, 4, none⟩ (.int .i64 n_GrowBack107) ∧ held S102 ⟨b23, 5, none⟩ (s_Ins108.val) ∧ held S102 ⟨b23, 6, none⟩ (s_Outs109.val) ∧ held S102 ⟨b23, 7, none⟩ (.int .i64 n_Last110) ∧ held S102 ⟨b23, 8, none⟩ (s_Cells111.val) ∧
 ∃ n_Ip112 : Int, ∃ n_Handler113 : Int, ∃ s_Stack114 : Sl, ∃ s_Back115 : Sl, ∃ s_Mem116 : Sl, ∃ t_Out117 : ByteArray, ∃ t_In118 : ByteArray, ∃ n_Read119 : Int, ∃ n_Status120 : Int, ∃ n_Code121 : Int, held S102 ⟨b25, 0, none⟩ (.int .i64 n_Ip112) ∧ held S102 ⟨b25, 1, none⟩ (.int .i64 n_Handler113) ∧ held S102 ⟨b25, 2, none⟩ (s_Stack114.val) ∧ held S102 ⟨b25, 3, none⟩ (s_Back115.val) ∧ held S102 ⟨b25, 4, none⟩ (s_Mem116.val) ∧ held S102 ⟨b25, 5, none⟩ (.string t_Out117) ∧ held S102 ⟨b25, 6, none⟩ (.string t_In118) ∧ held S102 ⟨b25, 7, none⟩ (.int .i64 n_Read119) ∧ held S102 ⟨b25, 8, none⟩ (.int .i64 n_Status120) ∧ held S102 ⟨b25, 9, none⟩ (.int .i64 n_Code121) ∧
 ∃ s122 : Sl, ∃ w123 : World, (Instr.makeSlice T_sl_int (.int .i64 n_21) (.int .i64 n_21)).run Tryz.prog w101 = .ok s122.val w123 ∧
 S102 w123 ∧
 ∀ (b124 : Nat) (w125 : World), b124 = w123.heap.size → w125 = World.alloc w123 (.cells #[.int .i64 n_Start103, .int .i64 n_Slots104, .int .i64 n_Backs105, .int .i64 n_Grow106, .int .i64 n_GrowBack107, s_Ins108.val, s_Outs109.val, .int .i64 n_Last110, s_Cells111.val, .int .i64 n_Ip112, .int .i64 n_Handler113, s_Stack114.val, s_Back115.val, s_Mem116.val, .string t_Out117, .string t_In118, .int .i64 n_Read119, .int .i64 n_Status120, .int .i64 n_Code121, s122.val, at_20.val, watched22.val, .int .i64 (-1 : Int)] T_eval_engine) →
 ∃ s126 : Sl, w125.cell? ⟨b23, 5, none⟩ = some (s126.val) ∧
 ∃ (I1 : Int → World → Prop) (μ1 : Int → World → Nat), I1 (0 : Int) w125 ∧ ∀ (n128 : Int) (w127 : World), I1 n128 w127 →
 brB (decide (n128 < (s126.len : Int)))
 (∃ a129 : Addr, s126.ptr = some a129 ∧ 0 ≤ n128 ∧ n128 < (s126.len : Int) ∧
 ∃ n_Op130 : Int, ∃ n_A131 : Int, ∃ n_B132 : Int, ∃ n_C133 : Int, ∃ n_X134 : Int, w127.cell? (Addr.add a129 (Int.toNat n128 * 5)) = some (.int .i64 n_Op130) ∧ w127.cell? (Addr.add (Addr.add a129 (Int.toNat n128 * 5)) 1) = some (.int .i64 n_A131) ∧ w127.cell? (Addr.add (Addr.add a129 (Int.toNat n128 * 5)) 2) = some (.int .i64 n_B132) ∧ w127.cell? (Addr.add (Addr.add a129 (Int.toNat n128 * 5)) 3) = some (.int .i64 n_C133) ∧ w127.cell? (Addr.add (Addr.add a129 (Int.toNat n128 * 5)) 4) = some (.int .i64 n_X134) ∧
 ∀ (b135 : Nat) (w136 : World), b135 = w127.heap.size → w136 = World.alloc w127 (.cells #[.int .i64 (0 : Int), .int .i64 (0 : Int), .int .i64 (0 : Int), .int .i64 (0 : Int), .int .i64 (0 : Int)] T_api_Ins) →
 wrOk w136 ⟨b135, 0, none⟩ 5 ∧ ∀ w137 : World, w137 = stW w136 ⟨b135, 0, none⟩ 0 [.int .i64 n_Op130, .int .i64 n_A131, .int .i64 n_B132, .int .i64 n_C133, .int .i64 n_X134] →
 ∃ n_Op138 : Int, ∃ n_A139 : Int, ∃ n_B140 : Int, ∃ n_C141 : Int, ∃ n_X142 : Int, w137.cell? ⟨b135, 0, none⟩ = some (.int .i64 n_Op138) ∧ w137.cell? ⟨b135, 1, none⟩ = some (.int .i64 n_A139) ∧ w137.cell? ⟨b135, 2, none⟩ = some (.int .i64 n_B140) ∧ w137.cell? ⟨b135, 3, none⟩ = some (.int .i64 n_C141) ∧ w137.cell? ⟨b135, 4, none⟩ = some (.int .i64 n_X142) ∧
 Calls Tryz.prog fn_eval_engine_ins #[.pointer (some ⟨b124, 0, none⟩), .int .i64 n128, .agg #[.int .i64 n_Op138, .int .i64 n_A139, .int .i64 n_B140, .int .i64 n_C141, .int .i64 n_X142]] w137 fun e143 w144 => ∃ n145 : Int, e143 = .returned (.int .i64 n145) ∧
 brB (decide (n145 ≥ (0 : Int)))
 (Calls Tryz.prog fn_eval_engine_leave #[.pointer (some ⟨b124, 0, none⟩), .int .i64 n145] w144 fun e146 w147 => ∃ n_Ip148 : Int, ∃ n_Handler149 : Int, ∃ s_Stack150 : Sl, ∃ s_Back151 : Sl, ∃ s_Mem152 : Sl, ∃ t_Out153 : ByteArray, ∃ t_In154 : ByteArray, ∃ n_Read155 : Int, ∃ n_Status156 : Int, ∃ n_Code157 : Int, ∃ n_Exit158 : Int, ∃ n_Steps159 : Int, ∃ b_Hit160 : Bool, ∃ n161 : Int, e146 = .returned (.tuple #[.agg #[.int .i64 n_Ip148, .int .i64 n_Handler149, s_Stack150.val, s_Back151.val, s_Mem152.val, .string t_Out153, .string t_In154, .int .i64 n_Read155, .int .i64 n_Status156, .int .i64 n_Code157], .agg #[.int .i64 n_Exit158, .int .i64 n_Steps159, .bool b_Hit160], .int .i64 n161]) ∧
 wrOk w147 ⟨b27, 0, none⟩ 10 ∧ ∀ w162 : World, w162 = stW w147 ⟨b27, 0, none⟩ 0 [.int .i64 n_Ip148, .int .i64 n_Handler149, s_Stack150.val, s_Back151.val, s_Mem152.val, .string t_Out153, .string t_In154, .int .i64 n_Read155, .int .i64 n_Status156, .int .i64 n_Code157] →
 wrOk w162 ⟨b29, 0, none⟩ 3 ∧ ∀ w163 : World, w163 = stW w162 ⟨b29, 0, none⟩ 0 [.int .i64 n_Exit158, .int .i64 n_Steps159, .bool b_Hit160] →
 ∃ r_Ip164 : Int, ∃ r_Handler165 : Int, ∃ r_Stack166 : Sl, ∃ r_Back167 : Sl, ∃ r_Mem168 : Sl, ∃ r_Out169 : ByteArray, ∃ r_In170 : ByteArray, ∃ r_Read171 : Int, ∃ r_Status172 : Int, ∃ r_Code173 : Int, w163.cell? ⟨b27, 0, none⟩ = some (.int .i64 r_Ip164) ∧ w163.cell? ⟨b27, 1, none⟩ = some (.int .i64 r_Handler165) ∧ w163.cell? ⟨b27, 2, none⟩ = some (r_Stack166.val) ∧ w163.cell? ⟨b27, 3, none⟩ = some (r_Back167.val) ∧ w163.cell? ⟨b27, 4, none⟩ = some (r_Mem168.val) ∧ w163.cell? ⟨b27, 5, none⟩ = some (.string r_Out169) ∧ w163.cell? ⟨b27, 6, none⟩ = some (.string r_In170) ∧ w163.cell? ⟨b27, 7, none⟩ = some (.int .i64 r_Read171) ∧ w163.cell? ⟨b27, 8, none⟩ = some (.int .i64 r_Status172) ∧ w163.cell? ⟨b27, 9, none⟩ = some (.int .i64 r_Code173) ∧
 ∃ r_Exit174 : Int, ∃ r_Steps175 : Int, ∃ r_Hit176 : Bool, w163.cell? ⟨b29, 0, none⟩ = some (.int .i64 r_Exit174) ∧ w163.cell? ⟨b29, 1, none⟩ = some (.int .i64 r_Steps175) ∧ w163.cell? ⟨b29, 2, none⟩ = some (.bool r_Hit176) ∧
 K (.tuple #[.agg #[.int .i64 r_Ip164, .int .i64 r_Handler165, r_Stack166.val, r_Back167.val, r_Mem168.val, .string r_Out169, .string r_In170, .int .i64 r_Read171, .int .i64 r_Status172, .int .i64 r_Code173], .agg #[.int .i64 r_Exit174, .int .i64 r_Steps175, .bool r_Hit176], .int .i64 n161]) w163)
 (I1 (wr (n128 + (1 : Int))) w144 ∧ μ1 (wr (n128 + (1 : Int))) w144 < μ1 n128 w127))
 (∃ n177 : Int, w127.cell? ⟨b23, 7, none⟩ = some (.int .i64 n177) ∧
 Calls Tryz.prog fn_eval_engine_leave #[.pointer (some ⟨b124, 0, none⟩), .int .i64 n177] w127 fun e178 w179 => ∃ n_Ip180 : Int, ∃ n_Handler181 : Int, ∃ s_Stack182 : Sl, ∃ s_Back183 : Sl, ∃ s_Mem184 : Sl, ∃ t_Out185 : ByteArray, ∃ t_In186 : ByteArray, ∃ n_Read187 : Int, ∃ n_Status188 : Int, ∃ n_Code189 : Int, ∃ n_Exit190 : Int, ∃ n_Steps191 : Int, ∃ b_Hit192 : Bool, ∃ n193 : Int, e178 = .returned (.tuple #[.agg #[.int .i64 n_Ip180, .int .i64 n_Handler181, s_Stack182.val, s_Back183.val, s_Mem184.val, .string t_Out185, .string t_In186, .int .i64 n_Read187, .int .i64 n_Status188, .int .i64 n_Code189], .agg #[.int .i64 n_Exit190, .int .i64 n_Steps191, .bool b_Hit192], .int .i64 n193]) ∧
 wrOk w179 ⟨b27, 0, none⟩ 10 ∧ ∀ w194 : World, w194 = stW w179 ⟨b27, 0, none⟩ 0 [.int .i64 n_Ip180, .int .i64 n_Handler181, s_Stack182.val, s_Back183.val, s_Mem184.val, .string t_Out185, .string t_In186, .int .i64 n_Read187, .int .i64 n_Status188, .int .i64 n_Code189] →
 wrOk w194 ⟨b29, 0, none⟩ 3 ∧ ∀ w195 : World, w195 = stW w194 ⟨b29, 0, none⟩ 0 [.int .i64 n_Exit190, .int .i64 n_Steps191, .bool b_Hit192] →
 ∃ r_Ip196 : Int, ∃ r_Handler197 : Int, ∃ r_Stack198 : Sl, ∃ r_Back199 : Sl, ∃ r_Mem200 : Sl, ∃ r_Out201 : ByteArray, ∃ r_In202 : ByteArray, ∃ r_Read203 : Int, ∃ r_Status204 : Int, ∃ r_Code205 : Int, w195.cell? ⟨b27, 0, none⟩ = some (.int .i64 r_Ip196) ∧ w195.cell? ⟨b27, 1, none⟩ = some (.int .i64 r_Handler197) ∧ w195.cell? ⟨b27, 2, none⟩ = some (r_Stack198.val) ∧ w195.cell? ⟨b27, 3, none⟩ = some (r_Back199.val) ∧ w195.cell? ⟨b27, 4, none⟩ = some (r_Mem200.val) ∧ w195.cell? ⟨b27, 5, none⟩ = some (.string r_Out201) ∧ w195.cell? ⟨b27, 6, none⟩ = some (.string r_In202) ∧ w195.cell? ⟨b27, 7, none⟩ = some (.int .i64 r_Read203) ∧ w195.cell? ⟨b27, 8, none⟩ = some (.int .i64 r_Status204) ∧ w195.cell? ⟨b27, 9, none⟩ = some (.int .i64 r_Code205) ∧
 ∃ r_Exit206 : Int, ∃ r_Steps207 : Int, ∃ r_Hit208 : Bool, w195.cell? ⟨b29, 0, none⟩ = some (.int .i64 r_Exit206) ∧ w195.cell? ⟨b29, 1, none⟩ = some (.int .i64 r_Steps207) ∧ w195.cell? ⟨b29, 2, none⟩ = some (.bool r_Hit208) ∧
 K (.tuple #[.agg #[.int .i64 r_Ip196, .int .i64 r_Handler197, r_Stack198.val, r_Back199.val, r_Mem200.val, .string r_Out201, .string r_In202, .int .i64 r_Read203, .int .i64 r_Status204, .int .i64 r_Code205], .agg #[.int .i64 r_Exit206, .int .i64 r_Steps207, .bool r_Hit208], .int .i64 n193]) w195))
def eval_Through_an : An := ⟨[(6, [(36, .int .i64)])], [(4, (6, .st 0 (.st 1 (.st 2 (.st 4 (.st 5 (.ef 3 .done))))), 1))], []⟩
theorem eval_Through_lift {t__Start1 : Int} {t__Slots2 : Int} {t__Backs3 : Int} {t__Grow4 : Int} {t__GrowBack5 : Int} {t__Ins6 : Sl} {t__Outs7 : Sl} {t__Last8 : Int} {t__Cells9 : Sl} {s__Ip10 : Int} {s__Handler11 : Int} {s__Stack12 : Sl} {s__Back13 : Sl} {s__Mem14 : Sl} {s__Out15 : ByteArray} {s__In16 : ByteArray} {s__Read17 : Int} {s__Status18 : Int} {s__Code19 : Int} {at_20 : Sl} {n_21 : Int} {watched22 : Sl} {w : World} {K : Value → World → Prop} (h : eval_Through_sh t__Start1 t__Slots2 t__Backs3 t__Grow4 t__GrowBack5 t__Ins6 t__Outs7 t__Last8 t__Cells9 s__Ip10 s__Handler11 s__Stack12 s__Back13 s__Mem14 s__Out15 s__In16 s__Read17 s__Status18 s__Code19 at_20 n_21 watched22 w K) : Calls Tryz.prog fn_eval_Through #[.agg #[.int .i64 t__Start1, .int .i64 t__Slots2, .int .i64 t__Backs3, .int .i64 t__Grow4, .int .i64 t__GrowBack5, t__Ins6.val, t__Outs7.val, .int .i64 t__Last8, t__Cells9.val], .agg #[.int .i64 s__Ip10, .int .i64 s__Handler11, s__Stack12.val, s__Back13.val, s__Mem14.val, .string s__Out15, .string s__In16, .int .i64 s__Read17, .int .i64 s__Status18, .int .i64 s__Code19], at_20.val, .int .i64 n_21, watched22.val] w fun e w' => ∃ v, e = .returned v ∧ K v w' :=
   lift_calls (A := eval_Through_an) (c := bodyOf Tryz.f53) (args := [.agg #[.int .i64 t__Start1, .int .i64 t__Slots2, .int .i64 t__Backs3, .int .i64 t__Grow4, .int .i64 t__GrowBack5, t__Ins6.val, t__Outs7.val, .int .i64 t__Last8, t__Cells9.val], .agg #[.int .i64 s__Ip10, .int .i64 s__Handler11, s__Stack12.val, s__Back13.val, s__Mem14.val, .string s__Out15, .string s__In16, .int .i64 s__Read17, .int .i64 s__Status18, .int .i64 s__Code19], at_20.val, .int .i64 n_21, watched22.val]) orc orc_wide Tryz.func53 (by kernel_rfl) (by kernel_rfl) (Eq.mp (by kernel_rfl : eval_Through_sh t__Start1 t__Slots2 t__Backs3 t__Grow4 t__GrowBack5 t__Ins6 t__Outs7 t__Last8 t__Cells9 s__Ip10 s__Handler11 s__Stack12 s__Back13 s__Mem14 s__Out15 s__In16 s__Read17 s__Status18 s__Code19 at_20 n_21 watched22 w K = wpc orc Tryz.f53.ntmps eval_Through_an (bodyOf Tryz.f53) (argl 0 [.agg #[.int .i64 t__Start1, .int .i64 t__Slots2, .int .i64 t__Backs3, .int .i64 t__Grow4, .int .i64 t__GrowBack5, t__Ins6.val, t__Outs7.val, .int .i64 t__Last8, t__Cells9.val], .agg #[.int .i64 s__Ip10, .int .i64 s__Handler11, s__Stack12.val, s__Back13.val, s__Mem14.val, .string s__Out15, .string s__In16, .int .i64 s__Read17, .int .i64 s__Status18, .int .i64 s__Code19], at_20.val, .int .i64 n_21, watched22.val]) w (retQ orc Tryz.f53.results.toList K)) h)

-- (*holloway/eval.engine).ins
def eval_engine_ins_j1 (b8 : Nat) (e_1 : Nat) (place2 : Int) (n10 : Int) (J4 : World → Prop) (b14 : Bool) (w13 : World) (K : Value → World → Prop) : Prop :=
 brB b14
 (∃ n_Op45 : Int, ∃ n_A46 : Int, ∃ n_B47 : Int, ∃ n_C48 : Int, ∃ n_X49 : Int, w13.cell? ⟨b8, 0, none⟩ = some (.int .i64 n_Op45) ∧ w13.cell? ⟨b8, 1, none⟩ = some (.int .i64 n_A46) ∧ w13.cell? ⟨b8, 2, none⟩ = some (.int .i64 n_B47) ∧ w13.cell? ⟨b8, 3, none⟩ = some (.int .i64 n_C48) ∧ w13.cell? ⟨b8, 4, none⟩ = some (.int .i64 n_X49) ∧
 Calls Tryz.prog fn_eval_engine_memory #[.pointer (some ⟨e_1, 0, none⟩), .int .i64 place2, .agg #[.int .i64 n_Op45, .int .i64 n_A46, .int .i64 n_B47, .int .i64 n_C48, .int .i64 n_X49]] w13 fun e50 w51 => ∃ n52 : Int, e50 = .returned (.int .i64 n52) ∧
 K (.int .i64 n52) w51)
 (brB (n10 == (7 : Int))
 (∀ w53 : World, w53 = World.drew w13 →
 ∃ S54 : World → Prop, S54 w53 ∧
 ∃ n55 : Int, held S54 ⟨b8, 2, none⟩ (.int .i64 n55) ∧
 ∃ n56 : Int, held S54 ⟨b8, 4, none⟩ (.int .i64 n56) ∧
 Calls Tryz.prog fn_eval_engine_value #[.pointer (some ⟨e_1, 0, none⟩), .int .i64 n55] w53 fun e57 w58 => ∃ n59 : Int, e57 = .returned (.int .i64 n59) ∧
 S54 w58 ∧
 Calls Tryz.prog fn_eval_must #[.bool (n59 != (0 : Int)), .int .i64 n56] w58 fun e60 w61 => ∃ n62 : Int, e60 = .returned (.int .i64 n62) ∧
 K (.int .i64 n62) w61)
 (brB (n10 == (8 : Int))
 (∀ w63 : World, w63 = World.drew w13 →
 ∃ S64 : World → Prop, S64 w63 ∧
 ∃ n65 : Int, held S64 ⟨b8, 2, none⟩ (.int .i64 n65) ∧
 ∃ n66 : Int, held S64 ⟨b8, 4, none⟩ (.int .i64 n66) ∧
 Calls Tryz.prog fn_eval_engine_value #[.pointer (some ⟨e_1, 0, none⟩), .int .i64 n65] w63 fun e67 w68 => ∃ n69 : Int, e67 = .returned (.int .i64 n69) ∧
 S64 w68 ∧
 Calls Tryz.prog fn_eval_must #[.bool (n69 == (0 : Int)), .int .i64 n66] w68 fun e70 w71 => ∃ n72 : Int, e70 = .returned (.int .i64 n72) ∧
 K (.int .i64 n72) w71)
 (brB (n10 == (9 : Int))
 (∀ w73 : World, w73 = World.drew w13 →
 ∃ S74 : World → Prop, S74 w73 ∧
 ∃ n75 : Int, held S74 ⟨b8, 2, none⟩ (.int .i64 n75) ∧
 ∃ n76 : Int, held S74 ⟨b8, 3, none⟩ (.int .i64 n76) ∧
 ∃ n77 : Int, held S74 ⟨b8, 4, none⟩ (.int .i64 n77) ∧
 Calls Tryz.prog fn_eval_engine_value #[.pointer (some ⟨e_1, 0, none⟩), .int .i64 n75] w73 fun e78 w79 => ∃ n80 : Int, e78 = .returned (.int .i64 n80) ∧
 S74 w79 ∧
 Calls Tryz.prog fn_eval_engine_value #[.pointer (some ⟨e_1, 0, none⟩), .int .i64 n76] w79 fun e81 w82 => ∃ n83 : Int, e81 = .returned (.int .i64 n83) ∧
 S74 w82 ∧
 Calls Tryz.prog fn_eval_must #[.bool (n80 == n83), .int .i64 n77] w82 fun e84 w85 => ∃ n86 : Int, e84 = .returned (.int .i64 n86) ∧
 K (.int .i64 n86) w85)
 (brB (n10 == (10 : Int))
 (J4  w13)
 (brB (n10 == (11 : Int))
 (J4  w13)
 (Calls Tryz.prog fn_eval_engine_ask #[.pointer (some ⟨e_1, 0, none⟩), .int .i64 place2] w13 fun e96 w97 => ∃ n98 : Int, e96 = .returned (.int .i64 n98) ∧
 K (.int .i64 n98) w97))))))
def eval_engine_ins_sh (e_1 : Nat) (place2 : Int) (i__Op3 : Int) (i__A4 : Int) (i__B5 : Int) (i__C6 : Int) (i__X7 : Int) (w : World) (K : Value → World → Prop) : Prop :=
 ∀ (b8 : Nat) (w9 : World), b8 = w.heap.size → w9 = World.alloc w (.cells #[.int .i64 i__Op3, .int .i64 i__A4, .int .i64 i__B5, .int .i64 i__C6, .int .i64 i__X7] T_api_Ins) →
 ∃ n10 : Int, w9.cell? ⟨b8, 0, none⟩ = some (.int .i64 n10) ∧
 ∃ J4 : World → Prop, (∀ (w87 : World), J4  w87 →
 ∃ n_Op88 : Int, ∃ n_A89 : Int, ∃ n_B90 : Int, ∃ n_C91 : Int, ∃ n_X92 : Int, w87.cell? ⟨b8, 0, none⟩ = some (.int .i64 n_Op88) ∧ w87.cell? ⟨b8, 1, none⟩ = some (.int .i64 n_A89) ∧ w87.cell? ⟨b8, 2, none⟩ = some (.int .i64 n_B90) ∧ w87.cell? ⟨b8, 3, none⟩ = some (.int .i64 n_C91) ∧ w87.cell? ⟨b8, 4, none⟩ = some (.int .i64 n_X92) ∧
 Calls Tryz.prog fn_eval_engine_say #[.pointer (some ⟨e_1, 0, none⟩), .agg #[.int .i64 n_Op88, .int .i64 n_A89, .int .i64 n_B90, .int .i64 n_C91, .int .i64 n_X92]] w87 fun e93 w94 => ∃ n95 : Int, e93 = .returned (.int .i64 n95) ∧
 K (.int .i64 n95) w94) ∧
 brB (n10 == (1 : Int))
 (∃ n15 : Int, w9.cell? ⟨b8, 1, none⟩ = some (.int .i64 n15) ∧
 Calls Tryz.prog fn_eval_engine_set #[.pointer (some ⟨e_1, 0, none⟩), .int .i64 place2, .int .i64 n15] w9 fun e16 w17 => ∃ n18 : Int, e16 = .returned (.int .i64 n18) ∧
 K (.int .i64 n18) w17)
 (brB (n10 == (2 : Int))
 (∀ w19 : World, w19 = World.drew w9 →
 ∃ s20 : Sl, held (Lw w19) ⟨e_1, 11, none⟩ (s20.val) ∧
 ∃ s21 : Sl, held (Lw w19) ⟨e_1, 11, none⟩ (s21.val) ∧
 ∃ n22 : Int, held (Lw w19) ⟨b8, 1, none⟩ (.int .i64 n22) ∧
 ∃ a23 : Addr, s20.ptr = some a23 ∧ 0 ≤ (wr ((wr ((s21.len : Int) - (1 : Int))) - n22)) ∧ (wr ((wr ((s21.len : Int) - (1 : Int))) - n22)) < (s20.len : Int) ∧
 ∃ n24 : Int, held (Lw w19) (Addr.add a23 (Int.toNat (wr ((wr ((s21.len : Int) - (1 : Int))) - n22)) * 1)) (.int .i64 n24) ∧
 Calls Tryz.prog fn_eval_engine_set #[.pointer (some ⟨e_1, 0, none⟩), .int .i64 place2, .int .i64 n24] w19 fun e25 w26 => ∃ n27 : Int, e25 = .returned (.int .i64 n27) ∧
 K (.int .i64 n27) w26)
 (brB (n10 == (3 : Int))
 (∀ w28 : World, w28 = World.drew w9 →
 ∃ s29 : Sl, held (Lw w28) ⟨e_1, 12, none⟩ (s29.val) ∧
 ∃ s30 : Sl, held (Lw w28) ⟨e_1, 12, none⟩ (s30.val) ∧
 ∃ n31 : Int, held (Lw w28) ⟨b8, 1, none⟩ (.int .i64 n31) ∧
 ∃ a32 : Addr, s29.ptr = some a32 ∧ 0 ≤ (wr ((wr ((s30.len : Int) - (1 : Int))) - n31)) ∧ (wr ((wr ((s30.len : Int) - (1 : Int))) - n31)) < (s29.len : Int) ∧
 ∃ n33 : Int, held (Lw w28) (Addr.add a32 (Int.toNat (wr ((wr ((s30.len : Int) - (1 : Int))) - n31)) * 1)) (.int .i64 n33) ∧
 Calls Tryz.prog fn_eval_engine_set #[.pointer (some ⟨e_1, 0, none⟩), .int .i64 place2, .int .i64 n33] w28 fun e34 w35 => ∃ n36 : Int, e34 = .returned (.int .i64 n36) ∧
 K (.int .i64 n36) w35)
 (brB (n10 == (4 : Int))
 (∃ n_Op37 : Int, ∃ n_A38 : Int, ∃ n_B39 : Int, ∃ n_C40 : Int, ∃ n_X41 : Int, w9.cell? ⟨b8, 0, none⟩ = some (.int .i64 n_Op37) ∧ w9.cell? ⟨b8, 1, none⟩ = some (.int .i64 n_A38) ∧ w9.cell? ⟨b8, 2, none⟩ = some (.int .i64 n_B39) ∧ w9.cell? ⟨b8, 3, none⟩ = some (.int .i64 n_C40) ∧ w9.cell? ⟨b8, 4, none⟩ = some (.int .i64 n_X41) ∧
 Calls Tryz.prog fn_eval_engine_calc #[.pointer (some ⟨e_1, 0, none⟩), .int .i64 place2, .agg #[.int .i64 n_Op37, .int .i64 n_A38, .int .i64 n_B39, .int .i64 n_C40, .int .i64 n_X41]] w9 fun e42 w43 => ∃ n44 : Int, e42 = .returned (.int .i64 n44) ∧
 K (.int .i64 n44) w43)
 (brB (n10 == (5 : Int))
 (eval_engine_ins_j1 b8 e_1 place2 n10 J4 (n10 == (5 : Int)) w9 K)
 (eval_engine_ins_j1 b8 e_1 place2 n10 J4 (n10 == (6 : Int)) w9 K)))))
def eval_engine_ins_an : An := ⟨[], [(14, (19, .st 0 (.st 1 (.st 2 (.st 3 (.st 4 (.st 5 (.st 6 (.st 7 (.st 8 (.st 9 (.st 10 (.st 11 (.st 12 (.st 13 (.st 14 (.st 15 (.st 16 (.st 17 (.st 18 .done)))))))))))))))))), 0)), (15, (19, .st 0 (.st 1 (.st 2 (.st 3 (.st 4 (.st 5 (.st 6 (.st 7 (.st 8 (.st 9 (.st 10 (.st 11 (.st 12 (.st 13 (.st 14 (.st 15 (.st 16 (.st 17 (.st 18 .done)))))))))))))))))), 0)), (18, (7, .st 0 (.st 1 (.st 2 (.st 5 (.st 6 (.ef 3 (.st 4 .done)))))), 1)), (19, (7, .st 0 (.st 1 (.st 2 (.st 5 (.st 6 (.ef 3 (.st 4 .done)))))), 1)), (20, (11, .st 0 (.st 1 (.st 2 (.st 4 (.st 5 (.st 6 (.st 9 (.st 10 (.ef 3 (.ef 7 (.st 8 .done)))))))))), 1))], [(21, [])]⟩
theorem eval_engine_ins_lift {e_1 : Nat} {place2 : Int} {i__Op3 : Int} {i__A4 : Int} {i__B5 : Int} {i__C6 : Int} {i__X7 : Int} {w : World} {K : Value → World → Prop} (h : eval_engine_ins_sh e_1 place2 i__Op3 i__A4 i__B5 i__C6 i__X7 w K) : Calls Tryz.prog fn_eval_engine_ins #[.pointer (some ⟨e_1, 0, none⟩), .int .i64 place2, .agg #[.int .i64 i__Op3, .int .i64 i__A4, .int .i64 i__B5, .int .i64 i__C6, .int .i64 i__X7]] w fun e w' => ∃ v, e = .returned v ∧ K v w' :=
   lift_calls (A := eval_engine_ins_an) (c := bodyOf Tryz.f103) (args := [.pointer (some ⟨e_1, 0, none⟩), .int .i64 place2, .agg #[.int .i64 i__Op3, .int .i64 i__A4, .int .i64 i__B5, .int .i64 i__C6, .int .i64 i__X7]]) orc orc_wide Tryz.func103 (by kernel_rfl) (by kernel_rfl) (Eq.mp (by kernel_rfl : eval_engine_ins_sh e_1 place2 i__Op3 i__A4 i__B5 i__C6 i__X7 w K = wpc orc Tryz.f103.ntmps eval_engine_ins_an (bodyOf Tryz.f103) (argl 0 [.pointer (some ⟨e_1, 0, none⟩), .int .i64 place2, .agg #[.int .i64 i__Op3, .int .i64 i__A4, .int .i64 i__B5, .int .i64 i__C6, .int .i64 i__X7]]) w (retQ orc Tryz.f103.results.toList K)) h)

-- (*holloway/eval.engine).leave
def eval_engine_leave_j1 (b3 : Nat) (b5 : Nat) (n64 : Int) (w84 : World) (K : Value → World → Prop) : Prop :=
 ∃ r_Ip85 : Int, ∃ r_Handler86 : Int, ∃ r_Stack87 : Sl, ∃ r_Back88 : Sl, ∃ r_Mem89 : Sl, ∃ r_Out90 : ByteArray, ∃ r_In91 : ByteArray, ∃ r_Read92 : Int, ∃ r_Status93 : Int, ∃ r_Code94 : Int, w84.cell? ⟨b3, 0, none⟩ = some (.int .i64 r_Ip85) ∧ w84.cell? ⟨b3, 1, none⟩ = some (.int .i64 r_Handler86) ∧ w84.cell? ⟨b3, 2, none⟩ = some (r_Stack87.val) ∧ w84.cell? ⟨b3, 3, none⟩ = some (r_Back88.val) ∧ w84.cell? ⟨b3, 4, none⟩ = some (r_Mem89.val) ∧ w84.cell? ⟨b3, 5, none⟩ = some (.string r_Out90) ∧ w84.cell? ⟨b3, 6, none⟩ = some (.string r_In91) ∧ w84.cell? ⟨b3, 7, none⟩ = some (.int .i64 r_Read92) ∧ w84.cell? ⟨b3, 8, none⟩ = some (.int .i64 r_Status93) ∧ w84.cell? ⟨b3, 9, none⟩ = some (.int .i64 r_Code94) ∧
 ∃ r_Exit95 : Int, ∃ r_Steps96 : Int, ∃ r_Hit97 : Bool, w84.cell? ⟨b5, 0, none⟩ = some (.int .i64 r_Exit95) ∧ w84.cell? ⟨b5, 1, none⟩ = some (.int .i64 r_Steps96) ∧ w84.cell? ⟨b5, 2, none⟩ = some (.bool r_Hit97) ∧
 K (.tuple #[.agg #[.int .i64 r_Ip85, .int .i64 r_Handler86, r_Stack87.val, r_Back88.val, r_Mem89.val, .string r_Out90, .string r_In91, .int .i64 r_Read92, .int .i64 r_Status93, .int .i64 r_Code94], .agg #[.int .i64 r_Exit95, .int .i64 r_Steps96, .bool r_Hit97], .int .i64 n64]) w84
def eval_engine_leave_sh (e_1 : Nat) (x_2 : Int) (w : World) (K : Value → World → Prop) : Prop :=
 ∀ (b3 : Nat) (w4 : World), b3 = w.heap.size → w4 = World.alloc w (.cells #[.int .i64 (0 : Int), .int .i64 (0 : Int), .slice none 0 0, .slice none 0 0, .slice none 0 0, .string (bs []), .string (bs []), .int .i64 (0 : Int), .int .i64 (0 : Int), .int .i64 (0 : Int)] T_api_State) →
 ∀ (b5 : Nat) (w6 : World), b5 = w4.heap.size → w6 = World.alloc w4 (.cells #[.int .i64 (0 : Int), .int .i64 (0 : Int), .bool false] T_eval_Done) →
 ∃ s7 : Sl, w6.cell? ⟨e_1, 6, none⟩ = some (s7.val) ∧
 ∃ a8 : Addr, s7.ptr = some a8 ∧ 0 ≤ x_2 ∧ x_2 < (s7.len : Int) ∧
 ∃ n_Ip9 : Int, ∃ n_Steps10 : Int, ∃ s_Stack11 : Sl, ∃ s_Back12 : Sl, w6.cell? (Addr.add a8 (Int.toNat x_2 * 4)) = some (.int .i64 n_Ip9) ∧ w6.cell? (Addr.add (Addr.add a8 (Int.toNat x_2 * 4)) 1) = some (.int .i64 n_Steps10) ∧ w6.cell? (Addr.add (Addr.add a8 (Int.toNat x_2 * 4)) 2) = some (s_Stack11.val) ∧ w6.cell? (Addr.add (Addr.add a8 (Int.toNat x_2 * 4)) 3) = some (s_Back12.val) ∧
 ∀ (b13 : Nat) (w14 : World), b13 = w6.heap.size → w14 = World.alloc w6 (.cells #[.int .i64 (0 : Int), .int .i64 (0 : Int), .slice none 0 0, .slice none 0 0] T_api_Out) →
 wrOk w14 ⟨b13, 0, none⟩ 4 ∧ ∀ w15 : World, w15 = stW w14 ⟨b13, 0, none⟩ 0 [.int .i64 n_Ip9, .int .i64 n_Steps10, s_Stack11.val, s_Back12.val] →
 ∃ n16 : Int, w15.cell? ⟨b13, 0, none⟩ = some (.int .i64 n16) ∧
 wrOk w15 ⟨e_1, 9, none⟩ 1 ∧ ∀ w17 : World, w17 = stW w15 ⟨e_1, 9, none⟩ 0 [.int .i64 n16] →
 ∀ w18 : World, w18 = World.drew w17 →
 ∃ s19 : Sl, held (Lw w18) ⟨e_1, 11, none⟩ (s19.val) ∧
 ∃ s20 : Sl, held (Lw w18) ⟨e_1, 11, none⟩ (s20.val) ∧
 ∃ n21 : Int, held (Lw w18) ⟨e_1, 1, none⟩ (.int .i64 n21) ∧
 0 ≤ (wr ((s20.len : Int) - n21)) ∧ (wr ((s20.len : Int) - n21)) ≤ (s19.cap : Int) ∧ 
 ∀ w22 : World, w22 = World.drew w18 →
 ∃ s23 : Sl, held (Lw w22) ⟨e_1, 12, none⟩ (s23.val) ∧
 ∃ s24 : Sl, held (Lw w22) ⟨e_1, 12, none⟩ (s24.val) ∧
 ∃ n25 : Int, held (Lw w22) ⟨e_1, 2, none⟩ (.int .i64 n25) ∧
 0 ≤ (wr ((s24.len : Int) - n25)) ∧ (wr ((s24.len : Int) - n25)) ≤ (s23.cap : Int) ∧ 
 ∀ w26 : World, w26 = World.drew w22 →
 ∃ S27 : World → Prop, S27 w26 ∧
 ∃ s28 : Sl, held S27 ⟨b13, 2, none⟩ (s28.val) ∧
 Calls Tryz.prog fn_slices_Clone_sl_int_int #[(Sl.sub s19.ptr s19.cap 0 (Int.toNat (wr ((s20.len : Int) - n21))) 1).val] w26 fun e29 w30 => ∃ s31 : Sl, e29 = .returned (s31.val) ∧
 S27 w30 ∧
 Calls Tryz.prog fn_eval_engine_values #[.pointer (some ⟨e_1, 0, none⟩), s28.val] w30 fun e32 w33 => ∃ s34 : Sl, e32 = .returned (s34.val) ∧
 S27 w33 ∧
 ∃ s35 : Sl, ∃ w36 : World, (Builtin.append_ #[T_sl_int, T_sl_int] T_sl_int #[s31.val, s34.val]).run Tryz.prog w33 = .ok (s35.val) w36 ∧
 S27 w36 ∧
 wrOk w36 ⟨e_1, 11, none⟩ 1 ∧ ∀ w37 : World, w37 = stW w36 ⟨e_1, 11, none⟩ 0 [s35.val] →
 ∀ w38 : World, w38 = World.drew w37 →
 ∃ S39 : World → Prop, S39 w38 ∧
 ∃ s40 : Sl, held S39 ⟨b13, 3, none⟩ (s40.val) ∧
 Calls Tryz.prog fn_slices_Clone_sl_int_int #[(Sl.sub s23.ptr s23.cap 0 (Int.toNat (wr ((s24.len : Int) - n25))) 1).val] w38 fun e41 w42 => ∃ s43 : Sl, e41 = .returned (s43.val) ∧
 S39 w42 ∧
 Calls Tryz.prog fn_eval_engine_values #[.pointer (some ⟨e_1, 0, none⟩), s40.val] w42 fun e44 w45 => ∃ s46 : Sl, e44 = .returned (s46.val) ∧
 S39 w45 ∧
 ∃ s47 : Sl, ∃ w48 : World, (Builtin.append_ #[T_sl_int, T_sl_int] T_sl_int #[s43.val, s46.val]).run Tryz.prog w45 = .ok (s47.val) w48 ∧
 S39 w48 ∧
 wrOk w48 ⟨e_1, 12, none⟩ 1 ∧ ∀ w49 : World, w49 = stW w48 ⟨e_1, 12, none⟩ 0 [s47.val] →
 ∀ w50 : World, w50 = World.drew w49 →
 ∃ S51 : World → Prop, S51 w50 ∧
 ∃ n_Ip52 : Int, ∃ n_Handler53 : Int, ∃ s_Stack54 : Sl, ∃ s_Back55 : Sl, ∃ s_Mem56 : Sl, ∃ t_Out57 : ByteArray, ∃ t_In58 : ByteArray, ∃ n_Read59 : Int, ∃ n_Status60 : Int, ∃ n_Code61 : Int, held S51 ⟨e_1, 9, none⟩ (.int .i64 n_Ip52) ∧ held S51 ⟨e_1, 10, none⟩ (.int .i64 n_Handler53) ∧ held S51 ⟨e_1, 11, none⟩ (s_Stack54.val) ∧ held S51 ⟨e_1, 12, none⟩ (s_Back55.val) ∧ held S51 ⟨e_1, 13, none⟩ (s_Mem56.val) ∧ held S51 ⟨e_1, 14, none⟩ (.string t_Out57) ∧ held S51 ⟨e_1, 15, none⟩ (.string t_In58) ∧ held S51 ⟨e_1, 16, none⟩ (.int .i64 n_Read59) ∧ held S51 ⟨e_1, 17, none⟩ (.int .i64 n_Status60) ∧ held S51 ⟨e_1, 18, none⟩ (.int .i64 n_Code61) ∧
 ∃ n62 : Int, held S51 ⟨b13, 1, none⟩ (.int .i64 n62) ∧
 ∃ n63 : Int, held S51 ⟨e_1, 22, none⟩ (.int .i64 n63) ∧
 ∃ n64 : Int, held S51 ⟨e_1, 22, none⟩ (.int .i64 n64) ∧
 (S51 w50 ∧
 wrOk w50 ⟨b3, 0, none⟩ 10 ∧ ∀ w65 : World, w65 = stW w50 ⟨b3, 0, none⟩ 0 [.int .i64 n_Ip52, .int .i64 n_Handler53, s_Stack54.val, s_Back55.val, s_Mem56.val, .string t_Out57, .string t_In58, .int .i64 n_Read59, .int .i64 n_Status60, .int .i64 n_Code61] →
 S51 w65 ∧
 wrOk w65 ⟨b5, 0, none⟩ 3 ∧ ∀ w66 : World, w66 = stW w65 ⟨b5, 0, none⟩ 0 [.int .i64 x_2, .int .i64 n62, .bool (decide (n63 ≥ (0 : Int)))] →
 S51 w66 ∧
 eval_engine_leave_j1 b3 b5 n64 w66 K) ∧
 (wrOk w50 ⟨b3, 0, none⟩ 10 ∧ ∀ w67 : World, w67 = stW w50 ⟨b3, 0, none⟩ 0 [.int .i64 n_Ip52, .int .i64 n_Handler53, s_Stack54.val, s_Back55.val, s_Mem56.val, .string t_Out57, .string t_In58, .int .i64 n_Read59, .int .i64 n_Status60, .int .i64 n_Code61] →
 S51 w67 ∧
 S51 w67 ∧
 wrOk w67 ⟨b5, 0, none⟩ 3 ∧ ∀ w68 : World, w68 = stW w67 ⟨b5, 0, none⟩ 0 [.int .i64 x_2, .int .i64 n62, .bool (decide (n63 ≥ (0 : Int)))] →
 S51 w68 ∧
 eval_engine_leave_j1 b3 b5 n64 w68 K)
def eval_engine_leave_an : An := ⟨[], [(3, (19, .st 0 (.st 1 (.st 2 (.st 3 (.st 4 (.st 5 (.st 6 (.st 7 (.st 8 (.st 9 (.st 10 (.st 11 (.st 12 (.st 13 (.st 14 (.st 15 (.st 16 (.st 17 (.st 18 .done)))))))))))))))))), 0)), (4, (19, .st 0 (.st 1 (.st 2 (.st 3 (.st 4 (.st 5 (.st 6 (.st 7 (.st 8 (.st 9 (.st 10 (.st 11 (.st 12 (.st 13 (.st 14 (.st 15 (.st 16 (.st 17 (.st 18 .done)))))))))))))))))), 0)), (5, (8, .st 0 (.st 1 (.st 3 (.st 4 (.st 5 (.ef 2 (.ef 6 (.ef 7 .done))))))), 1)), (6, (8, .st 0 (.st 1 (.st 3 (.st 4 (.st 5 (.ef 2 (.ef 6 (.ef 7 .done))))))), 1)), (7, (19, .st 0 (.st 1 (.st 2 (.st 3 (.st 4 (.st 5 (.st 6 (.st 7 (.st 8 (.st 9 (.st 10 (.st 11 (.st 13 (.st 14 (.st 15 (.st 16 (.two 12 (.ef 17 (.ef 18 .done)) 17 (.ef 12 (.ef 18 .done)))))))))))))))))), 1))], []⟩
theorem eval_engine_leave_lift {e_1 : Nat} {x_2 : Int} {w : World} {K : Value → World → Prop} (h : eval_engine_leave_sh e_1 x_2 w K) : Calls Tryz.prog fn_eval_engine_leave #[.pointer (some ⟨e_1, 0, none⟩), .int .i64 x_2] w fun e w' => ∃ v, e = .returned v ∧ K v w' :=
   lift_calls (A := eval_engine_leave_an) (c := bodyOf Tryz.f104) (args := [.pointer (some ⟨e_1, 0, none⟩), .int .i64 x_2]) orc orc_wide Tryz.func104 (by kernel_rfl) (by kernel_rfl) (Eq.mp (by kernel_rfl : eval_engine_leave_sh e_1 x_2 w K = wpc orc Tryz.f104.ntmps eval_engine_leave_an (bodyOf Tryz.f104) (argl 0 [.pointer (some ⟨e_1, 0, none⟩), .int .i64 x_2]) w (retQ orc Tryz.f104.results.toList K)) h)

-- (*holloway/eval.engine).set
def eval_engine_set_sh (e_1 : Nat) (place2 : Int) (v_3 : Int) (w : World) (K : Value → World → Prop) : Prop :=
 ∀ w4 : World, w4 = World.drew w →
 ∃ s5 : Sl, held (Lw w4) ⟨e_1, 19, none⟩ (s5.val) ∧
 ∃ s6 : Sl, held (Lw w4) ⟨e_1, 20, none⟩ (s6.val) ∧
 ∃ a7 : Addr, s6.ptr = some a7 ∧ 0 ≤ place2 ∧ place2 < (s6.len : Int) ∧
 ∃ n8 : Int, held (Lw w4) (Addr.add a7 (Int.toNat place2 * 1)) (.int .i64 n8) ∧
 ∃ a9 : Addr, s5.ptr = some a9 ∧ 0 ≤ n8 ∧ n8 < (s5.len : Int) ∧
 wrOk w4 (Addr.add a9 (Int.toNat n8 * 1)) 1 ∧ ∀ w10 : World, w10 = stW w4 (Addr.add a9 (Int.toNat n8 * 1)) 0 [.int .i64 v_3] →
 K (.int .i64 (-1 : Int)) w10
def eval_engine_set_an : An := ⟨[], [(1, (13, .st 0 (.st 1 (.st 2 (.st 3 (.st 4 (.st 5 (.st 6 (.st 7 (.st 8 (.st 9 (.st 10 (.st 11 (.st 12 .done)))))))))))), 0))], []⟩
theorem eval_engine_set_lift {e_1 : Nat} {place2 : Int} {v_3 : Int} {w : World} {K : Value → World → Prop} (h : eval_engine_set_sh e_1 place2 v_3 w K) : Calls Tryz.prog fn_eval_engine_set #[.pointer (some ⟨e_1, 0, none⟩), .int .i64 place2, .int .i64 v_3] w fun e w' => ∃ v, e = .returned v ∧ K v w' :=
   lift_calls (A := eval_engine_set_an) (c := bodyOf Tryz.f131) (args := [.pointer (some ⟨e_1, 0, none⟩), .int .i64 place2, .int .i64 v_3]) orc orc_wide Tryz.func131 (by kernel_rfl) (by kernel_rfl) (Eq.mp (by kernel_rfl : eval_engine_set_sh e_1 place2 v_3 w K = wpc orc Tryz.f131.ntmps eval_engine_set_an (bodyOf Tryz.f131) (argl 0 [.pointer (some ⟨e_1, 0, none⟩), .int .i64 place2, .int .i64 v_3]) w (retQ orc Tryz.f131.results.toList K)) h)

-- (*holloway/eval.engine).calc
def eval_engine_calc_sh (e_1 : Nat) (place2 : Int) (i__Op3 : Int) (i__A4 : Int) (i__B5 : Int) (i__C6 : Int) (i__X7 : Int) (w : World) (K : Value → World → Prop) : Prop :=
 ∀ (b8 : Nat) (w9 : World), b8 = w.heap.size → w9 = World.alloc w (.cells #[.int .i64 i__Op3, .int .i64 i__A4, .int .i64 i__B5, .int .i64 i__C6, .int .i64 i__X7] T_api_Ins) →
 ∃ n10 : Int, w9.cell? ⟨b8, 2, none⟩ = some (.int .i64 n10) ∧
 Calls Tryz.prog fn_eval_engine_value #[.pointer (some ⟨e_1, 0, none⟩), .int .i64 n10] w9 fun e11 w12 => ∃ n13 : Int, e11 = .returned (.int .i64 n13) ∧
 ∃ n14 : Int, w12.cell? ⟨b8, 1, none⟩ = some (.int .i64 n14) ∧
 Calls Tryz.prog fn_cell_One #[.int .i64 n14, .int .i64 n13] w12 fun e15 w16 => ∃ n17 : Int, ∃ b18 : Bool, e15 = .returned (.tuple #[.int .i64 n17, .bool b18]) ∧
 brB b18
 (Calls Tryz.prog fn_eval_engine_set #[.pointer (some ⟨e_1, 0, none⟩), .int .i64 place2, .int .i64 n17] w16 fun e19 w20 => ∃ n21 : Int, e19 = .returned (.int .i64 n21) ∧
 K (.int .i64 n21) w20)
 (∀ w22 : World, w22 = World.drew w16 →
 ∃ S23 : World → Prop, S23 w22 ∧
 ∃ n24 : Int, held S23 ⟨b8, 1, none⟩ (.int .i64 n24) ∧
 ∃ n25 : Int, held S23 ⟨b8, 3, none⟩ (.int .i64 n25) ∧
 Calls Tryz.prog fn_eval_engine_value #[.pointer (some ⟨e_1, 0, none⟩), .int .i64 n25] w22 fun e26 w27 => ∃ n28 : Int, e26 = .returned (.int .i64 n28) ∧
 S23 w27 ∧
 Calls Tryz.prog fn_cell_Two #[.int .i64 n24, .int .i64 n13, .int .i64 n28] w27 fun e29 w30 => ∃ n31 : Int, ∃ b32 : Bool, e29 = .returned (.tuple #[.int .i64 n31, .bool b32]) ∧
 S23 w30 ∧
 brB (!b32)
 (∃ n33 : Int, w30.cell? ⟨b8, 4, none⟩ = some (.int .i64 n33) ∧
 K (.int .i64 n33) w30)
 (Calls Tryz.prog fn_eval_engine_set #[.pointer (some ⟨e_1, 0, none⟩), .int .i64 place2, .int .i64 n31] w30 fun e34 w35 => ∃ n36 : Int, e34 = .returned (.int .i64 n36) ∧
 K (.int .i64 n36) w35))
def eval_engine_calc_an : An := ⟨[], [(5, (12, .st 0 (.st 1 (.st 2 (.st 3 (.st 4 (.st 5 (.ef 6 (.ef 7 (.st 8 (.st 9 (.st 10 (.st 11 .done))))))))))), 1))], []⟩
theorem eval_engine_calc_lift {e_1 : Nat} {place2 : Int} {i__Op3 : Int} {i__A4 : Int} {i__B5 : Int} {i__C6 : Int} {i__X7 : Int} {w : World} {K : Value → World → Prop} (h : eval_engine_calc_sh e_1 place2 i__Op3 i__A4 i__B5 i__C6 i__X7 w K) : Calls Tryz.prog fn_eval_engine_calc #[.pointer (some ⟨e_1, 0, none⟩), .int .i64 place2, .agg #[.int .i64 i__Op3, .int .i64 i__A4, .int .i64 i__B5, .int .i64 i__C6, .int .i64 i__X7]] w fun e w' => ∃ v, e = .returned v ∧ K v w' :=
   lift_calls (A := eval_engine_calc_an) (c := bodyOf Tryz.f132) (args := [.pointer (some ⟨e_1, 0, none⟩), .int .i64 place2, .agg #[.int .i64 i__Op3, .int .i64 i__A4, .int .i64 i__B5, .int .i64 i__C6, .int .i64 i__X7]]) orc orc_wide Tryz.func132 (by kernel_rfl) (by kernel_rfl) (Eq.mp (by kernel_rfl : eval_engine_calc_sh e_1 place2 i__Op3 i__A4 i__B5 i__C6 i__X7 w K = wpc orc Tryz.f132.ntmps eval_engine_calc_an (bodyOf Tryz.f132) (argl 0 [.pointer (some ⟨e_1, 0, none⟩), .int .i64 place2, .agg #[.int .i64 i__Op3, .int .i64 i__A4, .int .i64 i__B5, .int .i64 i__C6, .int .i64 i__X7]]) w (retQ orc Tryz.f132.results.toList K)) h)

-- (*holloway/eval.engine).memory
def eval_engine_memory_sh (e_1 : Nat) (place2 : Int) (i__Op3 : Int) (i__A4 : Int) (i__B5 : Int) (i__C6 : Int) (i__X7 : Int) (w : World) (K : Value → World → Prop) : Prop :=
 ∀ (b8 : Nat) (w9 : World), b8 = w.heap.size → w9 = World.alloc w (.cells #[.int .i64 i__Op3, .int .i64 i__A4, .int .i64 i__B5, .int .i64 i__C6, .int .i64 i__X7] T_api_Ins) →
 ∃ n10 : Int, w9.cell? ⟨b8, 2, none⟩ = some (.int .i64 n10) ∧
 Calls Tryz.prog fn_eval_engine_value #[.pointer (some ⟨e_1, 0, none⟩), .int .i64 n10] w9 fun e11 w12 => ∃ n13 : Int, e11 = .returned (.int .i64 n13) ∧
 ∃ J4 : Bool → World → Prop, (∀ (b16 : Bool) (w15 : World), J4 b16 w15 →
 brB b16
 (∃ n17 : Int, w15.cell? ⟨b8, 4, none⟩ = some (.int .i64 n17) ∧
 K (.int .i64 n17) w15)
 (∃ n18 : Int, w15.cell? ⟨b8, 0, none⟩ = some (.int .i64 n18) ∧
 brB (n18 == (5 : Int))
 (∃ s19 : Sl, w15.cell? ⟨e_1, 13, none⟩ = some (s19.val) ∧
 ∃ a20 : Addr, s19.ptr = some a20 ∧ 0 ≤ n13 ∧ n13 < (s19.len : Int) ∧
 ∃ n21 : Int, w15.cell? (Addr.add a20 (Int.toNat n13 * 1)) = some (.int .i64 n21) ∧
 Calls Tryz.prog fn_eval_engine_set #[.pointer (some ⟨e_1, 0, none⟩), .int .i64 place2, .int .i64 n21] w15 fun e22 w23 => ∃ n24 : Int, e22 = .returned (.int .i64 n24) ∧
 K (.int .i64 n24) w23)
 (∀ w25 : World, w25 = World.drew w15 →
 ∃ S26 : World → Prop, S26 w25 ∧
 ∃ s27 : Sl, held S26 ⟨e_1, 13, none⟩ (s27.val) ∧
 ∃ n28 : Int, held S26 ⟨b8, 3, none⟩ (.int .i64 n28) ∧
 Calls Tryz.prog fn_eval_engine_value #[.pointer (some ⟨e_1, 0, none⟩), .int .i64 n28] w25 fun e29 w30 => ∃ n31 : Int, e29 = .returned (.int .i64 n31) ∧
 S26 w30 ∧
 ∃ a32 : Addr, s27.ptr = some a32 ∧ 0 ≤ n13 ∧ n13 < (s27.len : Int) ∧
 wrOk w30 (Addr.add a32 (Int.toNat n13 * 1)) 1 ∧ ∀ w33 : World, w33 = stW w30 (Addr.add a32 (Int.toNat n13 * 1)) 0 [.int .i64 n31] →
 ∃ s34 : Sl, w33.cell? ⟨e_1, 21, none⟩ = some (s34.val) ∧
 Calls Tryz.prog fn_slices_Contains_sl_int_int #[s34.val, .int .i64 n13] w33 fun e35 w36 => ∃ b37 : Bool, e35 = .returned (.bool b37) ∧
 brB b37
 (wrOk w36 ⟨e_1, 22, none⟩ 1 ∧ ∀ w38 : World, w38 = stW w36 ⟨e_1, 22, none⟩ 0 [.int .i64 n13] →
 ∃ n39 : Int, w38.cell? ⟨b8, 1, none⟩ = some (.int .i64 n39) ∧
 K (.int .i64 n39) w38)
 (K (.int .i64 (-1 : Int)) w36)))) ∧
 brB (decide (n13 < (0 : Int)))
 (J4 true w12)
 (∃ s14 : Sl, w12.cell? ⟨e_1, 13, none⟩ = some (s14.val) ∧
 J4 (decide (n13 ≥ (s14.len : Int))) w12)
def eval_engine_memory_an : An := ⟨[], [(6, (10, .st 0 (.st 1 (.st 2 (.st 3 (.st 4 (.st 5 (.st 6 (.st 7 (.st 8 (.ef 9 .done))))))))), 1))], [(3, [(12, .bool)])]⟩
theorem eval_engine_memory_lift {e_1 : Nat} {place2 : Int} {i__Op3 : Int} {i__A4 : Int} {i__B5 : Int} {i__C6 : Int} {i__X7 : Int} {w : World} {K : Value → World → Prop} (h : eval_engine_memory_sh e_1 place2 i__Op3 i__A4 i__B5 i__C6 i__X7 w K) : Calls Tryz.prog fn_eval_engine_memory #[.pointer (some ⟨e_1, 0, none⟩), .int .i64 place2, .agg #[.int .i64 i__Op3, .int .i64 i__A4, .int .i64 i__B5, .int .i64 i__C6, .int .i64 i__X7]] w fun e w' => ∃ v, e = .returned v ∧ K v w' :=
   lift_calls (A := eval_engine_memory_an) (c := bodyOf Tryz.f133) (args := [.pointer (some ⟨e_1, 0, none⟩), .int .i64 place2, .agg #[.int .i64 i__Op3, .int .i64 i__A4, .int .i64 i__B5, .int .i64 i__C6, .int .i64 i__X7]]) orc orc_wide Tryz.func133 (by kernel_rfl) (by kernel_rfl) (Eq.mp (by kernel_rfl : eval_engine_memory_sh e_1 place2 i__Op3 i__A4 i__B5 i__C6 i__X7 w K = wpc orc Tryz.f133.ntmps eval_engine_memory_an (bodyOf Tryz.f133) (argl 0 [.pointer (some ⟨e_1, 0, none⟩), .int .i64 place2, .agg #[.int .i64 i__Op3, .int .i64 i__A4, .int .i64 i__B5, .int .i64 i__C6, .int .i64 i__X7]]) w (retQ orc Tryz.f133.results.toList K)) h)

-- holloway/eval.must
def eval_must_sh (is1 : Bool) (x_2 : Int) (w : World) (K : Value → World → Prop) : Prop :=
 brB is1
 (K (.int .i64 (-1 : Int)) w)
 (K (.int .i64 x_2) w)
def eval_must_an : An := ⟨[], [], []⟩
theorem eval_must_lift {is1 : Bool} {x_2 : Int} {w : World} {K : Value → World → Prop} (h : eval_must_sh is1 x_2 w K) : Calls Tryz.prog fn_eval_must #[.bool is1, .int .i64 x_2] w fun e w' => ∃ v, e = .returned v ∧ K v w' :=
   lift_calls (A := eval_must_an) (c := bodyOf Tryz.f134) (args := [.bool is1, .int .i64 x_2]) orc orc_wide Tryz.func134 (by kernel_rfl) (by kernel_rfl) (Eq.mp (by kernel_rfl : eval_must_sh is1 x_2 w K = wpc orc Tryz.f134.ntmps eval_must_an (bodyOf Tryz.f134) (argl 0 [.bool is1, .int .i64 x_2]) w (retQ orc Tryz.f134.results.toList K)) h)

-- (*holloway/eval.engine).value
def eval_engine_value_sh (e_1 : Nat) (place2 : Int) (w : World) (K : Value → World → Prop) : Prop :=
 ∀ w3 : World, w3 = World.drew w →
 ∃ s4 : Sl, held (Lw w3) ⟨e_1, 19, none⟩ (s4.val) ∧
 ∃ s5 : Sl, held (Lw w3) ⟨e_1, 20, none⟩ (s5.val) ∧
 ∃ a6 : Addr, s5.ptr = some a6 ∧ 0 ≤ place2 ∧ place2 < (s5.len : Int) ∧
 ∃ n7 : Int, held (Lw w3) (Addr.add a6 (Int.toNat place2 * 1)) (.int .i64 n7) ∧
 ∃ a8 : Addr, s4.ptr = some a8 ∧ 0 ≤ n7 ∧ n7 < (s4.len : Int) ∧
 ∃ n9 : Int, held (Lw w3) (Addr.add a8 (Int.toNat n7 * 1)) (.int .i64 n9) ∧
 K (.int .i64 n9) w3
def eval_engine_value_an : An := ⟨[], [(1, (14, .st 0 (.st 1 (.st 2 (.st 3 (.st 4 (.st 5 (.st 6 (.st 7 (.st 8 (.st 9 (.st 10 (.st 11 (.st 12 (.st 13 .done))))))))))))), 0))], []⟩
theorem eval_engine_value_lift {e_1 : Nat} {place2 : Int} {w : World} {K : Value → World → Prop} (h : eval_engine_value_sh e_1 place2 w K) : Calls Tryz.prog fn_eval_engine_value #[.pointer (some ⟨e_1, 0, none⟩), .int .i64 place2] w fun e w' => ∃ v, e = .returned v ∧ K v w' :=
   lift_calls (A := eval_engine_value_an) (c := bodyOf Tryz.f135) (args := [.pointer (some ⟨e_1, 0, none⟩), .int .i64 place2]) orc orc_wide Tryz.func135 (by kernel_rfl) (by kernel_rfl) (Eq.mp (by kernel_rfl : eval_engine_value_sh e_1 place2 w K = wpc orc Tryz.f135.ntmps eval_engine_value_an (bodyOf Tryz.f135) (argl 0 [.pointer (some ⟨e_1, 0, none⟩), .int .i64 place2]) w (retQ orc Tryz.f135.results.toList K)) h)

-- (*holloway/eval.engine).say
def eval_engine_say_sh (e_1 : Nat) (i__Op2 : Int) (i__A3 : Int) (i__B4 : Int) (i__C5 : Int) (i__X6 : Int) (w : World) (K : Value → World → Prop) : Prop :=
 ∀ (b7 : Nat) (w8 : World), b7 = w.heap.size → w8 = World.alloc w (.cells #[.int .i64 i__Op2, .int .i64 i__A3, .int .i64 i__B4, .int .i64 i__C5, .int .i64 i__X6] T_api_Ins) →
 ∃ n9 : Int, w8.cell? ⟨b7, 2, none⟩ = some (.int .i64 n9) ∧
 Calls Tryz.prog fn_eval_engine_value #[.pointer (some ⟨e_1, 0, none⟩), .int .i64 n9] w8 fun e10 w11 => ∃ n12 : Int, e10 = .returned (.int .i64 n12) ∧
 ∀ (b13 : Nat) (w14 : World), b13 = w11.heap.size → w14 = World.alloc w11 (.cells #[.int .u8 (IntKind.wrap .u8 n12)] T_uint8) →
 ∃ t15 : ByteArray, ∃ w16 : World, (convert T_sl_uint8 T_string (.slice (some ⟨b13, 0, none⟩) 1 1)).run Tryz.prog w14 = .ok (.string t15) w16 ∧
 ∃ J4 : ByteArray → World → Prop, (∀ (text23 : ByteArray) (w21 : World), J4 text23 w21 →
 ∃ t22 : ByteArray, w21.cell? ⟨e_1, 14, none⟩ = some (.string t22) ∧
 brB (decide ((wr ((t22.size : Int) + (text23.size : Int))) > (2000 : Int)))
 (∃ n24 : Int, w21.cell? ⟨b7, 4, none⟩ = some (.int .i64 n24) ∧
 K (.int .i64 n24) w21)
 (∃ t25 : ByteArray, w21.cell? ⟨e_1, 14, none⟩ = some (.string t25) ∧
 ((t25).size : Int) + ((text23).size : Int) ≤ 9223372036854775807 ∧ wrOk w21 ⟨e_1, 14, none⟩ 1 ∧ ∀ w26 : World, w26 = stW w21 ⟨e_1, 14, none⟩ 0 [.string (t25 ++ text23)] →
 K (.int .i64 (-1 : Int)) w26)) ∧
 ∃ n17 : Int, w16.cell? ⟨b7, 0, none⟩ = some (.int .i64 n17) ∧
 brB (n17 == (11 : Int))
 (Calls Tryz.prog fn_digits_Put #[.int .i64 n12, .int .i64 (10 : Int)] w16 fun e18 w19 => ∃ t20 : ByteArray, e18 = .returned (.string t20) ∧
 ((t20).size : Int) + (((bs [32])).size : Int) ≤ 9223372036854775807 ∧ J4 (t20 ++ (bs [32])) w19)
 (J4 t15 w16)
def eval_engine_say_an : An := ⟨[], [], [(5, [(6, .str)])]⟩
theorem eval_engine_say_lift {e_1 : Nat} {i__Op2 : Int} {i__A3 : Int} {i__B4 : Int} {i__C5 : Int} {i__X6 : Int} {w : World} {K : Value → World → Prop} (h : eval_engine_say_sh e_1 i__Op2 i__A3 i__B4 i__C5 i__X6 w K) : Calls Tryz.prog fn_eval_engine_say #[.pointer (some ⟨e_1, 0, none⟩), .agg #[.int .i64 i__Op2, .int .i64 i__A3, .int .i64 i__B4, .int .i64 i__C5, .int .i64 i__X6]] w fun e w' => ∃ v, e = .returned v ∧ K v w' :=
   lift_calls (A := eval_engine_say_an) (c := bodyOf Tryz.f136) (args := [.pointer (some ⟨e_1, 0, none⟩), .agg #[.int .i64 i__Op2, .int .i64 i__A3, .int .i64 i__B4, .int .i64 i__C5, .int .i64 i__X6]]) orc orc_wide Tryz.func136 (by kernel_rfl) (by kernel_rfl) (Eq.mp (by kernel_rfl : eval_engine_say_sh e_1 i__Op2 i__A3 i__B4 i__C5 i__X6 w K = wpc orc Tryz.f136.ntmps eval_engine_say_an (bodyOf Tryz.f136) (argl 0 [.pointer (some ⟨e_1, 0, none⟩), .agg #[.int .i64 i__Op2, .int .i64 i__A3, .int .i64 i__B4, .int .i64 i__C5, .int .i64 i__X6]]) w (retQ orc Tryz.f136.results.toList K)) h)

-- (*holloway/eval.engine).ask
def eval_engine_ask_sh (e_1 : Nat) (place2 : Int) (w : World) (K : Value → World → Prop) : Prop :=
 ∀ w3 : World, w3 = World.drew w →
 ∃ n4 : Int, held (Lw w3) ⟨e_1, 16, none⟩ (.int .i64 n4) ∧
 ∃ t5 : ByteArray, held (Lw w3) ⟨e_1, 15, none⟩ (.string t5) ∧
 brB (decide (n4 ≥ (t5.size : Int)))
 (Calls Tryz.prog fn_eval_engine_set #[.pointer (some ⟨e_1, 0, none⟩), .int .i64 place2, .int .i64 (-1 : Int)] w3 fun e6 w7 => ∃ n8 : Int, e6 = .returned (.int .i64 n8) ∧
 K (.int .i64 n8) w7)
 (∃ n9 : Int, w3.cell? ⟨e_1, 16, none⟩ = some (.int .i64 n9) ∧
 wrOk w3 ⟨e_1, 16, none⟩ 1 ∧ ∀ w10 : World, w10 = stW w3 ⟨e_1, 16, none⟩ 0 [.int .i64 (wr (n9 + (1 : Int)))] →
 ∀ w11 : World, w11 = World.drew w10 →
 ∃ t12 : ByteArray, held (Lw w11) ⟨e_1, 15, none⟩ (.string t12) ∧
 ∃ n13 : Int, held (Lw w11) ⟨e_1, 16, none⟩ (.int .i64 n13) ∧
 0 ≤ (wr (n13 - (1 : Int))) ∧ (wr (n13 - (1 : Int))) < (t12.size : Int) ∧
 Calls Tryz.prog fn_eval_engine_set #[.pointer (some ⟨e_1, 0, none⟩), .int .i64 place2, .int .i64 (wr (sb t12 (wr (n13 - (1 : Int)))))] w11 fun e14 w15 => ∃ n16 : Int, e14 = .returned (.int .i64 n16) ∧
 K (.int .i64 n16) w15)
def eval_engine_ask_an : An := ⟨[], [(1, (12, .st 0 (.st 1 (.st 2 (.st 3 (.st 4 (.st 5 (.st 6 (.st 7 (.st 8 (.st 9 (.st 10 (.st 11 .done))))))))))), 0)), (4, (15, .st 0 (.st 1 (.st 2 (.st 3 (.st 4 (.st 5 (.st 6 (.st 7 (.st 8 (.st 9 (.st 10 (.st 11 (.st 12 (.st 13 (.st 14 .done)))))))))))))), 0))], []⟩
theorem eval_engine_ask_lift {e_1 : Nat} {place2 : Int} {w : World} {K : Value → World → Prop} (h : eval_engine_ask_sh e_1 place2 w K) : Calls Tryz.prog fn_eval_engine_ask #[.pointer (some ⟨e_1, 0, none⟩), .int .i64 place2] w fun e w' => ∃ v, e = .returned v ∧ K v w' :=
   lift_calls (A := eval_engine_ask_an) (c := bodyOf Tryz.f137) (args := [.pointer (some ⟨e_1, 0, none⟩), .int .i64 place2]) orc orc_wide Tryz.func137 (by kernel_rfl) (by kernel_rfl) (Eq.mp (by kernel_rfl : eval_engine_ask_sh e_1 place2 w K = wpc orc Tryz.f137.ntmps eval_engine_ask_an (bodyOf Tryz.f137) (argl 0 [.pointer (some ⟨e_1, 0, none⟩), .int .i64 place2]) w (retQ orc Tryz.f137.results.toList K)) h)

-- (*holloway/eval.engine).values
def eval_engine_values_sh (e_1 : Nat) (l_2 : Sl) (w : World) (K : Value → World → Prop) : Prop :=
 ∃ (I1 : Sl → Int → World → Prop) (μ1 : Sl → Int → World → Nat), I1 (⟨none, 0, 0⟩ : Sl) (0 : Int) w ∧ ∀ (out7 : Sl) (n4 : Int) (w3 : World), I1 out7 n4 w3 →
 brB (decide (n4 < (l_2.len : Int)))
 (∃ a5 : Addr, l_2.ptr = some a5 ∧ 0 ≤ n4 ∧ n4 < (l_2.len : Int) ∧
 ∃ n6 : Int, w3.cell? (Addr.add a5 (Int.toNat n4 * 1)) = some (.int .i64 n6) ∧
 Calls Tryz.prog fn_eval_engine_value #[.pointer (some ⟨e_1, 0, none⟩), .int .i64 n6] w3 fun e8 w9 => ∃ n10 : Int, e8 = .returned (.int .i64 n10) ∧
 ∀ (b11 : Nat) (w12 : World), b11 = w9.heap.size → w12 = World.alloc w9 (.cells #[.int .i64 n10] T_int) →
 ∃ s13 : Sl, ∃ w14 : World, (Builtin.append_ #[T_sl_int, T_sl_int] T_sl_int #[out7.val, .slice (some ⟨b11, 0, none⟩) 1 1]).run Tryz.prog w12 = .ok (s13.val) w14 ∧
 I1 s13 (wr (n4 + (1 : Int))) w14 ∧ μ1 s13 (wr (n4 + (1 : Int))) w14 < μ1 out7 n4 w3)
 (K (out7.val) w3)
def eval_engine_values_an : An := ⟨[(3, [(5, .sl), (10, .int .i64)])], [], []⟩
theorem eval_engine_values_lift {e_1 : Nat} {l_2 : Sl} {w : World} {K : Value → World → Prop} (h : eval_engine_values_sh e_1 l_2 w K) : Calls Tryz.prog fn_eval_engine_values #[.pointer (some ⟨e_1, 0, none⟩), l_2.val] w fun e w' => ∃ v, e = .returned v ∧ K v w' :=
   lift_calls (A := eval_engine_values_an) (c := bodyOf Tryz.f138) (args := [.pointer (some ⟨e_1, 0, none⟩), l_2.val]) orc orc_wide Tryz.func138 (by kernel_rfl) (by kernel_rfl) (Eq.mp (by kernel_rfl : eval_engine_values_sh e_1 l_2 w K = wpc orc Tryz.f138.ntmps eval_engine_values_an (bodyOf Tryz.f138) (argl 0 [.pointer (some ⟨e_1, 0, none⟩), l_2.val]) w (retQ orc Tryz.f138.results.toList K)) h)

end Go.Proofs.YtblmoilneiffgaaGreat

/- Functions of Hollowayref15, read without their frames; that each is enough. Printed by a program of mine (wip/lift/gen.py). -/
set_option maxRecDepth 100000
namespace Go.Proofs.YtblmoilneiffgaaGreat
open Go.RowKit

-- holloway/hollowayref15.Right
def hollowayref15_Right_sh (t__Start1 : Int) (t__Slots2 : Int) (t__Backs3 : Int) (t__Grow4 : Int) (t__GrowBack5 : Int) (t__Ins6 : Sl) (t__Outs7 : Sl) (t__Last8 : Int) (t__Cells9 : Sl) (w : World) (K : Value → World → Prop) : Prop :=
 ∀ (b10 : Nat) (w11 : World), b10 = w.heap.size → w11 = World.alloc w (.cells #[.int .i64 t__Start1, .int .i64 t__Slots2, .int .i64 t__Backs3, .int .i64 t__Grow4, .int .i64 t__GrowBack5, t__Ins6.val, t__Outs7.val, .int .i64 t__Last8, t__Cells9.val] T_api_Trace) →
 ∃ J3 : Bool → World → Prop, (∀ (b35 : Bool) (w34 : World), J3 b35 w34 →
 brB b35
 (K (.bool false) w34)
 (∃ (I1 : Int → World → Prop) (μ1 : Int → World → Nat), I1 (0 : Int) w34 ∧ ∀ (k37 : Int) (w36 : World), I1 k37 w36 →
 ∃ s38 : Sl, w36.cell? ⟨b10, 5, none⟩ = some (s38.val) ∧
 brB (decide (k37 < (s38.len : Int)))
 (∃ s39 : Sl, w36.cell? ⟨b10, 5, none⟩ = some (s39.val) ∧
 ∃ a40 : Addr, s39.ptr = some a40 ∧ 0 ≤ k37 ∧ k37 < (s39.len : Int) ∧
 ∃ n_Op41 : Int, ∃ n_A42 : Int, ∃ n_B43 : Int, ∃ n_C44 : Int, ∃ n_X45 : Int, w36.cell? (Addr.add a40 (Int.toNat k37 * 5)) = some (.int .i64 n_Op41) ∧ w36.cell? (Addr.add (Addr.add a40 (Int.toNat k37 * 5)) 1) = some (.int .i64 n_A42) ∧ w36.cell? (Addr.add (Addr.add a40 (Int.toNat k37 * 5)) 2) = some (.int .i64 n_B43) ∧ w36.cell? (Addr.add (Addr.add a40 (Int.toNat k37 * 5)) 3) = some (.int .i64 n_C44) ∧ w36.cell? (Addr.add (Addr.add a40 (Int.toNat k37 * 5)) 4) = some (.int .i64 n_X45) ∧
 ∀ (b46 : Nat) (w47 : World), b46 = w36.heap.size → w47 = World.alloc w36 (.cells #[.int .i64 (0 : Int), .int .i64 (0 : Int), .int .i64 (0 : Int), .int .i64 (0 : Int), .int .i64 (0 : Int)] T_api_Ins) →
 wrOk w47 ⟨b46, 0, none⟩ 5 ∧ ∀ w48 : World, w48 = stW w47 ⟨b46, 0, none⟩ 0 [.int .i64 n_Op41, .int .i64 n_A42, .int .i64 n_B43, .int .i64 n_C44, .int .i64 n_X45] →
 ∃ J12 : Bool → World → Prop, (∀ (b357 : Bool) (w356 : World), J12 b357 w356 →
 brB b357
 (K (.bool false) w356)
 (∃ n_Op358 : Int, ∃ n_A359 : Int, ∃ n_B360 : Int, ∃ n_C361 : Int, ∃ n_X362 : Int, w356.cell? ⟨b46, 0, none⟩ = some (.int .i64 n_Op358) ∧ w356.cell? ⟨b46, 1, none⟩ = some (.int .i64 n_A359) ∧ w356.cell? ⟨b46, 2, none⟩ = some (.int .i64 n_B360) ∧ w356.cell? ⟨b46, 3, none⟩ = some (.int .i64 n_C361) ∧ w356.cell? ⟨b46, 4, none⟩ = some (.int .i64 n_X362) ∧
 Calls Tryz.prog fn_hollowayref15_Outs #[.agg #[.int .i64 n_Op358, .int .i64 n_A359, .int .i64 n_B360, .int .i64 n_C361, .int .i64 n_X362]] w356 fun e363 w364 => ∃ s365 : Sl, e363 = .returned (s365.val) ∧
 ∃ (I2 : Int → World → Prop) (μ2 : Int → World → Nat), I2 (0 : Int) w364 ∧ ∀ (j367 : Int) (w366 : World), I2 j367 w366 →
 brB (decide (j367 < (s365.len : Int)))
 (∀ w368 : World, w368 = World.drew w366 →
 ∃ n_Start369 : Int, ∃ n_Slots370 : Int, ∃ n_Backs371 : Int, ∃ n_Grow372 : Int, ∃ n_GrowBack373 : Int, ∃ s_Ins374 : Sl, ∃ s_Outs375 : Sl, ∃ n_Last376 : Int, ∃ s_Cells377 : Sl, held (Lw w368) ⟨b10, 0, none⟩ (.int .i64 n_Start369) ∧ held (Lw w368) ⟨b10, 1, none⟩ (.int .i64 n_Slots370) ∧ held (Lw w368) ⟨b10, 2, none⟩ (.int .i64 n_Backs371) ∧ held (Lw w368) ⟨b10, 3, none⟩ (.int .i64 n_Grow372) ∧ held (Lw w368) ⟨b10, 4, none⟩ (.int .i64 n_GrowBack373) ∧ held (Lw w368) ⟨b10, 5, none⟩ (s_Ins374.val) ∧ held (Lw w368) ⟨b10, 6, none⟩ (s_Outs375.val) ∧ held (Lw w368) ⟨b10, 7, none⟩ (.int .i64 n_Last376) ∧ held (Lw w368) ⟨b10, 8, none⟩ (s_Cells377.val) ∧
 ∃ a378 : Addr, s365.ptr = some a378 ∧ 0 ≤ j367 ∧ j367 < (s365.len : Int) ∧
 ∃ n379 : Int, held (Lw w368) (Addr.add a378 (Int.toNat j367 * 1)) (.int .i64 n379) ∧
 Calls Tryz.prog fn_hollowayref15_out #[.agg #[.int .i64 n_Start369, .int .i64 n_Slots370, .int .i64 n_Backs371, .int .i64 n_Grow372, .int .i64 n_GrowBack373, s_Ins374.val, s_Outs375.val, .int .i64 n_Last376, s_Cells377.val], .int .i64 n379, .int .i64 k37] w368 fun e380 w381 => ∃ b382 : Bool, e380 = .returned (.bool b382) ∧
 brB (!b382)
 (K (.bool false) w381)
 (I2 (wr (j367 + (1 : Int))) w381 ∧ μ2 (wr (j367 + (1 : Int))) w381 < μ2 j367 w366))
 (I1 (wr (k37 + (1 : Int))) w366 ∧ μ1 (wr (k37 + (1 : Int))) w366 < μ1 k37 w36))) ∧
 ∀ w49 : World, w49 = World.drew w48 →
 ∃ S50 : World → Prop, S50 w49 ∧
 ∃ n51 : Int, held S50 ⟨b46, 0, none⟩ (.int .i64 n51) ∧
 brB (decide (n51 < (1 : Int)))
 (J12 true w49)
 (∃ n52 : Int, held S50 ⟨b46, 0, none⟩ (.int .i64 n52) ∧
 brB (decide (n52 > (12 : Int)))
 (J12 true w49)
 (∃ n53 : Int, held S50 ⟨b46, 0, none⟩ (.int .i64 n53) ∧
 brB (n53 == (4 : Int))
 (∃ n54 : Int, held S50 ⟨b46, 1, none⟩ (.int .i64 n54) ∧
 Calls Tryz.prog fn_hollowayref1_IsTwo #[.int .i64 n54] w49 fun e55 w56 => ∃ b57 : Bool, e55 = .returned (.bool b57) ∧
 S50 w56 ∧
 brB (!b57)
 (∃ n58 : Int, held S50 ⟨b46, 1, none⟩ (.int .i64 n58) ∧
 Calls Tryz.prog fn_hollowayref1_IsOne #[.int .i64 n58] w56 fun e59 w60 => ∃ b61 : Bool, e59 = .returned (.bool b61) ∧
 S50 w60 ∧
 brB (!b61)
 (J12 true w60)
 (∃ n62 : Int, held S50 ⟨b46, 0, none⟩ (.int .i64 n62) ∧
 brB (n62 == (2 : Int))
 (∃ n63 : Int, held S50 ⟨b46, 1, none⟩ (.int .i64 n63) ∧
 ∃ n64 : Int, held S50 ⟨b10, 1, none⟩ (.int .i64 n64) ∧
 Calls Tryz.prog fn_hollowayref15_within #[.int .i64 n63, .int .i64 (wr (n64 - (1 : Int)))] w60 fun e65 w66 => ∃ b67 : Bool, e65 = .returned (.bool b67) ∧
 S50 w66 ∧
 brB (!b67)
 (J12 true w66)
 (∃ n68 : Int, held S50 ⟨b46, 0, none⟩ (.int .i64 n68) ∧
 brB (n68 == (3 : Int))
 (∃ n69 : Int, held S50 ⟨b46, 1, none⟩ (.int .i64 n69) ∧
 ∃ n70 : Int, held S50 ⟨b10, 2, none⟩ (.int .i64 n70) ∧
 Calls Tryz.prog fn_hollowayref15_within #[.int .i64 n69, .int .i64 (wr (n70 - (1 : Int)))] w66 fun e71 w72 => ∃ b73 : Bool, e71 = .returned (.bool b73) ∧
 S50 w72 ∧
 brB (!b73)
 (J12 true w72)
 (∃ n_Start74 : Int, ∃ n_Slots75 : Int, ∃ n_Backs76 : Int, ∃ n_Grow77 : Int, ∃ n_GrowBack78 : Int, ∃ s_Ins79 : Sl, ∃ s_Outs80 : Sl, ∃ n_Last81 : Int, ∃ s_Cells82 : Sl, held S50 ⟨b10, 0, none⟩ (.int .i64 n_Start74) ∧ held S50 ⟨b10, 1, none⟩ (.int .i64 n_Slots75) ∧ held S50 ⟨b10, 2, none⟩ (.int .i64 n_Backs76) ∧ held S50 ⟨b10, 3, none⟩ (.int .i64 n_Grow77) ∧ held S50 ⟨b10, 4, none⟩ (.int .i64 n_GrowBack78) ∧ held S50 ⟨b10, 5, none⟩ (s_Ins79.val) ∧ held S50 ⟨b10, 6, none⟩ (s_Outs80.val) ∧ held S50 ⟨b10, 7, none⟩ (.int .i64 n_Last81) ∧ held S50 ⟨b10, 8, none⟩ (s_Cells82.val) ∧
 ∃ n_Op83 : Int, ∃ n_A84 : Int, ∃ n_B85 : Int, ∃ n_C86 : Int, ∃ n_X87 : Int, held S50 ⟨b46, 0, none⟩ (.int .i64 n_Op83) ∧ held S50 ⟨b46, 1, none⟩ (.int .i64 n_A84) ∧ held S50 ⟨b46, 2, none⟩ (.int .i64 n_B85) ∧ held S50 ⟨b46, 3, none⟩ (.int .i64 n_C86) ∧ held S50 ⟨b46, 4, none⟩ (.int .i64 n_X87) ∧
 Calls Tryz.prog fn_hollowayref15_Uses #[.agg #[.int .i64 n_Op83, .int .i64 n_A84, .int .i64 n_B85, .int .i64 n_C86, .int .i64 n_X87]] w72 fun e88 w89 => ∃ s90 : Sl, e88 = .returned (s90.val) ∧
 S50 w89 ∧
 Calls Tryz.prog fn_hollowayref15_named #[.agg #[.int .i64 n_Start74, .int .i64 n_Slots75, .int .i64 n_Backs76, .int .i64 n_Grow77, .int .i64 n_GrowBack78, s_Ins79.val, s_Outs80.val, .int .i64 n_Last81, s_Cells82.val], s90.val, .int .i64 k37] w89 fun e91 w92 => ∃ b93 : Bool, e91 = .returned (.bool b93) ∧
 J12 (!b93) w92))
 (∃ n_Start94 : Int, ∃ n_Slots95 : Int, ∃ n_Backs96 : Int, ∃ n_Grow97 : Int, ∃ n_GrowBack98 : Int, ∃ s_Ins99 : Sl, ∃ s_Outs100 : Sl, ∃ n_Last101 : Int, ∃ s_Cells102 : Sl, held S50 ⟨b10, 0, none⟩ (.int .i64 n_Start94) ∧ held S50 ⟨b10, 1, none⟩ (.int .i64 n_Slots95) ∧ held S50 ⟨b10, 2, none⟩ (.int .i64 n_Backs96) ∧ held S50 ⟨b10, 3, none⟩ (.int .i64 n_Grow97) ∧ held S50 ⟨b10, 4, none⟩ (.int .i64 n_GrowBack98) ∧ held S50 ⟨b10, 5, none⟩ (s_Ins99.val) ∧ held S50 ⟨b10, 6, none⟩ (s_Outs100.val) ∧ held S50 ⟨b10, 7, none⟩ (.int .i64 n_Last101) ∧ held S50 ⟨b10, 8, none⟩ (s_Cells102.val) ∧
 ∃ n_Op103 : Int, ∃ n_A104 : Int, ∃ n_B105 : Int, ∃ n_C106 : Int, ∃ n_X107 : Int, held S50 ⟨b46, 0, none⟩ (.int .i64 n_Op103) ∧ held S50 ⟨b46, 1, none⟩ (.int .i64 n_A104) ∧ held S50 ⟨b46, 2, none⟩ (.int .i64 n_B105) ∧ held S50 ⟨b46, 3, none⟩ (.int .i64 n_C106) ∧ held S50 ⟨b46, 4, none⟩ (.int .i64 n_X107) ∧
 Calls Tryz.prog fn_hollowayref15_Uses #[.agg #[.int .i64 n_Op103, .int .i64 n_A104, .int .i64 n_B105, .int .i64 n_C106, .int .i64 n_X107]] w66 fun e108 w109 => ∃ s110 : Sl, e108 = .returned (s110.val) ∧
 S50 w109 ∧
 Calls Tryz.prog fn_hollowayref15_named #[.agg #[.int .i64 n_Start94, .int .i64 n_Slots95, .int .i64 n_Backs96, .int .i64 n_Grow97, .int .i64 n_GrowBack98, s_Ins99.val, s_Outs100.val, .int .i64 n_Last101, s_Cells102.val], s110.val, .int .i64 k37] w109 fun e111 w112 => ∃ b113 : Bool, e111 = .returned (.bool b113) ∧
 J12 (!b113) w112)))
 (∃ n114 : Int, held S50 ⟨b46, 0, none⟩ (.int .i64 n114) ∧
 brB (n114 == (3 : Int))
 (∃ n115 : Int, held S50 ⟨b46, 1, none⟩ (.int .i64 n115) ∧
 ∃ n116 : Int, held S50 ⟨b10, 2, none⟩ (.int .i64 n116) ∧
 Calls Tryz.prog fn_hollowayref15_within #[.int .i64 n115, .int .i64 (wr (n116 - (1 : Int)))] w60 fun e117 w118 => ∃ b119 : Bool, e117 = .returned (.bool b119) ∧
 S50 w118 ∧
 brB (!b119)
 (J12 true w118)
 (∃ n_Start120 : Int, ∃ n_Slots121 : Int, ∃ n_Backs122 : Int, ∃ n_Grow123 : Int, ∃ n_GrowBack124 : Int, ∃ s_Ins125 : Sl, ∃ s_Outs126 : Sl, ∃ n_Last127 : Int, ∃ s_Cells128 : Sl, held S50 ⟨b10, 0, none⟩ (.int .i64 n_Start120) ∧ held S50 ⟨b10, 1, none⟩ (.int .i64 n_Slots121) ∧ held S50 ⟨b10, 2, none⟩ (.int .i64 n_Backs122) ∧ held S50 ⟨b10, 3, none⟩ (.int .i64 n_Grow123) ∧ held S50 ⟨b10, 4, none⟩ (.int .i64 n_GrowBack124) ∧ held S50 ⟨b10, 5, none⟩ (s_Ins125.val) ∧ held S50 ⟨b10, 6, none⟩ (s_Outs126.val) ∧ held S50 ⟨b10, 7, none⟩ (.int .i64 n_Last127) ∧ held S50 ⟨b10, 8, none⟩ (s_Cells128.val) ∧
 ∃ n_Op129 : Int, ∃ n_A130 : Int, ∃ n_B131 : Int, ∃ n_C132 : Int, ∃ n_X133 : Int, held S50 ⟨b46, 0, none⟩ (.int .i64 n_Op129) ∧ held S50 ⟨b46, 1, none⟩ (.int .i64 n_A130) ∧ held S50 ⟨b46, 2, none⟩ (.int .i64 n_B131) ∧ held S50 ⟨b46, 3, none⟩ (.int .i64 n_C132) ∧ held S50 ⟨b46, 4, none⟩ (.int .i64 n_X133) ∧
 Calls Tryz.prog fn_hollowayref15_Uses #[.agg #[.int .i64 n_Op129, .int .i64 n_A130, .int .i64 n_B131, .int .i64 n_C132, .int .i64 n_X133]] w118 fun e134 w135 => ∃ s136 : Sl, e134 = .returned (s136.val) ∧
 S50 w135 ∧
 Calls Tryz.prog fn_hollowayref15_named #[.agg #[.int .i64 n_Start120, .int .i64 n_Slots121, .int .i64 n_Backs122, .int .i64 n_Grow123, .int .i64 n_GrowBack124, s_Ins125.val, s_Outs126.val, .int .i64 n_Last127, s_Cells128.val], s136.val, .int .i64 k37] w135 fun e137 w138 => ∃ b139 : Bool, e137 = .returned (.bool b139) ∧
 J12 (!b139) w138))
 (∃ n_Start140 : Int, ∃ n_Slots141 : Int, ∃ n_Backs142 : Int, ∃ n_Grow143 : Int, ∃ n_GrowBack144 : Int, ∃ s_Ins145 : Sl, ∃ s_Outs146 : Sl, ∃ n_Last147 : Int, ∃ s_Cells148 : Sl, held S50 ⟨b10, 0, none⟩ (.int .i64 n_Start140) ∧ held S50 ⟨b10, 1, none⟩ (.int .i64 n_Slots141) ∧ held S50 ⟨b10, 2, none⟩ (.int .i64 n_Backs142) ∧ held S50 ⟨b10, 3, none⟩ (.int .i64 n_Grow143) ∧ held S50 ⟨b10, 4, none⟩ (.int .i64 n_GrowBack144) ∧ held S50 ⟨b10, 5, none⟩ (s_Ins145.val) ∧ held S50 ⟨b10, 6, none⟩ (s_Outs146.val) ∧ held S50 ⟨b10, 7, none⟩ (.int .i64 n_Last147) ∧ held S50 ⟨b10, 8, none⟩ (s_Cells148.val) ∧
 ∃ n_Op149 : Int, ∃ n_A150 : Int, ∃ n_B151 : Int, ∃ n_C152 : Int, ∃ n_X153 : Int, held S50 ⟨b46, 0, none⟩ (.int .i64 n_Op149) ∧ held S50 ⟨b46, 1, none⟩ (.int .i64 n_A150) ∧ held S50 ⟨b46, 2, none⟩ (.int .i64 n_B151) ∧ held S50 ⟨b46, 3, none⟩ (.int .i64 n_C152) ∧ held S50 ⟨b46, 4, none⟩ (.int .i64 n_X153) ∧
 Calls Tryz.prog fn_hollowayref15_Uses #[.agg #[.int .i64 n_Op149, .int .i64 n_A150, .int .i64 n_B151, .int .i64 n_C152, .int .i64 n_X153]] w60 fun e154 w155 => ∃ s156 : Sl, e154 = .returned (s156.val) ∧
 S50 w155 ∧
 Calls Tryz.prog fn_hollowayref15_named #[.agg #[.int .i64 n_Start140, .int .i64 n_Slots141, .int .i64 n_Backs142, .int .i64 n_Grow143, .int .i64 n_GrowBack144, s_Ins145.val, s_Outs146.val, .int .i64 n_Last147, s_Cells148.val], s156.val, .int .i64 k37] w155 fun e157 w158 => ∃ b159 : Bool, e157 = .returned (.bool b159) ∧
 J12 (!b159) w158))))
 (∃ n160 : Int, held S50 ⟨b46, 0, none⟩ (.int .i64 n160) ∧
 brB (n160 == (2 : Int))
 (∃ n161 : Int, held S50 ⟨b46, 1, none⟩ (.int .i64 n161) ∧
 ∃ n162 : Int, held S50 ⟨b10, 1, none⟩ (.int .i64 n162) ∧
 Calls Tryz.prog fn_hollowayref15_within #[.int .i64 n161, .int .i64 (wr (n162 - (1 : Int)))] w56 fun e163 w164 => ∃ b165 : Bool, e163 = .returned (.bool b165) ∧
 S50 w164 ∧
 brB (!b165)
 (J12 true w164)
 (∃ n166 : Int, held S50 ⟨b46, 0, none⟩ (.int .i64 n166) ∧
 brB (n166 == (3 : Int))
 (∃ n167 : Int, held S50 ⟨b46, 1, none⟩ (.int .i64 n167) ∧
 ∃ n168 : Int, held S50 ⟨b10, 2, none⟩ (.int .i64 n168) ∧
 Calls Tryz.prog fn_hollowayref15_within #[.int .i64 n167, .int .i64 (wr (n168 - (1 : Int)))] w164 fun e169 w170 => ∃ b171 : Bool, e169 = .returned (.bool b171) ∧
 S50 w170 ∧
 brB (!b171)
 (J12 true w170)
 (∃ n_Start172 : Int, ∃ n_Slots173 : Int, ∃ n_Backs174 : Int, ∃ n_Grow175 : Int, ∃ n_GrowBack176 : Int, ∃ s_Ins177 : Sl, ∃ s_Outs178 : Sl, ∃ n_Last179 : Int, ∃ s_Cells180 : Sl, held S50 ⟨b10, 0, none⟩ (.int .i64 n_Start172) ∧ held S50 ⟨b10, 1, none⟩ (.int .i64 n_Slots173) ∧ held S50 ⟨b10, 2, none⟩ (.int .i64 n_Backs174) ∧ held S50 ⟨b10, 3, none⟩ (.int .i64 n_Grow175) ∧ held S50 ⟨b10, 4, none⟩ (.int .i64 n_GrowBack176) ∧ held S50 ⟨b10, 5, none⟩ (s_Ins177.val) ∧ held S50 ⟨b10, 6, none⟩ (s_Outs178.val) ∧ held S50 ⟨b10, 7, none⟩ (.int .i64 n_Last179) ∧ held S50 ⟨b10, 8, none⟩ (s_Cells180.val) ∧
 ∃ n_Op181 : Int, ∃ n_A182 : Int, ∃ n_B183 : Int, ∃ n_C184 : Int, ∃ n_X185 : Int, held S50 ⟨b46, 0, none⟩ (.int .i64 n_Op181) ∧ held S50 ⟨b46, 1, none⟩ (.int .i64 n_A182) ∧ held S50 ⟨b46, 2, none⟩ (.int .i64 n_B183) ∧ held S50 ⟨b46, 3, none⟩ (.int .i64 n_C184) ∧ held S50 ⟨b46, 4, none⟩ (.int .i64 n_X185) ∧
 Calls Tryz.prog fn_hollowayref15_Uses #[.agg #[.int .i64 n_Op181, .int .i64 n_A182, .int .i64 n_B183, .int .i64 n_C184, .int .i64 n_X185]] w170 fun e186 w187 => ∃ s188 : Sl, e186 = .returned (s188.val) ∧
 S50 w187 ∧
 Calls Tryz.prog fn_hollowayref15_named #[.agg #[.int .i64 n_Start172, .int .i64 n_Slots173, .int .i64 n_Backs174, .int .i64 n_Grow175, .int .i64 n_GrowBack176, s_Ins177.val, s_Outs178.val, .int .i64 n_Last179, s_Cells180.val], s188.val, .int .i64 k37] w187 fun e189 w190 => ∃ b191 : Bool, e189 = .returned (.bool b191) ∧
 J12 (!b191) w190))
 (∃ n_Start192 : Int, ∃ n_Slots193 : Int, ∃ n_Backs194 : Int, ∃ n_Grow195 : Int, ∃ n_GrowBack196 : Int, ∃ s_Ins197 : Sl, ∃ s_Outs198 : Sl, ∃ n_Last199 : Int, ∃ s_Cells200 : Sl, held S50 ⟨b10, 0, none⟩ (.int .i64 n_Start192) ∧ held S50 ⟨b10, 1, none⟩ (.int .i64 n_Slots193) ∧ held S50 ⟨b10, 2, none⟩ (.int .i64 n_Backs194) ∧ held S50 ⟨b10, 3, none⟩ (.int .i64 n_Grow195) ∧ held S50 ⟨b10, 4, none⟩ (.int .i64 n_GrowBack196) ∧ held S50 ⟨b10, 5, none⟩ (s_Ins197.val) ∧ held S50 ⟨b10, 6, none⟩ (s_Outs198.val) ∧ held S50 ⟨b10, 7, none⟩ (.int .i64 n_Last199) ∧ held S50 ⟨b10, 8, none⟩ (s_Cells200.val) ∧
 ∃ n_Op201 : Int, ∃ n_A202 : Int, ∃ n_B203 : Int, ∃ n_C204 : Int, ∃ n_X205 : Int, held S50 ⟨b46, 0, none⟩ (.int .i64 n_Op201) ∧ held S50 ⟨b46, 1, none⟩ (.int .i64 n_A202) ∧ held S50 ⟨b46, 2, none⟩ (.int .i64 n_B203) ∧ held S50 ⟨b46, 3, none⟩ (.int .i64 n_C204) ∧ held S50 ⟨b46, 4, none⟩ (.int .i64 n_X205) ∧
 Calls Tryz.prog fn_hollowayref15_Uses #[.agg #[.int .i64 n_Op201, .int .i64 n_A202, .int .i64 n_B203, .int .i64 n_C204, .int .i64 n_X205]] w164 fun e206 w207 => ∃ s208 : Sl, e206 = .returned (s208.val) ∧
 S50 w207 ∧
 Calls Tryz.prog fn_hollowayref15_named #[.agg #[.int .i64 n_Start192, .int .i64 n_Slots193, .int .i64 n_Backs194, .int .i64 n_Grow195, .int .i64 n_GrowBack196, s_Ins197.val, s_Outs198.val, .int .i64 n_Last199, s_Cells200.val], s208.val, .int .i64 k37] w207 fun e209 w210 => ∃ b211 : Bool, e209 = .returned (.bool b211) ∧
 J12 (!b211) w210)))
 (∃ n212 : Int, held S50 ⟨b46, 0, none⟩ (.int .i64 n212) ∧
 brB (n212 == (3 : Int))
 (∃ n213 : Int, held S50 ⟨b46, 1, none⟩ (.int .i64 n213) ∧
 ∃ n214 : Int, held S50 ⟨b10, 2, none⟩ (.int .i64 n214) ∧
 Calls Tryz.prog fn_hollowayref15_within #[.int .i64 n213, .int .i64 (wr (n214 - (1 : Int)))] w56 fun e215 w216 => ∃ b217 : Bool, e215 = .returned (.bool b217) ∧
 S50 w216 ∧
 brB (!b217)
 (J12 true w216)
 (∃ n_Start218 : Int, ∃ n_Slots219 : Int, ∃ n_Backs220 : Int, ∃ n_Grow221 : Int, ∃ n_GrowBack222 : Int, ∃ s_Ins223 : Sl, ∃ s_Outs224 : Sl, ∃ n_Last225 : Int, ∃ s_Cells226 : Sl, held S50 ⟨b10, 0, none⟩ (.int .i64 n_Start218) ∧ held S50 ⟨b10, 1, none⟩ (.int .i64 n_Slots219) ∧ held S50 ⟨b10, 2, none⟩ (.int .i64 n_Backs220) ∧ held S50 ⟨b10, 3, none⟩ (.int .i64 n_Grow221) ∧ held S50 ⟨b10, 4, none⟩ (.int .i64 n_GrowBack222) ∧ held S50 ⟨b10, 5, none⟩ (s_Ins223.val) ∧ held S50 ⟨b10, 6, none⟩ (s_Outs224.val) ∧ held S50 ⟨b10, 7, none⟩ (.int .i64 n_Last225) ∧ held S50 ⟨b10, 8, none⟩ (s_Cells226.val) ∧
 ∃ n_Op227 : Int, ∃ n_A228 : Int, ∃ n_B229 : Int, ∃ n_C230 : Int, ∃ n_X231 : Int, held S50 ⟨b46, 0, none⟩ (.int .i64 n_Op227) ∧ held S50 ⟨b46, 1, none⟩ (.int .i64 n_A228) ∧ held S50 ⟨b46, 2, none⟩ (.int .i64 n_B229) ∧ held S50 ⟨b46, 3, none⟩ (.int .i64 n_C230) ∧ held S50 ⟨b46, 4, none⟩ (.int .i64 n_X231) ∧
 Calls Tryz.prog fn_hollowayref15_Uses #[.agg #[.int .i64 n_Op227, .int .i64 n_A228, .int .i64 n_B229, .int .i64 n_C230, .int .i64 n_X231]] w216 fun e232 w233 => ∃ s234 : Sl, e232 = .returned (s234.val) ∧
 S50 w233 ∧
 Calls Tryz.prog fn_hollowayref15_named #[.agg #[.int .i64 n_Start218, .int .i64 n_Slots219, .int .i64 n_Backs220, .int .i64 n_Grow221, .int .i64 n_GrowBack222, s_Ins223.val, s_Outs224.val, .int .i64 n_Last225, s_Cells226.val], s234.val, .int .i64 k37] w233 fun e235 w236 => ∃ b237 : Bool, e235 = .returned (.bool b237) ∧
 J12 (!b237) w236))
 (∃ n_Start238 : Int, ∃ n_Slots239 : Int, ∃ n_Backs240 : Int, ∃ n_Grow241 : Int, ∃ n_GrowBack242 : Int, ∃ s_Ins243 : Sl, ∃ s_Outs244 : Sl, ∃ n_Last245 : Int, ∃ s_Cells246 : Sl, held S50 ⟨b10, 0, none⟩ (.int .i64 n_Start238) ∧ held S50 ⟨b10, 1, none⟩ (.int .i64 n_Slots239) ∧ held S50 ⟨b10, 2, none⟩ (.int .i64 n_Backs240) ∧ held S50 ⟨b10, 3, none⟩ (.int .i64 n_Grow241) ∧ held S50 ⟨b10, 4, none⟩ (.int .i64 n_GrowBack242) ∧ held S50 ⟨b10, 5, none⟩ (s_Ins243.val) ∧ held S50 ⟨b10, 6, none⟩ (s_Outs244.val) ∧ held S50 ⟨b10, 7, none⟩ (.int .i64 n_Last245) ∧ held S50 ⟨b10, 8, none⟩ (s_Cells246.val) ∧
 ∃ n_Op247 : Int, ∃ n_A248 : Int, ∃ n_B249 : Int, ∃ n_C250 : Int, ∃ n_X251 : Int, held S50 ⟨b46, 0, none⟩ (.int .i64 n_Op247) ∧ held S50 ⟨b46, 1, none⟩ (.int .i64 n_A248) ∧ held S50 ⟨b46, 2, none⟩ (.int .i64 n_B249) ∧ held S50 ⟨b46, 3, none⟩ (.int .i64 n_C250) ∧ held S50 ⟨b46, 4, none⟩ (.int .i64 n_X251) ∧
 Calls Tryz.prog fn_hollowayref15_Uses #[.agg #[.int .i64 n_Op247, .int .i64 n_A248, .int .i64 n_B249, .int .i64 n_C250, .int .i64 n_X251]] w56 fun e252 w253 => ∃ s254 : Sl, e252 = .returned (s254.val) ∧
 S50 w253 ∧
 Calls Tryz.prog fn_hollowayref15_named #[.agg #[.int .i64 n_Start238, .int .i64 n_Slots239, .int .i64 n_Backs240, .int .i64 n_Grow241, .int .i64 n_GrowBack242, s_Ins243.val, s_Outs244.val, .int .i64 n_Last245, s_Cells246.val], s254.val, .int .i64 k37] w253 fun e255 w256 => ∃ b257 : Bool, e255 = .returned (.bool b257) ∧
 J12 (!b257) w256))))
 (∃ n258 : Int, held S50 ⟨b46, 0, none⟩ (.int .i64 n258) ∧
 brB (n258 == (2 : Int))
 (∃ n259 : Int, held S50 ⟨b46, 1, none⟩ (.int .i64 n259) ∧
 ∃ n260 : Int, held S50 ⟨b10, 1, none⟩ (.int .i64 n260) ∧
 Calls Tryz.prog fn_hollowayref15_within #[.int .i64 n259, .int .i64 (wr (n260 - (1 : Int)))] w49 fun e261 w262 => ∃ b263 : Bool, e261 = .returned (.bool b263) ∧
 S50 w262 ∧
 brB (!b263)
 (J12 true w262)
 (∃ n264 : Int, held S50 ⟨b46, 0, none⟩ (.int .i64 n264) ∧
 brB (n264 == (3 : Int))
 (∃ n265 : Int, held S50 ⟨b46, 1, none⟩ (.int .i64 n265) ∧
 ∃ n266 : Int, held S50 ⟨b10, 2, none⟩ (.int .i64 n266) ∧
 Calls Tryz.prog fn_hollowayref15_within #[.int .i64 n265, .int .i64 (wr (n266 - (1 : Int)))] w262 fun e267 w268 => ∃ b269 : Bool, e267 = .returned (.bool b269) ∧
 S50 w268 ∧
 brB (!b269)
 (J12 true w268)
 (∃ n_Start270 : Int, ∃ n_Slots271 : Int, ∃ n_Backs272 : Int, ∃ n_Grow273 : Int, ∃ n_GrowBack274 : Int, ∃ s_Ins275 : Sl, ∃ s_Outs276 : Sl, ∃ n_Last277 : Int, ∃ s_Cells278 : Sl, held S50 ⟨b10, 0, none⟩ (.int .i64 n_Start270) ∧ held S50 ⟨b10, 1, none⟩ (.int .i64 n_Slots271) ∧ held S50 ⟨b10, 2, none⟩ (.int .i64 n_Backs272) ∧ held S50 ⟨b10, 3, none⟩ (.int .i64 n_Grow273) ∧ held S50 ⟨b10, 4, none⟩ (.int .i64 n_GrowBack274) ∧ held S50 ⟨b10, 5, none⟩ (s_Ins275.val) ∧ held S50 ⟨b10, 6, none⟩ (s_Outs276.val) ∧ held S50 ⟨b10, 7, none⟩ (.int .i64 n_Last277) ∧ held S50 ⟨b10, 8, none⟩ (s_Cells278.val) ∧
 ∃ n_Op279 : Int, ∃ n_A280 : Int, ∃ n_B281 : Int, ∃ n_C282 : Int, ∃ n_X283 : Int, held S50 ⟨b46, 0, none⟩ (.int .i64 n_Op279) ∧ held S50 ⟨b46, 1, none⟩ (.int .i64 n_A280) ∧ held S50 ⟨b46, 2, none⟩ (.int .i64 n_B281) ∧ held S50 ⟨b46, 3, none⟩ (.int .i64 n_C282) ∧ held S50 ⟨b46, 4, none⟩ (.int .i64 n_X283) ∧
 Calls Tryz.prog fn_hollowayref15_Uses #[.agg #[.int .i64 n_Op279, .int .i64 n_A280, .int .i64 n_B281, .int .i64 n_C282, .int .i64 n_X283]] w268 fun e284 w285 => ∃ s286 : Sl, e284 = .returned (s286.val) ∧
 S50 w285 ∧
 Calls Tryz.prog fn_hollowayref15_named #[.agg #[.int .i64 n_Start270, .int .i64 n_Slots271, .int .i64 n_Backs272, .int .i64 n_Grow273, .int .i64 n_GrowBack274, s_Ins275.val, s_Outs276.val, .int .i64 n_Last277, s_Cells278.val], s286.val, .int .i64 k37] w285 fun e287 w288 => ∃ b289 : Bool, e287 = .returned (.bool b289) ∧
 J12 (!b289) w288))
 (∃ n_Start290 : Int, ∃ n_Slots291 : Int, ∃ n_Backs292 : Int, ∃ n_Grow293 : Int, ∃ n_GrowBack294 : Int, ∃ s_Ins295 : Sl, ∃ s_Outs296 : Sl, ∃ n_Last297 : Int, ∃ s_Cells298 : Sl, held S50 ⟨b10, 0, none⟩ (.int .i64 n_Start290) ∧ held S50 ⟨b10, 1, none⟩ (.int .i64 n_Slots291) ∧ held S50 ⟨b10, 2, none⟩ (.int .i64 n_Backs292) ∧ held S50 ⟨b10, 3, none⟩ (.int .i64 n_Grow293) ∧ held S50 ⟨b10, 4, none⟩ (.int .i64 n_GrowBack294) ∧ held S50 ⟨b10, 5, none⟩ (s_Ins295.val) ∧ held S50 ⟨b10, 6, none⟩ (s_Outs296.val) ∧ held S50 ⟨b10, 7, none⟩ (.int .i64 n_Last297) ∧ held S50 ⟨b10, 8, none⟩ (s_Cells298.val) ∧
 ∃ n_Op299 : Int, ∃ n_A300 : Int, ∃ n_B301 : Int, ∃ n_C302 : Int, ∃ n_X303 : Int, held S50 ⟨b46, 0, none⟩ (.int .i64 n_Op299) ∧ held S50 ⟨b46, 1, none⟩ (.int .i64 n_A300) ∧ held S50 ⟨b46, 2, none⟩ (.int .i64 n_B301) ∧ held S50 ⟨b46, 3, none⟩ (.int .i64 n_C302) ∧ held S50 ⟨b46, 4, none⟩ (.int .i64 n_X303) ∧
 Calls Tryz.prog fn_hollowayref15_Uses #[.agg #[.int .i64 n_Op299, .int .i64 n_A300, .int .i64 n_B301, .int .i64 n_C302, .int .i64 n_X303]] w262 fun e304 w305 => ∃ s306 : Sl, e304 = .returned (s306.val) ∧
 S50 w305 ∧
 Calls Tryz.prog fn_hollowayref15_named #[.agg #[.int .i64 n_Start290, .int .i64 n_Slots291, .int .i64 n_Backs292, .int .i64 n_Grow293, .int .i64 n_GrowBack294, s_Ins295.val, s_Outs296.val, .int .i64 n_Last297, s_Cells298.val], s306.val, .int .i64 k37] w305 fun e307 w308 => ∃ b309 : Bool, e307 = .returned (.bool b309) ∧
 J12 (!b309) w308)))
 (∃ n310 : Int, held S50 ⟨b46, 0, none⟩ (.int .i64 n310) ∧
 brB (n310 == (3 : Int))
 (∃ n311 : Int, held S50 ⟨b46, 1, none⟩ (.int .i64 n311) ∧
 ∃ n312 : Int, held S50 ⟨b10, 2, none⟩ (.int .i64 n312) ∧
 Calls Tryz.prog fn_hollowayref15_within #[.int .i64 n311, .int .i64 (wr (n312 - (1 : Int)))] w49 fun e313 w314 => ∃ b315 : Bool, e313 = .returned (.bool b315) ∧
 S50 w314 ∧
 brB (!b315)
 (J12 true w314)
 (∃ n_Start316 : Int, ∃ n_Slots317 : Int, ∃ n_Backs318 : Int, ∃ n_Grow319 : Int, ∃ n_GrowBack320 : Int, ∃ s_Ins321 : Sl, ∃ s_Outs322 : Sl, ∃ n_Last323 : Int, ∃ s_Cells324 : Sl, held S50 ⟨b10, 0, none⟩ (.int .i64 n_Start316) ∧ held S50 ⟨b10, 1, none⟩ (.int .i64 n_Slots317) ∧ held S50 ⟨b10, 2, none⟩ (.int .i64 n_Backs318) ∧ held S50 ⟨b10, 3, none⟩ (.int .i64 n_Grow319) ∧ held S50 ⟨b10, 4, none⟩ (.int .i64 n_GrowBack320) ∧ held S50 ⟨b10, 5, none⟩ (s_Ins321.val) ∧ held S50 ⟨b10, 6, none⟩ (s_Outs322.val) ∧ held S50 ⟨b10, 7, none⟩ (.int .i64 n_Last323) ∧ held S50 ⟨b10, 8, none⟩ (s_Cells324.val) ∧
 ∃ n_Op325 : Int, ∃ n_A326 : Int, ∃ n_B327 : Int, ∃ n_C328 : Int, ∃ n_X329 : Int, held S50 ⟨b46, 0, none⟩ (.int .i64 n_Op325) ∧ held S50 ⟨b46, 1, none⟩ (.int .i64 n_A326) ∧ held S50 ⟨b46, 2, none⟩ (.int .i64 n_B327) ∧ held S50 ⟨b46, 3, none⟩ (.int .i64 n_C328) ∧ held S50 ⟨b46, 4, none⟩ (.int .i64 n_X329) ∧
 Calls Tryz.prog fn_hollowayref15_Uses #[.agg #[.int .i64 n_Op325, .int .i64 n_A326, .int .i64 n_B327, .int .i64 n_C328, .int .i64 n_X329]] w314 fun e330 w331 => ∃ s332 : Sl, e330 = .returned (s332.val) ∧
 S50 w331 ∧
 Calls Tryz.prog fn_hollowayref15_named #[.agg #[.int .i64 n_Start316, .int .i64 n_Slots317, .int .i64 n_Backs318, .int .i64 n_Grow319, .int .i64 n_GrowBack320, s_Ins321.val, s_Outs322.val, .int .i64 n_Last323, s_Cells324.val], s332.val, .int .i64 k37] w331 fun e333 w334 => ∃ b335 : Bool, e333 = .returned (.bool b335) ∧
 J12 (!b335) w334))
 (∃ n_Start336 : Int, ∃ n_Slots337 : Int, ∃ n_Backs338 : Int, ∃ n_Grow339 : Int, ∃ n_GrowBack340 : Int, ∃ s_Ins341 : Sl, ∃ s_Outs342 : Sl, ∃ n_Last343 : Int, ∃ s_Cells344 : Sl, held S50 ⟨b10, 0, none⟩ (.int .i64 n_Start336) ∧ held S50 ⟨b10, 1, none⟩ (.int .i64 n_Slots337) ∧ held S50 ⟨b10, 2, none⟩ (.int .i64 n_Backs338) ∧ held S50 ⟨b10, 3, none⟩ (.int .i64 n_Grow339) ∧ held S50 ⟨b10, 4, none⟩ (.int .i64 n_GrowBack340) ∧ held S50 ⟨b10, 5, none⟩ (s_Ins341.val) ∧ held S50 ⟨b10, 6, none⟩ (s_Outs342.val) ∧ held S50 ⟨b10, 7, none⟩ (.int .i64 n_Last343) ∧ held S50 ⟨b10, 8, none⟩ (s_Cells344.val) ∧
 ∃ n_Op345 : Int, ∃ n_A346 : Int, ∃ n_B347 : Int, ∃ n_C348 : Int, ∃ n_X349 : Int, held S50 ⟨b46, 0, none⟩ (.int .i64 n_Op345) ∧ held S50 ⟨b46, 1, none⟩ (.int .i64 n_A346) ∧ held S50 ⟨b46, 2, none⟩ (.int .i64 n_B347) ∧ held S50 ⟨b46, 3, none⟩ (.int .i64 n_C348) ∧ held S50 ⟨b46, 4, none⟩ (.int .i64 n_X349) ∧
 Calls Tryz.prog fn_hollowayref15_Uses #[.agg #[.int .i64 n_Op345, .int .i64 n_A346, .int .i64 n_B347, .int .i64 n_C348, .int .i64 n_X349]] w49 fun e350 w351 => ∃ s352 : Sl, e350 = .returned (s352.val) ∧
 S50 w351 ∧
 Calls Tryz.prog fn_hollowayref15_named #[.agg #[.int .i64 n_Start336, .int .i64 n_Slots337, .int .i64 n_Backs338, .int .i64 n_Grow339, .int .i64 n_GrowBack340, s_Ins341.val, s_Outs342.val, .int .i64 n_Last343, s_Cells344.val], s352.val, .int .i64 k37] w351 fun e353 w354 => ∃ b355 : Bool, e353 = .returned (.bool b355) ∧
 J12 (!b355) w354))))))
 (∃ (I3 : Int → World → Prop) (μ3 : Int → World → Nat), I3 (0 : Int) w36 ∧ ∀ (k384 : Int) (w383 : World), I3 k384 w383 →
 ∃ s385 : Sl, w383.cell? ⟨b10, 6, none⟩ = some (s385.val) ∧
 brB (decide (k384 < (s385.len : Int)))
 (∃ s386 : Sl, w383.cell? ⟨b10, 6, none⟩ = some (s386.val) ∧
 ∃ a387 : Addr, s386.ptr = some a387 ∧ 0 ≤ k384 ∧ k384 < (s386.len : Int) ∧
 ∃ n_Ip388 : Int, ∃ n_Steps389 : Int, ∃ s_Stack390 : Sl, ∃ s_Back391 : Sl, w383.cell? (Addr.add a387 (Int.toNat k384 * 4)) = some (.int .i64 n_Ip388) ∧ w383.cell? (Addr.add (Addr.add a387 (Int.toNat k384 * 4)) 1) = some (.int .i64 n_Steps389) ∧ w383.cell? (Addr.add (Addr.add a387 (Int.toNat k384 * 4)) 2) = some (s_Stack390.val) ∧ w383.cell? (Addr.add (Addr.add a387 (Int.toNat k384 * 4)) 3) = some (s_Back391.val) ∧
 ∀ (b392 : Nat) (w393 : World), b392 = w383.heap.size → w393 = World.alloc w383 (.cells #[.int .i64 (0 : Int), .int .i64 (0 : Int), .slice none 0 0, .slice none 0 0] T_api_Out) →
 wrOk w393 ⟨b392, 0, none⟩ 4 ∧ ∀ w394 : World, w394 = stW w393 ⟨b392, 0, none⟩ 0 [.int .i64 n_Ip388, .int .i64 n_Steps389, s_Stack390.val, s_Back391.val] →
 ∃ J27 : Bool → World → Prop, (∀ (b410 : Bool) (w409 : World), J27 b410 w409 →
 brB b410
 (K (.bool false) w409)
 (I3 (wr (k384 + (1 : Int))) w409 ∧ μ3 (wr (k384 + (1 : Int))) w409 < μ3 k384 w383)) ∧
 ∃ n395 : Int, w394.cell? ⟨b392, 1, none⟩ = some (.int .i64 n395) ∧
 Calls Tryz.prog fn_hollowayref15_within #[.int .i64 n395, .int .i64 (120 : Int)] w394 fun e396 w397 => ∃ b398 : Bool, e396 = .returned (.bool b398) ∧
 brB (!b398)
 (J27 true w397)
 (∃ n399 : Int, w397.cell? ⟨b392, 0, none⟩ = some (.int .i64 n399) ∧
 Calls Tryz.prog fn_hollowayref15_within #[.int .i64 n399, .int .i64 (2999 : Int)] w397 fun e400 w401 => ∃ b402 : Bool, e400 = .returned (.bool b402) ∧
 brB (!b402)
 (J27 true w401)
 (∃ s403 : Sl, w401.cell? ⟨b392, 2, none⟩ = some (s403.val) ∧
 ∃ n404 : Int, w401.cell? ⟨b10, 1, none⟩ = some (.int .i64 n404) ∧
 ∃ n405 : Int, w401.cell? ⟨b10, 3, none⟩ = some (.int .i64 n405) ∧
 brB (decide ((s403.len : Int) > (wr (n404 + n405))))
 (J27 true w401)
 (∃ s406 : Sl, w401.cell? ⟨b392, 3, none⟩ = some (s406.val) ∧
 ∃ n407 : Int, w401.cell? ⟨b10, 2, none⟩ = some (.int .i64 n407) ∧
 ∃ n408 : Int, w401.cell? ⟨b10, 4, none⟩ = some (.int .i64 n408) ∧
 J27 (decide ((s406.len : Int) > (wr (n407 + n408)))) w401))))
 (∃ (I4 : Int → World → Prop) (μ4 : Int → World → Nat), I4 (0 : Int) w383 ∧ ∀ (k412 : Int) (w411 : World), I4 k412 w411 →
 ∃ s413 : Sl, w411.cell? ⟨b10, 8, none⟩ = some (s413.val) ∧
 brB (decide (k412 < (s413.len : Int)))
 (∃ J34 : Bool → World → Prop, (∀ (b429 : Bool) (w428 : World), J34 b429 w428 →
 brB b429
 (K (.bool false) w428)
 (I4 (wr (k412 + (1 : Int))) w428 ∧ μ4 (wr (k412 + (1 : Int))) w428 < μ4 k412 w411)) ∧
 ∀ w414 : World, w414 = World.drew w411 →
 ∃ S415 : World → Prop, S415 w414 ∧
 ∃ s416 : Sl, held S415 ⟨b10, 8, none⟩ (s416.val) ∧
 ∃ a417 : Addr, s416.ptr = some a417 ∧ 0 ≤ k412 ∧ k412 < (s416.len : Int) ∧
 ∃ n418 : Int, held S415 (Addr.add a417 (Int.toNat k412 * 1)) (.int .i64 n418) ∧
 Calls Tryz.prog fn_hollowayref15_within #[.int .i64 n418, .int .i64 (2999 : Int)] w414 fun e419 w420 => ∃ b421 : Bool, e419 = .returned (.bool b421) ∧
 S415 w420 ∧
 brB (!b421)
 (J34 true w420)
 (brB (decide (k412 > (0 : Int)))
 (∃ s422 : Sl, held S415 ⟨b10, 8, none⟩ (s422.val) ∧
 ∃ a423 : Addr, s422.ptr = some a423 ∧ 0 ≤ (wr (k412 - (1 : Int))) ∧ (wr (k412 - (1 : Int))) < (s422.len : Int) ∧
 ∃ n424 : Int, held S415 (Addr.add a423 (Int.toNat (wr (k412 - (1 : Int))) * 1)) (.int .i64 n424) ∧
 ∃ s425 : Sl, held S415 ⟨b10, 8, none⟩ (s425.val) ∧
 ∃ a426 : Addr, s425.ptr = some a426 ∧ 0 ≤ k412 ∧ k412 < (s425.len : Int) ∧
 ∃ n427 : Int, held S415 (Addr.add a426 (Int.toNat k412 * 1)) (.int .i64 n427) ∧
 J34 (decide (n424 ≥ n427)) w420)
 (J34 false w420)))
 (∃ n_Start430 : Int, ∃ n_Slots431 : Int, ∃ n_Backs432 : Int, ∃ n_Grow433 : Int, ∃ n_GrowBack434 : Int, ∃ s_Ins435 : Sl, ∃ s_Outs436 : Sl, ∃ n_Last437 : Int, ∃ s_Cells438 : Sl, w411.cell? ⟨b10, 0, none⟩ = some (.int .i64 n_Start430) ∧ w411.cell? ⟨b10, 1, none⟩ = some (.int .i64 n_Slots431) ∧ w411.cell? ⟨b10, 2, none⟩ = some (.int .i64 n_Backs432) ∧ w411.cell? ⟨b10, 3, none⟩ = some (.int .i64 n_Grow433) ∧ w411.cell? ⟨b10, 4, none⟩ = some (.int .i64 n_GrowBack434) ∧ w411.cell? ⟨b10, 5, none⟩ = some (s_Ins435.val) ∧ w411.cell? ⟨b10, 6, none⟩ = some (s_Outs436.val) ∧ w411.cell? ⟨b10, 7, none⟩ = some (.int .i64 n_Last437) ∧ w411.cell? ⟨b10, 8, none⟩ = some (s_Cells438.val) ∧
 ∃ n439 : Int, w411.cell? ⟨b10, 7, none⟩ = some (.int .i64 n439) ∧
 ∃ s440 : Sl, w411.cell? ⟨b10, 5, none⟩ = some (s440.val) ∧
 Calls Tryz.prog fn_hollowayref15_out #[.agg #[.int .i64 n_Start430, .int .i64 n_Slots431, .int .i64 n_Backs432, .int .i64 n_Grow433, .int .i64 n_GrowBack434, s_Ins435.val, s_Outs436.val, .int .i64 n_Last437, s_Cells438.val], .int .i64 n439, .int .i64 (s440.len : Int)] w411 fun e441 w442 => ∃ b443 : Bool, e441 = .returned (.bool b443) ∧
 brB b443
 (∃ s444 : Sl, w442.cell? ⟨b10, 6, none⟩ = some (s444.val) ∧
 ∃ n445 : Int, w442.cell? ⟨b10, 7, none⟩ = some (.int .i64 n445) ∧
 ∃ a446 : Addr, s444.ptr = some a446 ∧ 0 ≤ n445 ∧ n445 < (s444.len : Int) ∧
 ∃ n447 : Int, w442.cell? (Addr.add (Addr.add a446 (Int.toNat n445 * 4)) 1) = some (.int .i64 n447) ∧
 K (.bool (decide (n447 ≥ (1 : Int)))) w442)
 (K (.bool false) w442)))))) ∧
 ∃ s12 : Sl, w11.cell? ⟨b10, 5, none⟩ = some (s12.val) ∧
 brB (decide ((s12.len : Int) > (1000 : Int)))
 (J3 true w11)
 (∃ s13 : Sl, w11.cell? ⟨b10, 6, none⟩ = some (s13.val) ∧
 brB (decide ((s13.len : Int) > (300 : Int)))
 (J3 true w11)
 (∃ n14 : Int, w11.cell? ⟨b10, 0, none⟩ = some (.int .i64 n14) ∧
 Calls Tryz.prog fn_hollowayref15_within #[.int .i64 n14, .int .i64 (2999 : Int)] w11 fun e15 w16 => ∃ b17 : Bool, e15 = .returned (.bool b17) ∧
 brB (!b17)
 (J3 true w16)
 (∃ n18 : Int, w16.cell? ⟨b10, 1, none⟩ = some (.int .i64 n18) ∧
 Calls Tryz.prog fn_hollowayref15_within #[.int .i64 n18, .int .i64 (48 : Int)] w16 fun e19 w20 => ∃ b21 : Bool, e19 = .returned (.bool b21) ∧
 brB (!b21)
 (J3 true w20)
 (∃ n22 : Int, w20.cell? ⟨b10, 3, none⟩ = some (.int .i64 n22) ∧
 Calls Tryz.prog fn_hollowayref15_within #[.int .i64 n22, .int .i64 (48 : Int)] w20 fun e23 w24 => ∃ b25 : Bool, e23 = .returned (.bool b25) ∧
 brB (!b25)
 (J3 true w24)
 (∃ n26 : Int, w24.cell? ⟨b10, 2, none⟩ = some (.int .i64 n26) ∧
 Calls Tryz.prog fn_hollowayref15_within #[.int .i64 n26, .int .i64 (48 : Int)] w24 fun e27 w28 => ∃ b29 : Bool, e27 = .returned (.bool b29) ∧
 brB (!b29)
 (J3 true w28)
 (∃ n30 : Int, w28.cell? ⟨b10, 4, none⟩ = some (.int .i64 n30) ∧
 Calls Tryz.prog fn_hollowayref15_within #[.int .i64 n30, .int .i64 (48 : Int)] w28 fun e31 w32 => ∃ b33 : Bool, e31 = .returned (.bool b33) ∧
 J3 (!b33) w32))))))
def hollowayref15_Right_an : An := ⟨[(4, [(3, .int .i64)]), (11, [(6, .int .i64)]), (16, [(7, .int .i64)]), (22, [(9, .int .i64)])], [(7, (58, .st 0 (.st 1 (.st 2 (.st 3 (.st 4 (.st 5 (.st 6 (.st 7 (.st 8 (.st 9 (.st 10 (.st 11 (.st 12 (.st 13 (.st 14 (.ef 15 (.st 16 (.st 17 (.st 18 (.st 19 (.st 20 (.ef 21 (.st 22 (.st 23 (.st 24 (.st 25 (.st 26 (.st 27 (.st 28 (.st 29 (.st 30 (.st 31 (.st 32 (.st 33 (.st 34 (.ef 35 (.st 36 (.st 37 (.st 38 (.st 39 (.st 40 (.st 41 (.st 42 (.st 43 (.st 44 (.st 45 (.st 46 (.st 47 (.st 48 (.ef 49 (.st 50 (.st 51 (.st 52 (.st 53 (.st 54 (.st 55 (.st 57 (.ef 56 .done))))))))))))))))))))))))))))))))))))))))))))))))))))))))), 1)), (13, (6, .st 0 (.st 1 (.st 2 (.st 3 (.st 4 (.st 5 .done))))), 0)), (24, (22, .st 0 (.st 1 (.st 2 (.st 3 (.st 4 (.ef 5 (.st 6 (.st 7 (.st 8 (.st 9 (.st 10 (.st 11 (.st 12 (.st 13 (.st 14 (.st 15 (.st 16 (.st 17 (.st 18 (.st 19 (.st 20 (.st 21 .done))))))))))))))))))))), 1))], [(2, [(49, .bool)]), (8, [(122, .bool)]), (20, [(182, .bool)]), (25, [(214, .bool)])]⟩
theorem hollowayref15_Right_lift {t__Start1 : Int} {t__Slots2 : Int} {t__Backs3 : Int} {t__Grow4 : Int} {t__GrowBack5 : Int} {t__Ins6 : Sl} {t__Outs7 : Sl} {t__Last8 : Int} {t__Cells9 : Sl} {w : World} {K : Value → World → Prop} (h : hollowayref15_Right_sh t__Start1 t__Slots2 t__Backs3 t__Grow4 t__GrowBack5 t__Ins6 t__Outs7 t__Last8 t__Cells9 w K) : Calls Tryz.prog fn_hollowayref15_Right #[.agg #[.int .i64 t__Start1, .int .i64 t__Slots2, .int .i64 t__Backs3, .int .i64 t__Grow4, .int .i64 t__GrowBack5, t__Ins6.val, t__Outs7.val, .int .i64 t__Last8, t__Cells9.val]] w fun e w' => ∃ v, e = .returned v ∧ K v w' :=
   lift_calls (A := hollowayref15_Right_an) (c := bodyOf Tryz.f8) (args := [.agg #[.int .i64 t__Start1, .int .i64 t__Slots2, .int .i64 t__Backs3, .int .i64 t__Grow4, .int .i64 t__GrowBack5, t__Ins6.val, t__Outs7.val, .int .i64 t__Last8, t__Cells9.val]]) orc orc_wide Tryz.func8 (by kernel_rfl) (by kernel_rfl) (Eq.mp (by kernel_rfl : hollowayref15_Right_sh t__Start1 t__Slots2 t__Backs3 t__Grow4 t__GrowBack5 t__Ins6 t__Outs7 t__Last8 t__Cells9 w K = wpc orc Tryz.f8.ntmps hollowayref15_Right_an (bodyOf Tryz.f8) (argl 0 [.agg #[.int .i64 t__Start1, .int .i64 t__Slots2, .int .i64 t__Backs3, .int .i64 t__Grow4, .int .i64 t__GrowBack5, t__Ins6.val, t__Outs7.val, .int .i64 t__Last8, t__Cells9.val]]) w (retQ orc Tryz.f8.results.toList K)) h)

-- holloway/hollowayref15.May
def hollowayref15_May_sh (t__Start1 : Int) (t__Slots2 : Int) (t__Backs3 : Int) (t__Grow4 : Int) (t__GrowBack5 : Int) (t__Ins6 : Sl) (t__Outs7 : Sl) (t__Last8 : Int) (t__Cells9 : Sl) (s__Ip10 : Int) (s__Handler11 : Int) (s__Stack12 : Sl) (s__Back13 : Sl) (s__Mem14 : Sl) (s__Out15 : ByteArray) (s__In16 : ByteArray) (s__Read17 : Int) (s__Status18 : Int) (s__Code19 : Int) (w : World) (K : Value → World → Prop) : Prop :=
 ∀ (b20 : Nat) (w21 : World), b20 = w.heap.size → w21 = World.alloc w (.cells #[.int .i64 t__Start1, .int .i64 t__Slots2, .int .i64 t__Backs3, .int .i64 t__Grow4, .int .i64 t__GrowBack5, t__Ins6.val, t__Outs7.val, .int .i64 t__Last8, t__Cells9.val] T_api_Trace) →
 ∀ (b22 : Nat) (w23 : World), b22 = w21.heap.size → w23 = World.alloc w21 (.cells #[.int .i64 s__Ip10, .int .i64 s__Handler11, s__Stack12.val, s__Back13.val, s__Mem14.val, .string s__Out15, .string s__In16, .int .i64 s__Read17, .int .i64 s__Status18, .int .i64 s__Code19] T_api_State) →
 ∃ n24 : Int, w23.cell? ⟨b22, 8, none⟩ = some (.int .i64 n24) ∧
 brB (n24 == (0 : Int))
 (∃ n25 : Int, w23.cell? ⟨b22, 0, none⟩ = some (.int .i64 n25) ∧
 ∃ n26 : Int, w23.cell? ⟨b20, 0, none⟩ = some (.int .i64 n26) ∧
 brB (n25 == n26)
 (∃ s27 : Sl, w23.cell? ⟨b22, 2, none⟩ = some (s27.val) ∧
 ∃ n28 : Int, w23.cell? ⟨b20, 1, none⟩ = some (.int .i64 n28) ∧
 brB (decide ((s27.len : Int) ≥ n28))
 (∃ s29 : Sl, w23.cell? ⟨b22, 2, none⟩ = some (s29.val) ∧
 ∃ n30 : Int, w23.cell? ⟨b20, 3, none⟩ = some (.int .i64 n30) ∧
 brB (decide ((wr ((s29.len : Int) + n30)) ≤ (48 : Int)))
 (∃ s31 : Sl, w23.cell? ⟨b22, 3, none⟩ = some (s31.val) ∧
 ∃ n32 : Int, w23.cell? ⟨b20, 2, none⟩ = some (.int .i64 n32) ∧
 brB (decide ((s31.len : Int) ≥ n32))
 (∃ s33 : Sl, w23.cell? ⟨b22, 3, none⟩ = some (s33.val) ∧
 ∃ n34 : Int, w23.cell? ⟨b20, 4, none⟩ = some (.int .i64 n34) ∧
 K (.bool (decide ((wr ((s33.len : Int) + n34)) ≤ (48 : Int)))) w23)
 (K (.bool false) w23))
 (K (.bool false) w23))
 (K (.bool false) w23))
 (K (.bool false) w23))
 (K (.bool false) w23)
def hollowayref15_May_an : An := ⟨[], [], []⟩
theorem hollowayref15_May_lift {t__Start1 : Int} {t__Slots2 : Int} {t__Backs3 : Int} {t__Grow4 : Int} {t__GrowBack5 : Int} {t__Ins6 : Sl} {t__Outs7 : Sl} {t__Last8 : Int} {t__Cells9 : Sl} {s__Ip10 : Int} {s__Handler11 : Int} {s__Stack12 : Sl} {s__Back13 : Sl} {s__Mem14 : Sl} {s__Out15 : ByteArray} {s__In16 : ByteArray} {s__Read17 : Int} {s__Status18 : Int} {s__Code19 : Int} {w : World} {K : Value → World → Prop} (h : hollowayref15_May_sh t__Start1 t__Slots2 t__Backs3 t__Grow4 t__GrowBack5 t__Ins6 t__Outs7 t__Last8 t__Cells9 s__Ip10 s__Handler11 s__Stack12 s__Back13 s__Mem14 s__Out15 s__In16 s__Read17 s__Status18 s__Code19 w K) : Calls Tryz.prog fn_hollowayref15_May #[.agg #[.int .i64 t__Start1, .int .i64 t__Slots2, .int .i64 t__Backs3, .int .i64 t__Grow4, .int .i64 t__GrowBack5, t__Ins6.val, t__Outs7.val, .int .i64 t__Last8, t__Cells9.val], .agg #[.int .i64 s__Ip10, .int .i64 s__Handler11, s__Stack12.val, s__Back13.val, s__Mem14.val, .string s__Out15, .string s__In16, .int .i64 s__Read17, .int .i64 s__Status18, .int .i64 s__Code19]] w fun e w' => ∃ v, e = .returned v ∧ K v w' :=
   lift_calls (A := hollowayref15_May_an) (c := bodyOf Tryz.f13) (args := [.agg #[.int .i64 t__Start1, .int .i64 t__Slots2, .int .i64 t__Backs3, .int .i64 t__Grow4, .int .i64 t__GrowBack5, t__Ins6.val, t__Outs7.val, .int .i64 t__Last8, t__Cells9.val], .agg #[.int .i64 s__Ip10, .int .i64 s__Handler11, s__Stack12.val, s__Back13.val, s__Mem14.val, .string s__Out15, .string s__In16, .int .i64 s__Read17, .int .i64 s__Status18, .int .i64 s__Code19]]) orc orc_wide Tryz.func13 (by kernel_rfl) (by kernel_rfl) (Eq.mp (by kernel_rfl : hollowayref15_May_sh t__Start1 t__Slots2 t__Backs3 t__Grow4 t__GrowBack5 t__Ins6 t__Outs7 t__Last8 t__Cells9 s__Ip10 s__Handler11 s__Stack12 s__Back13 s__Mem14 s__Out15 s__In16 s__Read17 s__Status18 s__Code19 w K = wpc orc Tryz.f13.ntmps hollowayref15_May_an (bodyOf Tryz.f13) (argl 0 [.agg #[.int .i64 t__Start1, .int .i64 t__Slots2, .int .i64 t__Backs3, .int .i64 t__Grow4, .int .i64 t__GrowBack5, t__Ins6.val, t__Outs7.val, .int .i64 t__Last8, t__Cells9.val], .agg #[.int .i64 s__Ip10, .int .i64 s__Handler11, s__Stack12.val, s__Back13.val, s__Mem14.val, .string s__Out15, .string s__In16, .int .i64 s__Read17, .int .i64 s__Status18, .int .i64 s__Code19]]) w (retQ orc Tryz.f13.results.toList K)) h)

-- holloway/hollowayref15.Run
def hollowayref15_Run_sh (t__Start1 : Int) (t__Slots2 : Int) (t__Backs3 : Int) (t__Grow4 : Int) (t__GrowBack5 : Int) (t__Ins6 : Sl) (t__Outs7 : Sl) (t__Last8 : Int) (t__Cells9 : Sl) (s__Ip10 : Int) (s__Handler11 : Int) (s__Stack12 : Sl) (s__Back13 : Sl) (s__Mem14 : Sl) (s__Out15 : ByteArray) (s__In16 : ByteArray) (s__Read17 : Int) (s__Status18 : Int) (s__Code19 : Int) (watched20 : Sl) (w : World) (K : Value → World → Prop) : Prop :=
 ∀ (b21 : Nat) (w22 : World), b21 = w.heap.size → w22 = World.alloc w (.cells #[.int .i64 t__Start1, .int .i64 t__Slots2, .int .i64 t__Backs3, .int .i64 t__Grow4, .int .i64 t__GrowBack5, t__Ins6.val, t__Outs7.val, .int .i64 t__Last8, t__Cells9.val] T_api_Trace) →
 ∀ (b23 : Nat) (w24 : World), b23 = w22.heap.size → w24 = World.alloc w22 (.cells #[.int .i64 s__Ip10, .int .i64 s__Handler11, s__Stack12.val, s__Back13.val, s__Mem14.val, .string s__Out15, .string s__In16, .int .i64 s__Read17, .int .i64 s__Status18, .int .i64 s__Code19] T_api_State) →
 ∀ (b25 : Nat) (w26 : World), b25 = w24.heap.size → w26 = World.alloc w24 (.cells #[.int .i64 (0 : Int), .int .i64 (0 : Int), .slice none 0 0, .slice none 0 0, .slice none 0 0, .string (bs []), .string (bs []), .int .i64 (0 : Int), .int .i64 (0 : Int), .int .i64 (0 : Int)] T_api_State) →
 ∃ s27 : Sl, w26.cell? ⟨b23, 4, none⟩ = some (s27.val) ∧
 ∃ s28 : Sl, ∃ w29 : World, (Builtin.append_ #[T_sl_int, T_sl_int] T_sl_int #[.slice none 0 0, s27.val]).run Tryz.prog w26 = .ok (s28.val) w29 ∧
 wrOk w29 ⟨b23, 4, none⟩ 1 ∧ ∀ w30 : World, w30 = stW w29 ⟨b23, 4, none⟩ 0 [s28.val] →
 ∃ s31 : Sl, w30.cell? ⟨b21, 5, none⟩ = some (s31.val) ∧
 ∃ s32 : Sl, ∃ w33 : World, (Instr.makeSlice T_sl_int (.int .i64 (s31.len : Int)) (.int .i64 (s31.len : Int))).run Tryz.prog w30 = .ok s32.val w33 ∧
 ∃ (I1 : Int → World → Prop) (μ1 : Int → World → Nat), I1 (0 : Int) w33 ∧ ∀ (k35 : Int) (w34 : World), I1 k35 w34 →
 ∃ s36 : Sl, w34.cell? ⟨b21, 5, none⟩ = some (s36.val) ∧
 brB (decide (k35 < (s36.len : Int)))
 (∃ s37 : Sl, w34.cell? ⟨b21, 5, none⟩ = some (s37.val) ∧
 ∃ a38 : Addr, s37.ptr = some a38 ∧ 0 ≤ k35 ∧ k35 < (s37.len : Int) ∧
 ∃ n_Op39 : Int, ∃ n_A40 : Int, ∃ n_B41 : Int, ∃ n_C42 : Int, ∃ n_X43 : Int, w34.cell? (Addr.add a38 (Int.toNat k35 * 5)) = some (.int .i64 n_Op39) ∧ w34.cell? (Addr.add (Addr.add a38 (Int.toNat k35 * 5)) 1) = some (.int .i64 n_A40) ∧ w34.cell? (Addr.add (Addr.add a38 (Int.toNat k35 * 5)) 2) = some (.int .i64 n_B41) ∧ w34.cell? (Addr.add (Addr.add a38 (Int.toNat k35 * 5)) 3) = some (.int .i64 n_C42) ∧ w34.cell? (Addr.add (Addr.add a38 (Int.toNat k35 * 5)) 4) = some (.int .i64 n_X43) ∧
 ∀ (b44 : Nat) (w45 : World), b44 = w34.heap.size → w45 = World.alloc w34 (.cells #[.int .i64 (0 : Int), .int .i64 (0 : Int), .int .i64 (0 : Int), .int .i64 (0 : Int), .int .i64 (0 : Int)] T_api_Ins) →
 wrOk w45 ⟨b44, 0, none⟩ 5 ∧ ∀ w46 : World, w46 = stW w45 ⟨b44, 0, none⟩ 0 [.int .i64 n_Op39, .int .i64 n_A40, .int .i64 n_B41, .int .i64 n_C42, .int .i64 n_X43] →
 ∃ n_Op47 : Int, ∃ n_A48 : Int, ∃ n_B49 : Int, ∃ n_C50 : Int, ∃ n_X51 : Int, w46.cell? ⟨b44, 0, none⟩ = some (.int .i64 n_Op47) ∧ w46.cell? ⟨b44, 1, none⟩ = some (.int .i64 n_A48) ∧ w46.cell? ⟨b44, 2, none⟩ = some (.int .i64 n_B49) ∧ w46.cell? ⟨b44, 3, none⟩ = some (.int .i64 n_C50) ∧ w46.cell? ⟨b44, 4, none⟩ = some (.int .i64 n_X51) ∧
 Calls Tryz.prog fn_hollowayref15_Uses #[.agg #[.int .i64 n_Op47, .int .i64 n_A48, .int .i64 n_B49, .int .i64 n_C50, .int .i64 n_X51]] w46 fun e52 w53 => ∃ s54 : Sl, e52 = .returned (s54.val) ∧
 ∃ J12 : Int → World → Prop, (∀ (b88 : Int) (w59 : World), J12 b88 w59 →
 ∃ J14 : Int → World → Prop, (∀ (c89 : Int) (w64 : World), J14 c89 w64 →
 ∃ J17 : Bool → World → Prop, (∀ (exits195 : Bool) (w194 : World), J17 exits195 w194 →
 brB exits195
 (∀ w196 : World, w196 = World.drew w194 →
 ∃ S197 : World → Prop, S197 w196 ∧
 ∃ n_Start198 : Int, ∃ n_Slots199 : Int, ∃ n_Backs200 : Int, ∃ n_Grow201 : Int, ∃ n_GrowBack202 : Int, ∃ s_Ins203 : Sl, ∃ s_Outs204 : Sl, ∃ n_Last205 : Int, ∃ s_Cells206 : Sl, held S197 ⟨b21, 0, none⟩ (.int .i64 n_Start198) ∧ held S197 ⟨b21, 1, none⟩ (.int .i64 n_Slots199) ∧ held S197 ⟨b21, 2, none⟩ (.int .i64 n_Backs200) ∧ held S197 ⟨b21, 3, none⟩ (.int .i64 n_Grow201) ∧ held S197 ⟨b21, 4, none⟩ (.int .i64 n_GrowBack202) ∧ held S197 ⟨b21, 5, none⟩ (s_Ins203.val) ∧ held S197 ⟨b21, 6, none⟩ (s_Outs204.val) ∧ held S197 ⟨b21, 7, none⟩ (.int .i64 n_Last205) ∧ held S197 ⟨b21, 8, none⟩ (s_Cells206.val) ∧
 ∃ n_Ip207 : Int, ∃ n_Handler208 : Int, ∃ s_Stack209 : Sl, ∃ s_Back210 : Sl, ∃ s_Mem211 : Sl, ∃ t_Out212 : ByteArray, ∃ t_In213 : ByteArray, ∃ n_Read214 : Int, ∃ n_Status215 : Int, ∃ n_Code216 : Int, held S197 ⟨b23, 0, none⟩ (.int .i64 n_Ip207) ∧ held S197 ⟨b23, 1, none⟩ (.int .i64 n_Handler208) ∧ held S197 ⟨b23, 2, none⟩ (s_Stack209.val) ∧ held S197 ⟨b23, 3, none⟩ (s_Back210.val) ∧ held S197 ⟨b23, 4, none⟩ (s_Mem211.val) ∧ held S197 ⟨b23, 5, none⟩ (.string t_Out212) ∧ held S197 ⟨b23, 6, none⟩ (.string t_In213) ∧ held S197 ⟨b23, 7, none⟩ (.int .i64 n_Read214) ∧ held S197 ⟨b23, 8, none⟩ (.int .i64 n_Status215) ∧ held S197 ⟨b23, 9, none⟩ (.int .i64 n_Code216) ∧
 ∃ n217 : Int, held S197 ⟨b44, 4, none⟩ (.int .i64 n217) ∧
 ∃ n218 : Int, held S197 ⟨b44, 4, none⟩ (.int .i64 n218) ∧
 Calls Tryz.prog fn_hollowayref15_leave #[.agg #[.int .i64 n_Start198, .int .i64 n_Slots199, .int .i64 n_Backs200, .int .i64 n_Grow201, .int .i64 n_GrowBack202, s_Ins203.val, s_Outs204.val, .int .i64 n_Last205, s_Cells206.val], .agg #[.int .i64 n_Ip207, .int .i64 n_Handler208, s_Stack209.val, s_Back210.val, s_Mem211.val, .string t_Out212, .string t_In213, .int .i64 n_Read214, .int .i64 n_Status215, .int .i64 n_Code216], s32.val, .int .i64 n217] w196 fun e219 w220 => ∃ n_Ip221 : Int, ∃ n_Handler222 : Int, ∃ s_Stack223 : Sl, ∃ s_Back224 : Sl, ∃ s_Mem225 : Sl, ∃ t_Out226 : ByteArray, ∃ t_In227 : ByteArray, ∃ n_Read228 : Int, ∃ n_Status229 : Int, ∃ n_Code230 : Int, e219 = .returned (.agg #[.int .i64 n_Ip221, .int .i64 n_Handler222, s_Stack223.val, s_Back224.val, s_Mem225.val, .string t_Out226, .string t_In227, .int .i64 n_Read228, .int .i64 n_Status229, .int .i64 n_Code230]) ∧
 S197 w220 ∧
 wrOk w220 ⟨b25, 0, none⟩ 10 ∧ ∀ w231 : World, w231 = stW w220 ⟨b25, 0, none⟩ 0 [.int .i64 n_Ip221, .int .i64 n_Handler222, s_Stack223.val, s_Back224.val, s_Mem225.val, .string t_Out226, .string t_In227, .int .i64 n_Read228, .int .i64 n_Status229, .int .i64 n_Code230] →
 S197 w231 ∧
 ∃ r_Ip232 : Int, ∃ r_Handler233 : Int, ∃ r_Stack234 : Sl, ∃ r_Back235 : Sl, ∃ r_Mem236 : Sl, ∃ r_Out237 : ByteArray, ∃ r_In238 : ByteArray, ∃ r_Read239 : Int, ∃ r_Status240 : Int, ∃ r_Code241 : Int, w231.cell? ⟨b25, 0, none⟩ = some (.int .i64 r_Ip232) ∧ w231.cell? ⟨b25, 1, none⟩ = some (.int .i64 r_Handler233) ∧ w231.cell? ⟨b25, 2, none⟩ = some (r_Stack234.val) ∧ w231.cell? ⟨b25, 3, none⟩ = some (r_Back235.val) ∧ w231.cell? ⟨b25, 4, none⟩ = some (r_Mem236.val) ∧ w231.cell? ⟨b25, 5, none⟩ = some (.string r_Out237) ∧ w231.cell? ⟨b25, 6, none⟩ = some (.string r_In238) ∧ w231.cell? ⟨b25, 7, none⟩ = some (.int .i64 r_Read239) ∧ w231.cell? ⟨b25, 8, none⟩ = some (.int .i64 r_Status240) ∧ w231.cell? ⟨b25, 9, none⟩ = some (.int .i64 r_Code241) ∧
 K (.tuple #[.agg #[.int .i64 r_Ip232, .int .i64 r_Handler233, r_Stack234.val, r_Back235.val, r_Mem236.val, .string r_Out237, .string r_In238, .int .i64 r_Read239, .int .i64 r_Status240, .int .i64 r_Code241], .int .i64 n218, .bool false]) w231)
 (I1 (wr (k35 + (1 : Int))) w194 ∧ μ1 (wr (k35 + (1 : Int))) w194 < μ1 k35 w34)) ∧
 ∃ n65 : Int, w64.cell? ⟨b44, 0, none⟩ = some (.int .i64 n65) ∧
 brB (n65 == (1 : Int))
 (∃ n66 : Int, w64.cell? ⟨b44, 1, none⟩ = some (.int .i64 n66) ∧
 ∃ a67 : Addr, s32.ptr = some a67 ∧ 0 ≤ k35 ∧ k35 < (s32.len : Int) ∧
 wrOk w64 (Addr.add a67 (Int.toNat k35 * 1)) 1 ∧ ∀ w68 : World, w68 = stW w64 (Addr.add a67 (Int.toNat k35 * 1)) 0 [.int .i64 n66] →
 J17 false w68)
 (brB (n65 == (2 : Int))
 (∃ s69 : Sl, w64.cell? ⟨b23, 2, none⟩ = some (s69.val) ∧
 ∃ s70 : Sl, w64.cell? ⟨b23, 2, none⟩ = some (s70.val) ∧
 ∃ n71 : Int, w64.cell? ⟨b44, 1, none⟩ = some (.int .i64 n71) ∧
 ∃ a72 : Addr, s69.ptr = some a72 ∧ 0 ≤ (wr ((wr ((s70.len : Int) - (1 : Int))) - n71)) ∧ (wr ((wr ((s70.len : Int) - (1 : Int))) - n71)) < (s69.len : Int) ∧
 ∃ n73 : Int, w64.cell? (Addr.add a72 (Int.toNat (wr ((wr ((s70.len : Int) - (1 : Int))) - n71)) * 1)) = some (.int .i64 n73) ∧
 ∃ a74 : Addr, s32.ptr = some a74 ∧ 0 ≤ k35 ∧ k35 < (s32.len : Int) ∧
 wrOk w64 (Addr.add a74 (Int.toNat k35 * 1)) 1 ∧ ∀ w75 : World, w75 = stW w64 (Addr.add a74 (Int.toNat k35 * 1)) 0 [.int .i64 n73] →
 J17 false w75)
 (brB (n65 == (3 : Int))
 (∃ s76 : Sl, w64.cell? ⟨b23, 3, none⟩ = some (s76.val) ∧
 ∃ s77 : Sl, w64.cell? ⟨b23, 3, none⟩ = some (s77.val) ∧
 ∃ n78 : Int, w64.cell? ⟨b44, 1, none⟩ = some (.int .i64 n78) ∧
 ∃ a79 : Addr, s76.ptr = some a79 ∧ 0 ≤ (wr ((wr ((s77.len : Int) - (1 : Int))) - n78)) ∧ (wr ((wr ((s77.len : Int) - (1 : Int))) - n78)) < (s76.len : Int) ∧
 ∃ n80 : Int, w64.cell? (Addr.add a79 (Int.toNat (wr ((wr ((s77.len : Int) - (1 : Int))) - n78)) * 1)) = some (.int .i64 n80) ∧
 ∃ a81 : Addr, s32.ptr = some a81 ∧ 0 ≤ k35 ∧ k35 < (s32.len : Int) ∧
 wrOk w64 (Addr.add a81 (Int.toNat k35 * 1)) 1 ∧ ∀ w82 : World, w82 = stW w64 (Addr.add a81 (Int.toNat k35 * 1)) 0 [.int .i64 n80] →
 J17 false w82)
 (brB (n65 == (4 : Int))
 (∃ J24 : Bool → World → Prop, (∀ (ok104 : Bool) (w103 : World), J24 ok104 w103 →
 J17 (!ok104) w103) ∧
 ∃ n83 : Int, w64.cell? ⟨b44, 1, none⟩ = some (.int .i64 n83) ∧
 Calls Tryz.prog fn_hollowayref1_IsTwo #[.int .i64 n83] w64 fun e84 w85 => ∃ b86 : Bool, e84 = .returned (.bool b86) ∧
 brB b86
 (∃ n87 : Int, w85.cell? ⟨b44, 1, none⟩ = some (.int .i64 n87) ∧
 Calls Tryz.prog fn_hollowayref1_Two #[.int .i64 n87, .int .i64 b88, .int .i64 c89] w85 fun e90 w91 => ∃ n92 : Int, ∃ b93 : Bool, e90 = .returned (.tuple #[.int .i64 n92, .bool b93]) ∧
 ∃ a94 : Addr, s32.ptr = some a94 ∧ 0 ≤ k35 ∧ k35 < (s32.len : Int) ∧
 wrOk w91 (Addr.add a94 (Int.toNat k35 * 1)) 1 ∧ ∀ w95 : World, w95 = stW w91 (Addr.add a94 (Int.toNat k35 * 1)) 0 [.int .i64 n92] →
 J24 b93 w95)
 (∃ n96 : Int, w85.cell? ⟨b44, 1, none⟩ = some (.int .i64 n96) ∧
 Calls Tryz.prog fn_hollowayref1_One #[.int .i64 n96, .int .i64 b88] w85 fun e97 w98 => ∃ n99 : Int, ∃ b100 : Bool, e97 = .returned (.tuple #[.int .i64 n99, .bool b100]) ∧
 ∃ a101 : Addr, s32.ptr = some a101 ∧ 0 ≤ k35 ∧ k35 < (s32.len : Int) ∧
 wrOk w98 (Addr.add a101 (Int.toNat k35 * 1)) 1 ∧ ∀ w102 : World, w102 = stW w98 (Addr.add a101 (Int.toNat k35 * 1)) 0 [.int .i64 n99] →
 J24 true w102))
 (brB (n65 == (5 : Int))
 (∃ J27 : Bool → World → Prop, (∀ (exits107 : Bool) (w106 : World), J27 exits107 w106 →
 brB (!exits107)
 (∃ s108 : Sl, w106.cell? ⟨b23, 4, none⟩ = some (s108.val) ∧
 ∃ a109 : Addr, s108.ptr = some a109 ∧ 0 ≤ b88 ∧ b88 < (s108.len : Int) ∧
 ∃ n110 : Int, w106.cell? (Addr.add a109 (Int.toNat b88 * 1)) = some (.int .i64 n110) ∧
 ∃ a111 : Addr, s32.ptr = some a111 ∧ 0 ≤ k35 ∧ k35 < (s32.len : Int) ∧
 wrOk w106 (Addr.add a111 (Int.toNat k35 * 1)) 1 ∧ ∀ w112 : World, w112 = stW w106 (Addr.add a111 (Int.toNat k35 * 1)) 0 [.int .i64 n110] →
 J17 exits107 w112)
 (J17 exits107 w106)) ∧
 brB (decide (b88 < (0 : Int)))
 (J27 true w64)
 (∃ s105 : Sl, w64.cell? ⟨b23, 4, none⟩ = some (s105.val) ∧
 J27 (decide (b88 ≥ (s105.len : Int))) w64))
 (brB (n65 == (6 : Int))
 (∃ J30 : Bool → World → Prop, (∀ (exits115 : Bool) (w114 : World), J30 exits115 w114 →
 brB (!exits115)
 (∃ s116 : Sl, w114.cell? ⟨b23, 4, none⟩ = some (s116.val) ∧
 ∃ a117 : Addr, s116.ptr = some a117 ∧ 0 ≤ b88 ∧ b88 < (s116.len : Int) ∧
 wrOk w114 (Addr.add a117 (Int.toNat b88 * 1)) 1 ∧ ∀ w118 : World, w118 = stW w114 (Addr.add a117 (Int.toNat b88 * 1)) 0 [.int .i64 c89] →
 ∃ (I2 : Int → World → Prop) (μ2 : Int → World → Nat), I2 (0 : Int) w118 ∧ ∀ (j120 : Int) (w119 : World), I2 j120 w119 →
 brB (decide (j120 < (watched20.len : Int)))
 (∃ a121 : Addr, watched20.ptr = some a121 ∧ 0 ≤ j120 ∧ j120 < (watched20.len : Int) ∧
 ∃ n122 : Int, w119.cell? (Addr.add a121 (Int.toNat j120 * 1)) = some (.int .i64 n122) ∧
 brB (n122 == b88)
 (∀ w123 : World, w123 = World.drew w119 →
 ∃ S124 : World → Prop, S124 w123 ∧
 ∃ n_Start125 : Int, ∃ n_Slots126 : Int, ∃ n_Backs127 : Int, ∃ n_Grow128 : Int, ∃ n_GrowBack129 : Int, ∃ s_Ins130 : Sl, ∃ s_Outs131 : Sl, ∃ n_Last132 : Int, ∃ s_Cells133 : Sl, held S124 ⟨b21, 0, none⟩ (.int .i64 n_Start125) ∧ held S124 ⟨b21, 1, none⟩ (.int .i64 n_Slots126) ∧ held S124 ⟨b21, 2, none⟩ (.int .i64 n_Backs127) ∧ held S124 ⟨b21, 3, none⟩ (.int .i64 n_Grow128) ∧ held S124 ⟨b21, 4, none⟩ (.int .i64 n_GrowBack129) ∧ held S124 ⟨b21, 5, none⟩ (s_Ins130.val) ∧ held S124 ⟨b21, 6, none⟩ (s_Outs131.val) ∧ held S124 ⟨b21, 7, none⟩ (.int .i64 n_Last132) ∧ held S124 ⟨b21, 8, none⟩ (s_Cells133.val) ∧
 ∃ n_Ip134 : Int, ∃ n_Handler135 : Int, ∃ s_Stack136 : Sl, ∃ s_Back137 : Sl, ∃ s_Mem138 : Sl, ∃ t_Out139 : ByteArray, ∃ t_In140 : ByteArray, ∃ n_Read141 : Int, ∃ n_Status142 : Int, ∃ n_Code143 : Int, held S124 ⟨b23, 0, none⟩ (.int .i64 n_Ip134) ∧ held S124 ⟨b23, 1, none⟩ (.int .i64 n_Handler135) ∧ held S124 ⟨b23, 2, none⟩ (s_Stack136.val) ∧ held S124 ⟨b23, 3, none⟩ (s_Back137.val) ∧ held S124 ⟨b23, 4, none⟩ (s_Mem138.val) ∧ held S124 ⟨b23, 5, none⟩ (.string t_Out139) ∧ held S124 ⟨b23, 6, none⟩ (.string t_In140) ∧ held S124 ⟨b23, 7, none⟩ (.int .i64 n_Read141) ∧ held S124 ⟨b23, 8, none⟩ (.int .i64 n_Status142) ∧ held S124 ⟨b23, 9, none⟩ (.int .i64 n_Code143) ∧
 ∃ n144 : Int, held S124 ⟨b44, 1, none⟩ (.int .i64 n144) ∧
 ∃ n145 : Int, held S124 ⟨b44, 1, none⟩ (.int .i64 n145) ∧
 Calls Tryz.prog fn_hollowayref15_leave #[.agg #[.int .i64 n_Start125, .int .i64 n_Slots126, .int .i64 n_Backs127, .int .i64 n_Grow128, .int .i64 n_GrowBack129, s_Ins130.val, s_Outs131.val, .int .i64 n_Last132, s_Cells133.val], .agg #[.int .i64 n_Ip134, .int .i64 n_Handler135, s_Stack136.val, s_Back137.val, s_Mem138.val, .string t_Out139, .string t_In140, .int .i64 n_Read141, .int .i64 n_Status142, .int .i64 n_Code143], s32.val, .int .i64 n144] w123 fun e146 w147 => ∃ n_Ip148 : Int, ∃ n_Handler149 : Int, ∃ s_Stack150 : Sl, ∃ s_Back151 : Sl, ∃ s_Mem152 : Sl, ∃ t_Out153 : ByteArray, ∃ t_In154 : ByteArray, ∃ n_Read155 : Int, ∃ n_Status156 : Int, ∃ n_Code157 : Int, e146 = .returned (.agg #[.int .i64 n_Ip148, .int .i64 n_Handler149, s_Stack150.val, s_Back151.val, s_Mem152.val, .string t_Out153, .string t_In154, .int .i64 n_Read155, .int .i64 n_Status156, .int .i64 n_Code157]) ∧
 S124 w147 ∧
 wrOk w147 ⟨b25, 0, none⟩ 10 ∧ ∀ w158 : World, w158 = stW w147 ⟨b25, 0, none⟩ 0 [.int .i64 n_Ip148, .int .i64 n_Handler149, s_Stack150.val, s_Back151.val, s_Mem152.val, .string t_Out153, .string t_In154, .int .i64 n_Read155, .int .i64 n_Status156, .int .i64 n_Code157] →
 S124 w158 ∧
 ∃ r_Ip159 : Int, ∃ r_Handler160 : Int, ∃ r_Stack161 : Sl, ∃ r_Back162 : Sl, ∃ r_Mem163 : Sl, ∃ r_Out164 : ByteArray, ∃ r_In165 : ByteArray, ∃ r_Read166 : Int, ∃ r_Status167 : Int, ∃ r_Code168 : Int, w158.cell? ⟨b25, 0, none⟩ = some (.int .i64 r_Ip159) ∧ w158.cell? ⟨b25, 1, none⟩ = some (.int .i64 r_Handler160) ∧ w158.cell? ⟨b25, 2, none⟩ = some (r_Stack161.val) ∧ w158.cell? ⟨b25, 3, none⟩ = some (r_Back162.val) ∧ w158.cell? ⟨b25, 4, none⟩ = some (r_Mem163.val) ∧ w158.cell? ⟨b25, 5, none⟩ = some (.string r_Out164) ∧ w158.cell? ⟨b25, 6, none⟩ = some (.string r_In165) ∧ w158.cell? ⟨b25, 7, none⟩ = some (.int .i64 r_Read166) ∧ w158.cell? ⟨b25, 8, none⟩ = some (.int .i64 r_Status167) ∧ w158.cell? ⟨b25, 9, none⟩ = some (.int .i64 r_Code168) ∧
 K (.tuple #[.agg #[.int .i64 r_Ip159, .int .i64 r_Handler160, r_Stack161.val, r_Back162.val, r_Mem163.val, .string r_Out164, .string r_In165, .int .i64 r_Read166, .int .i64 r_Status167, .int .i64 r_Code168], .int .i64 n145, .bool true]) w158)
 (I2 (wr (j120 + (1 : Int))) w119 ∧ μ2 (wr (j120 + (1 : Int))) w119 < μ2 j120 w119))
 (J17 exits115 w119))
 (J17 exits115 w114)) ∧
 brB (decide (b88 < (0 : Int)))
 (J30 true w64)
 (∃ s113 : Sl, w64.cell? ⟨b23, 4, none⟩ = some (s113.val) ∧
 J30 (decide (b88 ≥ (s113.len : Int))) w64))
 (brB (n65 == (7 : Int))
 (J17 (b88 == (0 : Int)) w64)
 (brB (n65 == (8 : Int))
 (J17 (b88 != (0 : Int)) w64)
 (brB (n65 == (9 : Int))
 (J17 (b88 != c89) w64)
 (∃ J42 : Bool → World → Prop, (∀ (b170 : Bool) (w169 : World), J42 b170 w169 →
 brB b170
 (∀ (b171 : Nat) (w172 : World), b171 = w169.heap.size → w172 = World.alloc w169 (.cells #[.int .u8 (IntKind.wrap .u8 (iand .i64 b88 (255 : Int)))] T_uint8) →
 ∃ t173 : ByteArray, ∃ w174 : World, (convert T_sl_uint8 T_string (.slice (some ⟨b171, 0, none⟩) 1 1)).run Tryz.prog w172 = .ok (.string t173) w174 ∧
 ∃ J45 : ByteArray → World → Prop, (∀ (x181 : ByteArray) (w179 : World), J45 x181 w179 →
 ∃ t180 : ByteArray, w179.cell? ⟨b23, 5, none⟩ = some (.string t180) ∧
 brB (!(decide ((wr ((t180.size : Int) + (x181.size : Int))) > (2000 : Int))))
 (∃ t182 : ByteArray, w179.cell? ⟨b23, 5, none⟩ = some (.string t182) ∧
 ((t182).size : Int) + ((x181).size : Int) ≤ 9223372036854775807 ∧ wrOk w179 ⟨b23, 5, none⟩ 1 ∧ ∀ w183 : World, w183 = stW w179 ⟨b23, 5, none⟩ 0 [.string (t182 ++ x181)] →
 J17 (decide ((wr ((t180.size : Int) + (x181.size : Int))) > (2000 : Int))) w183)
 (J17 (decide ((wr ((t180.size : Int) + (x181.size : Int))) > (2000 : Int))) w179)) ∧
 ∃ n175 : Int, w174.cell? ⟨b44, 0, none⟩ = some (.int .i64 n175) ∧
 brB (n175 == (11 : Int))
 (Calls Tryz.prog fn_hollowayref1_Put #[.int .i64 b88, .int .i64 (10 : Int)] w174 fun e176 w177 => ∃ t178 : ByteArray, e176 = .returned (.string t178) ∧
 ((t178).size : Int) + (((bs [32])).size : Int) ≤ 9223372036854775807 ∧ J45 (t178 ++ (bs [32])) w177)
 (J45 t173 w174))
 (∃ a184 : Addr, s32.ptr = some a184 ∧ 0 ≤ k35 ∧ k35 < (s32.len : Int) ∧
 wrOk w169 (Addr.add a184 (Int.toNat k35 * 1)) 1 ∧ ∀ w185 : World, w185 = stW w169 (Addr.add a184 (Int.toNat k35 * 1)) 0 [.int .i64 (-1 : Int)] →
 ∃ n186 : Int, w185.cell? ⟨b23, 7, none⟩ = some (.int .i64 n186) ∧
 ∃ t187 : ByteArray, w185.cell? ⟨b23, 6, none⟩ = some (.string t187) ∧
 brB (decide (n186 < (t187.size : Int)))
 (∃ t188 : ByteArray, w185.cell? ⟨b23, 6, none⟩ = some (.string t188) ∧
 ∃ n189 : Int, w185.cell? ⟨b23, 7, none⟩ = some (.int .i64 n189) ∧
 0 ≤ n189 ∧ n189 < (t188.size : Int) ∧
 ∃ a190 : Addr, s32.ptr = some a190 ∧ 0 ≤ k35 ∧ k35 < (s32.len : Int) ∧
 wrOk w185 (Addr.add a190 (Int.toNat k35 * 1)) 1 ∧ ∀ w191 : World, w191 = stW w185 (Addr.add a190 (Int.toNat k35 * 1)) 0 [.int .i64 (wr (sb t188 n189))] →
 ∃ n192 : Int, w191.cell? ⟨b23, 7, none⟩ = some (.int .i64 n192) ∧
 wrOk w191 ⟨b23, 7, none⟩ 1 ∧ ∀ w193 : World, w193 = stW w191 ⟨b23, 7, none⟩ 0 [.int .i64 (wr (n192 + (1 : Int)))] →
 J17 false w193)
 (J17 false w185))) ∧
 brB (n65 == (10 : Int))
 (J42 (n65 == (10 : Int)) w64)
 (J42 (n65 == (11 : Int)) w64))))))))))) ∧
 brB (decide ((s54.len : Int) > (1 : Int)))
 (∃ a60 : Addr, s54.ptr = some a60 ∧ 0 ≤ (1 : Int) ∧ (1 : Int) < (s54.len : Int) ∧
 ∃ n61 : Int, w59.cell? (Addr.add a60 (Int.toNat (1 : Int) * 1)) = some (.int .i64 n61) ∧
 ∃ a62 : Addr, s32.ptr = some a62 ∧ 0 ≤ n61 ∧ n61 < (s32.len : Int) ∧
 ∃ n63 : Int, w59.cell? (Addr.add a62 (Int.toNat n61 * 1)) = some (.int .i64 n63) ∧
 J14 n63 w59)
 (J14 (0 : Int) w59)) ∧
 brB (decide ((s54.len : Int) > (0 : Int)))
 (∃ a55 : Addr, s54.ptr = some a55 ∧ 0 ≤ (0 : Int) ∧ (0 : Int) < (s54.len : Int) ∧
 ∃ n56 : Int, w53.cell? (Addr.add a55 (Int.toNat (0 : Int) * 1)) = some (.int .i64 n56) ∧
 ∃ a57 : Addr, s32.ptr = some a57 ∧ 0 ≤ n56 ∧ n56 < (s32.len : Int) ∧
 ∃ n58 : Int, w53.cell? (Addr.add a57 (Int.toNat n56 * 1)) = some (.int .i64 n58) ∧
 J12 n58 w53)
 (J12 (0 : Int) w53))
 (∀ w242 : World, w242 = World.drew w34 →
 ∃ S243 : World → Prop, S243 w242 ∧
 ∃ n_Start244 : Int, ∃ n_Slots245 : Int, ∃ n_Backs246 : Int, ∃ n_Grow247 : Int, ∃ n_GrowBack248 : Int, ∃ s_Ins249 : Sl, ∃ s_Outs250 : Sl, ∃ n_Last251 : Int, ∃ s_Cells252 : Sl, held S243 ⟨b21, 0, none⟩ (.int .i64 n_Start244) ∧ held S243 ⟨b21, 1, none⟩ (.int .i64 n_Slots245) ∧ held S243 ⟨b21, 2, none⟩ (.int .i64 n_Backs246) ∧ held S243 ⟨b21, 3, none⟩ (.int .i64 n_Grow247) ∧ held S243 ⟨b21, 4, none⟩ (.int .i64 n_GrowBack248) ∧ held S243 ⟨b21, 5, none⟩ (s_Ins249.val) ∧ held S243 ⟨b21, 6, none⟩ (s_Outs250.val) ∧ held S243 ⟨b21, 7, none⟩ (.int .i64 n_Last251) ∧ held S243 ⟨b21, 8, none⟩ (s_Cells252.val) ∧
 ∃ n_Ip253 : Int, ∃ n_Handler254 : Int, ∃ s_Stack255 : Sl, ∃ s_Back256 : Sl, ∃ s_Mem257 : Sl, ∃ t_Out258 : ByteArray, ∃ t_In259 : ByteArray, ∃ n_Read260 : Int, ∃ n_Status261 : Int, ∃ n_Code262 : Int, held S243 ⟨b23, 0, none⟩ (.int .i64 n_Ip253) ∧ held S243 ⟨b23, 1, none⟩ (.int .i64 n_Handler254) ∧ held S243 ⟨b23, 2, none⟩ (s_Stack255.val) ∧ held S243 ⟨b23, 3, none⟩ (s_Back256.val) ∧ held S243 ⟨b23, 4, none⟩ (s_Mem257.val) ∧ held S243 ⟨b23, 5, none⟩ (.string t_Out258) ∧ held S243 ⟨b23, 6, none⟩ (.string t_In259) ∧ held S243 ⟨b23, 7, none⟩ (.int .i64 n_Read260) ∧ held S243 ⟨b23, 8, none⟩ (.int .i64 n_Status261) ∧ held S243 ⟨b23, 9, none⟩ (.int .i64 n_Code262) ∧
 ∃ n263 : Int, held S243 ⟨b21, 7, none⟩ (.int .i64 n263) ∧
 ∃ n264 : Int, held S243 ⟨b21, 7, none⟩ (.int .i64 n264) ∧
 Calls Tryz.prog fn_hollowayref15_leave #[.agg #[.int .i64 n_Start244, .int .i64 n_Slots245, .int .i64 n_Backs246, .int .i64 n_Grow247, .int .i64 n_GrowBack248, s_Ins249.val, s_Outs250.val, .int .i64 n_Last251, s_Cells252.val], .agg #[.int .i64 n_Ip253, .int .i64 n_Handler254, s_Stack255.val, s_Back256.val, s_Mem257.val, .string t_Out258, .string t_In259, .int .i64 n_Read260, .int .i64 n_Status261, .int .i64 n_Code262], s32.val, .int .i64 n263] w242 fun e265 w266 => ∃ n_Ip267 : Int, ∃ n_Handler268 : Int, ∃ s_Stack269 : Sl, ∃ s_Back270 : Sl, ∃ s_Mem271 : Sl, ∃ t_Out272 : ByteArray, ∃ t_In273 : ByteArray, ∃ n_Read274 : Int, ∃ n_Status275 : Int, ∃ n_Code276 : Int, e265 = .returned (.agg #[.int .i64 n_Ip267, .int .i64 n_Handler268, s_Stack269.val, s_Back270.val, s_Mem271.val, .string t_Out272, .string t_In273, .int .i64 n_Read274, .int .i64 n_Status275, .int .i64 n_Code276]) ∧
 S243 w266 ∧
 wrOk w266 ⟨b25, 0, none⟩ 10 ∧ ∀ w277 : World, w277 = stW w266 ⟨b25, 0, none⟩ 0 [.int .i64 n_Ip267, .int .i64 n_Handler268, s_Stack269.val, s_Back270.val, s_Mem271.val, .string t_Out272, .string t_In273, .int .i64 n_Read274, .int .i64 n_Status275, .int .i64 n_Code276] →
 S243 w277 ∧
 ∃ r_Ip278 : Int, ∃ r_Handler279 : Int, ∃ r_Stack280 : Sl, ∃ r_Back281 : Sl, ∃ r_Mem282 : Sl, ∃ r_Out283 : ByteArray, ∃ r_In284 : ByteArray, ∃ r_Read285 : Int, ∃ r_Status286 : Int, ∃ r_Code287 : Int, w277.cell? ⟨b25, 0, none⟩ = some (.int .i64 r_Ip278) ∧ w277.cell? ⟨b25, 1, none⟩ = some (.int .i64 r_Handler279) ∧ w277.cell? ⟨b25, 2, none⟩ = some (r_Stack280.val) ∧ w277.cell? ⟨b25, 3, none⟩ = some (r_Back281.val) ∧ w277.cell? ⟨b25, 4, none⟩ = some (r_Mem282.val) ∧ w277.cell? ⟨b25, 5, none⟩ = some (.string r_Out283) ∧ w277.cell? ⟨b25, 6, none⟩ = some (.string r_In284) ∧ w277.cell? ⟨b25, 7, none⟩ = some (.int .i64 r_Read285) ∧ w277.cell? ⟨b25, 8, none⟩ = some (.int .i64 r_Status286) ∧ w277.cell? ⟨b25, 9, none⟩ = some (.int .i64 r_Code287) ∧
 K (.tuple #[.agg #[.int .i64 r_Ip278, .int .i64 r_Handler279, r_Stack280.val, r_Back281.val, r_Mem282.val, .string r_Out283, .string r_In284, .int .i64 r_Read285, .int .i64 r_Status286, .int .i64 r_Code287], .int .i64 n264, .bool false]) w277)
def hollowayref15_Run_an : An := ⟨[(4, [(10, .int .i64)]), (40, [(17, .int .i64)])], [(43, (9, .st 0 (.st 1 (.st 2 (.st 3 (.st 4 (.st 6 (.st 7 (.ef 5 (.ef 8 .done)))))))), 1)), (59, (9, .st 0 (.st 1 (.st 2 (.st 3 (.st 4 (.st 6 (.st 7 (.ef 5 (.ef 8 .done)))))))), 1)), (60, (9, .st 0 (.st 1 (.st 2 (.st 3 (.st 4 (.st 6 (.st 7 (.ef 5 (.ef 8 .done)))))))), 1))], [(30, [(16, .bool)]), (33, [(15, .bool)]), (37, [(15, .bool)]), (55, [(18, .str)]), (52, [(222, .bool)]), (58, [(15, .bool)]), (13, [(13, .int .i64)]), (11, [(12, .int .i64)])]⟩
theorem hollowayref15_Run_lift {t__Start1 : Int} {t__Slots2 : Int} {t__Backs3 : Int} {t__Grow4 : Int} {t__GrowBack5 : Int} {t__Ins6 : Sl} {t__Outs7 : Sl} {t__Last8 : Int} {t__Cells9 : Sl} {s__Ip10 : Int} {s__Handler11 : Int} {s__Stack12 : Sl} {s__Back13 : Sl} {s__Mem14 : Sl} {s__Out15 : ByteArray} {s__In16 : ByteArray} {s__Read17 : Int} {s__Status18 : Int} {s__Code19 : Int} {watched20 : Sl} {w : World} {K : Value → World → Prop} (h : hollowayref15_Run_sh t__Start1 t__Slots2 t__Backs3 t__Grow4 t__GrowBack5 t__Ins6 t__Outs7 t__Last8 t__Cells9 s__Ip10 s__Handler11 s__Stack12 s__Back13 s__Mem14 s__Out15 s__In16 s__Read17 s__Status18 s__Code19 watched20 w K) : Calls Tryz.prog fn_hollowayref15_Run #[.agg #[.int .i64 t__Start1, .int .i64 t__Slots2, .int .i64 t__Backs3, .int .i64 t__Grow4, .int .i64 t__GrowBack5, t__Ins6.val, t__Outs7.val, .int .i64 t__Last8, t__Cells9.val], .agg #[.int .i64 s__Ip10, .int .i64 s__Handler11, s__Stack12.val, s__Back13.val, s__Mem14.val, .string s__Out15, .string s__In16, .int .i64 s__Read17, .int .i64 s__Status18, .int .i64 s__Code19], watched20.val] w fun e w' => ∃ v, e = .returned v ∧ K v w' :=
   lift_calls (A := hollowayref15_Run_an) (c := bodyOf Tryz.f14) (args := [.agg #[.int .i64 t__Start1, .int .i64 t__Slots2, .int .i64 t__Backs3, .int .i64 t__Grow4, .int .i64 t__GrowBack5, t__Ins6.val, t__Outs7.val, .int .i64 t__Last8, t__Cells9.val], .agg #[.int .i64 s__Ip10, .int .i64 s__Handler11, s__Stack12.val, s__Back13.val, s__Mem14.val, .string s__Out15, .string s__In16, .int .i64 s__Read17, .int .i64 s__Status18, .int .i64 s__Code19], watched20.val]) orc orc_wide Tryz.func14 (by kernel_rfl) (by kernel_rfl) (Eq.mp (by kernel_rfl : hollowayref15_Run_sh t__Start1 t__Slots2 t__Backs3 t__Grow4 t__GrowBack5 t__Ins6 t__Outs7 t__Last8 t__Cells9 s__Ip10 s__Handler11 s__Stack12 s__Back13 s__Mem14 s__Out15 s__In16 s__Read17 s__Status18 s__Code19 watched20 w K = wpc orc Tryz.f14.ntmps hollowayref15_Run_an (bodyOf Tryz.f14) (argl 0 [.agg #[.int .i64 t__Start1, .int .i64 t__Slots2, .int .i64 t__Backs3, .int .i64 t__Grow4, .int .i64 t__GrowBack5, t__Ins6.val, t__Outs7.val, .int .i64 t__Last8, t__Cells9.val], .agg #[.int .i64 s__Ip10, .int .i64 s__Handler11, s__Stack12.val, s__Back13.val, s__Mem14.val, .string s__Out15, .string s__In16, .int .i64 s__Read17, .int .i64 s__Status18, .int .i64 s__Code19], watched20.val]) w (retQ orc Tryz.f14.results.toList K)) h)

-- holloway/hollowayref15.Least
-- holloway/hollowayref15.within
def hollowayref15_within_sh (v_1 : Int) (most2 : Int) (w : World) (K : Value → World → Prop) : Prop :=
 brB (decide (v_1 ≥ (0 : Int)))
 (K (.bool (decide (v_1 ≤ most2))) w)
 (K (.bool false) w)
def hollowayref15_within_an : An := ⟨[], [], []⟩
theorem hollowayref15_within_lift {v_1 : Int} {most2 : Int} {w : World} {K : Value → World → Prop} (h : hollowayref15_within_sh v_1 most2 w K) : Calls Tryz.prog fn_hollowayref15_within #[.int .i64 v_1, .int .i64 most2] w fun e w' => ∃ v, e = .returned v ∧ K v w' :=
   lift_calls (A := hollowayref15_within_an) (c := bodyOf Tryz.f38) (args := [.int .i64 v_1, .int .i64 most2]) orc orc_wide Tryz.func38 (by kernel_rfl) (by kernel_rfl) (Eq.mp (by kernel_rfl : hollowayref15_within_sh v_1 most2 w K = wpc orc Tryz.f38.ntmps hollowayref15_within_an (bodyOf Tryz.f38) (argl 0 [.int .i64 v_1, .int .i64 most2]) w (retQ orc Tryz.f38.results.toList K)) h)

-- holloway/hollowayref15.named
def hollowayref15_named_sh (t__Start1 : Int) (t__Slots2 : Int) (t__Backs3 : Int) (t__Grow4 : Int) (t__GrowBack5 : Int) (t__Ins6 : Sl) (t__Outs7 : Sl) (t__Last8 : Int) (t__Cells9 : Sl) (l_10 : Sl) (than11 : Int) (w : World) (K : Value → World → Prop) : Prop :=
 ∀ (b12 : Nat) (w13 : World), b12 = w.heap.size → w13 = World.alloc w (.cells #[.int .i64 t__Start1, .int .i64 t__Slots2, .int .i64 t__Backs3, .int .i64 t__Grow4, .int .i64 t__GrowBack5, t__Ins6.val, t__Outs7.val, .int .i64 t__Last8, t__Cells9.val] T_api_Trace) →
 ∃ (I1 : Int → World → Prop) (μ1 : Int → World → Nat), I1 (0 : Int) w13 ∧ ∀ (i15 : Int) (w14 : World), I1 i15 w14 →
 brB (decide (i15 < (l_10.len : Int)))
 (∃ J7 : Bool → World → Prop, (∀ (b30 : Bool) (w29 : World), J7 b30 w29 →
 brB b30
 (K (.bool false) w29)
 (I1 (wr (i15 + (1 : Int))) w29 ∧ μ1 (wr (i15 + (1 : Int))) w29 < μ1 i15 w14)) ∧
 ∀ w16 : World, w16 = World.drew w14 →
 ∃ a17 : Addr, l_10.ptr = some a17 ∧ 0 ≤ i15 ∧ i15 < (l_10.len : Int) ∧
 ∃ n18 : Int, held (Lw w16) (Addr.add a17 (Int.toNat i15 * 1)) (.int .i64 n18) ∧
 brB (decide (n18 < (0 : Int)))
 (J7 true w16)
 (∃ a19 : Addr, l_10.ptr = some a19 ∧ 0 ≤ i15 ∧ i15 < (l_10.len : Int) ∧
 ∃ n20 : Int, held (Lw w16) (Addr.add a19 (Int.toNat i15 * 1)) (.int .i64 n20) ∧
 brB (decide (n20 ≥ than11))
 (J7 true w16)
 (∃ s21 : Sl, held (Lw w16) ⟨b12, 5, none⟩ (s21.val) ∧
 ∃ a22 : Addr, l_10.ptr = some a22 ∧ 0 ≤ i15 ∧ i15 < (l_10.len : Int) ∧
 ∃ n23 : Int, held (Lw w16) (Addr.add a22 (Int.toNat i15 * 1)) (.int .i64 n23) ∧
 ∃ a24 : Addr, s21.ptr = some a24 ∧ 0 ≤ n23 ∧ n23 < (s21.len : Int) ∧
 ∃ n25 : Int, held (Lw w16) (Addr.add a24 (Int.toNat n23 * 5)) (.int .i64 n25) ∧
 Calls Tryz.prog fn_hollowayref15_Gives #[.int .i64 n25] w16 fun e26 w27 => ∃ b28 : Bool, e26 = .returned (.bool b28) ∧
 J7 (!b28) w27)))
 (K (.bool true) w14)
def hollowayref15_named_an : An := ⟨[(2, [(7, .int .i64)])], [(4, (23, .st 0 (.st 1 (.st 2 (.st 3 (.st 4 (.st 5 (.st 6 (.st 7 (.st 8 (.st 9 (.st 10 (.st 11 (.st 12 (.st 13 (.st 14 (.st 15 (.st 16 (.st 17 (.st 18 (.st 19 (.st 20 (.st 21 (.st 22 .done)))))))))))))))))))))), 0))], [(5, [(39, .bool)])]⟩
theorem hollowayref15_named_lift {t__Start1 : Int} {t__Slots2 : Int} {t__Backs3 : Int} {t__Grow4 : Int} {t__GrowBack5 : Int} {t__Ins6 : Sl} {t__Outs7 : Sl} {t__Last8 : Int} {t__Cells9 : Sl} {l_10 : Sl} {than11 : Int} {w : World} {K : Value → World → Prop} (h : hollowayref15_named_sh t__Start1 t__Slots2 t__Backs3 t__Grow4 t__GrowBack5 t__Ins6 t__Outs7 t__Last8 t__Cells9 l_10 than11 w K) : Calls Tryz.prog fn_hollowayref15_named #[.agg #[.int .i64 t__Start1, .int .i64 t__Slots2, .int .i64 t__Backs3, .int .i64 t__Grow4, .int .i64 t__GrowBack5, t__Ins6.val, t__Outs7.val, .int .i64 t__Last8, t__Cells9.val], l_10.val, .int .i64 than11] w fun e w' => ∃ v, e = .returned v ∧ K v w' :=
   lift_calls (A := hollowayref15_named_an) (c := bodyOf Tryz.f41) (args := [.agg #[.int .i64 t__Start1, .int .i64 t__Slots2, .int .i64 t__Backs3, .int .i64 t__Grow4, .int .i64 t__GrowBack5, t__Ins6.val, t__Outs7.val, .int .i64 t__Last8, t__Cells9.val], l_10.val, .int .i64 than11]) orc orc_wide Tryz.func41 (by kernel_rfl) (by kernel_rfl) (Eq.mp (by kernel_rfl : hollowayref15_named_sh t__Start1 t__Slots2 t__Backs3 t__Grow4 t__GrowBack5 t__Ins6 t__Outs7 t__Last8 t__Cells9 l_10 than11 w K = wpc orc Tryz.f41.ntmps hollowayref15_named_an (bodyOf Tryz.f41) (argl 0 [.agg #[.int .i64 t__Start1, .int .i64 t__Slots2, .int .i64 t__Backs3, .int .i64 t__Grow4, .int .i64 t__GrowBack5, t__Ins6.val, t__Outs7.val, .int .i64 t__Last8, t__Cells9.val], l_10.val, .int .i64 than11]) w (retQ orc Tryz.f41.results.toList K)) h)

-- holloway/hollowayref15.Uses
def hollowayref15_Uses_sh (i__Op1 : Int) (i__A2 : Int) (i__B3 : Int) (i__C4 : Int) (i__X5 : Int) (w : World) (K : Value → World → Prop) : Prop :=
 ∀ (b6 : Nat) (w7 : World), b6 = w.heap.size → w7 = World.alloc w (.cells #[.int .i64 i__Op1, .int .i64 i__A2, .int .i64 i__B3, .int .i64 i__C4, .int .i64 i__X5] T_api_Ins) →
 ∃ n8 : Int, w7.cell? ⟨b6, 0, none⟩ = some (.int .i64 n8) ∧
 brB (n8 == (4 : Int))
 (∃ n9 : Int, w7.cell? ⟨b6, 1, none⟩ = some (.int .i64 n9) ∧
 Calls Tryz.prog fn_hollowayref1_IsTwo #[.int .i64 n9] w7 fun e10 w11 => ∃ b12 : Bool, e10 = .returned (.bool b12) ∧
 brB b12
 (∃ n13 : Int, w11.cell? ⟨b6, 2, none⟩ = some (.int .i64 n13) ∧
 ∃ n14 : Int, w11.cell? ⟨b6, 3, none⟩ = some (.int .i64 n14) ∧
 ∀ (b15 : Nat) (w16 : World), b15 = w11.heap.size → w16 = World.alloc w11 (.cells #[.int .i64 n13, .int .i64 n14] T_int) →
 K (.slice (some ⟨b15, 0, none⟩) 2 2) w16)
 (∃ n17 : Int, w11.cell? ⟨b6, 2, none⟩ = some (.int .i64 n17) ∧
 ∀ (b18 : Nat) (w19 : World), b18 = w11.heap.size → w19 = World.alloc w11 (.cells #[.int .i64 n17] T_int) →
 K (.slice (some ⟨b18, 0, none⟩) 1 1) w19))
 (∃ J9 : Bool → World → Prop, (∀ (b21 : Bool) (w20 : World), J9 b21 w20 →
 brB b21
 (∃ n22 : Int, w20.cell? ⟨b6, 2, none⟩ = some (.int .i64 n22) ∧
 ∀ (b23 : Nat) (w24 : World), b23 = w20.heap.size → w24 = World.alloc w20 (.cells #[.int .i64 n22] T_int) →
 K (.slice (some ⟨b23, 0, none⟩) 1 1) w24)
 (∃ J15 : Bool → World → Prop, (∀ (b26 : Bool) (w25 : World), J15 b26 w25 →
 brB b26
 (∃ n27 : Int, w25.cell? ⟨b6, 2, none⟩ = some (.int .i64 n27) ∧
 ∃ n28 : Int, w25.cell? ⟨b6, 3, none⟩ = some (.int .i64 n28) ∧
 ∀ (b29 : Nat) (w30 : World), b29 = w25.heap.size → w30 = World.alloc w25 (.cells #[.int .i64 n27, .int .i64 n28] T_int) →
 K (.slice (some ⟨b29, 0, none⟩) 2 2) w30)
 (K (.slice none 0 0) w25)) ∧
 brB (n8 == (6 : Int))
 (J15 (n8 == (6 : Int)) w20)
 (J15 (n8 == (9 : Int)) w20))) ∧
 brB (n8 == (5 : Int))
 (J9 (n8 == (5 : Int)) w7)
 (brB (n8 == (7 : Int))
 (J9 (n8 == (7 : Int)) w7)
 (brB (n8 == (8 : Int))
 (J9 (n8 == (8 : Int)) w7)
 (brB (n8 == (10 : Int))
 (J9 (n8 == (10 : Int)) w7)
 (J9 (n8 == (11 : Int)) w7)))))
def hollowayref15_Uses_an : An := ⟨[], [], [(14, [(27, .bool)]), (11, [(18, .bool)])]⟩
theorem hollowayref15_Uses_lift {i__Op1 : Int} {i__A2 : Int} {i__B3 : Int} {i__C4 : Int} {i__X5 : Int} {w : World} {K : Value → World → Prop} (h : hollowayref15_Uses_sh i__Op1 i__A2 i__B3 i__C4 i__X5 w K) : Calls Tryz.prog fn_hollowayref15_Uses #[.agg #[.int .i64 i__Op1, .int .i64 i__A2, .int .i64 i__B3, .int .i64 i__C4, .int .i64 i__X5]] w fun e w' => ∃ v, e = .returned v ∧ K v w' :=
   lift_calls (A := hollowayref15_Uses_an) (c := bodyOf Tryz.f42) (args := [.agg #[.int .i64 i__Op1, .int .i64 i__A2, .int .i64 i__B3, .int .i64 i__C4, .int .i64 i__X5]]) orc orc_wide Tryz.func42 (by kernel_rfl) (by kernel_rfl) (Eq.mp (by kernel_rfl : hollowayref15_Uses_sh i__Op1 i__A2 i__B3 i__C4 i__X5 w K = wpc orc Tryz.f42.ntmps hollowayref15_Uses_an (bodyOf Tryz.f42) (argl 0 [.agg #[.int .i64 i__Op1, .int .i64 i__A2, .int .i64 i__B3, .int .i64 i__C4, .int .i64 i__X5]]) w (retQ orc Tryz.f42.results.toList K)) h)

-- holloway/hollowayref15.Outs
def hollowayref15_Outs_sh (i__Op1 : Int) (i__A2 : Int) (i__B3 : Int) (i__C4 : Int) (i__X5 : Int) (w : World) (K : Value → World → Prop) : Prop :=
 ∀ (b6 : Nat) (w7 : World), b6 = w.heap.size → w7 = World.alloc w (.cells #[.int .i64 i__Op1, .int .i64 i__A2, .int .i64 i__B3, .int .i64 i__C4, .int .i64 i__X5] T_api_Ins) →
 ∃ n8 : Int, w7.cell? ⟨b6, 0, none⟩ = some (.int .i64 n8) ∧
 brB (n8 == (4 : Int))
 (∃ J5 : Bool → World → Prop, (∀ (b12 : Bool) (w11 : World), J5 b12 w11 →
 brB b12
 (∃ n13 : Int, w11.cell? ⟨b6, 4, none⟩ = some (.int .i64 n13) ∧
 ∀ (b14 : Nat) (w15 : World), b14 = w11.heap.size → w15 = World.alloc w11 (.cells #[.int .i64 n13] T_int) →
 K (.slice (some ⟨b14, 0, none⟩) 1 1) w15)
 (K (.slice none 0 0) w11)) ∧
 ∃ n9 : Int, w7.cell? ⟨b6, 1, none⟩ = some (.int .i64 n9) ∧
 brB (n9 == (14 : Int))
 (J5 true w7)
 (∃ n10 : Int, w7.cell? ⟨b6, 1, none⟩ = some (.int .i64 n10) ∧
 J5 (n10 == (15 : Int)) w7))
 (∃ J7 : Bool → World → Prop, (∀ (b17 : Bool) (w16 : World), J7 b17 w16 →
 brB b17
 (∃ n18 : Int, w16.cell? ⟨b6, 4, none⟩ = some (.int .i64 n18) ∧
 ∀ (b19 : Nat) (w20 : World), b19 = w16.heap.size → w20 = World.alloc w16 (.cells #[.int .i64 n18] T_int) →
 K (.slice (some ⟨b19, 0, none⟩) 1 1) w20)
 (brB (n8 == (6 : Int))
 (∃ n21 : Int, w16.cell? ⟨b6, 4, none⟩ = some (.int .i64 n21) ∧
 ∃ n22 : Int, w16.cell? ⟨b6, 1, none⟩ = some (.int .i64 n22) ∧
 ∀ (b23 : Nat) (w24 : World), b23 = w16.heap.size → w24 = World.alloc w16 (.cells #[.int .i64 n21, .int .i64 n22] T_int) →
 K (.slice (some ⟨b23, 0, none⟩) 2 2) w24)
 (K (.slice none 0 0) w16))) ∧
 brB (n8 == (5 : Int))
 (J7 (n8 == (5 : Int)) w7)
 (brB (n8 == (7 : Int))
 (J7 (n8 == (7 : Int)) w7)
 (brB (n8 == (8 : Int))
 (J7 (n8 == (8 : Int)) w7)
 (brB (n8 == (9 : Int))
 (J7 (n8 == (9 : Int)) w7)
 (brB (n8 == (10 : Int))
 (J7 (n8 == (10 : Int)) w7)
 (J7 (n8 == (11 : Int)) w7))))))
def hollowayref15_Outs_an : An := ⟨[], [], [(4, [(14, .bool)]), (11, [(18, .bool)])]⟩
theorem hollowayref15_Outs_lift {i__Op1 : Int} {i__A2 : Int} {i__B3 : Int} {i__C4 : Int} {i__X5 : Int} {w : World} {K : Value → World → Prop} (h : hollowayref15_Outs_sh i__Op1 i__A2 i__B3 i__C4 i__X5 w K) : Calls Tryz.prog fn_hollowayref15_Outs #[.agg #[.int .i64 i__Op1, .int .i64 i__A2, .int .i64 i__B3, .int .i64 i__C4, .int .i64 i__X5]] w fun e w' => ∃ v, e = .returned v ∧ K v w' :=
   lift_calls (A := hollowayref15_Outs_an) (c := bodyOf Tryz.f43) (args := [.agg #[.int .i64 i__Op1, .int .i64 i__A2, .int .i64 i__B3, .int .i64 i__C4, .int .i64 i__X5]]) orc orc_wide Tryz.func43 (by kernel_rfl) (by kernel_rfl) (Eq.mp (by kernel_rfl : hollowayref15_Outs_sh i__Op1 i__A2 i__B3 i__C4 i__X5 w K = wpc orc Tryz.f43.ntmps hollowayref15_Outs_an (bodyOf Tryz.f43) (argl 0 [.agg #[.int .i64 i__Op1, .int .i64 i__A2, .int .i64 i__B3, .int .i64 i__C4, .int .i64 i__X5]]) w (retQ orc Tryz.f43.results.toList K)) h)

-- holloway/hollowayref15.out
def hollowayref15_out_sh (t__Start1 : Int) (t__Slots2 : Int) (t__Backs3 : Int) (t__Grow4 : Int) (t__GrowBack5 : Int) (t__Ins6 : Sl) (t__Outs7 : Sl) (t__Last8 : Int) (t__Cells9 : Sl) (x_10 : Int) (at_11 : Int) (w : World) (K : Value → World → Prop) : Prop :=
 ∀ (b12 : Nat) (w13 : World), b12 = w.heap.size → w13 = World.alloc w (.cells #[.int .i64 t__Start1, .int .i64 t__Slots2, .int .i64 t__Backs3, .int .i64 t__Grow4, .int .i64 t__GrowBack5, t__Ins6.val, t__Outs7.val, .int .i64 t__Last8, t__Cells9.val] T_api_Trace) →
 ∀ w14 : World, w14 = World.drew w13 →
 ∃ S15 : World → Prop, S15 w14 ∧
 brB (decide (x_10 ≥ (0 : Int)))
 (∃ s16 : Sl, held S15 ⟨b12, 6, none⟩ (s16.val) ∧
 brB (decide (x_10 < (s16.len : Int)))
 (∃ n_Start17 : Int, ∃ n_Slots18 : Int, ∃ n_Backs19 : Int, ∃ n_Grow20 : Int, ∃ n_GrowBack21 : Int, ∃ s_Ins22 : Sl, ∃ s_Outs23 : Sl, ∃ n_Last24 : Int, ∃ s_Cells25 : Sl, held S15 ⟨b12, 0, none⟩ (.int .i64 n_Start17) ∧ held S15 ⟨b12, 1, none⟩ (.int .i64 n_Slots18) ∧ held S15 ⟨b12, 2, none⟩ (.int .i64 n_Backs19) ∧ held S15 ⟨b12, 3, none⟩ (.int .i64 n_Grow20) ∧ held S15 ⟨b12, 4, none⟩ (.int .i64 n_GrowBack21) ∧ held S15 ⟨b12, 5, none⟩ (s_Ins22.val) ∧ held S15 ⟨b12, 6, none⟩ (s_Outs23.val) ∧ held S15 ⟨b12, 7, none⟩ (.int .i64 n_Last24) ∧ held S15 ⟨b12, 8, none⟩ (s_Cells25.val) ∧
 ∃ s26 : Sl, held S15 ⟨b12, 6, none⟩ (s26.val) ∧
 ∃ a27 : Addr, s26.ptr = some a27 ∧ 0 ≤ x_10 ∧ x_10 < (s26.len : Int) ∧
 ∃ s28 : Sl, held S15 (Addr.add (Addr.add a27 (Int.toNat x_10 * 4)) 2) (s28.val) ∧
 Calls Tryz.prog fn_hollowayref15_named #[.agg #[.int .i64 n_Start17, .int .i64 n_Slots18, .int .i64 n_Backs19, .int .i64 n_Grow20, .int .i64 n_GrowBack21, s_Ins22.val, s_Outs23.val, .int .i64 n_Last24, s_Cells25.val], s28.val, .int .i64 at_11] w14 fun e29 w30 => ∃ b31 : Bool, e29 = .returned (.bool b31) ∧
 S15 w30 ∧
 brB b31
 (∃ n_Start32 : Int, ∃ n_Slots33 : Int, ∃ n_Backs34 : Int, ∃ n_Grow35 : Int, ∃ n_GrowBack36 : Int, ∃ s_Ins37 : Sl, ∃ s_Outs38 : Sl, ∃ n_Last39 : Int, ∃ s_Cells40 : Sl, held S15 ⟨b12, 0, none⟩ (.int .i64 n_Start32) ∧ held S15 ⟨b12, 1, none⟩ (.int .i64 n_Slots33) ∧ held S15 ⟨b12, 2, none⟩ (.int .i64 n_Backs34) ∧ held S15 ⟨b12, 3, none⟩ (.int .i64 n_Grow35) ∧ held S15 ⟨b12, 4, none⟩ (.int .i64 n_GrowBack36) ∧ held S15 ⟨b12, 5, none⟩ (s_Ins37.val) ∧ held S15 ⟨b12, 6, none⟩ (s_Outs38.val) ∧ held S15 ⟨b12, 7, none⟩ (.int .i64 n_Last39) ∧ held S15 ⟨b12, 8, none⟩ (s_Cells40.val) ∧
 ∃ s41 : Sl, held S15 ⟨b12, 6, none⟩ (s41.val) ∧
 ∃ a42 : Addr, s41.ptr = some a42 ∧ 0 ≤ x_10 ∧ x_10 < (s41.len : Int) ∧
 ∃ s43 : Sl, held S15 (Addr.add (Addr.add a42 (Int.toNat x_10 * 4)) 3) (s43.val) ∧
 Calls Tryz.prog fn_hollowayref15_named #[.agg #[.int .i64 n_Start32, .int .i64 n_Slots33, .int .i64 n_Backs34, .int .i64 n_Grow35, .int .i64 n_GrowBack36, s_Ins37.val, s_Outs38.val, .int .i64 n_Last39, s_Cells40.val], s43.val, .int .i64 at_11] w30 fun e44 w45 => ∃ b46 : Bool, e44 = .returned (.bool b46) ∧
 K (.bool b46) w45)
 (K (.bool false) w30))
 (K (.bool false) w14))
 (K (.bool false) w14)
def hollowayref15_out_an : An := ⟨[], [(1, (29, .st 0 (.st 1 (.st 2 (.st 3 (.st 4 (.st 5 (.st 6 (.st 7 (.st 8 (.st 9 (.st 10 (.st 11 (.st 12 (.st 13 (.st 14 (.st 15 (.st 16 (.st 17 (.ef 18 (.st 19 (.st 20 (.st 21 (.st 22 (.st 23 (.st 24 (.st 25 (.st 26 (.st 27 (.st 28 .done)))))))))))))))))))))))))))), 1))], []⟩
theorem hollowayref15_out_lift {t__Start1 : Int} {t__Slots2 : Int} {t__Backs3 : Int} {t__Grow4 : Int} {t__GrowBack5 : Int} {t__Ins6 : Sl} {t__Outs7 : Sl} {t__Last8 : Int} {t__Cells9 : Sl} {x_10 : Int} {at_11 : Int} {w : World} {K : Value → World → Prop} (h : hollowayref15_out_sh t__Start1 t__Slots2 t__Backs3 t__Grow4 t__GrowBack5 t__Ins6 t__Outs7 t__Last8 t__Cells9 x_10 at_11 w K) : Calls Tryz.prog fn_hollowayref15_out #[.agg #[.int .i64 t__Start1, .int .i64 t__Slots2, .int .i64 t__Backs3, .int .i64 t__Grow4, .int .i64 t__GrowBack5, t__Ins6.val, t__Outs7.val, .int .i64 t__Last8, t__Cells9.val], .int .i64 x_10, .int .i64 at_11] w fun e w' => ∃ v, e = .returned v ∧ K v w' :=
   lift_calls (A := hollowayref15_out_an) (c := bodyOf Tryz.f44) (args := [.agg #[.int .i64 t__Start1, .int .i64 t__Slots2, .int .i64 t__Backs3, .int .i64 t__Grow4, .int .i64 t__GrowBack5, t__Ins6.val, t__Outs7.val, .int .i64 t__Last8, t__Cells9.val], .int .i64 x_10, .int .i64 at_11]) orc orc_wide Tryz.func44 (by kernel_rfl) (by kernel_rfl) (Eq.mp (by kernel_rfl : hollowayref15_out_sh t__Start1 t__Slots2 t__Backs3 t__Grow4 t__GrowBack5 t__Ins6 t__Outs7 t__Last8 t__Cells9 x_10 at_11 w K = wpc orc Tryz.f44.ntmps hollowayref15_out_an (bodyOf Tryz.f44) (argl 0 [.agg #[.int .i64 t__Start1, .int .i64 t__Slots2, .int .i64 t__Backs3, .int .i64 t__Grow4, .int .i64 t__GrowBack5, t__Ins6.val, t__Outs7.val, .int .i64 t__Last8, t__Cells9.val], .int .i64 x_10, .int .i64 at_11]) w (retQ orc Tryz.f44.results.toList K)) h)

-- holloway/hollowayref15.leave
def hollowayref15_leave_sh (t__Start1 : Int) (t__Slots2 : Int) (t__Backs3 : Int) (t__Grow4 : Int) (t__GrowBack5 : Int) (t__Ins6 : Sl) (t__Outs7 : Sl) (t__Last8 : Int) (t__Cells9 : Sl) (s__Ip10 : Int) (s__Handler11 : Int) (s__Stack12 : Sl) (s__Back13 : Sl) (s__Mem14 : Sl) (s__Out15 : ByteArray) (s__In16 : ByteArray) (s__Read17 : Int) (s__Status18 : Int) (s__Code19 : Int) (v_20 : Sl) (exit21 : Int) (w : World) (K : Value → World → Prop) : Prop :=
 ∀ (b22 : Nat) (w23 : World), b22 = w.heap.size → w23 = World.alloc w (.cells #[.int .i64 t__Start1, .int .i64 t__Slots2, .int .i64 t__Backs3, .int .i64 t__Grow4, .int .i64 t__GrowBack5, t__Ins6.val, t__Outs7.val, .int .i64 t__Last8, t__Cells9.val] T_api_Trace) →
 ∀ (b24 : Nat) (w25 : World), b24 = w23.heap.size → w25 = World.alloc w23 (.cells #[.int .i64 s__Ip10, .int .i64 s__Handler11, s__Stack12.val, s__Back13.val, s__Mem14.val, .string s__Out15, .string s__In16, .int .i64 s__Read17, .int .i64 s__Status18, .int .i64 s__Code19] T_api_State) →
 ∀ (b26 : Nat) (w27 : World), b26 = w25.heap.size → w27 = World.alloc w25 (.cells #[.int .i64 (0 : Int), .int .i64 (0 : Int), .slice none 0 0, .slice none 0 0, .slice none 0 0, .string (bs []), .string (bs []), .int .i64 (0 : Int), .int .i64 (0 : Int), .int .i64 (0 : Int)] T_api_State) →
 ∃ s28 : Sl, w27.cell? ⟨b22, 6, none⟩ = some (s28.val) ∧
 ∃ a29 : Addr, s28.ptr = some a29 ∧ 0 ≤ exit21 ∧ exit21 < (s28.len : Int) ∧
 ∃ n_Ip30 : Int, ∃ n_Steps31 : Int, ∃ s_Stack32 : Sl, ∃ s_Back33 : Sl, w27.cell? (Addr.add a29 (Int.toNat exit21 * 4)) = some (.int .i64 n_Ip30) ∧ w27.cell? (Addr.add (Addr.add a29 (Int.toNat exit21 * 4)) 1) = some (.int .i64 n_Steps31) ∧ w27.cell? (Addr.add (Addr.add a29 (Int.toNat exit21 * 4)) 2) = some (s_Stack32.val) ∧ w27.cell? (Addr.add (Addr.add a29 (Int.toNat exit21 * 4)) 3) = some (s_Back33.val) ∧
 ∀ (b34 : Nat) (w35 : World), b34 = w27.heap.size → w35 = World.alloc w27 (.cells #[.int .i64 (0 : Int), .int .i64 (0 : Int), .slice none 0 0, .slice none 0 0] T_api_Out) →
 wrOk w35 ⟨b34, 0, none⟩ 4 ∧ ∀ w36 : World, w36 = stW w35 ⟨b34, 0, none⟩ 0 [.int .i64 n_Ip30, .int .i64 n_Steps31, s_Stack32.val, s_Back33.val] →
 ∃ n37 : Int, w36.cell? ⟨b34, 0, none⟩ = some (.int .i64 n37) ∧
 wrOk w36 ⟨b24, 0, none⟩ 1 ∧ ∀ w38 : World, w38 = stW w36 ⟨b24, 0, none⟩ 0 [.int .i64 n37] →
 ∃ s39 : Sl, w38.cell? ⟨b24, 2, none⟩ = some (s39.val) ∧
 ∃ s40 : Sl, w38.cell? ⟨b24, 2, none⟩ = some (s40.val) ∧
 ∃ n41 : Int, w38.cell? ⟨b22, 1, none⟩ = some (.int .i64 n41) ∧
 0 ≤ (wr ((s40.len : Int) - n41)) ∧ (wr ((s40.len : Int) - n41)) ≤ (s39.cap : Int) ∧ ∀ s42 : Sl, s42 = Sl.sub s39.ptr s39.cap 0 (Int.toNat (wr ((s40.len : Int) - n41))) 1 →
 ∃ s43 : Sl, ∃ w44 : World, (Builtin.append_ #[T_sl_int, T_sl_int] T_sl_int #[.slice none 0 0, s42.val]).run Tryz.prog w38 = .ok (s43.val) w44 ∧
 ∃ (I1 : Sl → Int → World → Prop) (μ1 : Sl → Int → World → Nat), I1 s43 (0 : Int) w44 ∧ ∀ (l48 : Sl) (k46 : Int) (w45 : World), I1 l48 k46 w45 →
 ∃ s47 : Sl, w45.cell? ⟨b34, 2, none⟩ = some (s47.val) ∧
 brB (decide (k46 < (s47.len : Int)))
 (∃ s49 : Sl, w45.cell? ⟨b34, 2, none⟩ = some (s49.val) ∧
 ∃ a50 : Addr, s49.ptr = some a50 ∧ 0 ≤ k46 ∧ k46 < (s49.len : Int) ∧
 ∃ n51 : Int, w45.cell? (Addr.add a50 (Int.toNat k46 * 1)) = some (.int .i64 n51) ∧
 ∃ a52 : Addr, v_20.ptr = some a52 ∧ 0 ≤ n51 ∧ n51 < (v_20.len : Int) ∧
 ∃ n53 : Int, w45.cell? (Addr.add a52 (Int.toNat n51 * 1)) = some (.int .i64 n53) ∧
 ∀ (b54 : Nat) (w55 : World), b54 = w45.heap.size → w55 = World.alloc w45 (.cells #[.int .i64 n53] T_int) →
 ∃ s56 : Sl, ∃ w57 : World, (Builtin.append_ #[T_sl_int, T_sl_int] T_sl_int #[l48.val, .slice (some ⟨b54, 0, none⟩) 1 1]).run Tryz.prog w55 = .ok (s56.val) w57 ∧
 I1 s56 (wr (k46 + (1 : Int))) w57 ∧ μ1 s56 (wr (k46 + (1 : Int))) w57 < μ1 l48 k46 w45)
 (∃ s58 : Sl, w45.cell? ⟨b24, 3, none⟩ = some (s58.val) ∧
 ∃ s59 : Sl, w45.cell? ⟨b24, 3, none⟩ = some (s59.val) ∧
 ∃ n60 : Int, w45.cell? ⟨b22, 2, none⟩ = some (.int .i64 n60) ∧
 0 ≤ (wr ((s59.len : Int) - n60)) ∧ (wr ((s59.len : Int) - n60)) ≤ (s58.cap : Int) ∧ ∀ s61 : Sl, s61 = Sl.sub s58.ptr s58.cap 0 (Int.toNat (wr ((s59.len : Int) - n60))) 1 →
 ∃ s62 : Sl, ∃ w63 : World, (Builtin.append_ #[T_sl_int, T_sl_int] T_sl_int #[.slice none 0 0, s61.val]).run Tryz.prog w45 = .ok (s62.val) w63 ∧
 ∃ (I2 : Sl → Int → World → Prop) (μ2 : Sl → Int → World → Nat), I2 s62 (0 : Int) w63 ∧ ∀ (b67 : Sl) (k65 : Int) (w64 : World), I2 b67 k65 w64 →
 ∃ s66 : Sl, w64.cell? ⟨b34, 3, none⟩ = some (s66.val) ∧
 brB (decide (k65 < (s66.len : Int)))
 (∃ s68 : Sl, w64.cell? ⟨b34, 3, none⟩ = some (s68.val) ∧
 ∃ a69 : Addr, s68.ptr = some a69 ∧ 0 ≤ k65 ∧ k65 < (s68.len : Int) ∧
 ∃ n70 : Int, w64.cell? (Addr.add a69 (Int.toNat k65 * 1)) = some (.int .i64 n70) ∧
 ∃ a71 : Addr, v_20.ptr = some a71 ∧ 0 ≤ n70 ∧ n70 < (v_20.len : Int) ∧
 ∃ n72 : Int, w64.cell? (Addr.add a71 (Int.toNat n70 * 1)) = some (.int .i64 n72) ∧
 ∀ (b73 : Nat) (w74 : World), b73 = w64.heap.size → w74 = World.alloc w64 (.cells #[.int .i64 n72] T_int) →
 ∃ s75 : Sl, ∃ w76 : World, (Builtin.append_ #[T_sl_int, T_sl_int] T_sl_int #[b67.val, .slice (some ⟨b73, 0, none⟩) 1 1]).run Tryz.prog w74 = .ok (s75.val) w76 ∧
 I2 s75 (wr (k65 + (1 : Int))) w76 ∧ μ2 s75 (wr (k65 + (1 : Int))) w76 < μ2 b67 k65 w64)
 (wrOk w64 ⟨b24, 2, none⟩ 1 ∧ ∀ w77 : World, w77 = stW w64 ⟨b24, 2, none⟩ 0 [l48.val] →
 wrOk w77 ⟨b24, 3, none⟩ 1 ∧ ∀ w78 : World, w78 = stW w77 ⟨b24, 3, none⟩ 0 [b67.val] →
 ∃ n_Ip79 : Int, ∃ n_Handler80 : Int, ∃ s_Stack81 : Sl, ∃ s_Back82 : Sl, ∃ s_Mem83 : Sl, ∃ t_Out84 : ByteArray, ∃ t_In85 : ByteArray, ∃ n_Read86 : Int, ∃ n_Status87 : Int, ∃ n_Code88 : Int, w78.cell? ⟨b24, 0, none⟩ = some (.int .i64 n_Ip79) ∧ w78.cell? ⟨b24, 1, none⟩ = some (.int .i64 n_Handler80) ∧ w78.cell? ⟨b24, 2, none⟩ = some (s_Stack81.val) ∧ w78.cell? ⟨b24, 3, none⟩ = some (s_Back82.val) ∧ w78.cell? ⟨b24, 4, none⟩ = some (s_Mem83.val) ∧ w78.cell? ⟨b24, 5, none⟩ = some (.string t_Out84) ∧ w78.cell? ⟨b24, 6, none⟩ = some (.string t_In85) ∧ w78.cell? ⟨b24, 7, none⟩ = some (.int .i64 n_Read86) ∧ w78.cell? ⟨b24, 8, none⟩ = some (.int .i64 n_Status87) ∧ w78.cell? ⟨b24, 9, none⟩ = some (.int .i64 n_Code88) ∧
 wrOk w78 ⟨b26, 0, none⟩ 10 ∧ ∀ w89 : World, w89 = stW w78 ⟨b26, 0, none⟩ 0 [.int .i64 n_Ip79, .int .i64 n_Handler80, s_Stack81.val, s_Back82.val, s_Mem83.val, .string t_Out84, .string t_In85, .int .i64 n_Read86, .int .i64 n_Status87, .int .i64 n_Code88] →
 ∃ r_Ip90 : Int, ∃ r_Handler91 : Int, ∃ r_Stack92 : Sl, ∃ r_Back93 : Sl, ∃ r_Mem94 : Sl, ∃ r_Out95 : ByteArray, ∃ r_In96 : ByteArray, ∃ r_Read97 : Int, ∃ r_Status98 : Int, ∃ r_Code99 : Int, w89.cell? ⟨b26, 0, none⟩ = some (.int .i64 r_Ip90) ∧ w89.cell? ⟨b26, 1, none⟩ = some (.int .i64 r_Handler91) ∧ w89.cell? ⟨b26, 2, none⟩ = some (r_Stack92.val) ∧ w89.cell? ⟨b26, 3, none⟩ = some (r_Back93.val) ∧ w89.cell? ⟨b26, 4, none⟩ = some (r_Mem94.val) ∧ w89.cell? ⟨b26, 5, none⟩ = some (.string r_Out95) ∧ w89.cell? ⟨b26, 6, none⟩ = some (.string r_In96) ∧ w89.cell? ⟨b26, 7, none⟩ = some (.int .i64 r_Read97) ∧ w89.cell? ⟨b26, 8, none⟩ = some (.int .i64 r_Status98) ∧ w89.cell? ⟨b26, 9, none⟩ = some (.int .i64 r_Code99) ∧
 K (.agg #[.int .i64 r_Ip90, .int .i64 r_Handler91, r_Stack92.val, r_Back93.val, r_Mem94.val, .string r_Out95, .string r_In96, .int .i64 r_Read97, .int .i64 r_Status98, .int .i64 r_Code99]) w89))
def hollowayref15_leave_an : An := ⟨[(5, [(10, .sl), (11, .int .i64)]), (10, [(12, .sl), (13, .int .i64)])], [], []⟩
theorem hollowayref15_leave_lift {t__Start1 : Int} {t__Slots2 : Int} {t__Backs3 : Int} {t__Grow4 : Int} {t__GrowBack5 : Int} {t__Ins6 : Sl} {t__Outs7 : Sl} {t__Last8 : Int} {t__Cells9 : Sl} {s__Ip10 : Int} {s__Handler11 : Int} {s__Stack12 : Sl} {s__Back13 : Sl} {s__Mem14 : Sl} {s__Out15 : ByteArray} {s__In16 : ByteArray} {s__Read17 : Int} {s__Status18 : Int} {s__Code19 : Int} {v_20 : Sl} {exit21 : Int} {w : World} {K : Value → World → Prop} (h : hollowayref15_leave_sh t__Start1 t__Slots2 t__Backs3 t__Grow4 t__GrowBack5 t__Ins6 t__Outs7 t__Last8 t__Cells9 s__Ip10 s__Handler11 s__Stack12 s__Back13 s__Mem14 s__Out15 s__In16 s__Read17 s__Status18 s__Code19 v_20 exit21 w K) : Calls Tryz.prog fn_hollowayref15_leave #[.agg #[.int .i64 t__Start1, .int .i64 t__Slots2, .int .i64 t__Backs3, .int .i64 t__Grow4, .int .i64 t__GrowBack5, t__Ins6.val, t__Outs7.val, .int .i64 t__Last8, t__Cells9.val], .agg #[.int .i64 s__Ip10, .int .i64 s__Handler11, s__Stack12.val, s__Back13.val, s__Mem14.val, .string s__Out15, .string s__In16, .int .i64 s__Read17, .int .i64 s__Status18, .int .i64 s__Code19], v_20.val, .int .i64 exit21] w fun e w' => ∃ v, e = .returned v ∧ K v w' :=
   lift_calls (A := hollowayref15_leave_an) (c := bodyOf Tryz.f51) (args := [.agg #[.int .i64 t__Start1, .int .i64 t__Slots2, .int .i64 t__Backs3, .int .i64 t__Grow4, .int .i64 t__GrowBack5, t__Ins6.val, t__Outs7.val, .int .i64 t__Last8, t__Cells9.val], .agg #[.int .i64 s__Ip10, .int .i64 s__Handler11, s__Stack12.val, s__Back13.val, s__Mem14.val, .string s__Out15, .string s__In16, .int .i64 s__Read17, .int .i64 s__Status18, .int .i64 s__Code19], v_20.val, .int .i64 exit21]) orc orc_wide Tryz.func51 (by kernel_rfl) (by kernel_rfl) (Eq.mp (by kernel_rfl : hollowayref15_leave_sh t__Start1 t__Slots2 t__Backs3 t__Grow4 t__GrowBack5 t__Ins6 t__Outs7 t__Last8 t__Cells9 s__Ip10 s__Handler11 s__Stack12 s__Back13 s__Mem14 s__Out15 s__In16 s__Read17 s__Status18 s__Code19 v_20 exit21 w K = wpc orc Tryz.f51.ntmps hollowayref15_leave_an (bodyOf Tryz.f51) (argl 0 [.agg #[.int .i64 t__Start1, .int .i64 t__Slots2, .int .i64 t__Backs3, .int .i64 t__Grow4, .int .i64 t__GrowBack5, t__Ins6.val, t__Outs7.val, .int .i64 t__Last8, t__Cells9.val], .agg #[.int .i64 s__Ip10, .int .i64 s__Handler11, s__Stack12.val, s__Back13.val, s__Mem14.val, .string s__Out15, .string s__In16, .int .i64 s__Read17, .int .i64 s__Status18, .int .i64 s__Code19], v_20.val, .int .i64 exit21]) w (retQ orc Tryz.f51.results.toList K)) h)

-- holloway/hollowayref15.Gives
def hollowayref15_Gives_sh (op1 : Int) (w : World) (K : Value → World → Prop) : Prop :=
 brB (op1 == (1 : Int))
 (K (.bool true) w)
 (brB (op1 == (2 : Int))
 (K (.bool true) w)
 (brB (op1 == (3 : Int))
 (K (.bool true) w)
 (brB (op1 == (4 : Int))
 (K (.bool true) w)
 (brB (op1 == (5 : Int))
 (K (.bool true) w)
 (K (.bool (op1 == (12 : Int))) w)))))
def hollowayref15_Gives_an : An := ⟨[], [], []⟩
theorem hollowayref15_Gives_lift {op1 : Int} {w : World} {K : Value → World → Prop} (h : hollowayref15_Gives_sh op1 w K) : Calls Tryz.prog fn_hollowayref15_Gives #[.int .i64 op1] w fun e w' => ∃ v, e = .returned v ∧ K v w' :=
   lift_calls (A := hollowayref15_Gives_an) (c := bodyOf Tryz.f96) (args := [.int .i64 op1]) orc orc_wide Tryz.func96 (by kernel_rfl) (by kernel_rfl) (Eq.mp (by kernel_rfl : hollowayref15_Gives_sh op1 w K = wpc orc Tryz.f96.ntmps hollowayref15_Gives_an (bodyOf Tryz.f96) (argl 0 [.int .i64 op1]) w (retQ orc Tryz.f96.results.toList K)) h)

end Go.Proofs.YtblmoilneiffgaaGreat
