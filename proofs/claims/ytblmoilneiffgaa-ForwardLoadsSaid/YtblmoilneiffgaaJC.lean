/- The lifted texts of the laws. -/
import Derived.Test.YtblmoilneiffgaaJ4

/- Functions of Hollowaylaw15, read without their frames; that each is enough. Printed by a program of mine (wip/lift/gen.py). -/
set_option maxRecDepth 100000
namespace Go.Proofs.Ytblmoilneiffgaa
open Go.RowKit

-- holloway/hollowaylaw15.EvalWatched
-- holloway/hollowaylaw15.EvalEmpty
-- holloway/hollowaylaw15.EvalGuards
-- holloway/hollowaylaw15.alive
end Go.Proofs.Ytblmoilneiffgaa

/- Functions of Hollowaylaw18, read without their frames; that each is enough. Printed by a program of mine (wip/lift/gen.py). -/
set_option maxRecDepth 100000
namespace Go.Proofs.Ytblmoilneiffgaa
open Go.RowKit

-- holloway/hollowaylaw18.ForwardTells
-- holloway/hollowaylaw18.ForwardHolds
-- holloway/hollowaylaw18.ForwardLoads
def hollowaylaw18_ForwardLoads_sh (l_1 : Sl) (stack2 : Sl) (mem3 : Sl) (w : World) (K : Value → World → Prop) : Prop :=
 ∃ J3 : Bool → World → Prop, (∀ (b8 : Bool) (w7 : World), J3 b8 w7 →
 brB b8
 (Calls Try.prog fn_hollowaylaw18_alive #[] w7 fun e9 w10 => ∃ b11 : Bool, e9 = .returned (.bool b11) ∧
 K (.bool b11) w10)
 (∀ (b12 : Nat) (w13 : World), b12 = w7.heap.size → w13 = World.alloc w7 (.cells #[.int .i64 (0 : Int)] T_int) →
 ∀ (b14 : Nat) (w15 : World), b14 = w13.heap.size → w15 = World.alloc w13 (.cells #[.int .i64 (7 : Int), .int .i64 (0 : Int), .slice (some ⟨b12, 0, none⟩) 1 1, .slice none 0 0, .int .i64 (8 : Int), .int .i64 (2 : Int), .slice none 0 0, .slice none 0 0] T_api_Out) →
 ∀ (b16 : Nat) (w17 : World), b16 = w15.heap.size → w17 = World.alloc w15 (.cells #[.int .i64 (0 : Int), .int .i64 (0 : Int), .int .i64 (0 : Int), .int .i64 (0 : Int), .int .i64 (0 : Int), .slice none 0 0, .slice none 0 0, .int .i64 (0 : Int), .slice none 0 0] T_api_Trace) →
 wrOk w17 ⟨b16, 0, none⟩ 9 ∧ ∀ w18 : World, w18 = stW w17 ⟨b16, 0, none⟩ 0 [.int .i64 (5 : Int), .int .i64 (4 : Int), .int .i64 (0 : Int), .int .i64 (20 : Int), .int .i64 (0 : Int), .slice none 0 0, .slice (some ⟨b14, 0, none⟩) 2 2, .int .i64 (0 : Int), .slice none 0 0] →
 ∃ (I1 : Int → World → Prop) (μ1 : Int → World → Nat), I1 (0 : Int) w18 ∧ ∀ (i20 : Int) (w19 : World), I1 i20 w19 →
 brB (decide (i20 < (4 : Int)))
 (∃ s21 : Sl, w19.cell? ⟨b16, 5, none⟩ = some (s21.val) ∧
 ∀ (b22 : Nat) (w23 : World), b22 = w19.heap.size → w23 = World.alloc w19 (.cells #[.int .i64 (2 : Int), .int .i64 i20, .int .i64 (0 : Int), .int .i64 (0 : Int), .int .i64 (0 : Int)] T_api_Ins) →
 ∃ s24 : Sl, ∃ w25 : World, (Builtin.append_ #[T_sl_api_Ins, T_sl_api_Ins] T_sl_api_Ins #[s21.val, .slice (some ⟨b22, 0, none⟩) 1 1]).run Try.prog w23 = .ok (s24.val) w25 ∧
 wrOk w25 ⟨b16, 5, none⟩ 1 ∧ ∀ w26 : World, w26 = stW w25 ⟨b16, 5, none⟩ 0 [s24.val] →
 I1 (wr (i20 + (1 : Int))) w26 ∧ μ1 (wr (i20 + (1 : Int))) w26 < μ1 i20 w19)
 (∃ (I2 : Sl → Int → World → Prop) (μ2 : Sl → Int → World → Nat), I2 (⟨none, 0, 0⟩ : Sl) (0 : Int) w19 ∧ ∀ (loads31 : Sl) (i28 : Int) (w27 : World), I2 loads31 i28 w27 →
 brB (decide (i28 < (l_1.len : Int)))
 (∃ J16 : Sl → World → Prop, (∀ (loads235 : Sl) (w60 : World), J16 loads235 w60 →
 I2 loads235 (wr (i28 + (1 : Int))) w60 ∧ μ2 loads235 (wr (i28 + (1 : Int))) w60 < μ2 loads31 i28 w27) ∧
 ∃ a29 : Addr, l_1.ptr = some a29 ∧ 0 ≤ i28 ∧ i28 < (l_1.len : Int) ∧
 ∃ n30 : Int, w27.cell? (Addr.add a29 (Int.toNat i28 * 1)) = some (.int .i64 n30) ∧
 brB ((iand .i64 n30 (1 : Int)) == (0 : Int))
 (∃ J18 : Sl → World → Prop, (∀ (loads236 : Sl) (w37 : World), J18 loads236 w37 →
 ∀ w38 : World, w38 = World.drew w37 →
 ∃ S39 : World → Prop, S39 w38 ∧
 ∃ s40 : Sl, held S39 ⟨b16, 5, none⟩ (s40.val) ∧
 ∃ a41 : Addr, l_1.ptr = some a41 ∧ 0 ≤ i28 ∧ i28 < (l_1.len : Int) ∧
 ∃ n42 : Int, held S39 (Addr.add a41 (Int.toNat i28 * 1)) (.int .i64 n42) ∧
 0 ≤ (1 : Int) ∧ S39 w38 ∧
 ∀ (b43 : Nat) (w44 : World), b43 = w38.heap.size → w44 = World.alloc w38 (.cells #[.int .i64 (5 : Int), .int .i64 (0 : Int), .int .i64 (iand .i64 (ishr .i64 n42 (1 : Int)) (3 : Int)), .int .i64 (0 : Int), .int .i64 (0 : Int)] T_api_Ins) →
 S39 w44 ∧
 ∃ s45 : Sl, ∃ w46 : World, (Builtin.append_ #[T_sl_api_Ins, T_sl_api_Ins] T_sl_api_Ins #[s40.val, .slice (some ⟨b43, 0, none⟩) 1 1]).run Try.prog w44 = .ok (s45.val) w46 ∧
 wrOk w46 ⟨b16, 5, none⟩ 1 ∧ ∀ w47 : World, w47 = stW w46 ⟨b16, 5, none⟩ 0 [s45.val] →
 J16 loads236 w47) ∧
 brB (decide ((loads31.len : Int) < (20 : Int)))
 (∃ s32 : Sl, w27.cell? ⟨b16, 5, none⟩ = some (s32.val) ∧
 ∀ (b33 : Nat) (w34 : World), b33 = w27.heap.size → w34 = World.alloc w27 (.cells #[.int .i64 (s32.len : Int)] T_int) →
 ∃ s35 : Sl, ∃ w36 : World, (Builtin.append_ #[T_sl_int, T_sl_int] T_sl_int #[loads31.val, .slice (some ⟨b33, 0, none⟩) 1 1]).run Try.prog w34 = .ok (s35.val) w36 ∧
 J18 s35 w36)
 (J18 loads31 w27))
 (∀ w48 : World, w48 = World.drew w27 →
 ∃ S49 : World → Prop, S49 w48 ∧
 ∃ s50 : Sl, held S49 ⟨b16, 5, none⟩ (s50.val) ∧
 ∃ a51 : Addr, l_1.ptr = some a51 ∧ 0 ≤ i28 ∧ i28 < (l_1.len : Int) ∧
 ∃ n52 : Int, held S49 (Addr.add a51 (Int.toNat i28 * 1)) (.int .i64 n52) ∧
 0 ≤ (1 : Int) ∧ ∃ a53 : Addr, l_1.ptr = some a53 ∧ 0 ≤ i28 ∧ i28 < (l_1.len : Int) ∧
 ∃ n54 : Int, held S49 (Addr.add a53 (Int.toNat i28 * 1)) (.int .i64 n54) ∧
 0 ≤ (3 : Int) ∧ S49 w48 ∧
 ∀ (b55 : Nat) (w56 : World), b55 = w48.heap.size → w56 = World.alloc w48 (.cells #[.int .i64 (6 : Int), .int .i64 (0 : Int), .int .i64 (iand .i64 (ishr .i64 n52 (1 : Int)) (3 : Int)), .int .i64 (iand .i64 (ishr .i64 n54 (3 : Int)) (3 : Int)), .int .i64 (0 : Int)] T_api_Ins) →
 S49 w56 ∧
 ∃ s57 : Sl, ∃ w58 : World, (Builtin.append_ #[T_sl_api_Ins, T_sl_api_Ins] T_sl_api_Ins #[s50.val, .slice (some ⟨b55, 0, none⟩) 1 1]).run Try.prog w56 = .ok (s57.val) w58 ∧
 wrOk w58 ⟨b16, 5, none⟩ 1 ∧ ∀ w59 : World, w59 = stW w58 ⟨b16, 5, none⟩ 0 [s57.val] →
 J16 loads31 w59))
 (∃ s61 : Sl, w27.cell? ⟨b16, 6, none⟩ = some (s61.val) ∧
 ∀ (b62 : Nat) (w63 : World), b62 = w27.heap.size → w63 = World.alloc w27 (.cells #[.int .i64 (9 : Int), .int .i64 (3 : Int), loads31.val, .slice none 0 0] T_api_Out) →
 ∃ s64 : Sl, ∃ w65 : World, (Builtin.append_ #[T_sl_api_Out, T_sl_api_Out] T_sl_api_Out #[s61.val, .slice (some ⟨b62, 0, none⟩) 1 1]).run Try.prog w63 = .ok (s64.val) w65 ∧
 wrOk w65 ⟨b16, 6, none⟩ 1 ∧ ∀ w66 : World, w66 = stW w65 ⟨b16, 6, none⟩ 0 [s64.val] →
 wrOk w66 ⟨b16, 7, none⟩ 1 ∧ ∀ w67 : World, w67 = stW w66 ⟨b16, 7, none⟩ 0 [.int .i64 (2 : Int)] →
 ∃ n_Start68 : Int, ∃ n_Slots69 : Int, ∃ n_Backs70 : Int, ∃ n_Grow71 : Int, ∃ n_GrowBack72 : Int, ∃ s_Ins73 : Sl, ∃ s_Outs74 : Sl, ∃ n_Last75 : Int, ∃ s_Cells76 : Sl, w67.cell? ⟨b16, 0, none⟩ = some (.int .i64 n_Start68) ∧ w67.cell? ⟨b16, 1, none⟩ = some (.int .i64 n_Slots69) ∧ w67.cell? ⟨b16, 2, none⟩ = some (.int .i64 n_Backs70) ∧ w67.cell? ⟨b16, 3, none⟩ = some (.int .i64 n_Grow71) ∧ w67.cell? ⟨b16, 4, none⟩ = some (.int .i64 n_GrowBack72) ∧ w67.cell? ⟨b16, 5, none⟩ = some (s_Ins73.val) ∧ w67.cell? ⟨b16, 6, none⟩ = some (s_Outs74.val) ∧ w67.cell? ⟨b16, 7, none⟩ = some (.int .i64 n_Last75) ∧ w67.cell? ⟨b16, 8, none⟩ = some (s_Cells76.val) ∧
 Calls Try.prog fn_forward_Do #[.agg #[.int .i64 n_Start68, .int .i64 n_Slots69, .int .i64 n_Backs70, .int .i64 n_Grow71, .int .i64 n_GrowBack72, s_Ins73.val, s_Outs74.val, .int .i64 n_Last75, s_Cells76.val]] w67 fun e77 w78 => ∃ n_Start79 : Int, ∃ n_Slots80 : Int, ∃ n_Backs81 : Int, ∃ n_Grow82 : Int, ∃ n_GrowBack83 : Int, ∃ s_Ins84 : Sl, ∃ s_Outs85 : Sl, ∃ n_Last86 : Int, ∃ s_Cells87 : Sl, e77 = .returned (.agg #[.int .i64 n_Start79, .int .i64 n_Slots80, .int .i64 n_Backs81, .int .i64 n_Grow82, .int .i64 n_GrowBack83, s_Ins84.val, s_Outs85.val, .int .i64 n_Last86, s_Cells87.val]) ∧
 ∀ (b88 : Nat) (w89 : World), b88 = w78.heap.size → w89 = World.alloc w78 (.cells #[.int .i64 (0 : Int), .int .i64 (0 : Int), .int .i64 (0 : Int), .int .i64 (0 : Int), .int .i64 (0 : Int), .slice none 0 0, .slice none 0 0, .int .i64 (0 : Int), .slice none 0 0] T_api_Trace) →
 wrOk w89 ⟨b88, 0, none⟩ 9 ∧ ∀ w90 : World, w90 = stW w89 ⟨b88, 0, none⟩ 0 [.int .i64 n_Start79, .int .i64 n_Slots80, .int .i64 n_Backs81, .int .i64 n_Grow82, .int .i64 n_GrowBack83, s_Ins84.val, s_Outs85.val, .int .i64 n_Last86, s_Cells87.val] →
 ∃ J24 : Bool → World → Prop, (∀ (b116 : Bool) (w115 : World), J24 b116 w115 →
 brB b116
 (K (.bool false) w115)
 (∀ (b117 : Nat) (w118 : World), b117 = w115.heap.size → w118 = World.alloc w115 (.cells #[.int .i64 (0 : Int), .int .i64 (0 : Int), .slice none 0 0, .slice none 0 0, .slice none 0 0, .string (bs []), .string (bs []), .int .i64 (0 : Int), .int .i64 (0 : Int), .int .i64 (0 : Int)] T_api_State) →
 wrOk w118 ⟨b117, 0, none⟩ 10 ∧ ∀ w119 : World, w119 = stW w118 ⟨b117, 0, none⟩ 0 [.int .i64 (5 : Int), .int .i64 (0 : Int), stack2.val, .slice none 0 0, mem3.val, .string (bs []), .string (bs []), .int .i64 (0 : Int), .int .i64 (0 : Int), .int .i64 (0 : Int)] →
 ∃ n_Start120 : Int, ∃ n_Slots121 : Int, ∃ n_Backs122 : Int, ∃ n_Grow123 : Int, ∃ n_GrowBack124 : Int, ∃ s_Ins125 : Sl, ∃ s_Outs126 : Sl, ∃ n_Last127 : Int, ∃ s_Cells128 : Sl, w119.cell? ⟨b16, 0, none⟩ = some (.int .i64 n_Start120) ∧ w119.cell? ⟨b16, 1, none⟩ = some (.int .i64 n_Slots121) ∧ w119.cell? ⟨b16, 2, none⟩ = some (.int .i64 n_Backs122) ∧ w119.cell? ⟨b16, 3, none⟩ = some (.int .i64 n_Grow123) ∧ w119.cell? ⟨b16, 4, none⟩ = some (.int .i64 n_GrowBack124) ∧ w119.cell? ⟨b16, 5, none⟩ = some (s_Ins125.val) ∧ w119.cell? ⟨b16, 6, none⟩ = some (s_Outs126.val) ∧ w119.cell? ⟨b16, 7, none⟩ = some (.int .i64 n_Last127) ∧ w119.cell? ⟨b16, 8, none⟩ = some (s_Cells128.val) ∧
 ∃ n_Ip129 : Int, ∃ n_Handler130 : Int, ∃ s_Stack131 : Sl, ∃ s_Back132 : Sl, ∃ s_Mem133 : Sl, ∃ t_Out134 : ByteArray, ∃ t_In135 : ByteArray, ∃ n_Read136 : Int, ∃ n_Status137 : Int, ∃ n_Code138 : Int, w119.cell? ⟨b117, 0, none⟩ = some (.int .i64 n_Ip129) ∧ w119.cell? ⟨b117, 1, none⟩ = some (.int .i64 n_Handler130) ∧ w119.cell? ⟨b117, 2, none⟩ = some (s_Stack131.val) ∧ w119.cell? ⟨b117, 3, none⟩ = some (s_Back132.val) ∧ w119.cell? ⟨b117, 4, none⟩ = some (s_Mem133.val) ∧ w119.cell? ⟨b117, 5, none⟩ = some (.string t_Out134) ∧ w119.cell? ⟨b117, 6, none⟩ = some (.string t_In135) ∧ w119.cell? ⟨b117, 7, none⟩ = some (.int .i64 n_Read136) ∧ w119.cell? ⟨b117, 8, none⟩ = some (.int .i64 n_Status137) ∧ w119.cell? ⟨b117, 9, none⟩ = some (.int .i64 n_Code138) ∧
 ∀ (b139 : Nat) (w140 : World), b139 = w119.heap.size → w140 = World.alloc w119 (.cells #[.int .i64 (3 : Int)] T_int) →
 Calls Try.prog fn_hollowayref15_Run #[.agg #[.int .i64 n_Start120, .int .i64 n_Slots121, .int .i64 n_Backs122, .int .i64 n_Grow123, .int .i64 n_GrowBack124, s_Ins125.val, s_Outs126.val, .int .i64 n_Last127, s_Cells128.val], .agg #[.int .i64 n_Ip129, .int .i64 n_Handler130, s_Stack131.val, s_Back132.val, s_Mem133.val, .string t_Out134, .string t_In135, .int .i64 n_Read136, .int .i64 n_Status137, .int .i64 n_Code138], .slice (some ⟨b139, 0, none⟩) 1 1] w140 fun e141 w142 => ∃ n_Ip143 : Int, ∃ n_Handler144 : Int, ∃ s_Stack145 : Sl, ∃ s_Back146 : Sl, ∃ s_Mem147 : Sl, ∃ t_Out148 : ByteArray, ∃ t_In149 : ByteArray, ∃ n_Read150 : Int, ∃ n_Status151 : Int, ∃ n_Code152 : Int, ∃ n153 : Int, ∃ b154 : Bool, e141 = .returned (.tuple #[.agg #[.int .i64 n_Ip143, .int .i64 n_Handler144, s_Stack145.val, s_Back146.val, s_Mem147.val, .string t_Out148, .string t_In149, .int .i64 n_Read150, .int .i64 n_Status151, .int .i64 n_Code152], .int .i64 n153, .bool b154]) ∧
 ∀ (b155 : Nat) (w156 : World), b155 = w142.heap.size → w156 = World.alloc w142 (.cells #[.int .i64 (0 : Int), .int .i64 (0 : Int), .slice none 0 0, .slice none 0 0, .slice none 0 0, .string (bs []), .string (bs []), .int .i64 (0 : Int), .int .i64 (0 : Int), .int .i64 (0 : Int)] T_api_State) →
 wrOk w156 ⟨b155, 0, none⟩ 10 ∧ ∀ w157 : World, w157 = stW w156 ⟨b155, 0, none⟩ 0 [.int .i64 n_Ip143, .int .i64 n_Handler144, s_Stack145.val, s_Back146.val, s_Mem147.val, .string t_Out148, .string t_In149, .int .i64 n_Read150, .int .i64 n_Status151, .int .i64 n_Code152] →
 ∃ n_Start158 : Int, ∃ n_Slots159 : Int, ∃ n_Backs160 : Int, ∃ n_Grow161 : Int, ∃ n_GrowBack162 : Int, ∃ s_Ins163 : Sl, ∃ s_Outs164 : Sl, ∃ n_Last165 : Int, ∃ s_Cells166 : Sl, w157.cell? ⟨b88, 0, none⟩ = some (.int .i64 n_Start158) ∧ w157.cell? ⟨b88, 1, none⟩ = some (.int .i64 n_Slots159) ∧ w157.cell? ⟨b88, 2, none⟩ = some (.int .i64 n_Backs160) ∧ w157.cell? ⟨b88, 3, none⟩ = some (.int .i64 n_Grow161) ∧ w157.cell? ⟨b88, 4, none⟩ = some (.int .i64 n_GrowBack162) ∧ w157.cell? ⟨b88, 5, none⟩ = some (s_Ins163.val) ∧ w157.cell? ⟨b88, 6, none⟩ = some (s_Outs164.val) ∧ w157.cell? ⟨b88, 7, none⟩ = some (.int .i64 n_Last165) ∧ w157.cell? ⟨b88, 8, none⟩ = some (s_Cells166.val) ∧
 ∃ n_Ip167 : Int, ∃ n_Handler168 : Int, ∃ s_Stack169 : Sl, ∃ s_Back170 : Sl, ∃ s_Mem171 : Sl, ∃ t_Out172 : ByteArray, ∃ t_In173 : ByteArray, ∃ n_Read174 : Int, ∃ n_Status175 : Int, ∃ n_Code176 : Int, w157.cell? ⟨b117, 0, none⟩ = some (.int .i64 n_Ip167) ∧ w157.cell? ⟨b117, 1, none⟩ = some (.int .i64 n_Handler168) ∧ w157.cell? ⟨b117, 2, none⟩ = some (s_Stack169.val) ∧ w157.cell? ⟨b117, 3, none⟩ = some (s_Back170.val) ∧ w157.cell? ⟨b117, 4, none⟩ = some (s_Mem171.val) ∧ w157.cell? ⟨b117, 5, none⟩ = some (.string t_Out172) ∧ w157.cell? ⟨b117, 6, none⟩ = some (.string t_In173) ∧ w157.cell? ⟨b117, 7, none⟩ = some (.int .i64 n_Read174) ∧ w157.cell? ⟨b117, 8, none⟩ = some (.int .i64 n_Status175) ∧ w157.cell? ⟨b117, 9, none⟩ = some (.int .i64 n_Code176) ∧
 ∀ (b177 : Nat) (w178 : World), b177 = w157.heap.size → w178 = World.alloc w157 (.cells #[.int .i64 (3 : Int)] T_int) →
 Calls Try.prog fn_hollowayref15_Run #[.agg #[.int .i64 n_Start158, .int .i64 n_Slots159, .int .i64 n_Backs160, .int .i64 n_Grow161, .int .i64 n_GrowBack162, s_Ins163.val, s_Outs164.val, .int .i64 n_Last165, s_Cells166.val], .agg #[.int .i64 n_Ip167, .int .i64 n_Handler168, s_Stack169.val, s_Back170.val, s_Mem171.val, .string t_Out172, .string t_In173, .int .i64 n_Read174, .int .i64 n_Status175, .int .i64 n_Code176], .slice (some ⟨b177, 0, none⟩) 1 1] w178 fun e179 w180 => ∃ n_Ip181 : Int, ∃ n_Handler182 : Int, ∃ s_Stack183 : Sl, ∃ s_Back184 : Sl, ∃ s_Mem185 : Sl, ∃ t_Out186 : ByteArray, ∃ t_In187 : ByteArray, ∃ n_Read188 : Int, ∃ n_Status189 : Int, ∃ n_Code190 : Int, ∃ n191 : Int, ∃ b192 : Bool, e179 = .returned (.tuple #[.agg #[.int .i64 n_Ip181, .int .i64 n_Handler182, s_Stack183.val, s_Back184.val, s_Mem185.val, .string t_Out186, .string t_In187, .int .i64 n_Read188, .int .i64 n_Status189, .int .i64 n_Code190], .int .i64 n191, .bool b192]) ∧
 ∀ (b193 : Nat) (w194 : World), b193 = w180.heap.size → w194 = World.alloc w180 (.cells #[.int .i64 (0 : Int), .int .i64 (0 : Int), .slice none 0 0, .slice none 0 0, .slice none 0 0, .string (bs []), .string (bs []), .int .i64 (0 : Int), .int .i64 (0 : Int), .int .i64 (0 : Int)] T_api_State) →
 wrOk w194 ⟨b193, 0, none⟩ 10 ∧ ∀ w195 : World, w195 = stW w194 ⟨b193, 0, none⟩ 0 [.int .i64 n_Ip181, .int .i64 n_Handler182, s_Stack183.val, s_Back184.val, s_Mem185.val, .string t_Out186, .string t_In187, .int .i64 n_Read188, .int .i64 n_Status189, .int .i64 n_Code190] →
 ∀ w196 : World, w196 = World.drew w195 →
 ∃ S197 : World → Prop, S197 w196 ∧
 ∃ n_Ip198 : Int, ∃ n_Handler199 : Int, ∃ s_Stack200 : Sl, ∃ s_Back201 : Sl, ∃ s_Mem202 : Sl, ∃ t_Out203 : ByteArray, ∃ t_In204 : ByteArray, ∃ n_Read205 : Int, ∃ n_Status206 : Int, ∃ n_Code207 : Int, held S197 ⟨b155, 0, none⟩ (.int .i64 n_Ip198) ∧ held S197 ⟨b155, 1, none⟩ (.int .i64 n_Handler199) ∧ held S197 ⟨b155, 2, none⟩ (s_Stack200.val) ∧ held S197 ⟨b155, 3, none⟩ (s_Back201.val) ∧ held S197 ⟨b155, 4, none⟩ (s_Mem202.val) ∧ held S197 ⟨b155, 5, none⟩ (.string t_Out203) ∧ held S197 ⟨b155, 6, none⟩ (.string t_In204) ∧ held S197 ⟨b155, 7, none⟩ (.int .i64 n_Read205) ∧ held S197 ⟨b155, 8, none⟩ (.int .i64 n_Status206) ∧ held S197 ⟨b155, 9, none⟩ (.int .i64 n_Code207) ∧
 ∃ n_Ip208 : Int, ∃ n_Handler209 : Int, ∃ s_Stack210 : Sl, ∃ s_Back211 : Sl, ∃ s_Mem212 : Sl, ∃ t_Out213 : ByteArray, ∃ t_In214 : ByteArray, ∃ n_Read215 : Int, ∃ n_Status216 : Int, ∃ n_Code217 : Int, held S197 ⟨b193, 0, none⟩ (.int .i64 n_Ip208) ∧ held S197 ⟨b193, 1, none⟩ (.int .i64 n_Handler209) ∧ held S197 ⟨b193, 2, none⟩ (s_Stack210.val) ∧ held S197 ⟨b193, 3, none⟩ (s_Back211.val) ∧ held S197 ⟨b193, 4, none⟩ (s_Mem212.val) ∧ held S197 ⟨b193, 5, none⟩ (.string t_Out213) ∧ held S197 ⟨b193, 6, none⟩ (.string t_In214) ∧ held S197 ⟨b193, 7, none⟩ (.int .i64 n_Read215) ∧ held S197 ⟨b193, 8, none⟩ (.int .i64 n_Status216) ∧ held S197 ⟨b193, 9, none⟩ (.int .i64 n_Code217) ∧
 Calls Try.prog fn_hollowaybook_SameState #[.agg #[.int .i64 n_Ip198, .int .i64 n_Handler199, s_Stack200.val, s_Back201.val, s_Mem202.val, .string t_Out203, .string t_In204, .int .i64 n_Read205, .int .i64 n_Status206, .int .i64 n_Code207], .agg #[.int .i64 n_Ip208, .int .i64 n_Handler209, s_Stack210.val, s_Back211.val, s_Mem212.val, .string t_Out213, .string t_In214, .int .i64 n_Read215, .int .i64 n_Status216, .int .i64 n_Code217]] w196 fun e218 w219 => ∃ b220 : Bool, e218 = .returned (.bool b220) ∧
 S197 w219 ∧
 brB b220
 (brB (b154 == b192)
 (∃ s221 : Sl, held S197 ⟨b16, 6, none⟩ (s221.val) ∧
 ∃ a222 : Addr, s221.ptr = some a222 ∧ 0 ≤ n153 ∧ n153 < (s221.len : Int) ∧
 ∃ n223 : Int, held S197 (Addr.add a222 (Int.toNat n153 * 4)) (.int .i64 n223) ∧
 ∃ s224 : Sl, held S197 ⟨b88, 6, none⟩ (s224.val) ∧
 ∃ a225 : Addr, s224.ptr = some a225 ∧ 0 ≤ n191 ∧ n191 < (s224.len : Int) ∧
 ∃ n226 : Int, held S197 (Addr.add a225 (Int.toNat n191 * 4)) (.int .i64 n226) ∧
 brB (n223 == n226)
 (∃ s227 : Sl, held S197 ⟨b16, 6, none⟩ (s227.val) ∧
 ∃ a228 : Addr, s227.ptr = some a228 ∧ 0 ≤ n153 ∧ n153 < (s227.len : Int) ∧
 ∃ n229 : Int, held S197 (Addr.add (Addr.add a228 (Int.toNat n153 * 4)) 1) (.int .i64 n229) ∧
 ∃ s230 : Sl, held S197 ⟨b88, 6, none⟩ (s230.val) ∧
 ∃ a231 : Addr, s230.ptr = some a231 ∧ 0 ≤ n191 ∧ n191 < (s230.len : Int) ∧
 ∃ n232 : Int, held S197 (Addr.add (Addr.add a231 (Int.toNat n191 * 4)) 1) (.int .i64 n232) ∧
 K (.bool (n229 == n232)) w219)
 (K (.bool false) w219))
 (K (.bool false) w219))
 (K (.bool false) w219))) ∧
 ∃ n_Start91 : Int, ∃ n_Slots92 : Int, ∃ n_Backs93 : Int, ∃ n_Grow94 : Int, ∃ n_GrowBack95 : Int, ∃ s_Ins96 : Sl, ∃ s_Outs97 : Sl, ∃ n_Last98 : Int, ∃ s_Cells99 : Sl, w90.cell? ⟨b16, 0, none⟩ = some (.int .i64 n_Start91) ∧ w90.cell? ⟨b16, 1, none⟩ = some (.int .i64 n_Slots92) ∧ w90.cell? ⟨b16, 2, none⟩ = some (.int .i64 n_Backs93) ∧ w90.cell? ⟨b16, 3, none⟩ = some (.int .i64 n_Grow94) ∧ w90.cell? ⟨b16, 4, none⟩ = some (.int .i64 n_GrowBack95) ∧ w90.cell? ⟨b16, 5, none⟩ = some (s_Ins96.val) ∧ w90.cell? ⟨b16, 6, none⟩ = some (s_Outs97.val) ∧ w90.cell? ⟨b16, 7, none⟩ = some (.int .i64 n_Last98) ∧ w90.cell? ⟨b16, 8, none⟩ = some (s_Cells99.val) ∧
 Calls Try.prog fn_hollowayref15_Right #[.agg #[.int .i64 n_Start91, .int .i64 n_Slots92, .int .i64 n_Backs93, .int .i64 n_Grow94, .int .i64 n_GrowBack95, s_Ins96.val, s_Outs97.val, .int .i64 n_Last98, s_Cells99.val]] w90 fun e100 w101 => ∃ b102 : Bool, e100 = .returned (.bool b102) ∧
 brB (!b102)
 (J24 true w101)
 (∃ n_Start103 : Int, ∃ n_Slots104 : Int, ∃ n_Backs105 : Int, ∃ n_Grow106 : Int, ∃ n_GrowBack107 : Int, ∃ s_Ins108 : Sl, ∃ s_Outs109 : Sl, ∃ n_Last110 : Int, ∃ s_Cells111 : Sl, w101.cell? ⟨b88, 0, none⟩ = some (.int .i64 n_Start103) ∧ w101.cell? ⟨b88, 1, none⟩ = some (.int .i64 n_Slots104) ∧ w101.cell? ⟨b88, 2, none⟩ = some (.int .i64 n_Backs105) ∧ w101.cell? ⟨b88, 3, none⟩ = some (.int .i64 n_Grow106) ∧ w101.cell? ⟨b88, 4, none⟩ = some (.int .i64 n_GrowBack107) ∧ w101.cell? ⟨b88, 5, none⟩ = some (s_Ins108.val) ∧ w101.cell? ⟨b88, 6, none⟩ = some (s_Outs109.val) ∧ w101.cell? ⟨b88, 7, none⟩ = some (.int .i64 n_Last110) ∧ w101.cell? ⟨b88, 8, none⟩ = some (s_Cells111.val) ∧
 Calls Try.prog fn_hollowayref15_Right #[.agg #[.int .i64 n_Start103, .int .i64 n_Slots104, .int .i64 n_Backs105, .int .i64 n_Grow106, .int .i64 n_GrowBack107, s_Ins108.val, s_Outs109.val, .int .i64 n_Last110, s_Cells111.val]] w101 fun e112 w113 => ∃ b114 : Bool, e112 = .returned (.bool b114) ∧
 J24 (!b114) w113))))) ∧
 brB (decide ((l_1.len : Int) > (40 : Int)))
 (J3 true w)
 (brB (decide ((stack2.len : Int) < (4 : Int)))
 (J3 true w)
 (brB (decide ((stack2.len : Int) > (20 : Int)))
 (J3 true w)
 (brB (decide ((mem3.len : Int) > (30 : Int)))
 (J3 true w)
 (Calls Try.prog fn_hollowaylaw18_alive #[] w fun e4 w5 => ∃ b6 : Bool, e4 = .returned (.bool b6) ∧
 J3 (!b6) w5))))
def hollowaylaw18_ForwardLoads_an : An := ⟨[(5, [(8, .int .i64)]), (10, [(9, .sl), (10, .int .i64)])], [(15, (10, .st 0 (.st 1 (.st 2 (.st 3 (.st 4 (.st 5 (.st 6 (.st 7 (.ef 8 (.ef 9 .done))))))))), 1)), (16, (16, .st 0 (.st 1 (.st 2 (.st 3 (.st 4 (.st 5 (.st 6 (.st 7 (.st 8 (.st 9 (.st 10 (.st 11 (.st 12 (.st 13 (.ef 14 (.ef 15 .done))))))))))))))), 1)), (25, (36, .st 0 (.st 1 (.ef 2 (.st 3 (.st 4 (.st 5 (.st 6 (.st 7 (.st 8 (.st 9 (.st 10 (.st 11 (.st 12 (.st 13 (.st 14 (.st 15 (.st 16 (.st 17 (.st 18 (.st 19 (.st 20 (.st 21 (.st 22 (.st 23 (.st 24 (.st 25 (.st 26 (.st 27 (.st 28 (.st 29 (.st 30 (.st 31 (.st 32 (.st 33 (.st 34 (.st 35 .done))))))))))))))))))))))))))))))))))), 1))], [(2, [(40, .bool)]), (15, [(9, .sl)]), (11, [(9, .sl)]), (21, [(126, .bool)])]⟩
theorem hollowaylaw18_ForwardLoads_lift {l_1 : Sl} {stack2 : Sl} {mem3 : Sl} {w : World} {K : Value → World → Prop} (h : hollowaylaw18_ForwardLoads_sh l_1 stack2 mem3 w K) : Calls Try.prog fn_hollowaylaw18_ForwardLoads #[l_1.val, stack2.val, mem3.val] w fun e w' => ∃ v, e = .returned v ∧ K v w' :=
   lift_calls (A := hollowaylaw18_ForwardLoads_an) (c := bodyOf Try.f11) (args := [l_1.val, stack2.val, mem3.val]) orc orc_wide Try.func11 (by kernel_rfl) (by kernel_rfl) (Eq.mp (by kernel_rfl : hollowaylaw18_ForwardLoads_sh l_1 stack2 mem3 w K = wpc orc Try.f11.ntmps hollowaylaw18_ForwardLoads_an (bodyOf Try.f11) (argl 0 [l_1.val, stack2.val, mem3.val]) w (retQ orc Try.f11.results.toList K)) h)

-- holloway/hollowaylaw18.alive
def hollowaylaw18_alive_sh  (w : World) (K : Value → World → Prop) : Prop :=
 ∀ (b1 : Nat) (w2 : World), b1 = w.heap.size → w2 = World.alloc w (.cells #[.int .i64 (2 : Int), .int .i64 (0 : Int), .int .i64 (0 : Int), .int .i64 (0 : Int), .int .i64 (0 : Int), .int .i64 (5 : Int), .int .i64 (0 : Int), .int .i64 (0 : Int), .int .i64 (0 : Int), .int .i64 (0 : Int), .int .i64 (5 : Int), .int .i64 (0 : Int), .int .i64 (0 : Int), .int .i64 (0 : Int), .int .i64 (0 : Int)] T_api_Ins) →
 ∀ (b3 : Nat) (w4 : World), b3 = w2.heap.size → w4 = World.alloc w2 (.cells #[.int .i64 (1 : Int), .int .i64 (2 : Int)] T_int) →
 ∀ (b5 : Nat) (w6 : World), b5 = w4.heap.size → w6 = World.alloc w4 (.cells #[.int .i64 (5 : Int), .int .i64 (0 : Int), .slice none 0 0, .slice none 0 0, .int .i64 (5 : Int), .int .i64 (1 : Int), .slice (some ⟨b3, 0, none⟩) 2 2, .slice none 0 0] T_api_Out) →
 ∀ (b7 : Nat) (w8 : World), b7 = w6.heap.size → w8 = World.alloc w6 (.cells #[.int .i64 (0 : Int), .int .i64 (0 : Int), .int .i64 (0 : Int), .int .i64 (0 : Int), .int .i64 (0 : Int), .slice none 0 0, .slice none 0 0, .int .i64 (0 : Int), .slice none 0 0] T_api_Trace) →
 wrOk w8 ⟨b7, 0, none⟩ 9 ∧ ∀ w9 : World, w9 = stW w8 ⟨b7, 0, none⟩ 0 [.int .i64 (5 : Int), .int .i64 (1 : Int), .int .i64 (0 : Int), .int .i64 (1 : Int), .int .i64 (0 : Int), .slice (some ⟨b1, 0, none⟩) 3 3, .slice (some ⟨b5, 0, none⟩) 2 2, .int .i64 (1 : Int), .slice none 0 0] →
 ∃ n_Start10 : Int, ∃ n_Slots11 : Int, ∃ n_Backs12 : Int, ∃ n_Grow13 : Int, ∃ n_GrowBack14 : Int, ∃ s_Ins15 : Sl, ∃ s_Outs16 : Sl, ∃ n_Last17 : Int, ∃ s_Cells18 : Sl, w9.cell? ⟨b7, 0, none⟩ = some (.int .i64 n_Start10) ∧ w9.cell? ⟨b7, 1, none⟩ = some (.int .i64 n_Slots11) ∧ w9.cell? ⟨b7, 2, none⟩ = some (.int .i64 n_Backs12) ∧ w9.cell? ⟨b7, 3, none⟩ = some (.int .i64 n_Grow13) ∧ w9.cell? ⟨b7, 4, none⟩ = some (.int .i64 n_GrowBack14) ∧ w9.cell? ⟨b7, 5, none⟩ = some (s_Ins15.val) ∧ w9.cell? ⟨b7, 6, none⟩ = some (s_Outs16.val) ∧ w9.cell? ⟨b7, 7, none⟩ = some (.int .i64 n_Last17) ∧ w9.cell? ⟨b7, 8, none⟩ = some (s_Cells18.val) ∧
 Calls Try.prog fn_forward_Do #[.agg #[.int .i64 n_Start10, .int .i64 n_Slots11, .int .i64 n_Backs12, .int .i64 n_Grow13, .int .i64 n_GrowBack14, s_Ins15.val, s_Outs16.val, .int .i64 n_Last17, s_Cells18.val]] w9 fun e19 w20 => ∃ n_Start21 : Int, ∃ n_Slots22 : Int, ∃ n_Backs23 : Int, ∃ n_Grow24 : Int, ∃ n_GrowBack25 : Int, ∃ s_Ins26 : Sl, ∃ s_Outs27 : Sl, ∃ n_Last28 : Int, ∃ s_Cells29 : Sl, e19 = .returned (.agg #[.int .i64 n_Start21, .int .i64 n_Slots22, .int .i64 n_Backs23, .int .i64 n_Grow24, .int .i64 n_GrowBack25, s_Ins26.val, s_Outs27.val, .int .i64 n_Last28, s_Cells29.val]) ∧
 ∀ (b30 : Nat) (w31 : World), b30 = w20.heap.size → w31 = World.alloc w20 (.cells #[.int .i64 (0 : Int), .int .i64 (0 : Int), .int .i64 (0 : Int), .int .i64 (0 : Int), .int .i64 (0 : Int), .slice none 0 0, .slice none 0 0, .int .i64 (0 : Int), .slice none 0 0] T_api_Trace) →
 wrOk w31 ⟨b30, 0, none⟩ 9 ∧ ∀ w32 : World, w32 = stW w31 ⟨b30, 0, none⟩ 0 [.int .i64 n_Start21, .int .i64 n_Slots22, .int .i64 n_Backs23, .int .i64 n_Grow24, .int .i64 n_GrowBack25, s_Ins26.val, s_Outs27.val, .int .i64 n_Last28, s_Cells29.val] →
 Calls Try.prog fn_hollowayref1_Two #[.int .i64 (11 : Int), .int .i64 (1 : Int), .int .i64 (1 : Int)] w32 fun e33 w34 => ∃ n35 : Int, ∃ b36 : Bool, e33 = .returned (.tuple #[.int .i64 n35, .bool b36]) ∧
 ∃ n_Start37 : Int, ∃ n_Slots38 : Int, ∃ n_Backs39 : Int, ∃ n_Grow40 : Int, ∃ n_GrowBack41 : Int, ∃ s_Ins42 : Sl, ∃ s_Outs43 : Sl, ∃ n_Last44 : Int, ∃ s_Cells45 : Sl, w34.cell? ⟨b7, 0, none⟩ = some (.int .i64 n_Start37) ∧ w34.cell? ⟨b7, 1, none⟩ = some (.int .i64 n_Slots38) ∧ w34.cell? ⟨b7, 2, none⟩ = some (.int .i64 n_Backs39) ∧ w34.cell? ⟨b7, 3, none⟩ = some (.int .i64 n_Grow40) ∧ w34.cell? ⟨b7, 4, none⟩ = some (.int .i64 n_GrowBack41) ∧ w34.cell? ⟨b7, 5, none⟩ = some (s_Ins42.val) ∧ w34.cell? ⟨b7, 6, none⟩ = some (s_Outs43.val) ∧ w34.cell? ⟨b7, 7, none⟩ = some (.int .i64 n_Last44) ∧ w34.cell? ⟨b7, 8, none⟩ = some (s_Cells45.val) ∧
 Calls Try.prog fn_forward_Left #[.agg #[.int .i64 n_Start37, .int .i64 n_Slots38, .int .i64 n_Backs39, .int .i64 n_Grow40, .int .i64 n_GrowBack41, s_Ins42.val, s_Outs43.val, .int .i64 n_Last44, s_Cells45.val]] w34 fun e46 w47 => ∃ n48 : Int, e46 = .returned (.int .i64 n48) ∧
 brB (n48 == (1 : Int))
 (∃ n_Start49 : Int, ∃ n_Slots50 : Int, ∃ n_Backs51 : Int, ∃ n_Grow52 : Int, ∃ n_GrowBack53 : Int, ∃ s_Ins54 : Sl, ∃ s_Outs55 : Sl, ∃ n_Last56 : Int, ∃ s_Cells57 : Sl, w47.cell? ⟨b30, 0, none⟩ = some (.int .i64 n_Start49) ∧ w47.cell? ⟨b30, 1, none⟩ = some (.int .i64 n_Slots50) ∧ w47.cell? ⟨b30, 2, none⟩ = some (.int .i64 n_Backs51) ∧ w47.cell? ⟨b30, 3, none⟩ = some (.int .i64 n_Grow52) ∧ w47.cell? ⟨b30, 4, none⟩ = some (.int .i64 n_GrowBack53) ∧ w47.cell? ⟨b30, 5, none⟩ = some (s_Ins54.val) ∧ w47.cell? ⟨b30, 6, none⟩ = some (s_Outs55.val) ∧ w47.cell? ⟨b30, 7, none⟩ = some (.int .i64 n_Last56) ∧ w47.cell? ⟨b30, 8, none⟩ = some (s_Cells57.val) ∧
 Calls Try.prog fn_forward_Left #[.agg #[.int .i64 n_Start49, .int .i64 n_Slots50, .int .i64 n_Backs51, .int .i64 n_Grow52, .int .i64 n_GrowBack53, s_Ins54.val, s_Outs55.val, .int .i64 n_Last56, s_Cells57.val]] w47 fun e58 w59 => ∃ n60 : Int, e58 = .returned (.int .i64 n60) ∧
 brB (n60 == (0 : Int))
 (∃ n_Start61 : Int, ∃ n_Slots62 : Int, ∃ n_Backs63 : Int, ∃ n_Grow64 : Int, ∃ n_GrowBack65 : Int, ∃ s_Ins66 : Sl, ∃ s_Outs67 : Sl, ∃ n_Last68 : Int, ∃ s_Cells69 : Sl, w59.cell? ⟨b30, 0, none⟩ = some (.int .i64 n_Start61) ∧ w59.cell? ⟨b30, 1, none⟩ = some (.int .i64 n_Slots62) ∧ w59.cell? ⟨b30, 2, none⟩ = some (.int .i64 n_Backs63) ∧ w59.cell? ⟨b30, 3, none⟩ = some (.int .i64 n_Grow64) ∧ w59.cell? ⟨b30, 4, none⟩ = some (.int .i64 n_GrowBack65) ∧ w59.cell? ⟨b30, 5, none⟩ = some (s_Ins66.val) ∧ w59.cell? ⟨b30, 6, none⟩ = some (s_Outs67.val) ∧ w59.cell? ⟨b30, 7, none⟩ = some (.int .i64 n_Last68) ∧ w59.cell? ⟨b30, 8, none⟩ = some (s_Cells69.val) ∧
 Calls Try.prog fn_hollowayref15_Right #[.agg #[.int .i64 n_Start61, .int .i64 n_Slots62, .int .i64 n_Backs63, .int .i64 n_Grow64, .int .i64 n_GrowBack65, s_Ins66.val, s_Outs67.val, .int .i64 n_Last68, s_Cells69.val]] w59 fun e70 w71 => ∃ b72 : Bool, e70 = .returned (.bool b72) ∧
 brB b72
 (∃ s73 : Sl, w71.cell? ⟨b30, 5, none⟩ = some (s73.val) ∧
 brB (decide ((s73.len : Int) ≤ (3 : Int)))
 (K (.bool (n35 == (2 : Int))) w71)
 (K (.bool false) w71))
 (K (.bool false) w71))
 (K (.bool false) w59))
 (K (.bool false) w47)
def hollowaylaw18_alive_an : An := ⟨[], [], []⟩
theorem hollowaylaw18_alive_lift  {w : World} {K : Value → World → Prop} (h : hollowaylaw18_alive_sh  w K) : Calls Try.prog fn_hollowaylaw18_alive #[] w fun e w' => ∃ v, e = .returned v ∧ K v w' :=
   lift_calls (A := hollowaylaw18_alive_an) (c := bodyOf Try.f35) (args := []) orc orc_wide Try.func35 (by kernel_rfl) (by kernel_rfl) (Eq.mp (by kernel_rfl : hollowaylaw18_alive_sh  w K = wpc orc Try.f35.ntmps hollowaylaw18_alive_an (bodyOf Try.f35) (argl 0 []) w (retQ orc Try.f35.results.toList K)) h)

-- holloway/hollowaylaw18.left
end Go.Proofs.Ytblmoilneiffgaa
