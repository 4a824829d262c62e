/- The lifted texts of the laws. -/
import Derived.Test.YtblmoilneiffgaaJ4

/- Functions of Hollowaylaw15, read without their frames; that each is enough. Printed by a program of mine (wip/lift/gen.py). -/
set_option maxRecDepth 100000
namespace Go.Proofs.Ytblmoilneiffgaa
open Go.RowKit

-- holloway/hollowaylaw15.EvalWatched
def hollowaylaw15_EvalWatched_sh (t__Start1 : Int) (t__Slots2 : Int) (t__Backs3 : Int) (t__Grow4 : Int) (t__GrowBack5 : Int) (t__Ins6 : Sl) (t__Outs7 : Sl) (t__Last8 : Int) (t__Cells9 : Sl) (s__Ip10 : Int) (s__Handler11 : Int) (s__Stack12 : Sl) (s__Back13 : Sl) (s__Mem14 : Sl) (s__Out15 : ByteArray) (s__In16 : ByteArray) (s__Read17 : Int) (s__Status18 : Int) (s__Code19 : Int) (w : World) (K : Value → World → Prop) : Prop :=
 ∀ (b20 : Nat) (w21 : World), b20 = w.heap.size → w21 = World.alloc w (.cells #[.int .i64 t__Start1, .int .i64 t__Slots2, .int .i64 t__Backs3, .int .i64 t__Grow4, .int .i64 t__GrowBack5, t__Ins6.val, t__Outs7.val, .int .i64 t__Last8, t__Cells9.val] T_api_Trace) →
 ∀ (b22 : Nat) (w23 : World), b22 = w21.heap.size → w23 = World.alloc w21 (.cells #[.int .i64 s__Ip10, .int .i64 s__Handler11, s__Stack12.val, s__Back13.val, s__Mem14.val, .string s__Out15, .string s__In16, .int .i64 s__Read17, .int .i64 s__Status18, .int .i64 s__Code19] T_api_State) →
 ∃ J3 : Bool → World → Prop, (∀ (b65 : Bool) (w64 : World), J3 b65 w64 →
 brB b65
 (Calls Try.prog fn_hollowaylaw15_alive #[] w64 fun e66 w67 => ∃ b68 : Bool, e66 = .returned (.bool b68) ∧
 K (.bool b68) w67)
 (∃ n69 : Int, w64.cell? ⟨b20, 0, none⟩ = some (.int .i64 n69) ∧
 wrOk w64 ⟨b22, 0, none⟩ 1 ∧ ∀ w70 : World, w70 = stW w64 ⟨b22, 0, none⟩ 0 [.int .i64 n69] →
 wrOk w70 ⟨b22, 8, none⟩ 1 ∧ ∀ w71 : World, w71 = stW w70 ⟨b22, 8, none⟩ 0 [.int .i64 (0 : Int)] →
 ∃ n_Start72 : Int, ∃ n_Slots73 : Int, ∃ n_Backs74 : Int, ∃ n_Grow75 : Int, ∃ n_GrowBack76 : Int, ∃ s_Ins77 : Sl, ∃ s_Outs78 : Sl, ∃ n_Last79 : Int, ∃ s_Cells80 : Sl, w71.cell? ⟨b20, 0, none⟩ = some (.int .i64 n_Start72) ∧ w71.cell? ⟨b20, 1, none⟩ = some (.int .i64 n_Slots73) ∧ w71.cell? ⟨b20, 2, none⟩ = some (.int .i64 n_Backs74) ∧ w71.cell? ⟨b20, 3, none⟩ = some (.int .i64 n_Grow75) ∧ w71.cell? ⟨b20, 4, none⟩ = some (.int .i64 n_GrowBack76) ∧ w71.cell? ⟨b20, 5, none⟩ = some (s_Ins77.val) ∧ w71.cell? ⟨b20, 6, none⟩ = some (s_Outs78.val) ∧ w71.cell? ⟨b20, 7, none⟩ = some (.int .i64 n_Last79) ∧ w71.cell? ⟨b20, 8, none⟩ = some (s_Cells80.val) ∧
 ∃ n_Ip81 : Int, ∃ n_Handler82 : Int, ∃ s_Stack83 : Sl, ∃ s_Back84 : Sl, ∃ s_Mem85 : Sl, ∃ t_Out86 : ByteArray, ∃ t_In87 : ByteArray, ∃ n_Read88 : Int, ∃ n_Status89 : Int, ∃ n_Code90 : Int, w71.cell? ⟨b22, 0, none⟩ = some (.int .i64 n_Ip81) ∧ w71.cell? ⟨b22, 1, none⟩ = some (.int .i64 n_Handler82) ∧ w71.cell? ⟨b22, 2, none⟩ = some (s_Stack83.val) ∧ w71.cell? ⟨b22, 3, none⟩ = some (s_Back84.val) ∧ w71.cell? ⟨b22, 4, none⟩ = some (s_Mem85.val) ∧ w71.cell? ⟨b22, 5, none⟩ = some (.string t_Out86) ∧ w71.cell? ⟨b22, 6, none⟩ = some (.string t_In87) ∧ w71.cell? ⟨b22, 7, none⟩ = some (.int .i64 n_Read88) ∧ w71.cell? ⟨b22, 8, none⟩ = some (.int .i64 n_Status89) ∧ w71.cell? ⟨b22, 9, none⟩ = some (.int .i64 n_Code90) ∧
 Calls Try.prog fn_hollowayref15_May #[.agg #[.int .i64 n_Start72, .int .i64 n_Slots73, .int .i64 n_Backs74, .int .i64 n_Grow75, .int .i64 n_GrowBack76, s_Ins77.val, s_Outs78.val, .int .i64 n_Last79, s_Cells80.val], .agg #[.int .i64 n_Ip81, .int .i64 n_Handler82, s_Stack83.val, s_Back84.val, s_Mem85.val, .string t_Out86, .string t_In87, .int .i64 n_Read88, .int .i64 n_Status89, .int .i64 n_Code90]] w71 fun e91 w92 => ∃ b93 : Bool, e91 = .returned (.bool b93) ∧
 brB (!b93)
 (K (.bool true) w92)
 (∃ (I1 : Sl → Int → World → Prop) (μ1 : Sl → Int → World → Nat), I1 (⟨none, 0, 0⟩ : Sl) (0 : Int) w92 ∧ ∀ (all97 : Sl) (k95 : Int) (w94 : World), I1 all97 k95 w94 →
 ∃ s96 : Sl, w94.cell? ⟨b22, 4, none⟩ = some (s96.val) ∧
 brB (decide (k95 < (s96.len : Int)))
 (∀ (b98 : Nat) (w99 : World), b98 = w94.heap.size → w99 = World.alloc w94 (.cells #[.int .i64 k95] T_int) →
 ∃ s100 : Sl, ∃ w101 : World, (Builtin.append_ #[T_sl_int, T_sl_int] T_sl_int #[all97.val, .slice (some ⟨b98, 0, none⟩) 1 1]).run Try.prog w99 = .ok (s100.val) w101 ∧
 I1 s100 (wr (k95 + (1 : Int))) w101 ∧ μ1 s100 (wr (k95 + (1 : Int))) w101 < μ1 all97 k95 w94)
 (∃ n_Start102 : Int, ∃ n_Slots103 : Int, ∃ n_Backs104 : Int, ∃ n_Grow105 : Int, ∃ n_GrowBack106 : Int, ∃ s_Ins107 : Sl, ∃ s_Outs108 : Sl, ∃ n_Last109 : Int, ∃ s_Cells110 : Sl, w94.cell? ⟨b20, 0, none⟩ = some (.int .i64 n_Start102) ∧ w94.cell? ⟨b20, 1, none⟩ = some (.int .i64 n_Slots103) ∧ w94.cell? ⟨b20, 2, none⟩ = some (.int .i64 n_Backs104) ∧ w94.cell? ⟨b20, 3, none⟩ = some (.int .i64 n_Grow105) ∧ w94.cell? ⟨b20, 4, none⟩ = some (.int .i64 n_GrowBack106) ∧ w94.cell? ⟨b20, 5, none⟩ = some (s_Ins107.val) ∧ w94.cell? ⟨b20, 6, none⟩ = some (s_Outs108.val) ∧ w94.cell? ⟨b20, 7, none⟩ = some (.int .i64 n_Last109) ∧ w94.cell? ⟨b20, 8, none⟩ = some (s_Cells110.val) ∧
 ∃ n_Ip111 : Int, ∃ n_Handler112 : Int, ∃ s_Stack113 : Sl, ∃ s_Back114 : Sl, ∃ s_Mem115 : Sl, ∃ t_Out116 : ByteArray, ∃ t_In117 : ByteArray, ∃ n_Read118 : Int, ∃ n_Status119 : Int, ∃ n_Code120 : Int, w94.cell? ⟨b22, 0, none⟩ = some (.int .i64 n_Ip111) ∧ w94.cell? ⟨b22, 1, none⟩ = some (.int .i64 n_Handler112) ∧ w94.cell? ⟨b22, 2, none⟩ = some (s_Stack113.val) ∧ w94.cell? ⟨b22, 3, none⟩ = some (s_Back114.val) ∧ w94.cell? ⟨b22, 4, none⟩ = some (s_Mem115.val) ∧ w94.cell? ⟨b22, 5, none⟩ = some (.string t_Out116) ∧ w94.cell? ⟨b22, 6, none⟩ = some (.string t_In117) ∧ w94.cell? ⟨b22, 7, none⟩ = some (.int .i64 n_Read118) ∧ w94.cell? ⟨b22, 8, none⟩ = some (.int .i64 n_Status119) ∧ w94.cell? ⟨b22, 9, none⟩ = some (.int .i64 n_Code120) ∧
 Calls Try.prog fn_eval_Run #[.agg #[.int .i64 n_Start102, .int .i64 n_Slots103, .int .i64 n_Backs104, .int .i64 n_Grow105, .int .i64 n_GrowBack106, s_Ins107.val, s_Outs108.val, .int .i64 n_Last109, s_Cells110.val], .agg #[.int .i64 n_Ip111, .int .i64 n_Handler112, s_Stack113.val, s_Back114.val, s_Mem115.val, .string t_Out116, .string t_In117, .int .i64 n_Read118, .int .i64 n_Status119, .int .i64 n_Code120], .slice none 0 0] w94 fun e121 w122 => ∃ n_Ip123 : Int, ∃ n_Handler124 : Int, ∃ s_Stack125 : Sl, ∃ s_Back126 : Sl, ∃ s_Mem127 : Sl, ∃ t_Out128 : ByteArray, ∃ t_In129 : ByteArray, ∃ n_Read130 : Int, ∃ n_Status131 : Int, ∃ n_Code132 : Int, ∃ n_Exit133 : Int, ∃ n_Steps134 : Int, ∃ b_Hit135 : Bool, e121 = .returned (.tuple #[.agg #[.int .i64 n_Ip123, .int .i64 n_Handler124, s_Stack125.val, s_Back126.val, s_Mem127.val, .string t_Out128, .string t_In129, .int .i64 n_Read130, .int .i64 n_Status131, .int .i64 n_Code132], .agg #[.int .i64 n_Exit133, .int .i64 n_Steps134, .bool b_Hit135]]) ∧
 ∀ (b136 : Nat) (w137 : World), b136 = w122.heap.size → w137 = World.alloc w122 (.cells #[.int .i64 (0 : Int), .int .i64 (0 : Int), .slice none 0 0, .slice none 0 0, .slice none 0 0, .string (bs []), .string (bs []), .int .i64 (0 : Int), .int .i64 (0 : Int), .int .i64 (0 : Int)] T_api_State) →
 ∀ (b138 : Nat) (w139 : World), b138 = w137.heap.size → w139 = World.alloc w137 (.cells #[.int .i64 (0 : Int), .int .i64 (0 : Int), .bool false] T_eval_Done) →
 wrOk w139 ⟨b136, 0, none⟩ 10 ∧ ∀ w140 : World, w140 = stW w139 ⟨b136, 0, none⟩ 0 [.int .i64 n_Ip123, .int .i64 n_Handler124, s_Stack125.val, s_Back126.val, s_Mem127.val, .string t_Out128, .string t_In129, .int .i64 n_Read130, .int .i64 n_Status131, .int .i64 n_Code132] →
 wrOk w140 ⟨b138, 0, none⟩ 3 ∧ ∀ w141 : World, w141 = stW w140 ⟨b138, 0, none⟩ 0 [.int .i64 n_Exit133, .int .i64 n_Steps134, .bool b_Hit135] →
 ∃ n_Start142 : Int, ∃ n_Slots143 : Int, ∃ n_Backs144 : Int, ∃ n_Grow145 : Int, ∃ n_GrowBack146 : Int, ∃ s_Ins147 : Sl, ∃ s_Outs148 : Sl, ∃ n_Last149 : Int, ∃ s_Cells150 : Sl, w141.cell? ⟨b20, 0, none⟩ = some (.int .i64 n_Start142) ∧ w141.cell? ⟨b20, 1, none⟩ = some (.int .i64 n_Slots143) ∧ w141.cell? ⟨b20, 2, none⟩ = some (.int .i64 n_Backs144) ∧ w141.cell? ⟨b20, 3, none⟩ = some (.int .i64 n_Grow145) ∧ w141.cell? ⟨b20, 4, none⟩ = some (.int .i64 n_GrowBack146) ∧ w141.cell? ⟨b20, 5, none⟩ = some (s_Ins147.val) ∧ w141.cell? ⟨b20, 6, none⟩ = some (s_Outs148.val) ∧ w141.cell? ⟨b20, 7, none⟩ = some (.int .i64 n_Last149) ∧ w141.cell? ⟨b20, 8, none⟩ = some (s_Cells150.val) ∧
 ∃ n_Ip151 : Int, ∃ n_Handler152 : Int, ∃ s_Stack153 : Sl, ∃ s_Back154 : Sl, ∃ s_Mem155 : Sl, ∃ t_Out156 : ByteArray, ∃ t_In157 : ByteArray, ∃ n_Read158 : Int, ∃ n_Status159 : Int, ∃ n_Code160 : Int, w141.cell? ⟨b22, 0, none⟩ = some (.int .i64 n_Ip151) ∧ w141.cell? ⟨b22, 1, none⟩ = some (.int .i64 n_Handler152) ∧ w141.cell? ⟨b22, 2, none⟩ = some (s_Stack153.val) ∧ w141.cell? ⟨b22, 3, none⟩ = some (s_Back154.val) ∧ w141.cell? ⟨b22, 4, none⟩ = some (s_Mem155.val) ∧ w141.cell? ⟨b22, 5, none⟩ = some (.string t_Out156) ∧ w141.cell? ⟨b22, 6, none⟩ = some (.string t_In157) ∧ w141.cell? ⟨b22, 7, none⟩ = some (.int .i64 n_Read158) ∧ w141.cell? ⟨b22, 8, none⟩ = some (.int .i64 n_Status159) ∧ w141.cell? ⟨b22, 9, none⟩ = some (.int .i64 n_Code160) ∧
 Calls Try.prog fn_eval_Run #[.agg #[.int .i64 n_Start142, .int .i64 n_Slots143, .int .i64 n_Backs144, .int .i64 n_Grow145, .int .i64 n_GrowBack146, s_Ins147.val, s_Outs148.val, .int .i64 n_Last149, s_Cells150.val], .agg #[.int .i64 n_Ip151, .int .i64 n_Handler152, s_Stack153.val, s_Back154.val, s_Mem155.val, .string t_Out156, .string t_In157, .int .i64 n_Read158, .int .i64 n_Status159, .int .i64 n_Code160], all97.val] w141 fun e161 w162 => ∃ n_Ip163 : Int, ∃ n_Handler164 : Int, ∃ s_Stack165 : Sl, ∃ s_Back166 : Sl, ∃ s_Mem167 : Sl, ∃ t_Out168 : ByteArray, ∃ t_In169 : ByteArray, ∃ n_Read170 : Int, ∃ n_Status171 : Int, ∃ n_Code172 : Int, ∃ n_Exit173 : Int, ∃ n_Steps174 : Int, ∃ b_Hit175 : Bool, e161 = .returned (.tuple #[.agg #[.int .i64 n_Ip163, .int .i64 n_Handler164, s_Stack165.val, s_Back166.val, s_Mem167.val, .string t_Out168, .string t_In169, .int .i64 n_Read170, .int .i64 n_Status171, .int .i64 n_Code172], .agg #[.int .i64 n_Exit173, .int .i64 n_Steps174, .bool b_Hit175]]) ∧
 ∀ (b176 : Nat) (w177 : World), b176 = w162.heap.size → w177 = World.alloc w162 (.cells #[.int .i64 (0 : Int), .int .i64 (0 : Int), .slice none 0 0, .slice none 0 0, .slice none 0 0, .string (bs []), .string (bs []), .int .i64 (0 : Int), .int .i64 (0 : Int), .int .i64 (0 : Int)] T_api_State) →
 ∀ (b178 : Nat) (w179 : World), b178 = w177.heap.size → w179 = World.alloc w177 (.cells #[.int .i64 (0 : Int), .int .i64 (0 : Int), .bool false] T_eval_Done) →
 wrOk w179 ⟨b176, 0, none⟩ 10 ∧ ∀ w180 : World, w180 = stW w179 ⟨b176, 0, none⟩ 0 [.int .i64 n_Ip163, .int .i64 n_Handler164, s_Stack165.val, s_Back166.val, s_Mem167.val, .string t_Out168, .string t_In169, .int .i64 n_Read170, .int .i64 n_Status171, .int .i64 n_Code172] →
 wrOk w180 ⟨b178, 0, none⟩ 3 ∧ ∀ w181 : World, w181 = stW w180 ⟨b178, 0, none⟩ 0 [.int .i64 n_Exit173, .int .i64 n_Steps174, .bool b_Hit175] →
 ∃ b182 : Bool, w181.cell? ⟨b138, 2, none⟩ = some (.bool b182) ∧
 brB b182
 (K (.bool false) w181)
 (∃ J22 : Bool → World → Prop, (∀ (b188 : Bool) (w187 : World), J22 b188 w187 →
 brB b188
 (K (.bool false) w187)
 (∃ (I2 : Int → Int → World → Prop) (μ2 : Int → Int → World → Nat), I2 (0 : Int) (0 : Int) w187 ∧ ∀ (changed199 : Int) (k190 : Int) (w189 : World), I2 changed199 k190 w189 →
 ∃ s191 : Sl, w189.cell? ⟨b176, 4, none⟩ = some (s191.val) ∧
 brB (decide (k190 < (s191.len : Int)))
 (∃ J28 : Int → World → Prop, (∀ (changed235 : Int) (w200 : World), J28 changed235 w200 →
 I2 changed235 (wr (k190 + (1 : Int))) w200 ∧ μ2 changed235 (wr (k190 + (1 : Int))) w200 < μ2 changed199 k190 w189) ∧
 ∀ w192 : World, w192 = World.drew w189 →
 ∃ s193 : Sl, held (Lw w192) ⟨b176, 4, none⟩ (s193.val) ∧
 ∃ a194 : Addr, s193.ptr = some a194 ∧ 0 ≤ k190 ∧ k190 < (s193.len : Int) ∧
 ∃ n195 : Int, held (Lw w192) (Addr.add a194 (Int.toNat k190 * 1)) (.int .i64 n195) ∧
 ∃ s196 : Sl, held (Lw w192) ⟨b22, 4, none⟩ (s196.val) ∧
 ∃ a197 : Addr, s196.ptr = some a197 ∧ 0 ≤ k190 ∧ k190 < (s196.len : Int) ∧
 ∃ n198 : Int, held (Lw w192) (Addr.add a197 (Int.toNat k190 * 1)) (.int .i64 n198) ∧
 brB (n195 != n198)
 (J28 (wr (changed199 + (1 : Int))) w192)
 (J28 changed199 w192))
 (∃ b201 : Bool, w189.cell? ⟨b178, 2, none⟩ = some (.bool b201) ∧
 brB b201
 (K (.bool (decide (changed199 ≤ (1 : Int)))) w189)
 (brB (changed199 == (0 : Int))
 (∃ n_Exit202 : Int, ∃ n_Steps203 : Int, ∃ b_Hit204 : Bool, w189.cell? ⟨b138, 0, none⟩ = some (.int .i64 n_Exit202) ∧ w189.cell? ⟨b138, 1, none⟩ = some (.int .i64 n_Steps203) ∧ w189.cell? ⟨b138, 2, none⟩ = some (.bool b_Hit204) ∧
 ∃ n_Exit205 : Int, ∃ n_Steps206 : Int, ∃ b_Hit207 : Bool, w189.cell? ⟨b178, 0, none⟩ = some (.int .i64 n_Exit205) ∧ w189.cell? ⟨b178, 1, none⟩ = some (.int .i64 n_Steps206) ∧ w189.cell? ⟨b178, 2, none⟩ = some (.bool b_Hit207) ∧
 ∃ b208 : Bool, ∃ w209 : World, ((do eqGuard .eql T_eval_Done (.tmp 108) (.tmp 109) (.agg #[.int .i64 n_Exit202, .int .i64 n_Steps203, .bool b_Hit204]) (.agg #[.int .i64 n_Exit205, .int .i64 n_Steps206, .bool b_Hit207]); binOp .eql T_eval_Done (.agg #[.int .i64 n_Exit202, .int .i64 n_Steps203, .bool b_Hit204]) (.agg #[.int .i64 n_Exit205, .int .i64 n_Steps206, .bool b_Hit207]) : Sem Value)).run Try.prog w189 = .ok (.bool b208) w209 ∧
 brB b208
 (∃ n_Ip210 : Int, ∃ n_Handler211 : Int, ∃ s_Stack212 : Sl, ∃ s_Back213 : Sl, ∃ s_Mem214 : Sl, ∃ t_Out215 : ByteArray, ∃ t_In216 : ByteArray, ∃ n_Read217 : Int, ∃ n_Status218 : Int, ∃ n_Code219 : Int, w209.cell? ⟨b136, 0, none⟩ = some (.int .i64 n_Ip210) ∧ w209.cell? ⟨b136, 1, none⟩ = some (.int .i64 n_Handler211) ∧ w209.cell? ⟨b136, 2, none⟩ = some (s_Stack212.val) ∧ w209.cell? ⟨b136, 3, none⟩ = some (s_Back213.val) ∧ w209.cell? ⟨b136, 4, none⟩ = some (s_Mem214.val) ∧ w209.cell? ⟨b136, 5, none⟩ = some (.string t_Out215) ∧ w209.cell? ⟨b136, 6, none⟩ = some (.string t_In216) ∧ w209.cell? ⟨b136, 7, none⟩ = some (.int .i64 n_Read217) ∧ w209.cell? ⟨b136, 8, none⟩ = some (.int .i64 n_Status218) ∧ w209.cell? ⟨b136, 9, none⟩ = some (.int .i64 n_Code219) ∧
 ∃ n_Ip220 : Int, ∃ n_Handler221 : Int, ∃ s_Stack222 : Sl, ∃ s_Back223 : Sl, ∃ s_Mem224 : Sl, ∃ t_Out225 : ByteArray, ∃ t_In226 : ByteArray, ∃ n_Read227 : Int, ∃ n_Status228 : Int, ∃ n_Code229 : Int, w209.cell? ⟨b176, 0, none⟩ = some (.int .i64 n_Ip220) ∧ w209.cell? ⟨b176, 1, none⟩ = some (.int .i64 n_Handler221) ∧ w209.cell? ⟨b176, 2, none⟩ = some (s_Stack222.val) ∧ w209.cell? ⟨b176, 3, none⟩ = some (s_Back223.val) ∧ w209.cell? ⟨b176, 4, none⟩ = some (s_Mem224.val) ∧ w209.cell? ⟨b176, 5, none⟩ = some (.string t_Out225) ∧ w209.cell? ⟨b176, 6, none⟩ = some (.string t_In226) ∧ w209.cell? ⟨b176, 7, none⟩ = some (.int .i64 n_Read227) ∧ w209.cell? ⟨b176, 8, none⟩ = some (.int .i64 n_Status228) ∧ w209.cell? ⟨b176, 9, none⟩ = some (.int .i64 n_Code229) ∧
 Calls Try.prog fn_hollowaybook_SameState #[.agg #[.int .i64 n_Ip210, .int .i64 n_Handler211, s_Stack212.val, s_Back213.val, s_Mem214.val, .string t_Out215, .string t_In216, .int .i64 n_Read217, .int .i64 n_Status218, .int .i64 n_Code219], .agg #[.int .i64 n_Ip220, .int .i64 n_Handler221, s_Stack222.val, s_Back223.val, s_Mem224.val, .string t_Out225, .string t_In226, .int .i64 n_Read227, .int .i64 n_Status228, .int .i64 n_Code229]] w209 fun e230 w231 => ∃ b232 : Bool, e230 = .returned (.bool b232) ∧
 K (.bool b232) w231)
 (K (.bool false) w209))
 (K (.bool false) w189))))) ∧
 ∃ s183 : Sl, w181.cell? ⟨b136, 4, none⟩ = some (s183.val) ∧
 ∃ s184 : Sl, w181.cell? ⟨b22, 4, none⟩ = some (s184.val) ∧
 brB ((s183.len : Int) != (s184.len : Int))
 (J22 true w181)
 (∃ s185 : Sl, w181.cell? ⟨b176, 4, none⟩ = some (s185.val) ∧
 ∃ s186 : Sl, w181.cell? ⟨b22, 4, none⟩ = some (s186.val) ∧
 J22 ((s185.len : Int) != (s186.len : Int)) w181)))))) ∧
 ∃ n_Start24 : Int, ∃ n_Slots25 : Int, ∃ n_Backs26 : Int, ∃ n_Grow27 : Int, ∃ n_GrowBack28 : Int, ∃ s_Ins29 : Sl, ∃ s_Outs30 : Sl, ∃ n_Last31 : Int, ∃ s_Cells32 : Sl, w23.cell? ⟨b20, 0, none⟩ = some (.int .i64 n_Start24) ∧ w23.cell? ⟨b20, 1, none⟩ = some (.int .i64 n_Slots25) ∧ w23.cell? ⟨b20, 2, none⟩ = some (.int .i64 n_Backs26) ∧ w23.cell? ⟨b20, 3, none⟩ = some (.int .i64 n_Grow27) ∧ w23.cell? ⟨b20, 4, none⟩ = some (.int .i64 n_GrowBack28) ∧ w23.cell? ⟨b20, 5, none⟩ = some (s_Ins29.val) ∧ w23.cell? ⟨b20, 6, none⟩ = some (s_Outs30.val) ∧ w23.cell? ⟨b20, 7, none⟩ = some (.int .i64 n_Last31) ∧ w23.cell? ⟨b20, 8, none⟩ = some (s_Cells32.val) ∧
 Calls Try.prog fn_hollowaylaw14_Light #[.agg #[.int .i64 n_Start24, .int .i64 n_Slots25, .int .i64 n_Backs26, .int .i64 n_Grow27, .int .i64 n_GrowBack28, s_Ins29.val, s_Outs30.val, .int .i64 n_Last31, s_Cells32.val]] w23 fun e33 w34 => ∃ b35 : Bool, e33 = .returned (.bool b35) ∧
 brB (!b35)
 (J3 true w34)
 (∃ n_Ip36 : Int, ∃ n_Handler37 : Int, ∃ s_Stack38 : Sl, ∃ s_Back39 : Sl, ∃ s_Mem40 : Sl, ∃ t_Out41 : ByteArray, ∃ t_In42 : ByteArray, ∃ n_Read43 : Int, ∃ n_Status44 : Int, ∃ n_Code45 : Int, w34.cell? ⟨b22, 0, none⟩ = some (.int .i64 n_Ip36) ∧ w34.cell? ⟨b22, 1, none⟩ = some (.int .i64 n_Handler37) ∧ w34.cell? ⟨b22, 2, none⟩ = some (s_Stack38.val) ∧ w34.cell? ⟨b22, 3, none⟩ = some (s_Back39.val) ∧ w34.cell? ⟨b22, 4, none⟩ = some (s_Mem40.val) ∧ w34.cell? ⟨b22, 5, none⟩ = some (.string t_Out41) ∧ w34.cell? ⟨b22, 6, none⟩ = some (.string t_In42) ∧ w34.cell? ⟨b22, 7, none⟩ = some (.int .i64 n_Read43) ∧ w34.cell? ⟨b22, 8, none⟩ = some (.int .i64 n_Status44) ∧ w34.cell? ⟨b22, 9, none⟩ = some (.int .i64 n_Code45) ∧
 Calls Try.prog fn_hollowaylaw9_Light #[.agg #[.int .i64 n_Ip36, .int .i64 n_Handler37, s_Stack38.val, s_Back39.val, s_Mem40.val, .string t_Out41, .string t_In42, .int .i64 n_Read43, .int .i64 n_Status44, .int .i64 n_Code45]] w34 fun e46 w47 => ∃ b48 : Bool, e46 = .returned (.bool b48) ∧
 brB (!b48)
 (J3 true w47)
 (∃ n_Start49 : Int, ∃ n_Slots50 : Int, ∃ n_Backs51 : Int, ∃ n_Grow52 : Int, ∃ n_GrowBack53 : Int, ∃ s_Ins54 : Sl, ∃ s_Outs55 : Sl, ∃ n_Last56 : Int, ∃ s_Cells57 : Sl, w47.cell? ⟨b20, 0, none⟩ = some (.int .i64 n_Start49) ∧ w47.cell? ⟨b20, 1, none⟩ = some (.int .i64 n_Slots50) ∧ w47.cell? ⟨b20, 2, none⟩ = some (.int .i64 n_Backs51) ∧ w47.cell? ⟨b20, 3, none⟩ = some (.int .i64 n_Grow52) ∧ w47.cell? ⟨b20, 4, none⟩ = some (.int .i64 n_GrowBack53) ∧ w47.cell? ⟨b20, 5, none⟩ = some (s_Ins54.val) ∧ w47.cell? ⟨b20, 6, none⟩ = some (s_Outs55.val) ∧ w47.cell? ⟨b20, 7, none⟩ = some (.int .i64 n_Last56) ∧ w47.cell? ⟨b20, 8, none⟩ = some (s_Cells57.val) ∧
 Calls Try.prog fn_hollowayref15_Right #[.agg #[.int .i64 n_Start49, .int .i64 n_Slots50, .int .i64 n_Backs51, .int .i64 n_Grow52, .int .i64 n_GrowBack53, s_Ins54.val, s_Outs55.val, .int .i64 n_Last56, s_Cells57.val]] w47 fun e58 w59 => ∃ b60 : Bool, e58 = .returned (.bool b60) ∧
 brB (!b60)
 (J3 true w59)
 (Calls Try.prog fn_hollowaylaw15_alive #[] w59 fun e61 w62 => ∃ b63 : Bool, e61 = .returned (.bool b63) ∧
 J3 (!b63) w62)))
def hollowaylaw15_EvalWatched_an : An := ⟨[(8, [(5, .sl), (6, .int .i64)]), (19, [(11, .int .i64), (12, .int .i64)])], [(21, (11, .st 0 (.st 1 (.st 2 (.st 3 (.st 4 (.st 5 (.st 6 (.st 7 (.st 8 (.st 9 (.st 10 .done)))))))))), 0))], [(2, [(29, .bool)]), (17, [(80, .bool)]), (20, [(11, .int .i64)])]⟩
theorem hollowaylaw15_EvalWatched_lift {t__Start1 : Int} {t__Slots2 : Int} {t__Backs3 : Int} {t__Grow4 : Int} {t__GrowBack5 : Int} {t__Ins6 : Sl} {t__Outs7 : Sl} {t__Last8 : Int} {t__Cells9 : Sl} {s__Ip10 : Int} {s__Handler11 : Int} {s__Stack12 : Sl} {s__Back13 : Sl} {s__Mem14 : Sl} {s__Out15 : ByteArray} {s__In16 : ByteArray} {s__Read17 : Int} {s__Status18 : Int} {s__Code19 : Int} {w : World} {K : Value → World → Prop} (h : hollowaylaw15_EvalWatched_sh t__Start1 t__Slots2 t__Backs3 t__Grow4 t__GrowBack5 t__Ins6 t__Outs7 t__Last8 t__Cells9 s__Ip10 s__Handler11 s__Stack12 s__Back13 s__Mem14 s__Out15 s__In16 s__Read17 s__Status18 s__Code19 w K) : Calls Try.prog fn_hollowaylaw15_EvalWatched #[.agg #[.int .i64 t__Start1, .int .i64 t__Slots2, .int .i64 t__Backs3, .int .i64 t__Grow4, .int .i64 t__GrowBack5, t__Ins6.val, t__Outs7.val, .int .i64 t__Last8, t__Cells9.val], .agg #[.int .i64 s__Ip10, .int .i64 s__Handler11, s__Stack12.val, s__Back13.val, s__Mem14.val, .string s__Out15, .string s__In16, .int .i64 s__Read17, .int .i64 s__Status18, .int .i64 s__Code19]] w fun e w' => ∃ v, e = .returned v ∧ K v w' :=
   lift_calls (A := hollowaylaw15_EvalWatched_an) (c := bodyOf Try.f3) (args := [.agg #[.int .i64 t__Start1, .int .i64 t__Slots2, .int .i64 t__Backs3, .int .i64 t__Grow4, .int .i64 t__GrowBack5, t__Ins6.val, t__Outs7.val, .int .i64 t__Last8, t__Cells9.val], .agg #[.int .i64 s__Ip10, .int .i64 s__Handler11, s__Stack12.val, s__Back13.val, s__Mem14.val, .string s__Out15, .string s__In16, .int .i64 s__Read17, .int .i64 s__Status18, .int .i64 s__Code19]]) orc orc_wide Try.func3 (by kernel_rfl) (by kernel_rfl) (Eq.mp (by kernel_rfl : hollowaylaw15_EvalWatched_sh t__Start1 t__Slots2 t__Backs3 t__Grow4 t__GrowBack5 t__Ins6 t__Outs7 t__Last8 t__Cells9 s__Ip10 s__Handler11 s__Stack12 s__Back13 s__Mem14 s__Out15 s__In16 s__Read17 s__Status18 s__Code19 w K = wpc orc Try.f3.ntmps hollowaylaw15_EvalWatched_an (bodyOf Try.f3) (argl 0 [.agg #[.int .i64 t__Start1, .int .i64 t__Slots2, .int .i64 t__Backs3, .int .i64 t__Grow4, .int .i64 t__GrowBack5, t__Ins6.val, t__Outs7.val, .int .i64 t__Last8, t__Cells9.val], .agg #[.int .i64 s__Ip10, .int .i64 s__Handler11, s__Stack12.val, s__Back13.val, s__Mem14.val, .string s__Out15, .string s__In16, .int .i64 s__Read17, .int .i64 s__Status18, .int .i64 s__Code19]]) w (retQ orc Try.f3.results.toList K)) h)

-- holloway/hollowaylaw15.EvalEmpty
def hollowaylaw15_EvalEmpty_sh (s__Ip1 : Int) (s__Handler2 : Int) (s__Stack3 : Sl) (s__Back4 : Sl) (s__Mem5 : Sl) (s__Out6 : ByteArray) (s__In7 : ByteArray) (s__Read8 : Int) (s__Status9 : Int) (s__Code10 : Int) (slots11 : Int) (backs12 : Int) (ip13 : Int) (w : World) (K : Value → World → Prop) : Prop :=
 ∀ (b14 : Nat) (w15 : World), b14 = w.heap.size → w15 = World.alloc w (.cells #[.int .i64 s__Ip1, .int .i64 s__Handler2, s__Stack3.val, s__Back4.val, s__Mem5.val, .string s__Out6, .string s__In7, .int .i64 s__Read8, .int .i64 s__Status9, .int .i64 s__Code10] T_api_State) →
 ∃ J3 : Bool → World → Prop, (∀ (b37 : Bool) (w36 : World), J3 b37 w36 →
 brB b37
 (Calls Try.prog fn_hollowaylaw15_alive #[] w36 fun e38 w39 => ∃ b40 : Bool, e38 = .returned (.bool b40) ∧
 K (.bool b40) w39)
 (wrOk w36 ⟨b14, 8, none⟩ 1 ∧ ∀ w41 : World, w41 = stW w36 ⟨b14, 8, none⟩ 0 [.int .i64 (0 : Int)] →
 ∃ n42 : Int, w41.cell? ⟨b14, 0, none⟩ = some (.int .i64 n42) ∧
 ∀ (b43 : Nat) (w44 : World), b43 = w41.heap.size → w44 = World.alloc w41 (.cells #[.int .i64 ip13, .int .i64 (1 : Int), .slice none 0 0, .slice none 0 0] T_api_Out) →
 ∀ (b45 : Nat) (w46 : World), b45 = w44.heap.size → w46 = World.alloc w44 (.cells #[.int .i64 (0 : Int), .int .i64 (0 : Int), .int .i64 (0 : Int), .int .i64 (0 : Int), .int .i64 (0 : Int), .slice none 0 0, .slice none 0 0, .int .i64 (0 : Int), .slice none 0 0] T_api_Trace) →
 wrOk w46 ⟨b45, 0, none⟩ 9 ∧ ∀ w47 : World, w47 = stW w46 ⟨b45, 0, none⟩ 0 [.int .i64 n42, .int .i64 slots11, .int .i64 backs12, .int .i64 (0 : Int), .int .i64 (0 : Int), .slice none 0 0, .slice (some ⟨b43, 0, none⟩) 1 1, .int .i64 (0 : Int), .slice none 0 0] →
 ∃ n_Start48 : Int, ∃ n_Slots49 : Int, ∃ n_Backs50 : Int, ∃ n_Grow51 : Int, ∃ n_GrowBack52 : Int, ∃ s_Ins53 : Sl, ∃ s_Outs54 : Sl, ∃ n_Last55 : Int, ∃ s_Cells56 : Sl, w47.cell? ⟨b45, 0, none⟩ = some (.int .i64 n_Start48) ∧ w47.cell? ⟨b45, 1, none⟩ = some (.int .i64 n_Slots49) ∧ w47.cell? ⟨b45, 2, none⟩ = some (.int .i64 n_Backs50) ∧ w47.cell? ⟨b45, 3, none⟩ = some (.int .i64 n_Grow51) ∧ w47.cell? ⟨b45, 4, none⟩ = some (.int .i64 n_GrowBack52) ∧ w47.cell? ⟨b45, 5, none⟩ = some (s_Ins53.val) ∧ w47.cell? ⟨b45, 6, none⟩ = some (s_Outs54.val) ∧ w47.cell? ⟨b45, 7, none⟩ = some (.int .i64 n_Last55) ∧ w47.cell? ⟨b45, 8, none⟩ = some (s_Cells56.val) ∧
 ∃ n_Ip57 : Int, ∃ n_Handler58 : Int, ∃ s_Stack59 : Sl, ∃ s_Back60 : Sl, ∃ s_Mem61 : Sl, ∃ t_Out62 : ByteArray, ∃ t_In63 : ByteArray, ∃ n_Read64 : Int, ∃ n_Status65 : Int, ∃ n_Code66 : Int, w47.cell? ⟨b14, 0, none⟩ = some (.int .i64 n_Ip57) ∧ w47.cell? ⟨b14, 1, none⟩ = some (.int .i64 n_Handler58) ∧ w47.cell? ⟨b14, 2, none⟩ = some (s_Stack59.val) ∧ w47.cell? ⟨b14, 3, none⟩ = some (s_Back60.val) ∧ w47.cell? ⟨b14, 4, none⟩ = some (s_Mem61.val) ∧ w47.cell? ⟨b14, 5, none⟩ = some (.string t_Out62) ∧ w47.cell? ⟨b14, 6, none⟩ = some (.string t_In63) ∧ w47.cell? ⟨b14, 7, none⟩ = some (.int .i64 n_Read64) ∧ w47.cell? ⟨b14, 8, none⟩ = some (.int .i64 n_Status65) ∧ w47.cell? ⟨b14, 9, none⟩ = some (.int .i64 n_Code66) ∧
 Calls Try.prog fn_eval_Run #[.agg #[.int .i64 n_Start48, .int .i64 n_Slots49, .int .i64 n_Backs50, .int .i64 n_Grow51, .int .i64 n_GrowBack52, s_Ins53.val, s_Outs54.val, .int .i64 n_Last55, s_Cells56.val], .agg #[.int .i64 n_Ip57, .int .i64 n_Handler58, s_Stack59.val, s_Back60.val, s_Mem61.val, .string t_Out62, .string t_In63, .int .i64 n_Read64, .int .i64 n_Status65, .int .i64 n_Code66], .slice none 0 0] w47 fun e67 w68 => ∃ n_Ip69 : Int, ∃ n_Handler70 : Int, ∃ s_Stack71 : Sl, ∃ s_Back72 : Sl, ∃ s_Mem73 : Sl, ∃ t_Out74 : ByteArray, ∃ t_In75 : ByteArray, ∃ n_Read76 : Int, ∃ n_Status77 : Int, ∃ n_Code78 : Int, ∃ n_Exit79 : Int, ∃ n_Steps80 : Int, ∃ b_Hit81 : Bool, e67 = .returned (.tuple #[.agg #[.int .i64 n_Ip69, .int .i64 n_Handler70, s_Stack71.val, s_Back72.val, s_Mem73.val, .string t_Out74, .string t_In75, .int .i64 n_Read76, .int .i64 n_Status77, .int .i64 n_Code78], .agg #[.int .i64 n_Exit79, .int .i64 n_Steps80, .bool b_Hit81]]) ∧
 ∀ (b82 : Nat) (w83 : World), b82 = w68.heap.size → w83 = World.alloc w68 (.cells #[.int .i64 (0 : Int), .int .i64 (0 : Int), .slice none 0 0, .slice none 0 0, .slice none 0 0, .string (bs []), .string (bs []), .int .i64 (0 : Int), .int .i64 (0 : Int), .int .i64 (0 : Int)] T_api_State) →
 ∀ (b84 : Nat) (w85 : World), b84 = w83.heap.size → w85 = World.alloc w83 (.cells #[.int .i64 (0 : Int), .int .i64 (0 : Int), .bool false] T_eval_Done) →
 wrOk w85 ⟨b82, 0, none⟩ 10 ∧ ∀ w86 : World, w86 = stW w85 ⟨b82, 0, none⟩ 0 [.int .i64 n_Ip69, .int .i64 n_Handler70, s_Stack71.val, s_Back72.val, s_Mem73.val, .string t_Out74, .string t_In75, .int .i64 n_Read76, .int .i64 n_Status77, .int .i64 n_Code78] →
 wrOk w86 ⟨b84, 0, none⟩ 3 ∧ ∀ w87 : World, w87 = stW w86 ⟨b84, 0, none⟩ 0 [.int .i64 n_Exit79, .int .i64 n_Steps80, .bool b_Hit81] →
 ∀ w88 : World, w88 = World.drew w87 →
 ∃ S89 : World → Prop, S89 w88 ∧
 ∃ n_Start90 : Int, ∃ n_Slots91 : Int, ∃ n_Backs92 : Int, ∃ n_Grow93 : Int, ∃ n_GrowBack94 : Int, ∃ s_Ins95 : Sl, ∃ s_Outs96 : Sl, ∃ n_Last97 : Int, ∃ s_Cells98 : Sl, held S89 ⟨b45, 0, none⟩ (.int .i64 n_Start90) ∧ held S89 ⟨b45, 1, none⟩ (.int .i64 n_Slots91) ∧ held S89 ⟨b45, 2, none⟩ (.int .i64 n_Backs92) ∧ held S89 ⟨b45, 3, none⟩ (.int .i64 n_Grow93) ∧ held S89 ⟨b45, 4, none⟩ (.int .i64 n_GrowBack94) ∧ held S89 ⟨b45, 5, none⟩ (s_Ins95.val) ∧ held S89 ⟨b45, 6, none⟩ (s_Outs96.val) ∧ held S89 ⟨b45, 7, none⟩ (.int .i64 n_Last97) ∧ held S89 ⟨b45, 8, none⟩ (s_Cells98.val) ∧
 ∃ n_Ip99 : Int, ∃ n_Handler100 : Int, ∃ s_Stack101 : Sl, ∃ s_Back102 : Sl, ∃ s_Mem103 : Sl, ∃ t_Out104 : ByteArray, ∃ t_In105 : ByteArray, ∃ n_Read106 : Int, ∃ n_Status107 : Int, ∃ n_Code108 : Int, held S89 ⟨b14, 0, none⟩ (.int .i64 n_Ip99) ∧ held S89 ⟨b14, 1, none⟩ (.int .i64 n_Handler100) ∧ held S89 ⟨b14, 2, none⟩ (s_Stack101.val) ∧ held S89 ⟨b14, 3, none⟩ (s_Back102.val) ∧ held S89 ⟨b14, 4, none⟩ (s_Mem103.val) ∧ held S89 ⟨b14, 5, none⟩ (.string t_Out104) ∧ held S89 ⟨b14, 6, none⟩ (.string t_In105) ∧ held S89 ⟨b14, 7, none⟩ (.int .i64 n_Read106) ∧ held S89 ⟨b14, 8, none⟩ (.int .i64 n_Status107) ∧ held S89 ⟨b14, 9, none⟩ (.int .i64 n_Code108) ∧
 Calls Try.prog fn_eval_May #[.agg #[.int .i64 n_Start90, .int .i64 n_Slots91, .int .i64 n_Backs92, .int .i64 n_Grow93, .int .i64 n_GrowBack94, s_Ins95.val, s_Outs96.val, .int .i64 n_Last97, s_Cells98.val], .agg #[.int .i64 n_Ip99, .int .i64 n_Handler100, s_Stack101.val, s_Back102.val, s_Mem103.val, .string t_Out104, .string t_In105, .int .i64 n_Read106, .int .i64 n_Status107, .int .i64 n_Code108]] w88 fun e109 w110 => ∃ b111 : Bool, e109 = .returned (.bool b111) ∧
 S89 w110 ∧
 brB b111
 (∃ n_Exit112 : Int, ∃ n_Steps113 : Int, ∃ b_Hit114 : Bool, held S89 ⟨b84, 0, none⟩ (.int .i64 n_Exit112) ∧ held S89 ⟨b84, 1, none⟩ (.int .i64 n_Steps113) ∧ held S89 ⟨b84, 2, none⟩ (.bool b_Hit114) ∧
 S89 w110 ∧
 ∃ b115 : Bool, ∃ w116 : World, ((do eqGuard .eql T_eval_Done (.tmp 79) (.tmp 80) (.agg #[.int .i64 n_Exit112, .int .i64 n_Steps113, .bool b_Hit114]) (.agg #[.int .i64 (0 : Int), .int .i64 (1 : Int), .bool false]); binOp .eql T_eval_Done (.agg #[.int .i64 n_Exit112, .int .i64 n_Steps113, .bool b_Hit114]) (.agg #[.int .i64 (0 : Int), .int .i64 (1 : Int), .bool false]) : Sem Value)).run Try.prog w110 = .ok (.bool b115) w116 ∧
 S89 w116 ∧
 brB b115
 (∃ n117 : Int, held S89 ⟨b82, 0, none⟩ (.int .i64 n117) ∧
 brB (n117 == ip13)
 (∃ s118 : Sl, held S89 ⟨b82, 2, none⟩ (s118.val) ∧
 ∃ s119 : Sl, held S89 ⟨b14, 2, none⟩ (s119.val) ∧
 ∃ s120 : Sl, held S89 ⟨b14, 2, none⟩ (s120.val) ∧
 0 ≤ (wr ((s120.len : Int) - slots11)) ∧ (wr ((s120.len : Int) - slots11)) ≤ (s119.cap : Int) ∧ 
 Calls Try.prog fn_hollowaybook_SameInts #[s118.val, (Sl.sub s119.ptr s119.cap 0 (Int.toNat (wr ((s120.len : Int) - slots11))) 1).val] w116 fun e121 w122 => ∃ b123 : Bool, e121 = .returned (.bool b123) ∧
 S89 w122 ∧
 brB b123
 (∃ s124 : Sl, held S89 ⟨b82, 3, none⟩ (s124.val) ∧
 ∃ s125 : Sl, held S89 ⟨b14, 3, none⟩ (s125.val) ∧
 ∃ s126 : Sl, held S89 ⟨b14, 3, none⟩ (s126.val) ∧
 0 ≤ (wr ((s126.len : Int) - backs12)) ∧ (wr ((s126.len : Int) - backs12)) ≤ (s125.cap : Int) ∧ 
 Calls Try.prog fn_hollowaybook_SameInts #[s124.val, (Sl.sub s125.ptr s125.cap 0 (Int.toNat (wr ((s126.len : Int) - backs12))) 1).val] w122 fun e127 w128 => ∃ b129 : Bool, e127 = .returned (.bool b129) ∧
 S89 w128 ∧
 brB b129
 (∃ s130 : Sl, held S89 ⟨b82, 4, none⟩ (s130.val) ∧
 ∃ s131 : Sl, held S89 ⟨b14, 4, none⟩ (s131.val) ∧
 Calls Try.prog fn_hollowaybook_SameInts #[s130.val, s131.val] w128 fun e132 w133 => ∃ b134 : Bool, e132 = .returned (.bool b134) ∧
 S89 w133 ∧
 brB b134
 (∃ t135 : ByteArray, held S89 ⟨b82, 5, none⟩ (.string t135) ∧
 ∃ t136 : ByteArray, held S89 ⟨b14, 5, none⟩ (.string t136) ∧
 brB (t135.toList == t136.toList)
 (∃ n137 : Int, held S89 ⟨b82, 7, none⟩ (.int .i64 n137) ∧
 ∃ n138 : Int, held S89 ⟨b14, 7, none⟩ (.int .i64 n138) ∧
 K (.bool (n137 == n138)) w133)
 (K (.bool false) w133))
 (K (.bool false) w133))
 (K (.bool false) w128))
 (K (.bool false) w122))
 (K (.bool false) w116))
 (K (.bool false) w116))
 (K (.bool false) w110))) ∧
 ∃ n_Ip16 : Int, ∃ n_Handler17 : Int, ∃ s_Stack18 : Sl, ∃ s_Back19 : Sl, ∃ s_Mem20 : Sl, ∃ t_Out21 : ByteArray, ∃ t_In22 : ByteArray, ∃ n_Read23 : Int, ∃ n_Status24 : Int, ∃ n_Code25 : Int, w15.cell? ⟨b14, 0, none⟩ = some (.int .i64 n_Ip16) ∧ w15.cell? ⟨b14, 1, none⟩ = some (.int .i64 n_Handler17) ∧ w15.cell? ⟨b14, 2, none⟩ = some (s_Stack18.val) ∧ w15.cell? ⟨b14, 3, none⟩ = some (s_Back19.val) ∧ w15.cell? ⟨b14, 4, none⟩ = some (s_Mem20.val) ∧ w15.cell? ⟨b14, 5, none⟩ = some (.string t_Out21) ∧ w15.cell? ⟨b14, 6, none⟩ = some (.string t_In22) ∧ w15.cell? ⟨b14, 7, none⟩ = some (.int .i64 n_Read23) ∧ w15.cell? ⟨b14, 8, none⟩ = some (.int .i64 n_Status24) ∧ w15.cell? ⟨b14, 9, none⟩ = some (.int .i64 n_Code25) ∧
 Calls Try.prog fn_hollowaylaw9_Light #[.agg #[.int .i64 n_Ip16, .int .i64 n_Handler17, s_Stack18.val, s_Back19.val, s_Mem20.val, .string t_Out21, .string t_In22, .int .i64 n_Read23, .int .i64 n_Status24, .int .i64 n_Code25]] w15 fun e26 w27 => ∃ b28 : Bool, e26 = .returned (.bool b28) ∧
 brB (!b28)
 (J3 true w27)
 (brB (decide (slots11 < (0 : Int)))
 (J3 true w27)
 (brB (decide (backs12 < (0 : Int)))
 (J3 true w27)
 (∃ s29 : Sl, w27.cell? ⟨b14, 2, none⟩ = some (s29.val) ∧
 brB (decide (slots11 > (s29.len : Int)))
 (J3 true w27)
 (∃ s30 : Sl, w27.cell? ⟨b14, 3, none⟩ = some (s30.val) ∧
 brB (decide (backs12 > (s30.len : Int)))
 (J3 true w27)
 (brB (decide (ip13 < (0 : Int)))
 (J3 true w27)
 (brB (decide (ip13 ≥ (3000 : Int)))
 (J3 true w27)
 (∃ n31 : Int, w27.cell? ⟨b14, 0, none⟩ = some (.int .i64 n31) ∧
 brB (decide (n31 < (0 : Int)))
 (J3 true w27)
 (∃ n32 : Int, w27.cell? ⟨b14, 0, none⟩ = some (.int .i64 n32) ∧
 brB (decide (n32 ≥ (3000 : Int)))
 (J3 true w27)
 (Calls Try.prog fn_hollowaylaw15_alive #[] w27 fun e33 w34 => ∃ b35 : Bool, e33 = .returned (.bool b35) ∧
 J3 (!b35) w34)))))))))
def hollowaylaw15_EvalEmpty_an : An := ⟨[], [(6, (59, .st 0 (.st 1 (.ef 2 (.st 3 (.st 4 (.ef 5 (.ef 6 (.st 7 (.st 8 (.st 9 (.st 10 (.st 11 (.st 12 (.st 13 (.st 14 (.st 15 (.st 16 (.st 17 (.st 18 (.st 19 (.st 20 (.st 21 (.st 22 (.st 23 (.st 24 (.ef 25 (.st 26 (.st 27 (.st 28 (.st 29 (.st 30 (.st 31 (.st 32 (.st 33 (.st 34 (.st 35 (.st 36 (.st 37 (.ef 38 (.st 39 (.st 40 (.st 41 (.st 42 (.st 43 (.st 44 (.ef 45 (.st 46 (.st 47 (.st 48 (.st 49 (.st 50 (.st 51 (.st 52 (.st 53 (.st 54 (.st 55 (.st 56 (.st 57 (.st 58 .done)))))))))))))))))))))))))))))))))))))))))))))))))))))))))), 1))], [(2, [(58, .bool)])]⟩
theorem hollowaylaw15_EvalEmpty_lift {s__Ip1 : Int} {s__Handler2 : Int} {s__Stack3 : Sl} {s__Back4 : Sl} {s__Mem5 : Sl} {s__Out6 : ByteArray} {s__In7 : ByteArray} {s__Read8 : Int} {s__Status9 : Int} {s__Code10 : Int} {slots11 : Int} {backs12 : Int} {ip13 : Int} {w : World} {K : Value → World → Prop} (h : hollowaylaw15_EvalEmpty_sh s__Ip1 s__Handler2 s__Stack3 s__Back4 s__Mem5 s__Out6 s__In7 s__Read8 s__Status9 s__Code10 slots11 backs12 ip13 w K) : Calls Try.prog fn_hollowaylaw15_EvalEmpty #[.agg #[.int .i64 s__Ip1, .int .i64 s__Handler2, s__Stack3.val, s__Back4.val, s__Mem5.val, .string s__Out6, .string s__In7, .int .i64 s__Read8, .int .i64 s__Status9, .int .i64 s__Code10], .int .i64 slots11, .int .i64 backs12, .int .i64 ip13] w fun e w' => ∃ v, e = .returned v ∧ K v w' :=
   lift_calls (A := hollowaylaw15_EvalEmpty_an) (c := bodyOf Try.f4) (args := [.agg #[.int .i64 s__Ip1, .int .i64 s__Handler2, s__Stack3.val, s__Back4.val, s__Mem5.val, .string s__Out6, .string s__In7, .int .i64 s__Read8, .int .i64 s__Status9, .int .i64 s__Code10], .int .i64 slots11, .int .i64 backs12, .int .i64 ip13]) orc orc_wide Try.func4 (by kernel_rfl) (by kernel_rfl) (Eq.mp (by kernel_rfl : hollowaylaw15_EvalEmpty_sh s__Ip1 s__Handler2 s__Stack3 s__Back4 s__Mem5 s__Out6 s__In7 s__Read8 s__Status9 s__Code10 slots11 backs12 ip13 w K = wpc orc Try.f4.ntmps hollowaylaw15_EvalEmpty_an (bodyOf Try.f4) (argl 0 [.agg #[.int .i64 s__Ip1, .int .i64 s__Handler2, s__Stack3.val, s__Back4.val, s__Mem5.val, .string s__Out6, .string s__In7, .int .i64 s__Read8, .int .i64 s__Status9, .int .i64 s__Code10], .int .i64 slots11, .int .i64 backs12, .int .i64 ip13]) w (retQ orc Try.f4.results.toList K)) h)

-- holloway/hollowaylaw15.EvalGuards
def hollowaylaw15_EvalGuards_sh (a_1 : Int) (b_2 : Int) (kind3 : Int) (w : World) (K : Value → World → Prop) : Prop :=
 Calls Try.prog fn_hollowaylaw15_alive #[] w fun e4 w5 => ∃ b6 : Bool, e4 = .returned (.bool b6) ∧
 brB (!b6)
 (K (.bool false) w5)
 (∀ (b7 : Nat) (w8 : World), b7 = w5.heap.size → w8 = World.alloc w5 (.cells #[.int .i64 (7 : Int), .int .i64 (0 : Int), .int .i64 (0 : Int), .int .i64 (0 : Int), .int .i64 (0 : Int), .int .i64 (8 : Int), .int .i64 (0 : Int), .int .i64 (0 : Int), .int .i64 (0 : Int), .int .i64 (0 : Int), .int .i64 (9 : Int), .int .i64 (0 : Int), .int .i64 (0 : Int), .int .i64 (1 : Int), .int .i64 (0 : Int)] T_api_Ins) →
 (3 : Int) ≠ 0 ∧ (3 : Int) ≠ 0 ∧ ∃ a9 : Addr, (some ⟨b7, 0, none⟩) = some a9 ∧ 0 ≤ (Int.tmod (wr ((Int.tmod kind3 (3 : Int)) + (3 : Int))) (3 : Int)) ∧ (Int.tmod (wr ((Int.tmod kind3 (3 : Int)) + (3 : Int))) (3 : Int)) < (3 : Int) ∧
 ∃ n_Op10 : Int, ∃ n_A11 : Int, ∃ n_B12 : Int, ∃ n_C13 : Int, ∃ n_X14 : Int, w8.cell? (Addr.add a9 (Int.toNat (Int.tmod (wr ((Int.tmod kind3 (3 : Int)) + (3 : Int))) (3 : Int)) * 5)) = some (.int .i64 n_Op10) ∧ w8.cell? (Addr.add (Addr.add a9 (Int.toNat (Int.tmod (wr ((Int.tmod kind3 (3 : Int)) + (3 : Int))) (3 : Int)) * 5)) 1) = some (.int .i64 n_A11) ∧ w8.cell? (Addr.add (Addr.add a9 (Int.toNat (Int.tmod (wr ((Int.tmod kind3 (3 : Int)) + (3 : Int))) (3 : Int)) * 5)) 2) = some (.int .i64 n_B12) ∧ w8.cell? (Addr.add (Addr.add a9 (Int.toNat (Int.tmod (wr ((Int.tmod kind3 (3 : Int)) + (3 : Int))) (3 : Int)) * 5)) 3) = some (.int .i64 n_C13) ∧ w8.cell? (Addr.add (Addr.add a9 (Int.toNat (Int.tmod (wr ((Int.tmod kind3 (3 : Int)) + (3 : Int))) (3 : Int)) * 5)) 4) = some (.int .i64 n_X14) ∧
 ∀ (b15 : Nat) (w16 : World), b15 = w8.heap.size → w16 = World.alloc w8 (.cells #[.int .i64 (0 : Int), .int .i64 (0 : Int), .int .i64 (0 : Int), .int .i64 (0 : Int), .int .i64 (0 : Int)] T_api_Ins) →
 wrOk w16 ⟨b15, 0, none⟩ 5 ∧ ∀ w17 : World, w17 = stW w16 ⟨b15, 0, none⟩ 0 [.int .i64 n_Op10, .int .i64 n_A11, .int .i64 n_B12, .int .i64 n_C13, .int .i64 n_X14] →
 ∃ n_Op18 : Int, ∃ n_A19 : Int, ∃ n_B20 : Int, ∃ n_C21 : Int, ∃ n_X22 : Int, w17.cell? ⟨b15, 0, none⟩ = some (.int .i64 n_Op18) ∧ w17.cell? ⟨b15, 1, none⟩ = some (.int .i64 n_A19) ∧ w17.cell? ⟨b15, 2, none⟩ = some (.int .i64 n_B20) ∧ w17.cell? ⟨b15, 3, none⟩ = some (.int .i64 n_C21) ∧ w17.cell? ⟨b15, 4, none⟩ = some (.int .i64 n_X22) ∧
 ∀ (b23 : Nat) (w24 : World), b23 = w17.heap.size → w24 = World.alloc w17 (.cells #[.int .i64 (2 : Int), .int .i64 (0 : Int), .int .i64 (0 : Int), .int .i64 (0 : Int), .int .i64 (0 : Int), .int .i64 (2 : Int), .int .i64 (1 : Int), .int .i64 (0 : Int), .int .i64 (0 : Int), .int .i64 (0 : Int), .int .i64 n_Op18, .int .i64 n_A19, .int .i64 n_B20, .int .i64 n_C21, .int .i64 n_X22, .int .i64 (10 : Int), .int .i64 (0 : Int), .int .i64 (0 : Int), .int .i64 (0 : Int), .int .i64 (0 : Int)] T_api_Ins) →
 ∀ (b25 : Nat) (w26 : World), b25 = w24.heap.size → w26 = World.alloc w24 (.cells #[.int .i64 (0 : Int)] T_int) →
 ∀ (b27 : Nat) (w28 : World), b27 = w26.heap.size → w28 = World.alloc w26 (.cells #[.int .i64 (7 : Int), .int .i64 (0 : Int), .slice (some ⟨b25, 0, none⟩) 1 1, .slice none 0 0, .int .i64 (8 : Int), .int .i64 (2 : Int), .slice none 0 0, .slice none 0 0] T_api_Out) →
 ∀ (b29 : Nat) (w30 : World), b29 = w28.heap.size → w30 = World.alloc w28 (.cells #[.int .i64 (0 : Int), .int .i64 (0 : Int), .int .i64 (0 : Int), .int .i64 (0 : Int), .int .i64 (0 : Int), .slice none 0 0, .slice none 0 0, .int .i64 (0 : Int), .slice none 0 0] T_api_Trace) →
 wrOk w30 ⟨b29, 0, none⟩ 9 ∧ ∀ w31 : World, w31 = stW w30 ⟨b29, 0, none⟩ 0 [.int .i64 (5 : Int), .int .i64 (2 : Int), .int .i64 (0 : Int), .int .i64 (0 : Int), .int .i64 (0 : Int), .slice (some ⟨b23, 0, none⟩) 4 4, .slice (some ⟨b27, 0, none⟩) 2 2, .int .i64 (1 : Int), .slice none 0 0] →
 ∀ (b32 : Nat) (w33 : World), b32 = w31.heap.size → w33 = World.alloc w31 (.cells #[.int .i64 b_2, .int .i64 a_1] T_int) →
 ∃ s34 : Sl, ∃ w35 : World, (Instr.makeSlice T_sl_int (.int .i64 (9 : Int)) (.int .i64 (9 : Int))).run Try.prog w33 = .ok s34.val w35 ∧
 ∀ (b36 : Nat) (w37 : World), b36 = w35.heap.size → w37 = World.alloc w35 (.cells #[.int .i64 (0 : Int), .int .i64 (0 : Int), .slice none 0 0, .slice none 0 0, .slice none 0 0, .string (bs []), .string (bs []), .int .i64 (0 : Int), .int .i64 (0 : Int), .int .i64 (0 : Int)] T_api_State) →
 wrOk w37 ⟨b36, 0, none⟩ 10 ∧ ∀ w38 : World, w38 = stW w37 ⟨b36, 0, none⟩ 0 [.int .i64 (5 : Int), .int .i64 (0 : Int), .slice (some ⟨b32, 0, none⟩) 2 2, .slice none 0 0, s34.val, .string (bs []), .string (bs []), .int .i64 (0 : Int), .int .i64 (0 : Int), .int .i64 (0 : Int)] →
 ∃ n_Start39 : Int, ∃ n_Slots40 : Int, ∃ n_Backs41 : Int, ∃ n_Grow42 : Int, ∃ n_GrowBack43 : Int, ∃ s_Ins44 : Sl, ∃ s_Outs45 : Sl, ∃ n_Last46 : Int, ∃ s_Cells47 : Sl, w38.cell? ⟨b29, 0, none⟩ = some (.int .i64 n_Start39) ∧ w38.cell? ⟨b29, 1, none⟩ = some (.int .i64 n_Slots40) ∧ w38.cell? ⟨b29, 2, none⟩ = some (.int .i64 n_Backs41) ∧ w38.cell? ⟨b29, 3, none⟩ = some (.int .i64 n_Grow42) ∧ w38.cell? ⟨b29, 4, none⟩ = some (.int .i64 n_GrowBack43) ∧ w38.cell? ⟨b29, 5, none⟩ = some (s_Ins44.val) ∧ w38.cell? ⟨b29, 6, none⟩ = some (s_Outs45.val) ∧ w38.cell? ⟨b29, 7, none⟩ = some (.int .i64 n_Last46) ∧ w38.cell? ⟨b29, 8, none⟩ = some (s_Cells47.val) ∧
 ∃ n_Ip48 : Int, ∃ n_Handler49 : Int, ∃ s_Stack50 : Sl, ∃ s_Back51 : Sl, ∃ s_Mem52 : Sl, ∃ t_Out53 : ByteArray, ∃ t_In54 : ByteArray, ∃ n_Read55 : Int, ∃ n_Status56 : Int, ∃ n_Code57 : Int, w38.cell? ⟨b36, 0, none⟩ = some (.int .i64 n_Ip48) ∧ w38.cell? ⟨b36, 1, none⟩ = some (.int .i64 n_Handler49) ∧ w38.cell? ⟨b36, 2, none⟩ = some (s_Stack50.val) ∧ w38.cell? ⟨b36, 3, none⟩ = some (s_Back51.val) ∧ w38.cell? ⟨b36, 4, none⟩ = some (s_Mem52.val) ∧ w38.cell? ⟨b36, 5, none⟩ = some (.string t_Out53) ∧ w38.cell? ⟨b36, 6, none⟩ = some (.string t_In54) ∧ w38.cell? ⟨b36, 7, none⟩ = some (.int .i64 n_Read55) ∧ w38.cell? ⟨b36, 8, none⟩ = some (.int .i64 n_Status56) ∧ w38.cell? ⟨b36, 9, none⟩ = some (.int .i64 n_Code57) ∧
 Calls Try.prog fn_eval_Run #[.agg #[.int .i64 n_Start39, .int .i64 n_Slots40, .int .i64 n_Backs41, .int .i64 n_Grow42, .int .i64 n_GrowBack43, s_Ins44.val, s_Outs45.val, .int .i64 n_Last46, s_Cells47.val], .agg #[.int .i64 n_Ip48, .int .i64 n_Handler49, s_Stack50.val, s_Back51.val, s_Mem52.val, .string t_Out53, .string t_In54, .int .i64 n_Read55, .int .i64 n_Status56, .int .i64 n_Code57], .slice none 0 0] w38 fun e58 w59 => ∃ n_Ip60 : Int, ∃ n_Handler61 : Int, ∃ s_Stack62 : Sl, ∃ s_Back63 : Sl, ∃ s_Mem64 : Sl, ∃ t_Out65 : ByteArray, ∃ t_In66 : ByteArray, ∃ n_Read67 : Int, ∃ n_Status68 : Int, ∃ n_Code69 : Int, ∃ n_Exit70 : Int, ∃ n_Steps71 : Int, ∃ b_Hit72 : Bool, e58 = .returned (.tuple #[.agg #[.int .i64 n_Ip60, .int .i64 n_Handler61, s_Stack62.val, s_Back63.val, s_Mem64.val, .string t_Out65, .string t_In66, .int .i64 n_Read67, .int .i64 n_Status68, .int .i64 n_Code69], .agg #[.int .i64 n_Exit70, .int .i64 n_Steps71, .bool b_Hit72]]) ∧
 ∀ (b73 : Nat) (w74 : World), b73 = w59.heap.size → w74 = World.alloc w59 (.cells #[.int .i64 (0 : Int), .int .i64 (0 : Int), .slice none 0 0, .slice none 0 0, .slice none 0 0, .string (bs []), .string (bs []), .int .i64 (0 : Int), .int .i64 (0 : Int), .int .i64 (0 : Int)] T_api_State) →
 ∀ (b75 : Nat) (w76 : World), b75 = w74.heap.size → w76 = World.alloc w74 (.cells #[.int .i64 (0 : Int), .int .i64 (0 : Int), .bool false] T_eval_Done) →
 wrOk w76 ⟨b73, 0, none⟩ 10 ∧ ∀ w77 : World, w77 = stW w76 ⟨b73, 0, none⟩ 0 [.int .i64 n_Ip60, .int .i64 n_Handler61, s_Stack62.val, s_Back63.val, s_Mem64.val, .string t_Out65, .string t_In66, .int .i64 n_Read67, .int .i64 n_Status68, .int .i64 n_Code69] →
 wrOk w77 ⟨b75, 0, none⟩ 3 ∧ ∀ w78 : World, w78 = stW w77 ⟨b75, 0, none⟩ 0 [.int .i64 n_Exit70, .int .i64 n_Steps71, .bool b_Hit72] →
 ∀ (b79 : Nat) (w80 : World), b79 = w78.heap.size → w80 = World.alloc w78 (.cells #[.bool (a_1 != (0 : Int)), .bool (a_1 == (0 : Int)), .bool (a_1 == b_2)] T_bool) →
 (3 : Int) ≠ 0 ∧ (3 : Int) ≠ 0 ∧ ∃ a81 : Addr, (some ⟨b79, 0, none⟩) = some a81 ∧ 0 ≤ (Int.tmod (wr ((Int.tmod kind3 (3 : Int)) + (3 : Int))) (3 : Int)) ∧ (Int.tmod (wr ((Int.tmod kind3 (3 : Int)) + (3 : Int))) (3 : Int)) < (3 : Int) ∧
 ∃ b82 : Bool, w80.cell? (Addr.add a81 (Int.toNat (Int.tmod (wr ((Int.tmod kind3 (3 : Int)) + (3 : Int))) (3 : Int)) * 1)) = some (.bool b82) ∧
 brB b82
 (∃ n_Exit83 : Int, ∃ n_Steps84 : Int, ∃ b_Hit85 : Bool, w80.cell? ⟨b75, 0, none⟩ = some (.int .i64 n_Exit83) ∧ w80.cell? ⟨b75, 1, none⟩ = some (.int .i64 n_Steps84) ∧ w80.cell? ⟨b75, 2, none⟩ = some (.bool b_Hit85) ∧
 ∃ b86 : Bool, ∃ w87 : World, ((do eqGuard .eql T_eval_Done (.tmp 61) (.tmp 62) (.agg #[.int .i64 n_Exit83, .int .i64 n_Steps84, .bool b_Hit85]) (.agg #[.int .i64 (1 : Int), .int .i64 (2 : Int), .bool false]); binOp .eql T_eval_Done (.agg #[.int .i64 n_Exit83, .int .i64 n_Steps84, .bool b_Hit85]) (.agg #[.int .i64 (1 : Int), .int .i64 (2 : Int), .bool false]) : Sem Value)).run Try.prog w80 = .ok (.bool b86) w87 ∧
 brB b86
 (∃ t88 : ByteArray, w87.cell? ⟨b73, 5, none⟩ = some (.string t88) ∧
 ∀ (b89 : Nat) (w90 : World), b89 = w87.heap.size → w90 = World.alloc w87 (.cells #[.int .u8 (IntKind.wrap .u8 a_1)] T_uint8) →
 ∃ t91 : ByteArray, ∃ w92 : World, (convert T_sl_uint8 T_string (.slice (some ⟨b89, 0, none⟩) 1 1)).run Try.prog w90 = .ok (.string t91) w92 ∧
 brB (t88.toList == t91.toList)
 (∃ s93 : Sl, w92.cell? ⟨b73, 2, none⟩ = some (s93.val) ∧
 K (.bool ((s93.len : Int) == (0 : Int))) w92)
 (K (.bool false) w92))
 (K (.bool false) w87))
 (∃ n_Exit96 : Int, ∃ n_Steps97 : Int, ∃ b_Hit98 : Bool, w80.cell? ⟨b75, 0, none⟩ = some (.int .i64 n_Exit96) ∧ w80.cell? ⟨b75, 1, none⟩ = some (.int .i64 n_Steps97) ∧ w80.cell? ⟨b75, 2, none⟩ = some (.bool b_Hit98) ∧
 ∃ b99 : Bool, ∃ w100 : World, ((do eqGuard .eql T_eval_Done (.tmp 79) (.tmp 80) (.agg #[.int .i64 n_Exit96, .int .i64 n_Steps97, .bool b_Hit98]) (.agg #[.int .i64 (0 : Int), .int .i64 (0 : Int), .bool false]); binOp .eql T_eval_Done (.agg #[.int .i64 n_Exit96, .int .i64 n_Steps97, .bool b_Hit98]) (.agg #[.int .i64 (0 : Int), .int .i64 (0 : Int), .bool false]) : Sem Value)).run Try.prog w80 = .ok (.bool b99) w100 ∧
 brB b99
 (∃ t101 : ByteArray, w100.cell? ⟨b73, 5, none⟩ = some (.string t101) ∧
 brB (t101.toList == (bs []).toList)
 (∃ s102 : Sl, w100.cell? ⟨b73, 2, none⟩ = some (s102.val) ∧
 brB ((s102.len : Int) == (1 : Int))
 (∃ s103 : Sl, w100.cell? ⟨b73, 2, none⟩ = some (s103.val) ∧
 ∃ a104 : Addr, s103.ptr = some a104 ∧ 0 ≤ (0 : Int) ∧ (0 : Int) < (s103.len : Int) ∧
 ∃ n105 : Int, w100.cell? (Addr.add a104 (Int.toNat (0 : Int) * 1)) = some (.int .i64 n105) ∧
 brB (n105 == a_1)
 (∃ n106 : Int, w100.cell? ⟨b73, 0, none⟩ = some (.int .i64 n106) ∧
 K (.bool (n106 == (7 : Int))) w100)
 (K (.bool false) w100))
 (K (.bool false) w100))
 (K (.bool false) w100))
 (K (.bool false) w100)))
def hollowaylaw15_EvalGuards_an : An := ⟨[], [], []⟩
theorem hollowaylaw15_EvalGuards_lift {a_1 : Int} {b_2 : Int} {kind3 : Int} {w : World} {K : Value → World → Prop} (h : hollowaylaw15_EvalGuards_sh a_1 b_2 kind3 w K) : Calls Try.prog fn_hollowaylaw15_EvalGuards #[.int .i64 a_1, .int .i64 b_2, .int .i64 kind3] w fun e w' => ∃ v, e = .returned v ∧ K v w' :=
   lift_calls (A := hollowaylaw15_EvalGuards_an) (c := bodyOf Try.f5) (args := [.int .i64 a_1, .int .i64 b_2, .int .i64 kind3]) orc orc_wide Try.func5 (by kernel_rfl) (by kernel_rfl) (Eq.mp (by kernel_rfl : hollowaylaw15_EvalGuards_sh a_1 b_2 kind3 w K = wpc orc Try.f5.ntmps hollowaylaw15_EvalGuards_an (bodyOf Try.f5) (argl 0 [.int .i64 a_1, .int .i64 b_2, .int .i64 kind3]) w (retQ orc Try.f5.results.toList K)) h)

-- holloway/hollowaylaw15.alive
def hollowaylaw15_alive_sh  (w : World) (K : Value → World → Prop) : Prop :=
 ∀ (b1 : Nat) (w2 : World), b1 = w.heap.size → w2 = World.alloc w (.cells #[.int .i64 (2 : Int), .int .i64 (0 : Int), .int .i64 (0 : Int), .int .i64 (0 : Int), .int .i64 (0 : Int), .int .i64 (4 : Int), .int .i64 (11 : Int), .int .i64 (0 : Int), .int .i64 (0 : Int), .int .i64 (0 : Int)] T_api_Ins) →
 ∀ (b3 : Nat) (w4 : World), b3 = w2.heap.size → w4 = World.alloc w2 (.cells #[.int .i64 (1 : Int)] T_int) →
 ∀ (b5 : Nat) (w6 : World), b5 = w4.heap.size → w6 = World.alloc w4 (.cells #[.int .i64 (7 : Int), .int .i64 (2 : Int), .slice (some ⟨b3, 0, none⟩) 1 1, .slice none 0 0] T_api_Out) →
 ∀ (b7 : Nat) (w8 : World), b7 = w6.heap.size → w8 = World.alloc w6 (.cells #[.int .i64 (0 : Int), .int .i64 (0 : Int), .int .i64 (0 : Int), .int .i64 (0 : Int), .int .i64 (0 : Int), .slice none 0 0, .slice none 0 0, .int .i64 (0 : Int), .slice none 0 0] T_api_Trace) →
 wrOk w8 ⟨b7, 0, none⟩ 9 ∧ ∀ w9 : World, w9 = stW w8 ⟨b7, 0, none⟩ 0 [.int .i64 (5 : Int), .int .i64 (1 : Int), .int .i64 (0 : Int), .int .i64 (0 : Int), .int .i64 (0 : Int), .slice (some ⟨b1, 0, none⟩) 2 2, .slice (some ⟨b5, 0, none⟩) 1 1, .int .i64 (0 : Int), .slice none 0 0] →
 Calls Try.prog fn_hollowayref9_Boot #[.int .i64 (20 : Int), .string (bs [])] w9 fun e10 w11 => ∃ n_Ip12 : Int, ∃ n_Handler13 : Int, ∃ s_Stack14 : Sl, ∃ s_Back15 : Sl, ∃ s_Mem16 : Sl, ∃ t_Out17 : ByteArray, ∃ t_In18 : ByteArray, ∃ n_Read19 : Int, ∃ n_Status20 : Int, ∃ n_Code21 : Int, e10 = .returned (.agg #[.int .i64 n_Ip12, .int .i64 n_Handler13, s_Stack14.val, s_Back15.val, s_Mem16.val, .string t_Out17, .string t_In18, .int .i64 n_Read19, .int .i64 n_Status20, .int .i64 n_Code21]) ∧
 ∀ (b22 : Nat) (w23 : World), b22 = w11.heap.size → w23 = World.alloc w11 (.cells #[.int .i64 (0 : Int), .int .i64 (0 : Int), .slice none 0 0, .slice none 0 0, .slice none 0 0, .string (bs []), .string (bs []), .int .i64 (0 : Int), .int .i64 (0 : Int), .int .i64 (0 : Int)] T_api_State) →
 wrOk w23 ⟨b22, 0, none⟩ 10 ∧ ∀ w24 : World, w24 = stW w23 ⟨b22, 0, none⟩ 0 [.int .i64 n_Ip12, .int .i64 n_Handler13, s_Stack14.val, s_Back15.val, s_Mem16.val, .string t_Out17, .string t_In18, .int .i64 n_Read19, .int .i64 n_Status20, .int .i64 n_Code21] →
 ∀ (b25 : Nat) (w26 : World), b25 = w24.heap.size → w26 = World.alloc w24 (.cells #[.int .i64 (3 : Int), .int .i64 (4 : Int)] T_int) →
 wrOk w26 ⟨b22, 0, none⟩ 1 ∧ ∀ w27 : World, w27 = stW w26 ⟨b22, 0, none⟩ 0 [.int .i64 (5 : Int)] →
 wrOk w27 ⟨b22, 8, none⟩ 1 ∧ ∀ w28 : World, w28 = stW w27 ⟨b22, 8, none⟩ 0 [.int .i64 (0 : Int)] →
 wrOk w28 ⟨b22, 2, none⟩ 1 ∧ ∀ w29 : World, w29 = stW w28 ⟨b22, 2, none⟩ 0 [.slice (some ⟨b25, 0, none⟩) 2 2] →
 ∃ n_Start30 : Int, ∃ n_Slots31 : Int, ∃ n_Backs32 : Int, ∃ n_Grow33 : Int, ∃ n_GrowBack34 : Int, ∃ s_Ins35 : Sl, ∃ s_Outs36 : Sl, ∃ n_Last37 : Int, ∃ s_Cells38 : Sl, w29.cell? ⟨b7, 0, none⟩ = some (.int .i64 n_Start30) ∧ w29.cell? ⟨b7, 1, none⟩ = some (.int .i64 n_Slots31) ∧ w29.cell? ⟨b7, 2, none⟩ = some (.int .i64 n_Backs32) ∧ w29.cell? ⟨b7, 3, none⟩ = some (.int .i64 n_Grow33) ∧ w29.cell? ⟨b7, 4, none⟩ = some (.int .i64 n_GrowBack34) ∧ w29.cell? ⟨b7, 5, none⟩ = some (s_Ins35.val) ∧ w29.cell? ⟨b7, 6, none⟩ = some (s_Outs36.val) ∧ w29.cell? ⟨b7, 7, none⟩ = some (.int .i64 n_Last37) ∧ w29.cell? ⟨b7, 8, none⟩ = some (s_Cells38.val) ∧
 ∃ n_Ip39 : Int, ∃ n_Handler40 : Int, ∃ s_Stack41 : Sl, ∃ s_Back42 : Sl, ∃ s_Mem43 : Sl, ∃ t_Out44 : ByteArray, ∃ t_In45 : ByteArray, ∃ n_Read46 : Int, ∃ n_Status47 : Int, ∃ n_Code48 : Int, w29.cell? ⟨b22, 0, none⟩ = some (.int .i64 n_Ip39) ∧ w29.cell? ⟨b22, 1, none⟩ = some (.int .i64 n_Handler40) ∧ w29.cell? ⟨b22, 2, none⟩ = some (s_Stack41.val) ∧ w29.cell? ⟨b22, 3, none⟩ = some (s_Back42.val) ∧ w29.cell? ⟨b22, 4, none⟩ = some (s_Mem43.val) ∧ w29.cell? ⟨b22, 5, none⟩ = some (.string t_Out44) ∧ w29.cell? ⟨b22, 6, none⟩ = some (.string t_In45) ∧ w29.cell? ⟨b22, 7, none⟩ = some (.int .i64 n_Read46) ∧ w29.cell? ⟨b22, 8, none⟩ = some (.int .i64 n_Status47) ∧ w29.cell? ⟨b22, 9, none⟩ = some (.int .i64 n_Code48) ∧
 Calls Try.prog fn_eval_Run #[.agg #[.int .i64 n_Start30, .int .i64 n_Slots31, .int .i64 n_Backs32, .int .i64 n_Grow33, .int .i64 n_GrowBack34, s_Ins35.val, s_Outs36.val, .int .i64 n_Last37, s_Cells38.val], .agg #[.int .i64 n_Ip39, .int .i64 n_Handler40, s_Stack41.val, s_Back42.val, s_Mem43.val, .string t_Out44, .string t_In45, .int .i64 n_Read46, .int .i64 n_Status47, .int .i64 n_Code48], .slice none 0 0] w29 fun e49 w50 => ∃ n_Ip51 : Int, ∃ n_Handler52 : Int, ∃ s_Stack53 : Sl, ∃ s_Back54 : Sl, ∃ s_Mem55 : Sl, ∃ t_Out56 : ByteArray, ∃ t_In57 : ByteArray, ∃ n_Read58 : Int, ∃ n_Status59 : Int, ∃ n_Code60 : Int, ∃ n_Exit61 : Int, ∃ n_Steps62 : Int, ∃ b_Hit63 : Bool, e49 = .returned (.tuple #[.agg #[.int .i64 n_Ip51, .int .i64 n_Handler52, s_Stack53.val, s_Back54.val, s_Mem55.val, .string t_Out56, .string t_In57, .int .i64 n_Read58, .int .i64 n_Status59, .int .i64 n_Code60], .agg #[.int .i64 n_Exit61, .int .i64 n_Steps62, .bool b_Hit63]]) ∧
 ∀ (b64 : Nat) (w65 : World), b64 = w50.heap.size → w65 = World.alloc w50 (.cells #[.int .i64 (0 : Int), .int .i64 (0 : Int), .slice none 0 0, .slice none 0 0, .slice none 0 0, .string (bs []), .string (bs []), .int .i64 (0 : Int), .int .i64 (0 : Int), .int .i64 (0 : Int)] T_api_State) →
 ∀ (b66 : Nat) (w67 : World), b66 = w65.heap.size → w67 = World.alloc w65 (.cells #[.int .i64 (0 : Int), .int .i64 (0 : Int), .bool false] T_eval_Done) →
 wrOk w67 ⟨b64, 0, none⟩ 10 ∧ ∀ w68 : World, w68 = stW w67 ⟨b64, 0, none⟩ 0 [.int .i64 n_Ip51, .int .i64 n_Handler52, s_Stack53.val, s_Back54.val, s_Mem55.val, .string t_Out56, .string t_In57, .int .i64 n_Read58, .int .i64 n_Status59, .int .i64 n_Code60] →
 wrOk w68 ⟨b66, 0, none⟩ 3 ∧ ∀ w69 : World, w69 = stW w68 ⟨b66, 0, none⟩ 0 [.int .i64 n_Exit61, .int .i64 n_Steps62, .bool b_Hit63] →
 ∃ n_Exit70 : Int, ∃ n_Steps71 : Int, ∃ b_Hit72 : Bool, w69.cell? ⟨b66, 0, none⟩ = some (.int .i64 n_Exit70) ∧ w69.cell? ⟨b66, 1, none⟩ = some (.int .i64 n_Steps71) ∧ w69.cell? ⟨b66, 2, none⟩ = some (.bool b_Hit72) ∧
 ∃ b73 : Bool, ∃ w74 : World, ((do eqGuard .eql T_eval_Done (.tmp 23) (.tmp 24) (.agg #[.int .i64 n_Exit70, .int .i64 n_Steps71, .bool b_Hit72]) (.agg #[.int .i64 (0 : Int), .int .i64 (2 : Int), .bool false]); binOp .eql T_eval_Done (.agg #[.int .i64 n_Exit70, .int .i64 n_Steps71, .bool b_Hit72]) (.agg #[.int .i64 (0 : Int), .int .i64 (2 : Int), .bool false]) : Sem Value)).run Try.prog w69 = .ok (.bool b73) w74 ∧
 brB b73
 (∃ n75 : Int, w74.cell? ⟨b64, 0, none⟩ = some (.int .i64 n75) ∧
 brB (n75 == (7 : Int))
 (∃ s76 : Sl, w74.cell? ⟨b64, 2, none⟩ = some (s76.val) ∧
 brB ((s76.len : Int) == (2 : Int))
 (∃ s77 : Sl, w74.cell? ⟨b64, 2, none⟩ = some (s77.val) ∧
 ∃ a78 : Addr, s77.ptr = some a78 ∧ 0 ≤ (1 : Int) ∧ (1 : Int) < (s77.len : Int) ∧
 ∃ n79 : Int, w74.cell? (Addr.add a78 (Int.toNat (1 : Int) * 1)) = some (.int .i64 n79) ∧
 brB (n79 == (8 : Int))
 (∃ n_Start80 : Int, ∃ n_Slots81 : Int, ∃ n_Backs82 : Int, ∃ n_Grow83 : Int, ∃ n_GrowBack84 : Int, ∃ s_Ins85 : Sl, ∃ s_Outs86 : Sl, ∃ n_Last87 : Int, ∃ s_Cells88 : Sl, w74.cell? ⟨b7, 0, none⟩ = some (.int .i64 n_Start80) ∧ w74.cell? ⟨b7, 1, none⟩ = some (.int .i64 n_Slots81) ∧ w74.cell? ⟨b7, 2, none⟩ = some (.int .i64 n_Backs82) ∧ w74.cell? ⟨b7, 3, none⟩ = some (.int .i64 n_Grow83) ∧ w74.cell? ⟨b7, 4, none⟩ = some (.int .i64 n_GrowBack84) ∧ w74.cell? ⟨b7, 5, none⟩ = some (s_Ins85.val) ∧ w74.cell? ⟨b7, 6, none⟩ = some (s_Outs86.val) ∧ w74.cell? ⟨b7, 7, none⟩ = some (.int .i64 n_Last87) ∧ w74.cell? ⟨b7, 8, none⟩ = some (s_Cells88.val) ∧
 ∃ n_Ip89 : Int, ∃ n_Handler90 : Int, ∃ s_Stack91 : Sl, ∃ s_Back92 : Sl, ∃ s_Mem93 : Sl, ∃ t_Out94 : ByteArray, ∃ t_In95 : ByteArray, ∃ n_Read96 : Int, ∃ n_Status97 : Int, ∃ n_Code98 : Int, w74.cell? ⟨b22, 0, none⟩ = some (.int .i64 n_Ip89) ∧ w74.cell? ⟨b22, 1, none⟩ = some (.int .i64 n_Handler90) ∧ w74.cell? ⟨b22, 2, none⟩ = some (s_Stack91.val) ∧ w74.cell? ⟨b22, 3, none⟩ = some (s_Back92.val) ∧ w74.cell? ⟨b22, 4, none⟩ = some (s_Mem93.val) ∧ w74.cell? ⟨b22, 5, none⟩ = some (.string t_Out94) ∧ w74.cell? ⟨b22, 6, none⟩ = some (.string t_In95) ∧ w74.cell? ⟨b22, 7, none⟩ = some (.int .i64 n_Read96) ∧ w74.cell? ⟨b22, 8, none⟩ = some (.int .i64 n_Status97) ∧ w74.cell? ⟨b22, 9, none⟩ = some (.int .i64 n_Code98) ∧
 Calls Try.prog fn_eval_May #[.agg #[.int .i64 n_Start80, .int .i64 n_Slots81, .int .i64 n_Backs82, .int .i64 n_Grow83, .int .i64 n_GrowBack84, s_Ins85.val, s_Outs86.val, .int .i64 n_Last87, s_Cells88.val], .agg #[.int .i64 n_Ip89, .int .i64 n_Handler90, s_Stack91.val, s_Back92.val, s_Mem93.val, .string t_Out94, .string t_In95, .int .i64 n_Read96, .int .i64 n_Status97, .int .i64 n_Code98]] w74 fun e99 w100 => ∃ b101 : Bool, e99 = .returned (.bool b101) ∧
 K (.bool b101) w100)
 (K (.bool false) w74))
 (K (.bool false) w74))
 (K (.bool false) w74))
 (K (.bool false) w74)
def hollowaylaw15_alive_an : An := ⟨[], [], []⟩
theorem hollowaylaw15_alive_lift  {w : World} {K : Value → World → Prop} (h : hollowaylaw15_alive_sh  w K) : Calls Try.prog fn_hollowaylaw15_alive #[] w fun e w' => ∃ v, e = .returned v ∧ K v w' :=
   lift_calls (A := hollowaylaw15_alive_an) (c := bodyOf Try.f19) (args := []) orc orc_wide Try.func19 (by kernel_rfl) (by kernel_rfl) (Eq.mp (by kernel_rfl : hollowaylaw15_alive_sh  w K = wpc orc Try.f19.ntmps hollowaylaw15_alive_an (bodyOf Try.f19) (argl 0 []) w (retQ orc Try.f19.results.toList K)) h)

end Go.Proofs.Ytblmoilneiffgaa

/- Functions of Hollowaylaw19, read without their frames; that each is enough. Printed by a program of mine (wip/lift/gen.py). -/
set_option maxRecDepth 100000
namespace Go.Proofs.Ytblmoilneiffgaa
open Go.RowKit

-- holloway/hollowaylaw19.PruneHolds
def hollowaylaw19_PruneHolds_sh (t__Start1 : Int) (t__Slots2 : Int) (t__Backs3 : Int) (t__Grow4 : Int) (t__GrowBack5 : Int) (t__Ins6 : Sl) (t__Outs7 : Sl) (t__Last8 : Int) (t__Cells9 : Sl) (s__Ip10 : Int) (s__Handler11 : Int) (s__Stack12 : Sl) (s__Back13 : Sl) (s__Mem14 : Sl) (s__Out15 : ByteArray) (s__In16 : ByteArray) (s__Read17 : Int) (s__Status18 : Int) (s__Code19 : Int) (watched20 : Sl) (w : World) (K : Value → World → Prop) : Prop :=
 ∀ (b21 : Nat) (w22 : World), b21 = w.heap.size → w22 = World.alloc w (.cells #[.int .i64 t__Start1, .int .i64 t__Slots2, .int .i64 t__Backs3, .int .i64 t__Grow4, .int .i64 t__GrowBack5, t__Ins6.val, t__Outs7.val, .int .i64 t__Last8, t__Cells9.val] T_api_Trace) →
 ∀ (b23 : Nat) (w24 : World), b23 = w22.heap.size → w24 = World.alloc w22 (.cells #[.int .i64 s__Ip10, .int .i64 s__Handler11, s__Stack12.val, s__Back13.val, s__Mem14.val, .string s__Out15, .string s__In16, .int .i64 s__Read17, .int .i64 s__Status18, .int .i64 s__Code19] T_api_State) →
 ∃ J3 : Bool → World → Prop, (∀ (b66 : Bool) (w65 : World), J3 b66 w65 →
 brB b66
 (Calls Try.prog fn_hollowaylaw19_alive #[] w65 fun e67 w68 => ∃ b69 : Bool, e67 = .returned (.bool b69) ∧
 K (.bool b69) w68)
 (∃ n70 : Int, w65.cell? ⟨b21, 0, none⟩ = some (.int .i64 n70) ∧
 wrOk w65 ⟨b23, 0, none⟩ 1 ∧ ∀ w71 : World, w71 = stW w65 ⟨b23, 0, none⟩ 0 [.int .i64 n70] →
 wrOk w71 ⟨b23, 8, none⟩ 1 ∧ ∀ w72 : World, w72 = stW w71 ⟨b23, 8, none⟩ 0 [.int .i64 (0 : Int)] →
 ∃ n_Start73 : Int, ∃ n_Slots74 : Int, ∃ n_Backs75 : Int, ∃ n_Grow76 : Int, ∃ n_GrowBack77 : Int, ∃ s_Ins78 : Sl, ∃ s_Outs79 : Sl, ∃ n_Last80 : Int, ∃ s_Cells81 : Sl, w72.cell? ⟨b21, 0, none⟩ = some (.int .i64 n_Start73) ∧ w72.cell? ⟨b21, 1, none⟩ = some (.int .i64 n_Slots74) ∧ w72.cell? ⟨b21, 2, none⟩ = some (.int .i64 n_Backs75) ∧ w72.cell? ⟨b21, 3, none⟩ = some (.int .i64 n_Grow76) ∧ w72.cell? ⟨b21, 4, none⟩ = some (.int .i64 n_GrowBack77) ∧ w72.cell? ⟨b21, 5, none⟩ = some (s_Ins78.val) ∧ w72.cell? ⟨b21, 6, none⟩ = some (s_Outs79.val) ∧ w72.cell? ⟨b21, 7, none⟩ = some (.int .i64 n_Last80) ∧ w72.cell? ⟨b21, 8, none⟩ = some (s_Cells81.val) ∧
 ∃ n_Ip82 : Int, ∃ n_Handler83 : Int, ∃ s_Stack84 : Sl, ∃ s_Back85 : Sl, ∃ s_Mem86 : Sl, ∃ t_Out87 : ByteArray, ∃ t_In88 : ByteArray, ∃ n_Read89 : Int, ∃ n_Status90 : Int, ∃ n_Code91 : Int, w72.cell? ⟨b23, 0, none⟩ = some (.int .i64 n_Ip82) ∧ w72.cell? ⟨b23, 1, none⟩ = some (.int .i64 n_Handler83) ∧ w72.cell? ⟨b23, 2, none⟩ = some (s_Stack84.val) ∧ w72.cell? ⟨b23, 3, none⟩ = some (s_Back85.val) ∧ w72.cell? ⟨b23, 4, none⟩ = some (s_Mem86.val) ∧ w72.cell? ⟨b23, 5, none⟩ = some (.string t_Out87) ∧ w72.cell? ⟨b23, 6, none⟩ = some (.string t_In88) ∧ w72.cell? ⟨b23, 7, none⟩ = some (.int .i64 n_Read89) ∧ w72.cell? ⟨b23, 8, none⟩ = some (.int .i64 n_Status90) ∧ w72.cell? ⟨b23, 9, none⟩ = some (.int .i64 n_Code91) ∧
 Calls Try.prog fn_hollowayref15_May #[.agg #[.int .i64 n_Start73, .int .i64 n_Slots74, .int .i64 n_Backs75, .int .i64 n_Grow76, .int .i64 n_GrowBack77, s_Ins78.val, s_Outs79.val, .int .i64 n_Last80, s_Cells81.val], .agg #[.int .i64 n_Ip82, .int .i64 n_Handler83, s_Stack84.val, s_Back85.val, s_Mem86.val, .string t_Out87, .string t_In88, .int .i64 n_Read89, .int .i64 n_Status90, .int .i64 n_Code91]] w72 fun e92 w93 => ∃ b94 : Bool, e92 = .returned (.bool b94) ∧
 brB (!b94)
 (K (.bool true) w93)
 (∃ n_Start95 : Int, ∃ n_Slots96 : Int, ∃ n_Backs97 : Int, ∃ n_Grow98 : Int, ∃ n_GrowBack99 : Int, ∃ s_Ins100 : Sl, ∃ s_Outs101 : Sl, ∃ n_Last102 : Int, ∃ s_Cells103 : Sl, w93.cell? ⟨b21, 0, none⟩ = some (.int .i64 n_Start95) ∧ w93.cell? ⟨b21, 1, none⟩ = some (.int .i64 n_Slots96) ∧ w93.cell? ⟨b21, 2, none⟩ = some (.int .i64 n_Backs97) ∧ w93.cell? ⟨b21, 3, none⟩ = some (.int .i64 n_Grow98) ∧ w93.cell? ⟨b21, 4, none⟩ = some (.int .i64 n_GrowBack99) ∧ w93.cell? ⟨b21, 5, none⟩ = some (s_Ins100.val) ∧ w93.cell? ⟨b21, 6, none⟩ = some (s_Outs101.val) ∧ w93.cell? ⟨b21, 7, none⟩ = some (.int .i64 n_Last102) ∧ w93.cell? ⟨b21, 8, none⟩ = some (s_Cells103.val) ∧
 Calls Try.prog fn_prune_Do #[.agg #[.int .i64 n_Start95, .int .i64 n_Slots96, .int .i64 n_Backs97, .int .i64 n_Grow98, .int .i64 n_GrowBack99, s_Ins100.val, s_Outs101.val, .int .i64 n_Last102, s_Cells103.val]] w93 fun e104 w105 => ∃ n_Start106 : Int, ∃ n_Slots107 : Int, ∃ n_Backs108 : Int, ∃ n_Grow109 : Int, ∃ n_GrowBack110 : Int, ∃ s_Ins111 : Sl, ∃ s_Outs112 : Sl, ∃ n_Last113 : Int, ∃ s_Cells114 : Sl, e104 = .returned (.agg #[.int .i64 n_Start106, .int .i64 n_Slots107, .int .i64 n_Backs108, .int .i64 n_Grow109, .int .i64 n_GrowBack110, s_Ins111.val, s_Outs112.val, .int .i64 n_Last113, s_Cells114.val]) ∧
 ∀ (b115 : Nat) (w116 : World), b115 = w105.heap.size → w116 = World.alloc w105 (.cells #[.int .i64 (0 : Int), .int .i64 (0 : Int), .int .i64 (0 : Int), .int .i64 (0 : Int), .int .i64 (0 : Int), .slice none 0 0, .slice none 0 0, .int .i64 (0 : Int), .slice none 0 0] T_api_Trace) →
 wrOk w116 ⟨b115, 0, none⟩ 9 ∧ ∀ w117 : World, w117 = stW w116 ⟨b115, 0, none⟩ 0 [.int .i64 n_Start106, .int .i64 n_Slots107, .int .i64 n_Backs108, .int .i64 n_Grow109, .int .i64 n_GrowBack110, s_Ins111.val, s_Outs112.val, .int .i64 n_Last113, s_Cells114.val] →
 ∃ J11 : Bool → World → Prop, (∀ (b153 : Bool) (w152 : World), J11 b153 w152 →
 brB b153
 (K (.bool false) w152)
 (∃ n_Start154 : Int, ∃ n_Slots155 : Int, ∃ n_Backs156 : Int, ∃ n_Grow157 : Int, ∃ n_GrowBack158 : Int, ∃ s_Ins159 : Sl, ∃ s_Outs160 : Sl, ∃ n_Last161 : Int, ∃ s_Cells162 : Sl, w152.cell? ⟨b21, 0, none⟩ = some (.int .i64 n_Start154) ∧ w152.cell? ⟨b21, 1, none⟩ = some (.int .i64 n_Slots155) ∧ w152.cell? ⟨b21, 2, none⟩ = some (.int .i64 n_Backs156) ∧ w152.cell? ⟨b21, 3, none⟩ = some (.int .i64 n_Grow157) ∧ w152.cell? ⟨b21, 4, none⟩ = some (.int .i64 n_GrowBack158) ∧ w152.cell? ⟨b21, 5, none⟩ = some (s_Ins159.val) ∧ w152.cell? ⟨b21, 6, none⟩ = some (s_Outs160.val) ∧ w152.cell? ⟨b21, 7, none⟩ = some (.int .i64 n_Last161) ∧ w152.cell? ⟨b21, 8, none⟩ = some (s_Cells162.val) ∧
 ∃ n_Ip163 : Int, ∃ n_Handler164 : Int, ∃ s_Stack165 : Sl, ∃ s_Back166 : Sl, ∃ s_Mem167 : Sl, ∃ t_Out168 : ByteArray, ∃ t_In169 : ByteArray, ∃ n_Read170 : Int, ∃ n_Status171 : Int, ∃ n_Code172 : Int, w152.cell? ⟨b23, 0, none⟩ = some (.int .i64 n_Ip163) ∧ w152.cell? ⟨b23, 1, none⟩ = some (.int .i64 n_Handler164) ∧ w152.cell? ⟨b23, 2, none⟩ = some (s_Stack165.val) ∧ w152.cell? ⟨b23, 3, none⟩ = some (s_Back166.val) ∧ w152.cell? ⟨b23, 4, none⟩ = some (s_Mem167.val) ∧ w152.cell? ⟨b23, 5, none⟩ = some (.string t_Out168) ∧ w152.cell? ⟨b23, 6, none⟩ = some (.string t_In169) ∧ w152.cell? ⟨b23, 7, none⟩ = some (.int .i64 n_Read170) ∧ w152.cell? ⟨b23, 8, none⟩ = some (.int .i64 n_Status171) ∧ w152.cell? ⟨b23, 9, none⟩ = some (.int .i64 n_Code172) ∧
 Calls Try.prog fn_hollowayref15_Run #[.agg #[.int .i64 n_Start154, .int .i64 n_Slots155, .int .i64 n_Backs156, .int .i64 n_Grow157, .int .i64 n_GrowBack158, s_Ins159.val, s_Outs160.val, .int .i64 n_Last161, s_Cells162.val], .agg #[.int .i64 n_Ip163, .int .i64 n_Handler164, s_Stack165.val, s_Back166.val, s_Mem167.val, .string t_Out168, .string t_In169, .int .i64 n_Read170, .int .i64 n_Status171, .int .i64 n_Code172], watched20.val] w152 fun e173 w174 => ∃ n_Ip175 : Int, ∃ n_Handler176 : Int, ∃ s_Stack177 : Sl, ∃ s_Back178 : Sl, ∃ s_Mem179 : Sl, ∃ t_Out180 : ByteArray, ∃ t_In181 : ByteArray, ∃ n_Read182 : Int, ∃ n_Status183 : Int, ∃ n_Code184 : Int, ∃ n185 : Int, ∃ b186 : Bool, e173 = .returned (.tuple #[.agg #[.int .i64 n_Ip175, .int .i64 n_Handler176, s_Stack177.val, s_Back178.val, s_Mem179.val, .string t_Out180, .string t_In181, .int .i64 n_Read182, .int .i64 n_Status183, .int .i64 n_Code184], .int .i64 n185, .bool b186]) ∧
 ∀ (b187 : Nat) (w188 : World), b187 = w174.heap.size → w188 = World.alloc w174 (.cells #[.int .i64 (0 : Int), .int .i64 (0 : Int), .slice none 0 0, .slice none 0 0, .slice none 0 0, .string (bs []), .string (bs []), .int .i64 (0 : Int), .int .i64 (0 : Int), .int .i64 (0 : Int)] T_api_State) →
 wrOk w188 ⟨b187, 0, none⟩ 10 ∧ ∀ w189 : World, w189 = stW w188 ⟨b187, 0, none⟩ 0 [.int .i64 n_Ip175, .int .i64 n_Handler176, s_Stack177.val, s_Back178.val, s_Mem179.val, .string t_Out180, .string t_In181, .int .i64 n_Read182, .int .i64 n_Status183, .int .i64 n_Code184] →
 ∃ n_Start190 : Int, ∃ n_Slots191 : Int, ∃ n_Backs192 : Int, ∃ n_Grow193 : Int, ∃ n_GrowBack194 : Int, ∃ s_Ins195 : Sl, ∃ s_Outs196 : Sl, ∃ n_Last197 : Int, ∃ s_Cells198 : Sl, w189.cell? ⟨b115, 0, none⟩ = some (.int .i64 n_Start190) ∧ w189.cell? ⟨b115, 1, none⟩ = some (.int .i64 n_Slots191) ∧ w189.cell? ⟨b115, 2, none⟩ = some (.int .i64 n_Backs192) ∧ w189.cell? ⟨b115, 3, none⟩ = some (.int .i64 n_Grow193) ∧ w189.cell? ⟨b115, 4, none⟩ = some (.int .i64 n_GrowBack194) ∧ w189.cell? ⟨b115, 5, none⟩ = some (s_Ins195.val) ∧ w189.cell? ⟨b115, 6, none⟩ = some (s_Outs196.val) ∧ w189.cell? ⟨b115, 7, none⟩ = some (.int .i64 n_Last197) ∧ w189.cell? ⟨b115, 8, none⟩ = some (s_Cells198.val) ∧
 ∃ n_Ip199 : Int, ∃ n_Handler200 : Int, ∃ s_Stack201 : Sl, ∃ s_Back202 : Sl, ∃ s_Mem203 : Sl, ∃ t_Out204 : ByteArray, ∃ t_In205 : ByteArray, ∃ n_Read206 : Int, ∃ n_Status207 : Int, ∃ n_Code208 : Int, w189.cell? ⟨b23, 0, none⟩ = some (.int .i64 n_Ip199) ∧ w189.cell? ⟨b23, 1, none⟩ = some (.int .i64 n_Handler200) ∧ w189.cell? ⟨b23, 2, none⟩ = some (s_Stack201.val) ∧ w189.cell? ⟨b23, 3, none⟩ = some (s_Back202.val) ∧ w189.cell? ⟨b23, 4, none⟩ = some (s_Mem203.val) ∧ w189.cell? ⟨b23, 5, none⟩ = some (.string t_Out204) ∧ w189.cell? ⟨b23, 6, none⟩ = some (.string t_In205) ∧ w189.cell? ⟨b23, 7, none⟩ = some (.int .i64 n_Read206) ∧ w189.cell? ⟨b23, 8, none⟩ = some (.int .i64 n_Status207) ∧ w189.cell? ⟨b23, 9, none⟩ = some (.int .i64 n_Code208) ∧
 Calls Try.prog fn_hollowayref15_Run #[.agg #[.int .i64 n_Start190, .int .i64 n_Slots191, .int .i64 n_Backs192, .int .i64 n_Grow193, .int .i64 n_GrowBack194, s_Ins195.val, s_Outs196.val, .int .i64 n_Last197, s_Cells198.val], .agg #[.int .i64 n_Ip199, .int .i64 n_Handler200, s_Stack201.val, s_Back202.val, s_Mem203.val, .string t_Out204, .string t_In205, .int .i64 n_Read206, .int .i64 n_Status207, .int .i64 n_Code208], watched20.val] w189 fun e209 w210 => ∃ n_Ip211 : Int, ∃ n_Handler212 : Int, ∃ s_Stack213 : Sl, ∃ s_Back214 : Sl, ∃ s_Mem215 : Sl, ∃ t_Out216 : ByteArray, ∃ t_In217 : ByteArray, ∃ n_Read218 : Int, ∃ n_Status219 : Int, ∃ n_Code220 : Int, ∃ n221 : Int, ∃ b222 : Bool, e209 = .returned (.tuple #[.agg #[.int .i64 n_Ip211, .int .i64 n_Handler212, s_Stack213.val, s_Back214.val, s_Mem215.val, .string t_Out216, .string t_In217, .int .i64 n_Read218, .int .i64 n_Status219, .int .i64 n_Code220], .int .i64 n221, .bool b222]) ∧
 ∀ (b223 : Nat) (w224 : World), b223 = w210.heap.size → w224 = World.alloc w210 (.cells #[.int .i64 (0 : Int), .int .i64 (0 : Int), .slice none 0 0, .slice none 0 0, .slice none 0 0, .string (bs []), .string (bs []), .int .i64 (0 : Int), .int .i64 (0 : Int), .int .i64 (0 : Int)] T_api_State) →
 wrOk w224 ⟨b223, 0, none⟩ 10 ∧ ∀ w225 : World, w225 = stW w224 ⟨b223, 0, none⟩ 0 [.int .i64 n_Ip211, .int .i64 n_Handler212, s_Stack213.val, s_Back214.val, s_Mem215.val, .string t_Out216, .string t_In217, .int .i64 n_Read218, .int .i64 n_Status219, .int .i64 n_Code220] →
 ∀ w226 : World, w226 = World.drew w225 →
 ∃ S227 : World → Prop, S227 w226 ∧
 ∃ n_Ip228 : Int, ∃ n_Handler229 : Int, ∃ s_Stack230 : Sl, ∃ s_Back231 : Sl, ∃ s_Mem232 : Sl, ∃ t_Out233 : ByteArray, ∃ t_In234 : ByteArray, ∃ n_Read235 : Int, ∃ n_Status236 : Int, ∃ n_Code237 : Int, held S227 ⟨b187, 0, none⟩ (.int .i64 n_Ip228) ∧ held S227 ⟨b187, 1, none⟩ (.int .i64 n_Handler229) ∧ held S227 ⟨b187, 2, none⟩ (s_Stack230.val) ∧ held S227 ⟨b187, 3, none⟩ (s_Back231.val) ∧ held S227 ⟨b187, 4, none⟩ (s_Mem232.val) ∧ held S227 ⟨b187, 5, none⟩ (.string t_Out233) ∧ held S227 ⟨b187, 6, none⟩ (.string t_In234) ∧ held S227 ⟨b187, 7, none⟩ (.int .i64 n_Read235) ∧ held S227 ⟨b187, 8, none⟩ (.int .i64 n_Status236) ∧ held S227 ⟨b187, 9, none⟩ (.int .i64 n_Code237) ∧
 ∃ n_Ip238 : Int, ∃ n_Handler239 : Int, ∃ s_Stack240 : Sl, ∃ s_Back241 : Sl, ∃ s_Mem242 : Sl, ∃ t_Out243 : ByteArray, ∃ t_In244 : ByteArray, ∃ n_Read245 : Int, ∃ n_Status246 : Int, ∃ n_Code247 : Int, held S227 ⟨b223, 0, none⟩ (.int .i64 n_Ip238) ∧ held S227 ⟨b223, 1, none⟩ (.int .i64 n_Handler239) ∧ held S227 ⟨b223, 2, none⟩ (s_Stack240.val) ∧ held S227 ⟨b223, 3, none⟩ (s_Back241.val) ∧ held S227 ⟨b223, 4, none⟩ (s_Mem242.val) ∧ held S227 ⟨b223, 5, none⟩ (.string t_Out243) ∧ held S227 ⟨b223, 6, none⟩ (.string t_In244) ∧ held S227 ⟨b223, 7, none⟩ (.int .i64 n_Read245) ∧ held S227 ⟨b223, 8, none⟩ (.int .i64 n_Status246) ∧ held S227 ⟨b223, 9, none⟩ (.int .i64 n_Code247) ∧
 Calls Try.prog fn_hollowaybook_SameState #[.agg #[.int .i64 n_Ip228, .int .i64 n_Handler229, s_Stack230.val, s_Back231.val, s_Mem232.val, .string t_Out233, .string t_In234, .int .i64 n_Read235, .int .i64 n_Status236, .int .i64 n_Code237], .agg #[.int .i64 n_Ip238, .int .i64 n_Handler239, s_Stack240.val, s_Back241.val, s_Mem242.val, .string t_Out243, .string t_In244, .int .i64 n_Read245, .int .i64 n_Status246, .int .i64 n_Code247]] w226 fun e248 w249 => ∃ b250 : Bool, e248 = .returned (.bool b250) ∧
 S227 w249 ∧
 brB b250
 (brB (b186 == b222)
 (∃ s251 : Sl, held S227 ⟨b21, 6, none⟩ (s251.val) ∧
 ∃ a252 : Addr, s251.ptr = some a252 ∧ 0 ≤ n185 ∧ n185 < (s251.len : Int) ∧
 ∃ n253 : Int, held S227 (Addr.add (Addr.add a252 (Int.toNat n185 * 4)) 1) (.int .i64 n253) ∧
 ∃ s254 : Sl, held S227 ⟨b115, 6, none⟩ (s254.val) ∧
 ∃ a255 : Addr, s254.ptr = some a255 ∧ 0 ≤ n221 ∧ n221 < (s254.len : Int) ∧
 ∃ n256 : Int, held S227 (Addr.add (Addr.add a255 (Int.toNat n221 * 4)) 1) (.int .i64 n256) ∧
 brB (n253 == n256)
 (∃ s257 : Sl, held S227 ⟨b21, 6, none⟩ (s257.val) ∧
 ∃ a258 : Addr, s257.ptr = some a258 ∧ 0 ≤ n185 ∧ n185 < (s257.len : Int) ∧
 ∃ n259 : Int, held S227 (Addr.add a258 (Int.toNat n185 * 4)) (.int .i64 n259) ∧
 ∃ s260 : Sl, held S227 ⟨b115, 6, none⟩ (s260.val) ∧
 ∃ a261 : Addr, s260.ptr = some a261 ∧ 0 ≤ n221 ∧ n221 < (s260.len : Int) ∧
 ∃ n262 : Int, held S227 (Addr.add a261 (Int.toNat n221 * 4)) (.int .i64 n262) ∧
 K (.bool (n259 == n262)) w249)
 (K (.bool false) w249))
 (K (.bool false) w249))
 (K (.bool false) w249))) ∧
 ∃ n_Start118 : Int, ∃ n_Slots119 : Int, ∃ n_Backs120 : Int, ∃ n_Grow121 : Int, ∃ n_GrowBack122 : Int, ∃ s_Ins123 : Sl, ∃ s_Outs124 : Sl, ∃ n_Last125 : Int, ∃ s_Cells126 : Sl, w117.cell? ⟨b115, 0, none⟩ = some (.int .i64 n_Start118) ∧ w117.cell? ⟨b115, 1, none⟩ = some (.int .i64 n_Slots119) ∧ w117.cell? ⟨b115, 2, none⟩ = some (.int .i64 n_Backs120) ∧ w117.cell? ⟨b115, 3, none⟩ = some (.int .i64 n_Grow121) ∧ w117.cell? ⟨b115, 4, none⟩ = some (.int .i64 n_GrowBack122) ∧ w117.cell? ⟨b115, 5, none⟩ = some (s_Ins123.val) ∧ w117.cell? ⟨b115, 6, none⟩ = some (s_Outs124.val) ∧ w117.cell? ⟨b115, 7, none⟩ = some (.int .i64 n_Last125) ∧ w117.cell? ⟨b115, 8, none⟩ = some (s_Cells126.val) ∧
 Calls Try.prog fn_hollowayref15_Right #[.agg #[.int .i64 n_Start118, .int .i64 n_Slots119, .int .i64 n_Backs120, .int .i64 n_Grow121, .int .i64 n_GrowBack122, s_Ins123.val, s_Outs124.val, .int .i64 n_Last125, s_Cells126.val]] w117 fun e127 w128 => ∃ b129 : Bool, e127 = .returned (.bool b129) ∧
 brB (!b129)
 (J11 true w128)
 (∃ n_Start130 : Int, ∃ n_Slots131 : Int, ∃ n_Backs132 : Int, ∃ n_Grow133 : Int, ∃ n_GrowBack134 : Int, ∃ s_Ins135 : Sl, ∃ s_Outs136 : Sl, ∃ n_Last137 : Int, ∃ s_Cells138 : Sl, w128.cell? ⟨b115, 0, none⟩ = some (.int .i64 n_Start130) ∧ w128.cell? ⟨b115, 1, none⟩ = some (.int .i64 n_Slots131) ∧ w128.cell? ⟨b115, 2, none⟩ = some (.int .i64 n_Backs132) ∧ w128.cell? ⟨b115, 3, none⟩ = some (.int .i64 n_Grow133) ∧ w128.cell? ⟨b115, 4, none⟩ = some (.int .i64 n_GrowBack134) ∧ w128.cell? ⟨b115, 5, none⟩ = some (s_Ins135.val) ∧ w128.cell? ⟨b115, 6, none⟩ = some (s_Outs136.val) ∧ w128.cell? ⟨b115, 7, none⟩ = some (.int .i64 n_Last137) ∧ w128.cell? ⟨b115, 8, none⟩ = some (s_Cells138.val) ∧
 ∃ n_Ip139 : Int, ∃ n_Handler140 : Int, ∃ s_Stack141 : Sl, ∃ s_Back142 : Sl, ∃ s_Mem143 : Sl, ∃ t_Out144 : ByteArray, ∃ t_In145 : ByteArray, ∃ n_Read146 : Int, ∃ n_Status147 : Int, ∃ n_Code148 : Int, w128.cell? ⟨b23, 0, none⟩ = some (.int .i64 n_Ip139) ∧ w128.cell? ⟨b23, 1, none⟩ = some (.int .i64 n_Handler140) ∧ w128.cell? ⟨b23, 2, none⟩ = some (s_Stack141.val) ∧ w128.cell? ⟨b23, 3, none⟩ = some (s_Back142.val) ∧ w128.cell? ⟨b23, 4, none⟩ = some (s_Mem143.val) ∧ w128.cell? ⟨b23, 5, none⟩ = some (.string t_Out144) ∧ w128.cell? ⟨b23, 6, none⟩ = some (.string t_In145) ∧ w128.cell? ⟨b23, 7, none⟩ = some (.int .i64 n_Read146) ∧ w128.cell? ⟨b23, 8, none⟩ = some (.int .i64 n_Status147) ∧ w128.cell? ⟨b23, 9, none⟩ = some (.int .i64 n_Code148) ∧
 Calls Try.prog fn_hollowayref15_May #[.agg #[.int .i64 n_Start130, .int .i64 n_Slots131, .int .i64 n_Backs132, .int .i64 n_Grow133, .int .i64 n_GrowBack134, s_Ins135.val, s_Outs136.val, .int .i64 n_Last137, s_Cells138.val], .agg #[.int .i64 n_Ip139, .int .i64 n_Handler140, s_Stack141.val, s_Back142.val, s_Mem143.val, .string t_Out144, .string t_In145, .int .i64 n_Read146, .int .i64 n_Status147, .int .i64 n_Code148]] w128 fun e149 w150 => ∃ b151 : Bool, e149 = .returned (.bool b151) ∧
 J11 (!b151) w150)))) ∧
 ∃ n_Start25 : Int, ∃ n_Slots26 : Int, ∃ n_Backs27 : Int, ∃ n_Grow28 : Int, ∃ n_GrowBack29 : Int, ∃ s_Ins30 : Sl, ∃ s_Outs31 : Sl, ∃ n_Last32 : Int, ∃ s_Cells33 : Sl, w24.cell? ⟨b21, 0, none⟩ = some (.int .i64 n_Start25) ∧ w24.cell? ⟨b21, 1, none⟩ = some (.int .i64 n_Slots26) ∧ w24.cell? ⟨b21, 2, none⟩ = some (.int .i64 n_Backs27) ∧ w24.cell? ⟨b21, 3, none⟩ = some (.int .i64 n_Grow28) ∧ w24.cell? ⟨b21, 4, none⟩ = some (.int .i64 n_GrowBack29) ∧ w24.cell? ⟨b21, 5, none⟩ = some (s_Ins30.val) ∧ w24.cell? ⟨b21, 6, none⟩ = some (s_Outs31.val) ∧ w24.cell? ⟨b21, 7, none⟩ = some (.int .i64 n_Last32) ∧ w24.cell? ⟨b21, 8, none⟩ = some (s_Cells33.val) ∧
 Calls Try.prog fn_hollowaylaw14_Light #[.agg #[.int .i64 n_Start25, .int .i64 n_Slots26, .int .i64 n_Backs27, .int .i64 n_Grow28, .int .i64 n_GrowBack29, s_Ins30.val, s_Outs31.val, .int .i64 n_Last32, s_Cells33.val]] w24 fun e34 w35 => ∃ b36 : Bool, e34 = .returned (.bool b36) ∧
 brB (!b36)
 (J3 true w35)
 (∃ n_Ip37 : Int, ∃ n_Handler38 : Int, ∃ s_Stack39 : Sl, ∃ s_Back40 : Sl, ∃ s_Mem41 : Sl, ∃ t_Out42 : ByteArray, ∃ t_In43 : ByteArray, ∃ n_Read44 : Int, ∃ n_Status45 : Int, ∃ n_Code46 : Int, w35.cell? ⟨b23, 0, none⟩ = some (.int .i64 n_Ip37) ∧ w35.cell? ⟨b23, 1, none⟩ = some (.int .i64 n_Handler38) ∧ w35.cell? ⟨b23, 2, none⟩ = some (s_Stack39.val) ∧ w35.cell? ⟨b23, 3, none⟩ = some (s_Back40.val) ∧ w35.cell? ⟨b23, 4, none⟩ = some (s_Mem41.val) ∧ w35.cell? ⟨b23, 5, none⟩ = some (.string t_Out42) ∧ w35.cell? ⟨b23, 6, none⟩ = some (.string t_In43) ∧ w35.cell? ⟨b23, 7, none⟩ = some (.int .i64 n_Read44) ∧ w35.cell? ⟨b23, 8, none⟩ = some (.int .i64 n_Status45) ∧ w35.cell? ⟨b23, 9, none⟩ = some (.int .i64 n_Code46) ∧
 Calls Try.prog fn_hollowaylaw9_Light #[.agg #[.int .i64 n_Ip37, .int .i64 n_Handler38, s_Stack39.val, s_Back40.val, s_Mem41.val, .string t_Out42, .string t_In43, .int .i64 n_Read44, .int .i64 n_Status45, .int .i64 n_Code46]] w35 fun e47 w48 => ∃ b49 : Bool, e47 = .returned (.bool b49) ∧
 brB (!b49)
 (J3 true w48)
 (brB (decide ((watched20.len : Int) > (60 : Int)))
 (J3 true w48)
 (∃ n_Start50 : Int, ∃ n_Slots51 : Int, ∃ n_Backs52 : Int, ∃ n_Grow53 : Int, ∃ n_GrowBack54 : Int, ∃ s_Ins55 : Sl, ∃ s_Outs56 : Sl, ∃ n_Last57 : Int, ∃ s_Cells58 : Sl, w48.cell? ⟨b21, 0, none⟩ = some (.int .i64 n_Start50) ∧ w48.cell? ⟨b21, 1, none⟩ = some (.int .i64 n_Slots51) ∧ w48.cell? ⟨b21, 2, none⟩ = some (.int .i64 n_Backs52) ∧ w48.cell? ⟨b21, 3, none⟩ = some (.int .i64 n_Grow53) ∧ w48.cell? ⟨b21, 4, none⟩ = some (.int .i64 n_GrowBack54) ∧ w48.cell? ⟨b21, 5, none⟩ = some (s_Ins55.val) ∧ w48.cell? ⟨b21, 6, none⟩ = some (s_Outs56.val) ∧ w48.cell? ⟨b21, 7, none⟩ = some (.int .i64 n_Last57) ∧ w48.cell? ⟨b21, 8, none⟩ = some (s_Cells58.val) ∧
 Calls Try.prog fn_hollowayref15_Right #[.agg #[.int .i64 n_Start50, .int .i64 n_Slots51, .int .i64 n_Backs52, .int .i64 n_Grow53, .int .i64 n_GrowBack54, s_Ins55.val, s_Outs56.val, .int .i64 n_Last57, s_Cells58.val]] w48 fun e59 w60 => ∃ b61 : Bool, e59 = .returned (.bool b61) ∧
 brB (!b61)
 (J3 true w60)
 (Calls Try.prog fn_hollowaylaw19_alive #[] w60 fun e62 w63 => ∃ b64 : Bool, e62 = .returned (.bool b64) ∧
 J3 (!b64) w63))))
def hollowaylaw19_PruneHolds_an : An := ⟨[], [(11, (36, .st 0 (.st 1 (.ef 2 (.st 3 (.st 4 (.st 5 (.st 6 (.st 7 (.st 8 (.st 9 (.st 10 (.st 11 (.st 12 (.st 13 (.st 14 (.st 15 (.st 16 (.st 17 (.st 18 (.st 19 (.st 20 (.st 21 (.st 22 (.st 23 (.st 24 (.st 25 (.st 26 (.st 27 (.st 28 (.st 29 (.st 30 (.st 31 (.st 32 (.st 33 (.st 34 (.st 35 .done))))))))))))))))))))))))))))))))))), 1))], [(2, [(35, .bool)]), (8, [(55, .bool)])]⟩
theorem hollowaylaw19_PruneHolds_lift {t__Start1 : Int} {t__Slots2 : Int} {t__Backs3 : Int} {t__Grow4 : Int} {t__GrowBack5 : Int} {t__Ins6 : Sl} {t__Outs7 : Sl} {t__Last8 : Int} {t__Cells9 : Sl} {s__Ip10 : Int} {s__Handler11 : Int} {s__Stack12 : Sl} {s__Back13 : Sl} {s__Mem14 : Sl} {s__Out15 : ByteArray} {s__In16 : ByteArray} {s__Read17 : Int} {s__Status18 : Int} {s__Code19 : Int} {watched20 : Sl} {w : World} {K : Value → World → Prop} (h : hollowaylaw19_PruneHolds_sh t__Start1 t__Slots2 t__Backs3 t__Grow4 t__GrowBack5 t__Ins6 t__Outs7 t__Last8 t__Cells9 s__Ip10 s__Handler11 s__Stack12 s__Back13 s__Mem14 s__Out15 s__In16 s__Read17 s__Status18 s__Code19 watched20 w K) : Calls Try.prog fn_hollowaylaw19_PruneHolds #[.agg #[.int .i64 t__Start1, .int .i64 t__Slots2, .int .i64 t__Backs3, .int .i64 t__Grow4, .int .i64 t__GrowBack5, t__Ins6.val, t__Outs7.val, .int .i64 t__Last8, t__Cells9.val], .agg #[.int .i64 s__Ip10, .int .i64 s__Handler11, s__Stack12.val, s__Back13.val, s__Mem14.val, .string s__Out15, .string s__In16, .int .i64 s__Read17, .int .i64 s__Status18, .int .i64 s__Code19], watched20.val] w fun e w' => ∃ v, e = .returned v ∧ K v w' :=
   lift_calls (A := hollowaylaw19_PruneHolds_an) (c := bodyOf Try.f12) (args := [.agg #[.int .i64 t__Start1, .int .i64 t__Slots2, .int .i64 t__Backs3, .int .i64 t__Grow4, .int .i64 t__GrowBack5, t__Ins6.val, t__Outs7.val, .int .i64 t__Last8, t__Cells9.val], .agg #[.int .i64 s__Ip10, .int .i64 s__Handler11, s__Stack12.val, s__Back13.val, s__Mem14.val, .string s__Out15, .string s__In16, .int .i64 s__Read17, .int .i64 s__Status18, .int .i64 s__Code19], watched20.val]) orc orc_wide Try.func12 (by kernel_rfl) (by kernel_rfl) (Eq.mp (by kernel_rfl : hollowaylaw19_PruneHolds_sh t__Start1 t__Slots2 t__Backs3 t__Grow4 t__GrowBack5 t__Ins6 t__Outs7 t__Last8 t__Cells9 s__Ip10 s__Handler11 s__Stack12 s__Back13 s__Mem14 s__Out15 s__In16 s__Read17 s__Status18 s__Code19 watched20 w K = wpc orc Try.f12.ntmps hollowaylaw19_PruneHolds_an (bodyOf Try.f12) (argl 0 [.agg #[.int .i64 t__Start1, .int .i64 t__Slots2, .int .i64 t__Backs3, .int .i64 t__Grow4, .int .i64 t__GrowBack5, t__Ins6.val, t__Outs7.val, .int .i64 t__Last8, t__Cells9.val], .agg #[.int .i64 s__Ip10, .int .i64 s__Handler11, s__Stack12.val, s__Back13.val, s__Mem14.val, .string s__Out15, .string s__In16, .int .i64 s__Read17, .int .i64 s__Status18, .int .i64 s__Code19], watched20.val]) w (retQ orc Try.f12.results.toList K)) h)

-- holloway/hollowaylaw19.PruneAll
def hollowaylaw19_PruneAll_j1 (b13 : Nat) (ops2 : Sl) (i65 : Int) (I2 : Int → World → Prop) (μ2 : Int → World → Nat) (w64 : World) (b70 : Bool) (w69 : World) (K : Value → World → Prop) : Prop :=
 brB b70
 (∃ s71 : Sl, w69.cell? ⟨b13, 5, none⟩ = some (s71.val) ∧
 ∀ w72 : World, w72 = World.drew w69 →
 ∃ S73 : World → Prop, S73 w72 ∧
 ∃ s74 : Sl, held S73 ⟨b13, 5, none⟩ (s74.val) ∧
 ∃ a75 : Addr, ops2.ptr = some a75 ∧ 0 ≤ i65 ∧ i65 < (ops2.len : Int) ∧
 ∃ n76 : Int, held S73 (Addr.add a75 (Int.toNat i65 * 1)) (.int .i64 n76) ∧
 (3 : Int) ≠ 0 ∧ (3 : Int) ≠ 0 ∧ ∃ a77 : Addr, ops2.ptr = some a77 ∧ 0 ≤ i65 ∧ i65 < (ops2.len : Int) ∧
 ∃ n78 : Int, held S73 (Addr.add a77 (Int.toNat i65 * 1)) (.int .i64 n78) ∧
 (3 : Int) ≠ 0 ∧ (s71.len : Int) ≠ 0 ∧ (s71.len : Int) ≠ 0 ∧ ∃ a79 : Addr, ops2.ptr = some a79 ∧ 0 ≤ i65 ∧ i65 < (ops2.len : Int) ∧
 ∃ n80 : Int, held S73 (Addr.add a79 (Int.toNat i65 * 1)) (.int .i64 n80) ∧
 (99 : Int) ≠ 0 ∧ (s71.len : Int) ≠ 0 ∧ (s71.len : Int) ≠ 0 ∧ ∀ (b81 : Nat) (w82 : World), b81 = w72.heap.size → w82 = World.alloc w72 (.cells #[.int .i64 (11 : Int), .int .i64 (19 : Int), .int .i64 (16 : Int)] T_int) →
 S73 w82 ∧
 ∃ a83 : Addr, (some ⟨b81, 0, none⟩) = some a83 ∧ 0 ≤ (Int.tmod (wr ((Int.tmod n76 (3 : Int)) + (3 : Int))) (3 : Int)) ∧ (Int.tmod (wr ((Int.tmod n76 (3 : Int)) + (3 : Int))) (3 : Int)) < (3 : Int) ∧
 ∃ n84 : Int, w82.cell? (Addr.add a83 (Int.toNat (Int.tmod (wr ((Int.tmod n76 (3 : Int)) + (3 : Int))) (3 : Int)) * 1)) = some (.int .i64 n84) ∧
 S73 w82 ∧
 S73 w82 ∧
 ∀ (b85 : Nat) (w86 : World), b85 = w82.heap.size → w86 = World.alloc w82 (.cells #[.int .i64 (4 : Int), .int .i64 n84, .int .i64 (Int.tmod (wr ((Int.tmod (wr (Int.tdiv n78 (3 : Int))) (s71.len : Int)) + (s71.len : Int))) (s71.len : Int)), .int .i64 (Int.tmod (wr ((Int.tmod (wr (Int.tdiv n80 (99 : Int))) (s71.len : Int)) + (s71.len : Int))) (s71.len : Int)), .int .i64 (0 : Int)] T_api_Ins) →
 S73 w86 ∧
 ∃ s87 : Sl, ∃ w88 : World, (Builtin.append_ #[T_sl_api_Ins, T_sl_api_Ins] T_sl_api_Ins #[s74.val, .slice (some ⟨b85, 0, none⟩) 1 1]).run Try.prog w86 = .ok (s87.val) w88 ∧
 wrOk w88 ⟨b13, 5, none⟩ 1 ∧ ∀ w89 : World, w89 = stW w88 ⟨b13, 5, none⟩ 0 [s87.val] →
 I2 (wr (i65 + (1 : Int))) w89 ∧ μ2 (wr (i65 + (1 : Int))) w89 < μ2 i65 w64)
 (∃ n_Start90 : Int, ∃ n_Slots91 : Int, ∃ n_Backs92 : Int, ∃ n_Grow93 : Int, ∃ n_GrowBack94 : Int, ∃ s_Ins95 : Sl, ∃ s_Outs96 : Sl, ∃ n_Last97 : Int, ∃ s_Cells98 : Sl, w69.cell? ⟨b13, 0, none⟩ = some (.int .i64 n_Start90) ∧ w69.cell? ⟨b13, 1, none⟩ = some (.int .i64 n_Slots91) ∧ w69.cell? ⟨b13, 2, none⟩ = some (.int .i64 n_Backs92) ∧ w69.cell? ⟨b13, 3, none⟩ = some (.int .i64 n_Grow93) ∧ w69.cell? ⟨b13, 4, none⟩ = some (.int .i64 n_GrowBack94) ∧ w69.cell? ⟨b13, 5, none⟩ = some (s_Ins95.val) ∧ w69.cell? ⟨b13, 6, none⟩ = some (s_Outs96.val) ∧ w69.cell? ⟨b13, 7, none⟩ = some (.int .i64 n_Last97) ∧ w69.cell? ⟨b13, 8, none⟩ = some (s_Cells98.val) ∧
 Calls Try.prog fn_prune_Do #[.agg #[.int .i64 n_Start90, .int .i64 n_Slots91, .int .i64 n_Backs92, .int .i64 n_Grow93, .int .i64 n_GrowBack94, s_Ins95.val, s_Outs96.val, .int .i64 n_Last97, s_Cells98.val]] w69 fun e99 w100 => ∃ n_Start101 : Int, ∃ n_Slots102 : Int, ∃ n_Backs103 : Int, ∃ n_Grow104 : Int, ∃ n_GrowBack105 : Int, ∃ s_Ins106 : Sl, ∃ s_Outs107 : Sl, ∃ n_Last108 : Int, ∃ s_Cells109 : Sl, e99 = .returned (.agg #[.int .i64 n_Start101, .int .i64 n_Slots102, .int .i64 n_Backs103, .int .i64 n_Grow104, .int .i64 n_GrowBack105, s_Ins106.val, s_Outs107.val, .int .i64 n_Last108, s_Cells109.val]) ∧
 ∀ (b110 : Nat) (w111 : World), b110 = w100.heap.size → w111 = World.alloc w100 (.cells #[.int .i64 (0 : Int), .int .i64 (0 : Int), .int .i64 (0 : Int), .int .i64 (0 : Int), .int .i64 (0 : Int), .slice none 0 0, .slice none 0 0, .int .i64 (0 : Int), .slice none 0 0] T_api_Trace) →
 wrOk w111 ⟨b110, 0, none⟩ 9 ∧ ∀ w112 : World, w112 = stW w111 ⟨b110, 0, none⟩ 0 [.int .i64 n_Start101, .int .i64 n_Slots102, .int .i64 n_Backs103, .int .i64 n_Grow104, .int .i64 n_GrowBack105, s_Ins106.val, s_Outs107.val, .int .i64 n_Last108, s_Cells109.val] →
 ∃ n_Start113 : Int, ∃ n_Slots114 : Int, ∃ n_Backs115 : Int, ∃ n_Grow116 : Int, ∃ n_GrowBack117 : Int, ∃ s_Ins118 : Sl, ∃ s_Outs119 : Sl, ∃ n_Last120 : Int, ∃ s_Cells121 : Sl, w112.cell? ⟨b13, 0, none⟩ = some (.int .i64 n_Start113) ∧ w112.cell? ⟨b13, 1, none⟩ = some (.int .i64 n_Slots114) ∧ w112.cell? ⟨b13, 2, none⟩ = some (.int .i64 n_Backs115) ∧ w112.cell? ⟨b13, 3, none⟩ = some (.int .i64 n_Grow116) ∧ w112.cell? ⟨b13, 4, none⟩ = some (.int .i64 n_GrowBack117) ∧ w112.cell? ⟨b13, 5, none⟩ = some (s_Ins118.val) ∧ w112.cell? ⟨b13, 6, none⟩ = some (s_Outs119.val) ∧ w112.cell? ⟨b13, 7, none⟩ = some (.int .i64 n_Last120) ∧ w112.cell? ⟨b13, 8, none⟩ = some (s_Cells121.val) ∧
 Calls Try.prog fn_hollowayref15_Right #[.agg #[.int .i64 n_Start113, .int .i64 n_Slots114, .int .i64 n_Backs115, .int .i64 n_Grow116, .int .i64 n_GrowBack117, s_Ins118.val, s_Outs119.val, .int .i64 n_Last120, s_Cells121.val]] w112 fun e122 w123 => ∃ b124 : Bool, e122 = .returned (.bool b124) ∧
 brB b124
 (∃ n_Start125 : Int, ∃ n_Slots126 : Int, ∃ n_Backs127 : Int, ∃ n_Grow128 : Int, ∃ n_GrowBack129 : Int, ∃ s_Ins130 : Sl, ∃ s_Outs131 : Sl, ∃ n_Last132 : Int, ∃ s_Cells133 : Sl, w123.cell? ⟨b110, 0, none⟩ = some (.int .i64 n_Start125) ∧ w123.cell? ⟨b110, 1, none⟩ = some (.int .i64 n_Slots126) ∧ w123.cell? ⟨b110, 2, none⟩ = some (.int .i64 n_Backs127) ∧ w123.cell? ⟨b110, 3, none⟩ = some (.int .i64 n_Grow128) ∧ w123.cell? ⟨b110, 4, none⟩ = some (.int .i64 n_GrowBack129) ∧ w123.cell? ⟨b110, 5, none⟩ = some (s_Ins130.val) ∧ w123.cell? ⟨b110, 6, none⟩ = some (s_Outs131.val) ∧ w123.cell? ⟨b110, 7, none⟩ = some (.int .i64 n_Last132) ∧ w123.cell? ⟨b110, 8, none⟩ = some (s_Cells133.val) ∧
 Calls Try.prog fn_hollowayref15_Right #[.agg #[.int .i64 n_Start125, .int .i64 n_Slots126, .int .i64 n_Backs127, .int .i64 n_Grow128, .int .i64 n_GrowBack129, s_Ins130.val, s_Outs131.val, .int .i64 n_Last132, s_Cells133.val]] w123 fun e134 w135 => ∃ b136 : Bool, e134 = .returned (.bool b136) ∧
 brB b136
 (∃ s137 : Sl, w135.cell? ⟨b110, 5, none⟩ = some (s137.val) ∧
 brB ((s137.len : Int) == (0 : Int))
 (∃ s138 : Sl, w135.cell? ⟨b110, 6, none⟩ = some (s138.val) ∧
 brB ((s138.len : Int) == (1 : Int))
 (∃ s139 : Sl, w135.cell? ⟨b110, 6, none⟩ = some (s139.val) ∧
 ∃ n140 : Int, w135.cell? ⟨b110, 7, none⟩ = some (.int .i64 n140) ∧
 ∃ a141 : Addr, s139.ptr = some a141 ∧ 0 ≤ n140 ∧ n140 < (s139.len : Int) ∧
 ∃ n142 : Int, w135.cell? (Addr.add a141 (Int.toNat n140 * 4)) = some (.int .i64 n142) ∧
 brB (n142 == (5 : Int))
 (∃ s143 : Sl, w135.cell? ⟨b110, 6, none⟩ = some (s143.val) ∧
 ∃ n144 : Int, w135.cell? ⟨b110, 7, none⟩ = some (.int .i64 n144) ∧
 ∃ a145 : Addr, s143.ptr = some a145 ∧ 0 ≤ n144 ∧ n144 < (s143.len : Int) ∧
 ∃ n146 : Int, w135.cell? (Addr.add (Addr.add a145 (Int.toNat n144 * 4)) 1) = some (.int .i64 n146) ∧
 K (.bool (n146 == (1 : Int))) w135)
 (K (.bool false) w135))
 (K (.bool false) w135))
 (K (.bool false) w135))
 (K (.bool false) w135))
 (K (.bool false) w123))
def hollowaylaw19_PruneAll_sh (l_1 : Sl) (ops2 : Sl) (w : World) (K : Value → World → Prop) : Prop :=
 ∃ J3 : Bool → World → Prop, (∀ (b7 : Bool) (w6 : World), J3 b7 w6 →
 brB b7
 (Calls Try.prog fn_hollowaylaw19_alive #[] w6 fun e8 w9 => ∃ b10 : Bool, e8 = .returned (.bool b10) ∧
 K (.bool b10) w9)
 (∀ (b11 : Nat) (w12 : World), b11 = w6.heap.size → w12 = World.alloc w6 (.cells #[.int .i64 (5 : Int), .int .i64 (1 : Int), .slice none 0 0, .slice none 0 0, .int .i64 (6 : Int), .int .i64 (0 : Int), .slice none 0 0, .slice none 0 0] T_api_Out) →
 ∀ (b13 : Nat) (w14 : World), b13 = w12.heap.size → w14 = World.alloc w12 (.cells #[.int .i64 (0 : Int), .int .i64 (0 : Int), .int .i64 (0 : Int), .int .i64 (0 : Int), .int .i64 (0 : Int), .slice none 0 0, .slice none 0 0, .int .i64 (0 : Int), .slice none 0 0] T_api_Trace) →
 wrOk w14 ⟨b13, 0, none⟩ 9 ∧ ∀ w15 : World, w15 = stW w14 ⟨b13, 0, none⟩ 0 [.int .i64 (5 : Int), .int .i64 (3 : Int), .int .i64 (2 : Int), .int .i64 (0 : Int), .int .i64 (0 : Int), .slice none 0 0, .slice (some ⟨b11, 0, none⟩) 2 2, .int .i64 (0 : Int), .slice none 0 0] →
 ∃ (I1 : Int → World → Prop) (μ1 : Int → World → Nat), I1 (0 : Int) w15 ∧ ∀ (i17 : Int) (w16 : World), I1 i17 w16 →
 brB (decide (i17 < (l_1.len : Int)))
 (∀ w18 : World, w18 = World.drew w16 →
 ∃ S19 : World → Prop, S19 w18 ∧
 ∃ s20 : Sl, held S19 ⟨b13, 5, none⟩ (s20.val) ∧
 ∃ a21 : Addr, l_1.ptr = some a21 ∧ 0 ≤ i17 ∧ i17 < (l_1.len : Int) ∧
 ∃ n22 : Int, held S19 (Addr.add a21 (Int.toNat i17 * 1)) (.int .i64 n22) ∧
 ∃ a23 : Addr, l_1.ptr = some a23 ∧ 0 ≤ i17 ∧ i17 < (l_1.len : Int) ∧
 ∃ n24 : Int, held S19 (Addr.add a23 (Int.toNat i17 * 1)) (.int .i64 n24) ∧
 (3 : Int) ≠ 0 ∧ (3 : Int) ≠ 0 ∧ ∃ T25 : World → World → Prop,
 ∃ Φ1 : (Int) → (Int) → (Int) → (Int) → (Int) → World → Prop, (∀ (x1_0 : Int) (x1_1 : Int) (x1_2 : Int) (x1_3 : Int) (x1_4 : Int), ∀ w26 w27 : World, T25 w26 w27 → Φ1 x1_0 x1_1 x1_2 x1_3 x1_4 w26 → Φ1 x1_0 x1_1 x1_2 x1_3 x1_4 w27) ∧
 (∀ w28 : World, S19 w28 →
 S19 w28 ∧ T25 w28 w28 ∧ Φ1 (1 : Int) n22 (0 : Int) (0 : Int) (0 : Int) w28) ∧
 ∃ Φ2 : (Int) → (Int) → (Int) → (Int) → (Int) → World → Prop, (∀ (x2_0 : Int) (x2_1 : Int) (x2_2 : Int) (x2_3 : Int) (x2_4 : Int), ∀ w29 w30 : World, T25 w29 w30 → Φ2 x2_0 x2_1 x2_2 x2_3 x2_4 w29 → Φ2 x2_0 x2_1 x2_2 x2_3 x2_4 w30) ∧
 (∀ w31 : World, S19 w31 →
 S19 w31 ∧ T25 w31 w31 ∧ Φ2 (2 : Int) (2 : Int) (0 : Int) (0 : Int) (0 : Int) w31) ∧
 ∃ Φ3 : (Int) → (Int) → (Int) → (Int) → (Int) → World → Prop, (∀ (x3_0 : Int) (x3_1 : Int) (x3_2 : Int) (x3_3 : Int) (x3_4 : Int), ∀ w32 w33 : World, T25 w32 w33 → Φ3 x3_0 x3_1 x3_2 x3_3 x3_4 w32 → Φ3 x3_0 x3_1 x3_2 x3_3 x3_4 w33) ∧
 (∀ w34 : World, S19 w34 →
 S19 w34 ∧ T25 w34 w34 ∧ Φ3 (3 : Int) (1 : Int) (0 : Int) (0 : Int) (0 : Int) w34) ∧
 ∀ w35 : World, S19 w35 →
 ∀ (n36 : Int) (n37 : Int) (n38 : Int) (n39 : Int) (n40 : Int), Φ1 n36 n37 n38 n39 n40 w35 →
 ∀ (n41 : Int) (n42 : Int) (n43 : Int) (n44 : Int) (n45 : Int), Φ2 n41 n42 n43 n44 n45 w35 →
 ∀ (n46 : Int) (n47 : Int) (n48 : Int) (n49 : Int) (n50 : Int), Φ3 n46 n47 n48 n49 n50 w35 →
 ∀ (b51 : Nat) (w52 : World), b51 = w35.heap.size → w52 = World.alloc w35 (.cells #[.int .i64 n36, .int .i64 n37, .int .i64 n38, .int .i64 n39, .int .i64 n40, .int .i64 n41, .int .i64 n42, .int .i64 n43, .int .i64 n44, .int .i64 n45, .int .i64 n46, .int .i64 n47, .int .i64 n48, .int .i64 n49, .int .i64 n50] T_api_Ins) →
 S19 w52 ∧
 ∃ a53 : Addr, (some ⟨b51, 0, none⟩) = some a53 ∧ 0 ≤ (Int.tmod (wr ((Int.tmod n24 (3 : Int)) + (3 : Int))) (3 : Int)) ∧ (Int.tmod (wr ((Int.tmod n24 (3 : Int)) + (3 : Int))) (3 : Int)) < (3 : Int) ∧
 ∃ n_Op54 : Int, ∃ n_A55 : Int, ∃ n_B56 : Int, ∃ n_C57 : Int, ∃ n_X58 : Int, w52.cell? (Addr.add a53 (Int.toNat (Int.tmod (wr ((Int.tmod n24 (3 : Int)) + (3 : Int))) (3 : Int)) * 5)) = some (.int .i64 n_Op54) ∧ w52.cell? (Addr.add (Addr.add a53 (Int.toNat (Int.tmod (wr ((Int.tmod n24 (3 : Int)) + (3 : Int))) (3 : Int)) * 5)) 1) = some (.int .i64 n_A55) ∧ w52.cell? (Addr.add (Addr.add a53 (Int.toNat (Int.tmod (wr ((Int.tmod n24 (3 : Int)) + (3 : Int))) (3 : Int)) * 5)) 2) = some (.int .i64 n_B56) ∧ w52.cell? (Addr.add (Addr.add a53 (Int.toNat (Int.tmod (wr ((Int.tmod n24 (3 : Int)) + (3 : Int))) (3 : Int)) * 5)) 3) = some (.int .i64 n_C57) ∧ w52.cell? (Addr.add (Addr.add a53 (Int.toNat (Int.tmod (wr ((Int.tmod n24 (3 : Int)) + (3 : Int))) (3 : Int)) * 5)) 4) = some (.int .i64 n_X58) ∧
 S19 w52 ∧
 ∀ (b59 : Nat) (w60 : World), b59 = w52.heap.size → w60 = World.alloc w52 (.cells #[.int .i64 n_Op54, .int .i64 n_A55, .int .i64 n_B56, .int .i64 n_C57, .int .i64 n_X58] T_api_Ins) →
 S19 w60 ∧
 ∃ s61 : Sl, ∃ w62 : World, (Builtin.append_ #[T_sl_api_Ins, T_sl_api_Ins] T_sl_api_Ins #[s20.val, .slice (some ⟨b59, 0, none⟩) 1 1]).run Try.prog w60 = .ok (s61.val) w62 ∧
 wrOk w62 ⟨b13, 5, none⟩ 1 ∧ ∀ w63 : World, w63 = stW w62 ⟨b13, 5, none⟩ 0 [s61.val] →
 I1 (wr (i17 + (1 : Int))) w63 ∧ μ1 (wr (i17 + (1 : Int))) w63 < μ1 i17 w16)
 (∃ (I2 : Int → World → Prop) (μ2 : Int → World → Nat), I2 (0 : Int) w16 ∧ ∀ (i65 : Int) (w64 : World), I2 i65 w64 →
 brB (decide (i65 < (ops2.len : Int)))
 (∃ s66 : Sl, w64.cell? ⟨b13, 5, none⟩ = some (s66.val) ∧
 hollowaylaw19_PruneAll_j1 b13 ops2 i65 I2 (μ2) w64 (decide ((s66.len : Int) > (0 : Int))) w64 K)
 (hollowaylaw19_PruneAll_j1 b13 ops2 i65 I2 (μ2) w64 false w64 K)))) ∧
 brB (decide ((l_1.len : Int) > (20 : Int)))
 (J3 true w)
 (brB (decide ((ops2.len : Int) > (40 : Int)))
 (J3 true w)
 (Calls Try.prog fn_hollowaylaw19_alive #[] w fun e3 w4 => ∃ b5 : Bool, e3 = .returned (.bool b5) ∧
 J3 (!b5) w4))
def hollowaylaw19_PruneAll_an : An := ⟨[(5, [(6, .int .i64)]), (9, [(7, .int .i64)])], [(7, (20, .st 0 (.st 1 (.st 2 (.st 3 (.st 4 (.st 5 (.st 10 (.st 11 (.st 12 (.st 13 (.st 14 (.st 15 (.st 16 (.par [(6, true, [.int .i64, .int .i64, .int .i64, .int .i64, .int .i64]), (7, true, [.int .i64, .int .i64, .int .i64, .int .i64, .int .i64]), (8, true, [.int .i64, .int .i64, .int .i64, .int .i64, .int .i64])] (.ef 9 (.st 17 (.ef 18 (.ef 19 .done))))))))))))))))), 1)), (12, (36, .st 0 (.st 1 (.st 3 (.st 4 (.st 5 (.st 6 (.st 7 (.st 8 (.st 9 (.st 12 (.st 13 (.st 14 (.st 15 (.st 16 (.st 17 (.st 18 (.st 19 (.st 20 (.st 21 (.st 22 (.st 23 (.st 24 (.st 25 (.st 26 (.st 27 (.st 28 (.st 29 (.st 30 (.st 31 (.st 32 (.st 33 (.ef 2 (.st 10 (.ef 11 (.ef 34 (.ef 35 .done))))))))))))))))))))))))))))))))))), 1))], [(2, [(21, .bool)])]⟩
theorem hollowaylaw19_PruneAll_lift {l_1 : Sl} {ops2 : Sl} {w : World} {K : Value → World → Prop} (h : hollowaylaw19_PruneAll_sh l_1 ops2 w K) : Calls Try.prog fn_hollowaylaw19_PruneAll #[l_1.val, ops2.val] w fun e w' => ∃ v, e = .returned v ∧ K v w' :=
   lift_calls (A := hollowaylaw19_PruneAll_an) (c := bodyOf Try.f13) (args := [l_1.val, ops2.val]) orc orc_wide Try.func13 (by kernel_rfl) (by kernel_rfl) (Eq.mp (by kernel_rfl : hollowaylaw19_PruneAll_sh l_1 ops2 w K = wpc orc Try.f13.ntmps hollowaylaw19_PruneAll_an (bodyOf Try.f13) (argl 0 [l_1.val, ops2.val]) w (retQ orc Try.f13.results.toList K)) h)

-- holloway/hollowaylaw19.alive
def hollowaylaw19_alive_sh  (w : World) (K : Value → World → Prop) : Prop :=
 ∀ (b1 : Nat) (w2 : World), b1 = w.heap.size → w2 = World.alloc w (.cells #[.int .i64 (1 : Int), .int .i64 (2 : Int), .int .i64 (0 : Int), .int .i64 (0 : Int), .int .i64 (0 : Int)] T_api_Ins) →
 ∀ (b3 : Nat) (w4 : World), b3 = w2.heap.size → w4 = World.alloc w2 (.cells #[.int .i64 (5 : Int), .int .i64 (1 : Int), .slice none 0 0, .slice none 0 0] T_api_Out) →
 ∀ (b5 : Nat) (w6 : World), b5 = w4.heap.size → w6 = World.alloc w4 (.cells #[.int .i64 (0 : Int), .int .i64 (0 : Int), .int .i64 (0 : Int), .int .i64 (0 : Int), .int .i64 (0 : Int), .slice none 0 0, .slice none 0 0, .int .i64 (0 : Int), .slice none 0 0] T_api_Trace) →
 wrOk w6 ⟨b5, 0, none⟩ 9 ∧ ∀ w7 : World, w7 = stW w6 ⟨b5, 0, none⟩ 0 [.int .i64 (5 : Int), .int .i64 (0 : Int), .int .i64 (0 : Int), .int .i64 (0 : Int), .int .i64 (0 : Int), .slice (some ⟨b1, 0, none⟩) 1 1, .slice (some ⟨b3, 0, none⟩) 1 1, .int .i64 (0 : Int), .slice none 0 0] →
 ∃ n_Start8 : Int, ∃ n_Slots9 : Int, ∃ n_Backs10 : Int, ∃ n_Grow11 : Int, ∃ n_GrowBack12 : Int, ∃ s_Ins13 : Sl, ∃ s_Outs14 : Sl, ∃ n_Last15 : Int, ∃ s_Cells16 : Sl, w7.cell? ⟨b5, 0, none⟩ = some (.int .i64 n_Start8) ∧ w7.cell? ⟨b5, 1, none⟩ = some (.int .i64 n_Slots9) ∧ w7.cell? ⟨b5, 2, none⟩ = some (.int .i64 n_Backs10) ∧ w7.cell? ⟨b5, 3, none⟩ = some (.int .i64 n_Grow11) ∧ w7.cell? ⟨b5, 4, none⟩ = some (.int .i64 n_GrowBack12) ∧ w7.cell? ⟨b5, 5, none⟩ = some (s_Ins13.val) ∧ w7.cell? ⟨b5, 6, none⟩ = some (s_Outs14.val) ∧ w7.cell? ⟨b5, 7, none⟩ = some (.int .i64 n_Last15) ∧ w7.cell? ⟨b5, 8, none⟩ = some (s_Cells16.val) ∧
 Calls Try.prog fn_prune_Do #[.agg #[.int .i64 n_Start8, .int .i64 n_Slots9, .int .i64 n_Backs10, .int .i64 n_Grow11, .int .i64 n_GrowBack12, s_Ins13.val, s_Outs14.val, .int .i64 n_Last15, s_Cells16.val]] w7 fun e17 w18 => ∃ n_Start19 : Int, ∃ n_Slots20 : Int, ∃ n_Backs21 : Int, ∃ n_Grow22 : Int, ∃ n_GrowBack23 : Int, ∃ s_Ins24 : Sl, ∃ s_Outs25 : Sl, ∃ n_Last26 : Int, ∃ s_Cells27 : Sl, e17 = .returned (.agg #[.int .i64 n_Start19, .int .i64 n_Slots20, .int .i64 n_Backs21, .int .i64 n_Grow22, .int .i64 n_GrowBack23, s_Ins24.val, s_Outs25.val, .int .i64 n_Last26, s_Cells27.val]) ∧
 ∀ (b28 : Nat) (w29 : World), b28 = w18.heap.size → w29 = World.alloc w18 (.cells #[.int .i64 (0 : Int), .int .i64 (0 : Int), .int .i64 (0 : Int), .int .i64 (0 : Int), .int .i64 (0 : Int), .slice none 0 0, .slice none 0 0, .int .i64 (0 : Int), .slice none 0 0] T_api_Trace) →
 wrOk w29 ⟨b28, 0, none⟩ 9 ∧ ∀ w30 : World, w30 = stW w29 ⟨b28, 0, none⟩ 0 [.int .i64 n_Start19, .int .i64 n_Slots20, .int .i64 n_Backs21, .int .i64 n_Grow22, .int .i64 n_GrowBack23, s_Ins24.val, s_Outs25.val, .int .i64 n_Last26, s_Cells27.val] →
 Calls Try.prog fn_hollowayref1_Two #[.int .i64 (11 : Int), .int .i64 (1 : Int), .int .i64 (1 : Int)] w30 fun e31 w32 => ∃ n33 : Int, ∃ b34 : Bool, e31 = .returned (.tuple #[.int .i64 n33, .bool b34]) ∧
 ∃ n_Start35 : Int, ∃ n_Slots36 : Int, ∃ n_Backs37 : Int, ∃ n_Grow38 : Int, ∃ n_GrowBack39 : Int, ∃ s_Ins40 : Sl, ∃ s_Outs41 : Sl, ∃ n_Last42 : Int, ∃ s_Cells43 : Sl, w32.cell? ⟨b5, 0, none⟩ = some (.int .i64 n_Start35) ∧ w32.cell? ⟨b5, 1, none⟩ = some (.int .i64 n_Slots36) ∧ w32.cell? ⟨b5, 2, none⟩ = some (.int .i64 n_Backs37) ∧ w32.cell? ⟨b5, 3, none⟩ = some (.int .i64 n_Grow38) ∧ w32.cell? ⟨b5, 4, none⟩ = some (.int .i64 n_GrowBack39) ∧ w32.cell? ⟨b5, 5, none⟩ = some (s_Ins40.val) ∧ w32.cell? ⟨b5, 6, none⟩ = some (s_Outs41.val) ∧ w32.cell? ⟨b5, 7, none⟩ = some (.int .i64 n_Last42) ∧ w32.cell? ⟨b5, 8, none⟩ = some (s_Cells43.val) ∧
 Calls Try.prog fn_prune_Left #[.agg #[.int .i64 n_Start35, .int .i64 n_Slots36, .int .i64 n_Backs37, .int .i64 n_Grow38, .int .i64 n_GrowBack39, s_Ins40.val, s_Outs41.val, .int .i64 n_Last42, s_Cells43.val]] w32 fun e44 w45 => ∃ n46 : Int, e44 = .returned (.int .i64 n46) ∧
 brB (n46 == (1 : Int))
 (∃ n_Start47 : Int, ∃ n_Slots48 : Int, ∃ n_Backs49 : Int, ∃ n_Grow50 : Int, ∃ n_GrowBack51 : Int, ∃ s_Ins52 : Sl, ∃ s_Outs53 : Sl, ∃ n_Last54 : Int, ∃ s_Cells55 : Sl, w45.cell? ⟨b28, 0, none⟩ = some (.int .i64 n_Start47) ∧ w45.cell? ⟨b28, 1, none⟩ = some (.int .i64 n_Slots48) ∧ w45.cell? ⟨b28, 2, none⟩ = some (.int .i64 n_Backs49) ∧ w45.cell? ⟨b28, 3, none⟩ = some (.int .i64 n_Grow50) ∧ w45.cell? ⟨b28, 4, none⟩ = some (.int .i64 n_GrowBack51) ∧ w45.cell? ⟨b28, 5, none⟩ = some (s_Ins52.val) ∧ w45.cell? ⟨b28, 6, none⟩ = some (s_Outs53.val) ∧ w45.cell? ⟨b28, 7, none⟩ = some (.int .i64 n_Last54) ∧ w45.cell? ⟨b28, 8, none⟩ = some (s_Cells55.val) ∧
 Calls Try.prog fn_prune_Left #[.agg #[.int .i64 n_Start47, .int .i64 n_Slots48, .int .i64 n_Backs49, .int .i64 n_Grow50, .int .i64 n_GrowBack51, s_Ins52.val, s_Outs53.val, .int .i64 n_Last54, s_Cells55.val]] w45 fun e56 w57 => ∃ n58 : Int, e56 = .returned (.int .i64 n58) ∧
 brB (n58 == (0 : Int))
 (∃ n_Start59 : Int, ∃ n_Slots60 : Int, ∃ n_Backs61 : Int, ∃ n_Grow62 : Int, ∃ n_GrowBack63 : Int, ∃ s_Ins64 : Sl, ∃ s_Outs65 : Sl, ∃ n_Last66 : Int, ∃ s_Cells67 : Sl, w57.cell? ⟨b28, 0, none⟩ = some (.int .i64 n_Start59) ∧ w57.cell? ⟨b28, 1, none⟩ = some (.int .i64 n_Slots60) ∧ w57.cell? ⟨b28, 2, none⟩ = some (.int .i64 n_Backs61) ∧ w57.cell? ⟨b28, 3, none⟩ = some (.int .i64 n_Grow62) ∧ w57.cell? ⟨b28, 4, none⟩ = some (.int .i64 n_GrowBack63) ∧ w57.cell? ⟨b28, 5, none⟩ = some (s_Ins64.val) ∧ w57.cell? ⟨b28, 6, none⟩ = some (s_Outs65.val) ∧ w57.cell? ⟨b28, 7, none⟩ = some (.int .i64 n_Last66) ∧ w57.cell? ⟨b28, 8, none⟩ = some (s_Cells67.val) ∧
 Calls Try.prog fn_hollowayref15_Right #[.agg #[.int .i64 n_Start59, .int .i64 n_Slots60, .int .i64 n_Backs61, .int .i64 n_Grow62, .int .i64 n_GrowBack63, s_Ins64.val, s_Outs65.val, .int .i64 n_Last66, s_Cells67.val]] w57 fun e68 w69 => ∃ b70 : Bool, e68 = .returned (.bool b70) ∧
 brB b70
 (∃ s71 : Sl, w69.cell? ⟨b28, 5, none⟩ = some (s71.val) ∧
 brB ((s71.len : Int) == (0 : Int))
 (K (.bool (n33 == (2 : Int))) w69)
 (K (.bool false) w69))
 (K (.bool false) w69))
 (K (.bool false) w57))
 (K (.bool false) w45)
def hollowaylaw19_alive_an : An := ⟨[], [], []⟩
theorem hollowaylaw19_alive_lift  {w : World} {K : Value → World → Prop} (h : hollowaylaw19_alive_sh  w K) : Calls Try.prog fn_hollowaylaw19_alive #[] w fun e w' => ∃ v, e = .returned v ∧ K v w' :=
   lift_calls (A := hollowaylaw19_alive_an) (c := bodyOf Try.f39) (args := []) orc orc_wide Try.func39 (by kernel_rfl) (by kernel_rfl) (Eq.mp (by kernel_rfl : hollowaylaw19_alive_sh  w K = wpc orc Try.f39.ntmps hollowaylaw19_alive_an (bodyOf Try.f39) (argl 0 []) w (retQ orc Try.f39.results.toList K)) h)

end Go.Proofs.Ytblmoilneiffgaa
