/- The walk of EvalWatched. -/
import Derived.Test.YtblmoilneiffgaaJ4
import Derived.Test.YtblmoilneiffgaaJ8
import Derived.Test.YtblmoilneiffgaaJ7
import Derived.Test.YtblmoilneiffgaaJ3

/- Functions of Hollowaylaw15, read without their frames; that each is enough. Printed by a program of mine (wip/lift/gen.py). -/
set_option maxRecDepth 100000
namespace Go.Proofs.Ytblmoilneiffgaa
open Go.RowKit

-- holloway/hollowaylaw15.EvalWatched
def hollowaylaw15_EvalWatched_sh (t__Start1 : Int) (t__Slots2 : Int) (t__Backs3 : Int) (t__Grow4 : Int) (t__GrowBack5 : Int) (t__Ins6 : Sl) (t__Outs7 : Sl) (t__Last8 : Int) (t__Cells9 : Sl) (s__Ip10 : Int) (s__Handler11 : Int) (s__Stack12 : Sl) (s__Back13 : Sl) (s__Mem14 : Sl) (s__Out15 : ByteArray) (s__In16 : ByteArray) (s__Read17 : Int) (s__Status18 : Int) (s__Code19 : Int) (w : World) (K : Value → World → Prop) : Prop :=
 ∀ (b20 : Nat) (w21 : World), b20 = w.heap.size → w21 = World.alloc w (.cells #[.int .i64 t__Start1, .int .i64 t__Slots2, .int .i64 t__Backs3, .int .i64 t__Grow4, .int .i64 t__GrowBack5, t__Ins6.val, t__Outs7.val, .int .i64 t__Last8, t__Cells9.val] T_api_Trace) →
 ∀ (b22 : Nat) (w23 : World), b22 = w21.heap.size → w23 = World.alloc w21 (.cells #[.int .i64 s__Ip10, .int .i64 s__Handler11, s__Stack12.val, s__Back13.val, s__Mem14.val, .string s__Out15, .string s__In16, .int .i64 s__Read17, .int .i64 s__Status18, .int .i64 s__Code19] T_api_State) →
 ∃ J3 : Bool → World → Prop, (∀ (b65 : Bool) (w64 : World), J3 b65 w64 →
 brB b65
 (Calls Try.prog fn_hollowaylaw15_alive #[] w64 fun e66 w67 => ∃ b68 : Bool, e66 = .returned (.bool b68) ∧
 K (.bool b68) w67)
 (∃ n69 : Int, w64.cell? ⟨b20, 0, none⟩ = some (.int .i64 n69) ∧
 wrOk w64 ⟨b22, 0, none⟩ 1 ∧ ∀ w70 : World, w70 = stW w64 ⟨b22, 0, none⟩ 0 [.int .i64 n69] →
 wrOk w70 ⟨b22, 8, none⟩ 1 ∧ ∀ w71 : World, w71 = stW w70 ⟨b22, 8, none⟩ 0 [.int .i64 (0 : Int)] →
 ∃ n_Start72 : Int, ∃ n_Slots73 : Int, ∃ n_Backs74 : Int, ∃ n_Grow75 : Int, ∃ n_GrowBack76 : Int, ∃ s_Ins77 : Sl, ∃ s_Outs78 : Sl, ∃ n_Last79 : Int, ∃ s_Cells80 : Sl, w71.cell? ⟨b20, 0, none⟩ = some (.int .i64 n_Start72) ∧ w71.cell? ⟨b20, 1, none⟩ = some (.int .i64 n_Slots73) ∧ w71.cell? ⟨b20, 2, none⟩ = some (.int .i64 n_Backs74) ∧ w71.cell? ⟨b20, 3, none⟩ = some (.int .i64 n_Grow75) ∧ w71.cell? ⟨b20, 4, none⟩ = some (.int .i64 n_GrowBack76) ∧ w71.cell? ⟨b20, 5, none⟩ = some (s_Ins77.val) ∧ w71.cell? ⟨b20, 6, none⟩ = some (s_Outs78.val) ∧ w71.cell? ⟨b20, 7, none⟩ = some (.int .i64 n_Last79) ∧ w71.cell? ⟨b20, 8, none⟩ = some (s_Cells80.val) ∧
 ∃ n_Ip81 : Int, ∃ n_Handler82 : Int, ∃ s_Stack83 : Sl, ∃ s_Back84 : Sl, ∃ s_Mem85 : Sl, ∃ t_Out86 : ByteArray, ∃ t_In87 : ByteArray, ∃ n_Read88 : Int, ∃ n_Status89 : Int, ∃ n_Code90 : Int, w71.cell? ⟨b22, 0, none⟩ = some (.int .i64 n_Ip81) ∧ w71.cell? ⟨b22, 1, none⟩ = some (.int .i64 n_Handler82) ∧ w71.cell? ⟨b22, 2, none⟩ = some (s_Stack83.val) ∧ w71.cell? ⟨b22, 3, none⟩ = some (s_Back84.val) ∧ w71.cell? ⟨b22, 4, none⟩ = some (s_Mem85.val) ∧ w71.cell? ⟨b22, 5, none⟩ = some (.string t_Out86) ∧ w71.cell? ⟨b22, 6, none⟩ = some (.string t_In87) ∧ w71.cell? ⟨b22, 7, none⟩ = some (.int .i64 n_Read88) ∧ w71.cell? ⟨b22, 8, none⟩ = some (.int .i64 n_Status89) ∧ w71.cell? ⟨b22, 9, none⟩ = some (.int .i64 n_Code90) ∧
 Calls Try.prog fn_hollowayref15_May #[.agg #[.int .i64 n_Start72, .int .i64 n_Slots73, .int .i64 n_Backs74, .int .i64 n_Grow75, .int .i64 n_GrowBack76, s_Ins77.val, s_Outs78.val, .int .i64 n_Last79, s_Cells80.val], .agg #[.int .i64 n_Ip81, .int .i64 n_Handler82, s_Stack83.val, s_Back84.val, s_Mem85.val, .string t_Out86, .string t_In87, .int .i64 n_Read88, .int .i64 n_Status89, .int .i64 n_Code90]] w71 fun e91 w92 => ∃ b93 : Bool, e91 = .returned (.bool b93) ∧
 brB (!b93)
 (K (.bool true) w92)
 (∃ (I1 : Sl → Int → World → Prop) (μ1 : Sl → Int → World → Nat), I1 (⟨none, 0, 0⟩ : Sl) (0 : Int) w92 ∧ ∀ (all97 : Sl) (k95 : Int) (w94 : World), I1 all97 k95 w94 →
 ∃ s96 : Sl, w94.cell? ⟨b22, 4, none⟩ = some (s96.val) ∧
 brB (decide (k95 < (s96.len : Int)))
 (∀ (b98 : Nat) (w99 : World), b98 = w94.heap.size → w99 = World.alloc w94 (.cells #[.int .i64 k95] T_int) →
 ∃ s100 : Sl, ∃ w101 : World, (Builtin.append_ #[T_sl_int, T_sl_int] T_sl_int #[all97.val, .slice (some ⟨b98, 0, none⟩) 1 1]).run Try.prog w99 = .ok (s100.val) w101 ∧
 I1 s100 (wr (k95 + (1 : Int))) w101 ∧ μ1 s100 (wr (k95 + (1 : Int))) w101 < μ1 all97 k95 w94)
 (∃ n_Start102 : Int, ∃ n_Slots103 : Int, ∃ n_Backs104 : Int, ∃ n_Grow105 : Int, ∃ n_GrowBack106 : Int, ∃ s_Ins107 : Sl, ∃ s_Outs108 : Sl, ∃ n_Last109 : Int, ∃ s_Cells110 : Sl, w94.cell? ⟨b20, 0, none⟩ = some (.int .i64 n_Start102) ∧ w94.cell? ⟨b20, 1, none⟩ = some (.int .i64 n_Slots103) ∧ w94.cell? ⟨b20, 2, none⟩ = some (.int .i64 n_Backs104) ∧ w94.cell? ⟨b20, 3, none⟩ = some (.int .i64 n_Grow105) ∧ w94.cell? ⟨b20, 4, none⟩ = some (.int .i64 n_GrowBack106) ∧ w94.cell? ⟨b20, 5, none⟩ = some (s_Ins107.val) ∧ w94.cell? ⟨b20, 6, none⟩ = some (s_Outs108.val) ∧ w94.cell? ⟨b20, 7, none⟩ = some (.int .i64 n_Last109) ∧ w94.cell? ⟨b20, 8, none⟩ = some (s_Cells110.val) ∧
 ∃ n_Ip111 : Int, ∃ n_Handler112 : Int, ∃ s_Stack113 : Sl, ∃ s_Back114 : Sl, ∃ s_Mem115 : Sl, ∃ t_Out116 : ByteArray, ∃ t_In117 : ByteArray, ∃ n_Read118 : Int, ∃ n_Status119 : Int, ∃ n_Code120 : Int, w94.cell? ⟨b22, 0, none⟩ = some (.int .i64 n_Ip111) ∧ w94.cell? ⟨b22, 1, none⟩ = some (.int .i64 n_Handler112) ∧ w94.cell? ⟨b22, 2, none⟩ = some (s_Stack113.val) ∧ w94.cell? ⟨b22, 3, none⟩ = some (s_Back114.val) ∧ w94.cell? ⟨b22, 4, none⟩ = some (s_Mem115.val) ∧ w94.cell? ⟨b22, 5, none⟩ = some (.string t_Out116) ∧ w94.cell? ⟨b22, 6, none⟩ = some (.string t_In117) ∧ w94.cell? ⟨b22, 7, none⟩ = some (.int .i64 n_Read118) ∧ w94.cell? ⟨b22, 8, none⟩ = some (.int .i64 n_Status119) ∧ w94.cell? ⟨b22, 9, none⟩ = some (.int .i64 n_Code120) ∧
 Calls Try.prog fn_eval_Run #[.agg #[.int .i64 n_Start102, .int .i64 n_Slots103, .int .i64 n_Backs104, .int .i64 n_Grow105, .int .i64 n_GrowBack106, s_Ins107.val, s_Outs108.val, .int .i64 n_Last109, s_Cells110.val], .agg #[.int .i64 n_Ip111, .int .i64 n_Handler112, s_Stack113.val, s_Back114.val, s_Mem115.val, .string t_Out116, .string t_In117, .int .i64 n_Read118, .int .i64 n_Status119, .int .i64 n_Code120], .slice none 0 0] w94 fun e121 w122 => ∃ n_Ip123 : Int, ∃ n_Handler124 : Int, ∃ s_Stack125 : Sl, ∃ s_Back126 : Sl, ∃ s_Mem127 : Sl, ∃ t_Out128 : ByteArray, ∃ t_In129 : ByteArray, ∃ n_Read130 : Int, ∃ n_Status131 : Int, ∃ n_Code132 : Int, ∃ n_Exit133 : Int, ∃ n_Steps134 : Int, ∃ b_Hit135 : Bool, e121 = .returned (.tuple #[.agg #[.int .i64 n_Ip123, .int .i64 n_Handler124, s_Stack125.val, s_Back126.val, s_Mem127.val, .string t_Out128, .string t_In129, .int .i64 n_Read130, .int .i64 n_Status131, .int .i64 n_Code132], .agg #[.int .i64 n_Exit133, .int .i64 n_Steps134, .bool b_Hit135]]) ∧
 ∀ (b136 : Nat) (w137 : World), b136 = w122.heap.size → w137 = World.alloc w122 (.cells #[.int .i64 (0 : Int), .int .i64 (0 : Int), .slice none 0 0, .slice none 0 0, .slice none 0 0, .string (bs []), .string (bs []), .int .i64 (0 : Int), .int .i64 (0 : Int), .int .i64 (0 : Int)] T_api_State) →
 ∀ (b138 : Nat) (w139 : World), b138 = w137.heap.size → w139 = World.alloc w137 (.cells #[.int .i64 (0 : Int), .int .i64 (0 : Int), .bool false] T_eval_Done) →
 wrOk w139 ⟨b136, 0, none⟩ 10 ∧ ∀ w140 : World, w140 = stW w139 ⟨b136, 0, none⟩ 0 [.int .i64 n_Ip123, .int .i64 n_Handler124, s_Stack125.val, s_Back126.val, s_Mem127.val, .string t_Out128, .string t_In129, .int .i64 n_Read130, .int .i64 n_Status131, .int .i64 n_Code132] →
 wrOk w140 ⟨b138, 0, none⟩ 3 ∧ ∀ w141 : World, w141 = stW w140 ⟨b138, 0, none⟩ 0 [.int .i64 n_Exit133, .int .i64 n_Steps134, .bool b_Hit135] →
 ∃ n_Start142 : Int, ∃ n_Slots143 : Int, ∃ n_Backs144 : Int, ∃ n_Grow145 : Int, ∃ n_GrowBack146 : Int, ∃ s_Ins147 : Sl, ∃ s_Outs148 : Sl, ∃ n_Last149 : Int, ∃ s_Cells150 : Sl, w141.cell? ⟨b20, 0, none⟩ = some (.int .i64 n_Start142) ∧ w141.cell? ⟨b20, 1, none⟩ = some (.int .i64 n_Slots143) ∧ w141.cell? ⟨b20, 2, none⟩ = some (.int .i64 n_Backs144) ∧ w141.cell? ⟨b20, 3, none⟩ = some (.int .i64 n_Grow145) ∧ w141.cell? ⟨b20, 4, none⟩ = some (.int .i64 n_GrowBack146) ∧ w141.cell? ⟨b20, 5, none⟩ = some (s_Ins147.val) ∧ w141.cell? ⟨b20, 6, none⟩ = some (s_Outs148.val) ∧ w141.cell? ⟨b20, 7, none⟩ = some (.int .i64 n_Last149) ∧ w141.cell? ⟨b20, 8, none⟩ = some (s_Cells150.val) ∧
 ∃ n_Ip151 : Int, ∃ n_Handler152 : Int, ∃ s_Stack153 : Sl, ∃ s_Back154 : Sl, ∃ s_Mem155 : Sl, ∃ t_Out156 : ByteArray, ∃ t_In157 : ByteArray, ∃ n_Read158 : Int, ∃ n_Status159 : Int, ∃ n_Code160 : Int, w141.cell? ⟨b22, 0, none⟩ = some (.int .i64 n_Ip151) ∧ w141.cell? ⟨b22, 1, none⟩ = some (.int .i64 n_Handler152) ∧ w141.cell? ⟨b22, 2, none⟩ = some (s_Stack153.val) ∧ w141.cell? ⟨b22, 3, none⟩ = some (s_Back154.val) ∧ w141.cell? ⟨b22, 4, none⟩ = some (s_Mem155.val) ∧ w141.cell? ⟨b22, 5, none⟩ = some (.string t_Out156) ∧ w141.cell? ⟨b22, 6, none⟩ = some (.string t_In157) ∧ w141.cell? ⟨b22, 7, none⟩ = some (.int .i64 n_Read158) ∧ w141.cell? ⟨b22, 8, none⟩ = some (.int .i64 n_Status159) ∧ w141.cell? ⟨b22, 9, none⟩ = some (.int .i64 n_Code160) ∧
 Calls Try.prog fn_eval_Run #[.agg #[.int .i64 n_Start142, .int .i64 n_Slots143, .int .i64 n_Backs144, .int .i64 n_Grow145, .int .i64 n_GrowBack146, s_Ins147.val, s_Outs148.val, .int .i64 n_Last149, s_Cells150.val], .agg #[.int .i64 n_Ip151, .int .i64 n_Handler152, s_Stack153.val, s_Back154.val, s_Mem155.val, .string t_Out156, .string t_In157, .int .i64 n_Read158, .int .i64 n_Status159, .int .i64 n_Code160], all97.val] w141 fun e161 w162 => ∃ n_Ip163 : Int, ∃ n_Handler164 : Int, ∃ s_Stack165 : Sl, ∃ s_Back166 : Sl, ∃ s_Mem167 : Sl, ∃ t_Out168 : ByteArray, ∃ t_In169 : ByteArray, ∃ n_Read170 : Int, ∃ n_Status171 : Int, ∃ n_Code172 : Int, ∃ n_Exit173 : Int, ∃ n_Steps174 : Int, ∃ b_Hit175 : Bool, e161 = .returned (.tuple #[.agg #[.int .i64 n_Ip163, .int .i64 n_Handler164, s_Stack165.val, s_Back166.val, s_Mem167.val, .string t_Out168, .string t_In169, .int .i64 n_Read170, .int .i64 n_Status171, .int .i64 n_Code172], .agg #[.int .i64 n_Exit173, .int .i64 n_Steps174, .bool b_Hit175]]) ∧
 ∀ (b176 : Nat) (w177 : World), b176 = w162.heap.size → w177 = World.alloc w162 (.cells #[.int .i64 (0 : Int), .int .i64 (0 : Int), .slice none 0 0, .slice none 0 0, .slice none 0 0, .string (bs []), .string (bs []), .int .i64 (0 : Int), .int .i64 (0 : Int), .int .i64 (0 : Int)] T_api_State) →
 ∀ (b178 : Nat) (w179 : World), b178 = w177.heap.size → w179 = World.alloc w177 (.cells #[.int .i64 (0 : Int), .int .i64 (0 : Int), .bool false] T_eval_Done) →
 wrOk w179 ⟨b176, 0, none⟩ 10 ∧ ∀ w180 : World, w180 = stW w179 ⟨b176, 0, none⟩ 0 [.int .i64 n_Ip163, .int .i64 n_Handler164, s_Stack165.val, s_Back166.val, s_Mem167.val, .string t_Out168, .string t_In169, .int .i64 n_Read170, .int .i64 n_Status171, .int .i64 n_Code172] →
 wrOk w180 ⟨b178, 0, none⟩ 3 ∧ ∀ w181 : World, w181 = stW w180 ⟨b178, 0, none⟩ 0 [.int .i64 n_Exit173, .int .i64 n_Steps174, .bool b_Hit175] →
 ∃ b182 : Bool, w181.cell? ⟨b138, 2, none⟩ = some (.bool b182) ∧
 brB b182
 (K (.bool false) w181)
 (∃ J22 : Bool → World → Prop, (∀ (b188 : Bool) (w187 : World), J22 b188 w187 →
 brB b188
 (K (.bool false) w187)
 (∃ (I2 : Int → Int → World → Prop) (μ2 : Int → Int → World → Nat), I2 (0 : Int) (0 : Int) w187 ∧ ∀ (changed199 : Int) (k190 : Int) (w189 : World), I2 changed199 k190 w189 →
 ∃ s191 : Sl, w189.cell? ⟨b176, 4, none⟩ = some (s191.val) ∧
 brB (decide (k190 < (s191.len : Int)))
 (∃ J28 : Int → World → Prop, (∀ (changed235 : Int) (w200 : World), J28 changed235 w200 →
 I2 changed235 (wr (k190 + (1 : Int))) w200 ∧ μ2 changed235 (wr (k190 + (1 : Int))) w200 < μ2 changed199 k190 w189) ∧
 ∀ w192 : World, w192 = World.drew w189 →
 ∃ s193 : Sl, held (Lw w192) ⟨b176, 4, none⟩ (s193.val) ∧
 ∃ a194 : Addr, s193.ptr = some a194 ∧ 0 ≤ k190 ∧ k190 < (s193.len : Int) ∧
 ∃ n195 : Int, held (Lw w192) (Addr.add a194 (Int.toNat k190 * 1)) (.int .i64 n195) ∧
 ∃ s196 : Sl, held (Lw w192) ⟨b22, 4, none⟩ (s196.val) ∧
 ∃ a197 : Addr, s196.ptr = some a197 ∧ 0 ≤ k190 ∧ k190 < (s196.len : Int) ∧
 ∃ n198 : Int, held (Lw w192) (Addr.add a197 (Int.toNat k190 * 1)) (.int .i64 n198) ∧
 brB (n195 != n198)
 (J28 (wr (changed199 + (1 : Int))) w192)
 (J28 changed199 w192))
 (∃ b201 : Bool, w189.cell? ⟨b178, 2, none⟩ = some (.bool b201) ∧
 brB b201
 (K (.bool (decide (changed199 ≤ (1 : Int)))) w189)
 (brB (changed199 == (0 : Int))
 (∃ n_Exit202 : Int, ∃ n_Steps203 : Int, ∃ b_Hit204 : Bool, w189.cell? ⟨b138, 0, none⟩ = some (.int .i64 n_Exit202) ∧ w189.cell? ⟨b138, 1, none⟩ = some (.int .i64 n_Steps203) ∧ w189.cell? ⟨b138, 2, none⟩ = some (.bool b_Hit204) ∧
 ∃ n_Exit205 : Int, ∃ n_Steps206 : Int, ∃ b_Hit207 : Bool, w189.cell? ⟨b178, 0, none⟩ = some (.int .i64 n_Exit205) ∧ w189.cell? ⟨b178, 1, none⟩ = some (.int .i64 n_Steps206) ∧ w189.cell? ⟨b178, 2, none⟩ = some (.bool b_Hit207) ∧
 ∃ b208 : Bool, ∃ w209 : World, ((do eqGuard .eql T_eval_Done (.tmp 108) (.tmp 109) (.agg #[.int .i64 n_Exit202, .int .i64 n_Steps203, .bool b_Hit204]) (.agg #[.int .i64 n_Exit205, .int .i64 n_Steps206, .bool b_Hit207]); binOp .eql T_eval_Done (.agg #[.int .i64 n_Exit202, .int .i64 n_Steps203, .bool b_Hit204]) (.agg #[.int .i64 n_Exit205, .int .i64 n_Steps206, .bool b_Hit207]) : Sem Value)).run Try.prog w189 = .ok (.bool b208) w209 ∧
 brB b208
 (∃ n_Ip210 : Int, ∃ n_Handler211 : Int, ∃ s_Stack212 : Sl, ∃ s_Back213 : Sl, ∃ s_Mem214 : Sl, ∃ t_Out215 : ByteArray, ∃ t_In216 : ByteArray, ∃ n_Read217 : Int, ∃ n_Status218 : Int, ∃ n_Code219 : Int, w209.cell? ⟨b136, 0, none⟩ = some (.int .i64 n_Ip210) ∧ w209.cell? ⟨b136, 1, none⟩ = some (.int .i64 n_Handler211) ∧ w209.cell? ⟨b136, 2, none⟩ = some (s_Stack212.val) ∧ w209.cell? ⟨b136, 3, none⟩ = some (s_Back213.val) ∧ w209.cell? ⟨b136, 4, none⟩ = some (s_Mem214.val) ∧ w209.cell? ⟨b136, 5, none⟩ = some (.string t_Out215) ∧ w209.cell? ⟨b136, 6, none⟩ = some (.string t_In216) ∧ w209.cell? ⟨b136, 7, none⟩ = some (.int .i64 n_Read217) ∧ w209.cell? ⟨b136, 8, none⟩ = some (.int .i64 n_Status218) ∧ w209.cell? ⟨b136, 9, none⟩ = some (.int .i64 n_Code219) ∧
 ∃ n_Ip220 : Int, ∃ n_Handler221 : Int, ∃ s_Stack222 : Sl, ∃ s_Back223 : Sl, ∃ s_Mem224 : Sl, ∃ t_Out225 : ByteArray, ∃ t_In226 : ByteArray, ∃ n_Read227 : Int, ∃ n_Status228 : Int, ∃ n_Code229 : Int, w209.cell? ⟨b176, 0, none⟩ = some (.int .i64 n_Ip220) ∧ w209.cell? ⟨b176, 1, none⟩ = some (.int .i64 n_Handler221) ∧ w209.cell? ⟨b176, 2, none⟩ = some (s_Stack222.val) ∧ w209.cell? ⟨b176, 3, none⟩ = some (s_Back223.val) ∧ w209.cell? ⟨b176, 4, none⟩ = some (s_Mem224.val) ∧ w209.cell? ⟨b176, 5, none⟩ = some (.string t_Out225) ∧ w209.cell? ⟨b176, 6, none⟩ = some (.string t_In226) ∧ w209.cell? ⟨b176, 7, none⟩ = some (.int .i64 n_Read227) ∧ w209.cell? ⟨b176, 8, none⟩ = some (.int .i64 n_Status228) ∧ w209.cell? ⟨b176, 9, none⟩ = some (.int .i64 n_Code229) ∧
 Calls Try.prog fn_hollowaybook_SameState #[.agg #[.int .i64 n_Ip210, .int .i64 n_Handler211, s_Stack212.val, s_Back213.val, s_Mem214.val, .string t_Out215, .string t_In216, .int .i64 n_Read217, .int .i64 n_Status218, .int .i64 n_Code219], .agg #[.int .i64 n_Ip220, .int .i64 n_Handler221, s_Stack222.val, s_Back223.val, s_Mem224.val, .string t_Out225, .string t_In226, .int .i64 n_Read227, .int .i64 n_Status228, .int .i64 n_Code229]] w209 fun e230 w231 => ∃ b232 : Bool, e230 = .returned (.bool b232) ∧
 K (.bool b232) w231)
 (K (.bool false) w209))
 (K (.bool false) w189))))) ∧
 ∃ s183 : Sl, w181.cell? ⟨b136, 4, none⟩ = some (s183.val) ∧
 ∃ s184 : Sl, w181.cell? ⟨b22, 4, none⟩ = some (s184.val) ∧
 brB ((s183.len : Int) != (s184.len : Int))
 (J22 true w181)
 (∃ s185 : Sl, w181.cell? ⟨b176, 4, none⟩ = some (s185.val) ∧
 ∃ s186 : Sl, w181.cell? ⟨b22, 4, none⟩ = some (s186.val) ∧
 J22 ((s185.len : Int) != (s186.len : Int)) w181)))))) ∧
 ∃ n_Start24 : Int, ∃ n_Slots25 : Int, ∃ n_Backs26 : Int, ∃ n_Grow27 : Int, ∃ n_GrowBack28 : Int, ∃ s_Ins29 : Sl, ∃ s_Outs30 : Sl, ∃ n_Last31 : Int, ∃ s_Cells32 : Sl, w23.cell? ⟨b20, 0, none⟩ = some (.int .i64 n_Start24) ∧ w23.cell? ⟨b20, 1, none⟩ = some (.int .i64 n_Slots25) ∧ w23.cell? ⟨b20, 2, none⟩ = some (.int .i64 n_Backs26) ∧ w23.cell? ⟨b20, 3, none⟩ = some (.int .i64 n_Grow27) ∧ w23.cell? ⟨b20, 4, none⟩ = some (.int .i64 n_GrowBack28) ∧ w23.cell? ⟨b20, 5, none⟩ = some (s_Ins29.val) ∧ w23.cell? ⟨b20, 6, none⟩ = some (s_Outs30.val) ∧ w23.cell? ⟨b20, 7, none⟩ = some (.int .i64 n_Last31) ∧ w23.cell? ⟨b20, 8, none⟩ = some (s_Cells32.val) ∧
 Calls Try.prog fn_hollowaylaw14_Light #[.agg #[.int .i64 n_Start24, .int .i64 n_Slots25, .int .i64 n_Backs26, .int .i64 n_Grow27, .int .i64 n_GrowBack28, s_Ins29.val, s_Outs30.val, .int .i64 n_Last31, s_Cells32.val]] w23 fun e33 w34 => ∃ b35 : Bool, e33 = .returned (.bool b35) ∧
 brB (!b35)
 (J3 true w34)
 (∃ n_Ip36 : Int, ∃ n_Handler37 : Int, ∃ s_Stack38 : Sl, ∃ s_Back39 : Sl, ∃ s_Mem40 : Sl, ∃ t_Out41 : ByteArray, ∃ t_In42 : ByteArray, ∃ n_Read43 : Int, ∃ n_Status44 : Int, ∃ n_Code45 : Int, w34.cell? ⟨b22, 0, none⟩ = some (.int .i64 n_Ip36) ∧ w34.cell? ⟨b22, 1, none⟩ = some (.int .i64 n_Handler37) ∧ w34.cell? ⟨b22, 2, none⟩ = some (s_Stack38.val) ∧ w34.cell? ⟨b22, 3, none⟩ = some (s_Back39.val) ∧ w34.cell? ⟨b22, 4, none⟩ = some (s_Mem40.val) ∧ w34.cell? ⟨b22, 5, none⟩ = some (.string t_Out41) ∧ w34.cell? ⟨b22, 6, none⟩ = some (.string t_In42) ∧ w34.cell? ⟨b22, 7, none⟩ = some (.int .i64 n_Read43) ∧ w34.cell? ⟨b22, 8, none⟩ = some (.int .i64 n_Status44) ∧ w34.cell? ⟨b22, 9, none⟩ = some (.int .i64 n_Code45) ∧
 Calls Try.prog fn_hollowaylaw9_Light #[.agg #[.int .i64 n_Ip36, .int .i64 n_Handler37, s_Stack38.val, s_Back39.val, s_Mem40.val, .string t_Out41, .string t_In42, .int .i64 n_Read43, .int .i64 n_Status44, .int .i64 n_Code45]] w34 fun e46 w47 => ∃ b48 : Bool, e46 = .returned (.bool b48) ∧
 brB (!b48)
 (J3 true w47)
 (∃ n_Start49 : Int, ∃ n_Slots50 : Int, ∃ n_Backs51 : Int, ∃ n_Grow52 : Int, ∃ n_GrowBack53 : Int, ∃ s_Ins54 : Sl, ∃ s_Outs55 : Sl, ∃ n_Last56 : Int, ∃ s_Cells57 : Sl, w47.cell? ⟨b20, 0, none⟩ = some (.int .i64 n_Start49) ∧ w47.cell? ⟨b20, 1, none⟩ = some (.int .i64 n_Slots50) ∧ w47.cell? ⟨b20, 2, none⟩ = some (.int .i64 n_Backs51) ∧ w47.cell? ⟨b20, 3, none⟩ = some (.int .i64 n_Grow52) ∧ w47.cell? ⟨b20, 4, none⟩ = some (.int .i64 n_GrowBack53) ∧ w47.cell? ⟨b20, 5, none⟩ = some (s_Ins54.val) ∧ w47.cell? ⟨b20, 6, none⟩ = some (s_Outs55.val) ∧ w47.cell? ⟨b20, 7, none⟩ = some (.int .i64 n_Last56) ∧ w47.cell? ⟨b20, 8, none⟩ = some (s_Cells57.val) ∧
 Calls Try.prog fn_hollowayref15_Right #[.agg #[.int .i64 n_Start49, .int .i64 n_Slots50, .int .i64 n_Backs51, .int .i64 n_Grow52, .int .i64 n_GrowBack53, s_Ins54.val, s_Outs55.val, .int .i64 n_Last56, s_Cells57.val]] w47 fun e58 w59 => ∃ b60 : Bool, e58 = .returned (.bool b60) ∧
 brB (!b60)
 (J3 true w59)
 (Calls Try.prog fn_hollowaylaw15_alive #[] w59 fun e61 w62 => ∃ b63 : Bool, e61 = .returned (.bool b63) ∧
 J3 (!b63) w62)))
def hollowaylaw15_EvalWatched_an : An := ⟨[(8, [(5, .sl), (6, .int .i64)]), (19, [(11, .int .i64), (12, .int .i64)])], [(21, (11, .st 0 (.st 1 (.st 2 (.st 3 (.st 4 (.st 5 (.st 6 (.st 7 (.st 8 (.st 9 (.st 10 .done)))))))))), 0))], [(2, [(29, .bool)]), (17, [(80, .bool)]), (20, [(11, .int .i64)])]⟩
theorem hollowaylaw15_EvalWatched_lift {t__Start1 : Int} {t__Slots2 : Int} {t__Backs3 : Int} {t__Grow4 : Int} {t__GrowBack5 : Int} {t__Ins6 : Sl} {t__Outs7 : Sl} {t__Last8 : Int} {t__Cells9 : Sl} {s__Ip10 : Int} {s__Handler11 : Int} {s__Stack12 : Sl} {s__Back13 : Sl} {s__Mem14 : Sl} {s__Out15 : ByteArray} {s__In16 : ByteArray} {s__Read17 : Int} {s__Status18 : Int} {s__Code19 : Int} {w : World} {K : Value → World → Prop} (h : hollowaylaw15_EvalWatched_sh t__Start1 t__Slots2 t__Backs3 t__Grow4 t__GrowBack5 t__Ins6 t__Outs7 t__Last8 t__Cells9 s__Ip10 s__Handler11 s__Stack12 s__Back13 s__Mem14 s__Out15 s__In16 s__Read17 s__Status18 s__Code19 w K) : Calls Try.prog fn_hollowaylaw15_EvalWatched #[.agg #[.int .i64 t__Start1, .int .i64 t__Slots2, .int .i64 t__Backs3, .int .i64 t__Grow4, .int .i64 t__GrowBack5, t__Ins6.val, t__Outs7.val, .int .i64 t__Last8, t__Cells9.val], .agg #[.int .i64 s__Ip10, .int .i64 s__Handler11, s__Stack12.val, s__Back13.val, s__Mem14.val, .string s__Out15, .string s__In16, .int .i64 s__Read17, .int .i64 s__Status18, .int .i64 s__Code19]] w fun e w' => ∃ v, e = .returned v ∧ K v w' :=
   lift_calls (A := hollowaylaw15_EvalWatched_an) (c := bodyOf Try.f3) (args := [.agg #[.int .i64 t__Start1, .int .i64 t__Slots2, .int .i64 t__Backs3, .int .i64 t__Grow4, .int .i64 t__GrowBack5, t__Ins6.val, t__Outs7.val, .int .i64 t__Last8, t__Cells9.val], .agg #[.int .i64 s__Ip10, .int .i64 s__Handler11, s__Stack12.val, s__Back13.val, s__Mem14.val, .string s__Out15, .string s__In16, .int .i64 s__Read17, .int .i64 s__Status18, .int .i64 s__Code19]]) orc orc_wide Try.func3 (by kernel_rfl) (by kernel_rfl) (Eq.mp (by kernel_rfl : hollowaylaw15_EvalWatched_sh t__Start1 t__Slots2 t__Backs3 t__Grow4 t__GrowBack5 t__Ins6 t__Outs7 t__Last8 t__Cells9 s__Ip10 s__Handler11 s__Stack12 s__Back13 s__Mem14 s__Out15 s__In16 s__Read17 s__Status18 s__Code19 w K = wpc orc Try.f3.ntmps hollowaylaw15_EvalWatched_an (bodyOf Try.f3) (argl 0 [.agg #[.int .i64 t__Start1, .int .i64 t__Slots2, .int .i64 t__Backs3, .int .i64 t__Grow4, .int .i64 t__GrowBack5, t__Ins6.val, t__Outs7.val, .int .i64 t__Last8, t__Cells9.val], .agg #[.int .i64 s__Ip10, .int .i64 s__Handler11, s__Stack12.val, s__Back13.val, s__Mem14.val, .string s__Out15, .string s__In16, .int .i64 s__Read17, .int .i64 s__Status18, .int .i64 s__Code19]]) w (retQ orc Try.f3.results.toList K)) h)

-- holloway/hollowaylaw15.EvalEmpty
def hollowaylaw15_EvalEmpty_sh (s__Ip1 : Int) (s__Handler2 : Int) (s__Stack3 : Sl) (s__Back4 : Sl) (s__Mem5 : Sl) (s__Out6 : ByteArray) (s__In7 : ByteArray) (s__Read8 : Int) (s__Status9 : Int) (s__Code10 : Int) (slots11 : Int) (backs12 : Int) (ip13 : Int) (w : World) (K : Value → World → Prop) : Prop :=
 ∀ (b14 : Nat) (w15 : World), b14 = w.heap.size → w15 = World.alloc w (.cells #[.int .i64 s__Ip1, .int .i64 s__Handler2, s__Stack3.val, s__Back4.val, s__Mem5.val, .string s__Out6, .string s__In7, .int .i64 s__Read8, .int .i64 s__Status9, .int .i64 s__Code10] T_api_State) →
 ∃ J3 : Bool → World → Prop, (∀ (b37 : Bool) (w36 : World), J3 b37 w36 →
 brB b37
 (Calls Try.prog fn_hollowaylaw15_alive #[] w36 fun e38 w39 => ∃ b40 : Bool, e38 = .returned (.bool b40) ∧
 K (.bool b40) w39)
 (wrOk w36 ⟨b14, 8, none⟩ 1 ∧ ∀ w41 : World, w41 = stW w36 ⟨b14, 8, none⟩ 0 [.int .i64 (0 : Int)] →
 ∃ n42 : Int, w41.cell? ⟨b14, 0, none⟩ = some (.int .i64 n42) ∧
 ∀ (b43 : Nat) (w44 : World), b43 = w41.heap.size → w44 = World.alloc w41 (.cells #[.int .i64 ip13, .int .i64 (1 : Int), .slice none 0 0, .slice none 0 0] T_api_Out) →
 ∀ (b45 : Nat) (w46 : World), b45 = w44.heap.size → w46 = World.alloc w44 (.cells #[.int .i64 (0 : Int), .int .i64 (0 : Int), .int .i64 (0 : Int), .int .i64 (0 : Int), .int .i64 (0 : Int), .slice none 0 0, .slice none 0 0, .int .i64 (0 : Int), .slice none 0 0] T_api_Trace) →
 wrOk w46 ⟨b45, 0, none⟩ 9 ∧ ∀ w47 : World, w47 = stW w46 ⟨b45, 0, none⟩ 0 [.int .i64 n42, .int .i64 slots11, .int .i64 backs12, .int .i64 (0 : Int), .int .i64 (0 : Int), .slice none 0 0, .slice (some ⟨b43, 0, none⟩) 1 1, .int .i64 (0 : Int), .slice none 0 0] →
 ∃ n_Start48 : Int, ∃ n_Slots49 : Int, ∃ n_Backs50 : Int, ∃ n_Grow51 : Int, ∃ n_GrowBack52 : Int, ∃ s_Ins53 : Sl, ∃ s_Outs54 : Sl, ∃ n_Last55 : Int, ∃ s_Cells56 : Sl, w47.cell? ⟨b45, 0, none⟩ = some (.int .i64 n_Start48) ∧ w47.cell? ⟨b45, 1, none⟩ = some (.int .i64 n_Slots49) ∧ w47.cell? ⟨b45, 2, none⟩ = some (.int .i64 n_Backs50) ∧ w47.cell? ⟨b45, 3, none⟩ = some (.int .i64 n_Grow51) ∧ w47.cell? ⟨b45, 4, none⟩ = some (.int .i64 n_GrowBack52) ∧ w47.cell? ⟨b45, 5, none⟩ = some (s_Ins53.val) ∧ w47.cell? ⟨b45, 6, none⟩ = some (s_Outs54.val) ∧ w47.cell? ⟨b45, 7, none⟩ = some (.int .i64 n_Last55) ∧ w47.cell? ⟨b45, 8, none⟩ = some (s_Cells56.val) ∧
 ∃ n_Ip57 : Int, ∃ n_Handler58 : Int, ∃ s_Stack59 : Sl, ∃ s_Back60 : Sl, ∃ s_Mem61 : Sl, ∃ t_Out62 : ByteArray, ∃ t_In63 : ByteArray, ∃ n_Read64 : Int, ∃ n_Status65 : Int, ∃ n_Code66 : Int, w47.cell? ⟨b14, 0, none⟩ = some (.int .i64 n_Ip57) ∧ w47.cell? ⟨b14, 1, none⟩ = some (.int .i64 n_Handler58) ∧ w47.cell? ⟨b14, 2, none⟩ = some (s_Stack59.val) ∧ w47.cell? ⟨b14, 3, none⟩ = some (s_Back60.val) ∧ w47.cell? ⟨b14, 4, none⟩ = some (s_Mem61.val) ∧ w47.cell? ⟨b14, 5, none⟩ = some (.string t_Out62) ∧ w47.cell? ⟨b14, 6, none⟩ = some (.string t_In63) ∧ w47.cell? ⟨b14, 7, none⟩ = some (.int .i64 n_Read64) ∧ w47.cell? ⟨b14, 8, none⟩ = some (.int .i64 n_Status65) ∧ w47.cell? ⟨b14, 9, none⟩ = some (.int .i64 n_Code66) ∧
 Calls Try.prog fn_eval_Run #[.agg #[.int .i64 n_Start48, .int .i64 n_Slots49, .int .i64 n_Backs50, .int .i64 n_Grow51, .int .i64 n_GrowBack52, s_Ins53.val, s_Outs54.val, .int .i64 n_Last55, s_Cells56.val], .agg #[.int .i64 n_Ip57, .int .i64 n_Handler58, s_Stack59.val, s_Back60.val, s_Mem61.val, .string t_Out62, .string t_In63, .int .i64 n_Read64, .int .i64 n_Status65, .int .i64 n_Code66], .slice none 0 0] w47 fun e67 w68 => ∃ n_Ip69 : Int, ∃ n_Handler70 : Int, ∃ s_Stack71 : Sl, ∃ s_Back72 : Sl, ∃ s_Mem73 : Sl, ∃ t_Out74 : ByteArray, ∃ t_In75 : ByteArray, ∃ n_Read76 : Int, ∃ n_Status77 : Int, ∃ n_Code78 : Int, ∃ n_Exit79 : Int, ∃ n_Steps80 : Int, ∃ b_Hit81 : Bool, e67 = .returned (.tuple #[.agg #[.int .i64 n_Ip69, .int .i64 n_Handler70, s_Stack71.val, s_Back72.val, s_Mem73.val, .string t_Out74, .string t_In75, .int .i64 n_Read76, .int .i64 n_Status77, .int .i64 n_Code78], .agg #[.int .i64 n_Exit79, .int .i64 n_Steps80, .bool b_Hit81]]) ∧
 ∀ (b82 : Nat) (w83 : World), b82 = w68.heap.size → w83 = World.alloc w68 (.cells #[.int .i64 (0 : Int), .int .i64 (0 : Int), .slice none 0 0, .slice none 0 0, .slice none 0 0, .string (bs []), .string (bs []), .int .i64 (0 : Int), .int .i64 (0 : Int), .int .i64 (0 : Int)] T_api_State) →
 ∀ (b84 : Nat) (w85 : World), b84 = w83.heap.size → w85 = World.alloc w83 (.cells #[.int .i64 (0 : Int), .int .i64 (0 : Int), .bool false] T_eval_Done) →
 wrOk w85 ⟨b82, 0, none⟩ 10 ∧ ∀ w86 : World, w86 = stW w85 ⟨b82, 0, none⟩ 0 [.int .i64 n_Ip69, .int .i64 n_Handler70, s_Stack71.val, s_Back72.val, s_Mem73.val, .string t_Out74, .string t_In75, .int .i64 n_Read76, .int .i64 n_Status77, .int .i64 n_Code78] →
 wrOk w86 ⟨b84, 0, none⟩ 3 ∧ ∀ w87 : World, w87 = stW w86 ⟨b84, 0, none⟩ 0 [.int .i64 n_Exit79, .int .i64 n_Steps80, .bool b_Hit81] →
 ∀ w88 : World, w88 = World.drew w87 →
 ∃ S89 : World → Prop, S89 w88 ∧
 ∃ n_Start90 : Int, ∃ n_Slots91 : Int, ∃ n_Backs92 : Int, ∃ n_Grow93 : Int, ∃ n_GrowBack94 : Int, ∃ s_Ins95 : Sl, ∃ s_Outs96 : Sl, ∃ n_Last97 : Int, ∃ s_Cells98 : Sl, held S89 ⟨b45, 0, none⟩ (.int .i64 n_Start90) ∧ held S89 ⟨b45, 1, none⟩ (.int .i64 n_Slots91) ∧ held S89 ⟨b45, 2, none⟩ (.int .i64 n_Backs92) ∧ held S89 ⟨b45, 3, none⟩ (.int .i64 n_Grow93) ∧ held S89 ⟨b45, 4, none⟩ (.int .i64 n_GrowBack94) ∧ held S89 ⟨b45, 5, none⟩ (s_Ins95.val) ∧ held S89 ⟨b45, 6, none⟩ (s_Outs96.val) ∧ held S89 ⟨b45, 7, none⟩ (.int .i64 n_Last97) ∧ held S89 ⟨b45, 8, none⟩ (s_Cells98.val) ∧
 ∃ n_Ip99 : Int, ∃ n_Handler100 : Int, ∃ s_Stack101 : Sl, ∃ s_Back102 : Sl, ∃ s_Mem103 : Sl, ∃ t_Out104 : ByteArray, ∃ t_In105 : ByteArray, ∃ n_Read106 : Int, ∃ n_Status107 : Int, ∃ n_Code108 : Int, held S89 ⟨b14, 0, none⟩ (.int .i64 n_Ip99) ∧ held S89 ⟨b14, 1, none⟩ (.int .i64 n_Handler100) ∧ held S89 ⟨b14, 2, none⟩ (s_Stack101.val) ∧ held S89 ⟨b14, 3, none⟩ (s_Back102.val) ∧ held S89 ⟨b14, 4, none⟩ (s_Mem103.val) ∧ held S89 ⟨b14, 5, none⟩ (.string t_Out104) ∧ held S89 ⟨b14, 6, none⟩ (.string t_In105) ∧ held S89 ⟨b14, 7, none⟩ (.int .i64 n_Read106) ∧ held S89 ⟨b14, 8, none⟩ (.int .i64 n_Status107) ∧ held S89 ⟨b14, 9, none⟩ (.int .i64 n_Code108) ∧
 Calls Try.prog fn_eval_May #[.agg #[.int .i64 n_Start90, .int .i64 n_Slots91, .int .i64 n_Backs92, .int .i64 n_Grow93, .int .i64 n_GrowBack94, s_Ins95.val, s_Outs96.val, .int .i64 n_Last97, s_Cells98.val], .agg #[.int .i64 n_Ip99, .int .i64 n_Handler100, s_Stack101.val, s_Back102.val, s_Mem103.val, .string t_Out104, .string t_In105, .int .i64 n_Read106, .int .i64 n_Status107, .int .i64 n_Code108]] w88 fun e109 w110 => ∃ b111 : Bool, e109 = .returned (.bool b111) ∧
 S89 w110 ∧
 brB b111
 (∃ n_Exit112 : Int, ∃ n_Steps113 : Int, ∃ b_Hit114 : Bool, held S89 ⟨b84, 0, none⟩ (.int .i64 n_Exit112) ∧ held S89 ⟨b84, 1, none⟩ (.int .i64 n_Steps113) ∧ held S89 ⟨b84, 2, none⟩ (.bool b_Hit114) ∧
 S89 w110 ∧
 ∃ b115 : Bool, ∃ w116 : World, ((do eqGuard .eql T_eval_Done (.tmp 79) (.tmp 80) (.agg #[.int .i64 n_Exit112, .int .i64 n_Steps113, .bool b_Hit114]) (.agg #[.int .i64 (0 : Int), .int .i64 (1 : Int), .bool false]); binOp .eql T_eval_Done (.agg #[.int .i64 n_Exit112, .int .i64 n_Steps113, .bool b_Hit114]) (.agg #[.int .i64 (0 : Int), .int .i64 (1 : Int), .bool false]) : Sem Value)).run Try.prog w110 = .ok (.bool b115) w116 ∧
 S89 w116 ∧
 brB b115
 (∃ n117 : Int, held S89 ⟨b82, 0, none⟩ (.int .i64 n117) ∧
 brB (n117 == ip13)
 (∃ s118 : Sl, held S89 ⟨b82, 2, none⟩ (s118.val) ∧
 ∃ s119 : Sl, held S89 ⟨b14, 2, none⟩ (s119.val) ∧
 ∃ s120 : Sl, held S89 ⟨b14, 2, none⟩ (s120.val) ∧
 0 ≤ (wr ((s120.len : Int) - slots11)) ∧ (wr ((s120.len : Int) - slots11)) ≤ (s119.cap : Int) ∧ 
 Calls Try.prog fn_hollowaybook_SameInts #[s118.val, (Sl.sub s119.ptr s119.cap 0 (Int.toNat (wr ((s120.len : Int) - slots11))) 1).val] w116 fun e121 w122 => ∃ b123 : Bool, e121 = .returned (.bool b123) ∧
 S89 w122 ∧
 brB b123
 (∃ s124 : Sl, held S89 ⟨b82, 3, none⟩ (s124.val) ∧
 ∃ s125 : Sl, held S89 ⟨b14, 3, none⟩ (s125.val) ∧
 ∃ s126 : Sl, held S89 ⟨b14, 3, none⟩ (s126.val) ∧
 0 ≤ (wr ((s126.len : Int) - backs12)) ∧ (wr ((s126.len : Int) - backs12)) ≤ (s125.cap : Int) ∧ 
 Calls Try.prog fn_hollowaybook_SameInts #[s124.val, (Sl.sub s125.ptr s125.cap 0 (Int.toNat (wr ((s126.len : Int) - backs12))) 1).val] w122 fun e127 w128 => ∃ b129 : Bool, e127 = .returned (.bool b129) ∧
 S89 w128 ∧
 brB b129
 (∃ s130 : Sl, held S89 ⟨b82, 4, none⟩ (s130.val) ∧
 ∃ s131 : Sl, held S89 ⟨b14, 4, none⟩ (s131.val) ∧
 Calls Try.prog fn_hollowaybook_SameInts #[s130.val, s131.val] w128 fun e132 w133 => ∃ b134 : Bool, e132 = .returned (.bool b134) ∧
 S89 w133 ∧
 brB b134
 (∃ t135 : ByteArray, held S89 ⟨b82, 5, none⟩ (.string t135) ∧
 ∃ t136 : ByteArray, held S89 ⟨b14, 5, none⟩ (.string t136) ∧
 brB (t135.toList == t136.toList)
 (∃ n137 : Int, held S89 ⟨b82, 7, none⟩ (.int .i64 n137) ∧
 ∃ n138 : Int, held S89 ⟨b14, 7, none⟩ (.int .i64 n138) ∧
 K (.bool (n137 == n138)) w133)
 (K (.bool false) w133))
 (K (.bool false) w133))
 (K (.bool false) w128))
 (K (.bool false) w122))
 (K (.bool false) w116))
 (K (.bool false) w116))
 (K (.bool false) w110))) ∧
 ∃ n_Ip16 : Int, ∃ n_Handler17 : Int, ∃ s_Stack18 : Sl, ∃ s_Back19 : Sl, ∃ s_Mem20 : Sl, ∃ t_Out21 : ByteArray, ∃ t_In22 : ByteArray, ∃ n_Read23 : Int, ∃ n_Status24 : Int, ∃ n_Code25 : Int, w15.cell? ⟨b14, 0, none⟩ = some (.int .i64 n_Ip16) ∧ w15.cell? ⟨b14, 1, none⟩ = some (.int .i64 n_Handler17) ∧ w15.cell? ⟨b14, 2, none⟩ = some (s_Stack18.val) ∧ w15.cell? ⟨b14, 3, none⟩ = some (s_Back19.val) ∧ w15.cell? ⟨b14, 4, none⟩ = some (s_Mem20.val) ∧ w15.cell? ⟨b14, 5, none⟩ = some (.string t_Out21) ∧ w15.cell? ⟨b14, 6, none⟩ = some (.string t_In22) ∧ w15.cell? ⟨b14, 7, none⟩ = some (.int .i64 n_Read23) ∧ w15.cell? ⟨b14, 8, none⟩ = some (.int .i64 n_Status24) ∧ w15.cell? ⟨b14, 9, none⟩ = some (.int .i64 n_Code25) ∧
 Calls Try.prog fn_hollowaylaw9_Light #[.agg #[.int .i64 n_Ip16, .int .i64 n_Handler17, s_Stack18.val, s_Back19.val, s_Mem20.val, .string t_Out21, .string t_In22, .int .i64 n_Read23, .int .i64 n_Status24, .int .i64 n_Code25]] w15 fun e26 w27 => ∃ b28 : Bool, e26 = .returned (.bool b28) ∧
 brB (!b28)
 (J3 true w27)
 (brB (decide (slots11 < (0 : Int)))
 (J3 true w27)
 (brB (decide (backs12 < (0 : Int)))
 (J3 true w27)
 (∃ s29 : Sl, w27.cell? ⟨b14, 2, none⟩ = some (s29.val) ∧
 brB (decide (slots11 > (s29.len : Int)))
 (J3 true w27)
 (∃ s30 : Sl, w27.cell? ⟨b14, 3, none⟩ = some (s30.val) ∧
 brB (decide (backs12 > (s30.len : Int)))
 (J3 true w27)
 (brB (decide (ip13 < (0 : Int)))
 (J3 true w27)
 (brB (decide (ip13 ≥ (3000 : Int)))
 (J3 true w27)
 (∃ n31 : Int, w27.cell? ⟨b14, 0, none⟩ = some (.int .i64 n31) ∧
 brB (decide (n31 < (0 : Int)))
 (J3 true w27)
 (∃ n32 : Int, w27.cell? ⟨b14, 0, none⟩ = some (.int .i64 n32) ∧
 brB (decide (n32 ≥ (3000 : Int)))
 (J3 true w27)
 (Calls Try.prog fn_hollowaylaw15_alive #[] w27 fun e33 w34 => ∃ b35 : Bool, e33 = .returned (.bool b35) ∧
 J3 (!b35) w34)))))))))
def hollowaylaw15_EvalEmpty_an : An := ⟨[], [(6, (59, .st 0 (.st 1 (.ef 2 (.st 3 (.st 4 (.ef 5 (.ef 6 (.st 7 (.st 8 (.st 9 (.st 10 (.st 11 (.st 12 (.st 13 (.st 14 (.st 15 (.st 16 (.st 17 (.st 18 (.st 19 (.st 20 (.st 21 (.st 22 (.st 23 (.st 24 (.ef 25 (.st 26 (.st 27 (.st 28 (.st 29 (.st 30 (.st 31 (.st 32 (.st 33 (.st 34 (.st 35 (.st 36 (.st 37 (.ef 38 (.st 39 (.st 40 (.st 41 (.st 42 (.st 43 (.st 44 (.ef 45 (.st 46 (.st 47 (.st 48 (.st 49 (.st 50 (.st 51 (.st 52 (.st 53 (.st 54 (.st 55 (.st 56 (.st 57 (.st 58 .done)))))))))))))))))))))))))))))))))))))))))))))))))))))))))), 1))], [(2, [(58, .bool)])]⟩
theorem hollowaylaw15_EvalEmpty_lift {s__Ip1 : Int} {s__Handler2 : Int} {s__Stack3 : Sl} {s__Back4 : Sl} {s__Mem5 : Sl} {s__Out6 : ByteArray} {s__In7 : ByteArray} {s__Read8 : Int} {s__Status9 : Int} {s__Code10 : Int} {slots11 : Int} {backs12 : Int} {ip13 : Int} {w : World} {K : Value → World → Prop} (h : hollowaylaw15_EvalEmpty_sh s__Ip1 s__Handler2 s__Stack3 s__Back4 s__Mem5 s__Out6 s__In7 s__Read8 s__Status9 s__Code10 slots11 backs12 ip13 w K) : Calls Try.prog fn_hollowaylaw15_EvalEmpty #[.agg #[.int .i64 s__Ip1, .int .i64 s__Handler2, s__Stack3.val, s__Back4.val, s__Mem5.val, .string s__Out6, .string s__In7, .int .i64 s__Read8, .int .i64 s__Status9, .int .i64 s__Code10], .int .i64 slots11, .int .i64 backs12, .int .i64 ip13] w fun e w' => ∃ v, e = .returned v ∧ K v w' :=
   lift_calls (A := hollowaylaw15_EvalEmpty_an) (c := bodyOf Try.f4) (args := [.agg #[.int .i64 s__Ip1, .int .i64 s__Handler2, s__Stack3.val, s__Back4.val, s__Mem5.val, .string s__Out6, .string s__In7, .int .i64 s__Read8, .int .i64 s__Status9, .int .i64 s__Code10], .int .i64 slots11, .int .i64 backs12, .int .i64 ip13]) orc orc_wide Try.func4 (by kernel_rfl) (by kernel_rfl) (Eq.mp (by kernel_rfl : hollowaylaw15_EvalEmpty_sh s__Ip1 s__Handler2 s__Stack3 s__Back4 s__Mem5 s__Out6 s__In7 s__Read8 s__Status9 s__Code10 slots11 backs12 ip13 w K = wpc orc Try.f4.ntmps hollowaylaw15_EvalEmpty_an (bodyOf Try.f4) (argl 0 [.agg #[.int .i64 s__Ip1, .int .i64 s__Handler2, s__Stack3.val, s__Back4.val, s__Mem5.val, .string s__Out6, .string s__In7, .int .i64 s__Read8, .int .i64 s__Status9, .int .i64 s__Code10], .int .i64 slots11, .int .i64 backs12, .int .i64 ip13]) w (retQ orc Try.f4.results.toList K)) h)

-- holloway/hollowaylaw15.EvalGuards
def hollowaylaw15_EvalGuards_sh (a_1 : Int) (b_2 : Int) (kind3 : Int) (w : World) (K : Value → World → Prop) : Prop :=
 Calls Try.prog fn_hollowaylaw15_alive #[] w fun e4 w5 => ∃ b6 : Bool, e4 = .returned (.bool b6) ∧
 brB (!b6)
 (K (.bool false) w5)
 (∀ (b7 : Nat) (w8 : World), b7 = w5.heap.size → w8 = World.alloc w5 (.cells #[.int .i64 (7 : Int), .int .i64 (0 : Int), .int .i64 (0 : Int), .int .i64 (0 : Int), .int .i64 (0 : Int), .int .i64 (8 : Int), .int .i64 (0 : Int), .int .i64 (0 : Int), .int .i64 (0 : Int), .int .i64 (0 : Int), .int .i64 (9 : Int), .int .i64 (0 : Int), .int .i64 (0 : Int), .int .i64 (1 : Int), .int .i64 (0 : Int)] T_api_Ins) →
 (3 : Int) ≠ 0 ∧ (3 : Int) ≠ 0 ∧ ∃ a9 : Addr, (some ⟨b7, 0, none⟩) = some a9 ∧ 0 ≤ (Int.tmod (wr ((Int.tmod kind3 (3 : Int)) + (3 : Int))) (3 : Int)) ∧ (Int.tmod (wr ((Int.tmod kind3 (3 : Int)) + (3 : Int))) (3 : Int)) < (3 : Int) ∧
 ∃ n_Op10 : Int, ∃ n_A11 : Int, ∃ n_B12 : Int, ∃ n_C13 : Int, ∃ n_X14 : Int, w8.cell? (Addr.add a9 (Int.toNat (Int.tmod (wr ((Int.tmod kind3 (3 : Int)) + (3 : Int))) (3 : Int)) * 5)) = some (.int .i64 n_Op10) ∧ w8.cell? (Addr.add (Addr.add a9 (Int.toNat (Int.tmod (wr ((Int.tmod kind3 (3 : Int)) + (3 : Int))) (3 : Int)) * 5)) 1) = some (.int .i64 n_A11) ∧ w8.cell? (Addr.add (Addr.add a9 (Int.toNat (Int.tmod (wr ((Int.tmod kind3 (3 : Int)) + (3 : Int))) (3 : Int)) * 5)) 2) = some (.int .i64 n_B12) ∧ w8.cell? (Addr.add (Addr.add a9 (Int.toNat (Int.tmod (wr ((Int.tmod kind3 (3 : Int)) + (3 : Int))) (3 : Int)) * 5)) 3) = some (.int .i64 n_C13) ∧ w8.cell? (Addr.add (Addr.add a9 (Int.toNat (Int.tmod (wr ((Int.tmod kind3 (3 : Int)) + (3 : Int))) (3 : Int)) * 5)) 4) = some (.int .i64 n_X14) ∧
 ∀ (b15 : Nat) (w16 : World), b15 = w8.heap.size → w16 = World.alloc w8 (.cells #[.int .i64 (0 : Int), .int .i64 (0 : Int), .int .i64 (0 : Int), .int .i64 (0 : Int), .int .i64 (0 : Int)] T_api_Ins) →
 wrOk w16 ⟨b15, 0, none⟩ 5 ∧ ∀ w17 : World, w17 = stW w16 ⟨b15, 0, none⟩ 0 [.int .i64 n_Op10, .int .i64 n_A11, .int .i64 n_B12, .int .i64 n_C13, .int .i64 n_X14] →
 ∃ n_Op18 : Int, ∃ n_A19 : Int, ∃ n_B20 : Int, ∃ n_C21 : Int, ∃ n_X22 : Int, w17.cell? ⟨b15, 0, none⟩ = some (.int .i64 n_Op18) ∧ w17.cell? ⟨b15, 1, none⟩ = some (.int .i64 n_A19) ∧ w17.cell? ⟨b15, 2, none⟩ = some (.int .i64 n_B20) ∧ w17.cell? ⟨b15, 3, none⟩ = some (.int .i64 n_C21) ∧ w17.cell? ⟨b15, 4, none⟩ = some (.int .i64 n_X22) ∧
 ∀ (b23 : Nat) (w24 : World), b23 = w17.heap.size → w24 = World.alloc w17 (.cells #[.int .i64 (2 : Int), .int .i64 (0 : Int), .int .i64 (0 : Int), .int .i64 (0 : Int), .int .i64 (0 : Int), .int .i64 (2 : Int), .int .i64 (1 : Int), .int .i64 (0 : Int), .int .i64 (0 : Int), .int .i64 (0 : Int), .int .i64 n_Op18, .int .i64 n_A19, .int .i64 n_B20, .int .i64 n_C21, .int .i64 n_X22, .int .i64 (10 : Int), .int .i64 (0 : Int), .int .i64 (0 : Int), .int .i64 (0 : Int), .int .i64 (0 : Int)] T_api_Ins) →
 ∀ (b25 : Nat) (w26 : World), b25 = w24.heap.size → w26 = World.alloc w24 (.cells #[.int .i64 (0 : Int)] T_int) →
 ∀ (b27 : Nat) (w28 : World), b27 = w26.heap.size → w28 = World.alloc w26 (.cells #[.int .i64 (7 : Int), .int .i64 (0 : Int), .slice (some ⟨b25, 0, none⟩) 1 1, .slice none 0 0, .int .i64 (8 : Int), .int .i64 (2 : Int), .slice none 0 0, .slice none 0 0] T_api_Out) →
 ∀ (b29 : Nat) (w30 : World), b29 = w28.heap.size → w30 = World.alloc w28 (.cells #[.int .i64 (0 : Int), .int .i64 (0 : Int), .int .i64 (0 : Int), .int .i64 (0 : Int), .int .i64 (0 : Int), .slice none 0 0, .slice none 0 0, .int .i64 (0 : Int), .slice none 0 0] T_api_Trace) →
 wrOk w30 ⟨b29, 0, none⟩ 9 ∧ ∀ w31 : World, w31 = stW w30 ⟨b29, 0, none⟩ 0 [.int .i64 (5 : Int), .int .i64 (2 : Int), .int .i64 (0 : Int), .int .i64 (0 : Int), .int .i64 (0 : Int), .slice (some ⟨b23, 0, none⟩) 4 4, .slice (some ⟨b27, 0, none⟩) 2 2, .int .i64 (1 : Int), .slice none 0 0] →
 ∀ (b32 : Nat) (w33 : World), b32 = w31.heap.size → w33 = World.alloc w31 (.cells #[.int .i64 b_2, .int .i64 a_1] T_int) →
 ∃ s34 : Sl, ∃ w35 : World, (Instr.makeSlice T_sl_int (.int .i64 (9 : Int)) (.int .i64 (9 : Int))).run Try.prog w33 = .ok s34.val w35 ∧
 ∀ (b36 : Nat) (w37 : World), b36 = w35.heap.size → w37 = World.alloc w35 (.cells #[.int .i64 (0 : Int), .int .i64 (0 : Int), .slice none 0 0, .slice none 0 0, .slice none 0 0, .string (bs []), .string (bs []), .int .i64 (0 : Int), .int .i64 (0 : Int), .int .i64 (0 : Int)] T_api_State) →
 wrOk w37 ⟨b36, 0, none⟩ 10 ∧ ∀ w38 : World, w38 = stW w37 ⟨b36, 0, none⟩ 0 [.int .i64 (5 : Int), .int .i64 (0 : Int), .slice (some ⟨b32, 0, none⟩) 2 2, .slice none 0 0, s34.val, .string (bs []), .string (bs []), .int .i64 (0 : Int), .int .i64 (0 : Int), .int .i64 (0 : Int)] →
 ∃ n_Start39 : Int, ∃ n_Slots40 : Int, ∃ n_Backs41 : Int, ∃ n_Grow42 : Int, ∃ n_GrowBack43 : Int, ∃ s_Ins44 : Sl, ∃ s_Outs45 : Sl, ∃ n_Last46 : Int, ∃ s_Cells47 : Sl, w38.cell? ⟨b29, 0, none⟩ = some (.int .i64 n_Start39) ∧ w38.cell? ⟨b29, 1, none⟩ = some (.int .i64 n_Slots40) ∧ w38.cell? ⟨b29, 2, none⟩ = some (.int .i64 n_Backs41) ∧ w38.cell? ⟨b29, 3, none⟩ = some (.int .i64 n_Grow42) ∧ w38.cell? ⟨b29, 4, none⟩ = some (.int .i64 n_GrowBack43) ∧ w38.cell? ⟨b29, 5, none⟩ = some (s_Ins44.val) ∧ w38.cell? ⟨b29, 6, none⟩ = some (s_Outs45.val) ∧ w38.cell? ⟨b29, 7, none⟩ = some (.int .i64 n_Last46) ∧ w38.cell? ⟨b29, 8, none⟩ = some (s_Cells47.val) ∧
 ∃ n_Ip48 : Int, ∃ n_Handler49 : Int, ∃ s_Stack50 : Sl, ∃ s_Back51 : Sl, ∃ s_Mem52 : Sl, ∃ t_Out53 : ByteArray, ∃ t_In54 : ByteArray, ∃ n_Read55 : Int, ∃ n_Status56 : Int, ∃ n_Code57 : Int, w38.cell? ⟨b36, 0, none⟩ = some (.int .i64 n_Ip48) ∧ w38.cell? ⟨b36, 1, none⟩ = some (.int .i64 n_Handler49) ∧ w38.cell? ⟨b36, 2, none⟩ = some (s_Stack50.val) ∧ w38.cell? ⟨b36, 3, none⟩ = some (s_Back51.val) ∧ w38.cell? ⟨b36, 4, none⟩ = some (s_Mem52.val) ∧ w38.cell? ⟨b36, 5, none⟩ = some (.string t_Out53) ∧ w38.cell? ⟨b36, 6, none⟩ = some (.string t_In54) ∧ w38.cell? ⟨b36, 7, none⟩ = some (.int .i64 n_Read55) ∧ w38.cell? ⟨b36, 8, none⟩ = some (.int .i64 n_Status56) ∧ w38.cell? ⟨b36, 9, none⟩ = some (.int .i64 n_Code57) ∧
 Calls Try.prog fn_eval_Run #[.agg #[.int .i64 n_Start39, .int .i64 n_Slots40, .int .i64 n_Backs41, .int .i64 n_Grow42, .int .i64 n_GrowBack43, s_Ins44.val, s_Outs45.val, .int .i64 n_Last46, s_Cells47.val], .agg #[.int .i64 n_Ip48, .int .i64 n_Handler49, s_Stack50.val, s_Back51.val, s_Mem52.val, .string t_Out53, .string t_In54, .int .i64 n_Read55, .int .i64 n_Status56, .int .i64 n_Code57], .slice none 0 0] w38 fun e58 w59 => ∃ n_Ip60 : Int, ∃ n_Handler61 : Int, ∃ s_Stack62 : Sl, ∃ s_Back63 : Sl, ∃ s_Mem64 : Sl, ∃ t_Out65 : ByteArray, ∃ t_In66 : ByteArray, ∃ n_Read67 : Int, ∃ n_Status68 : Int, ∃ n_Code69 : Int, ∃ n_Exit70 : Int, ∃ n_Steps71 : Int, ∃ b_Hit72 : Bool, e58 = .returned (.tuple #[.agg #[.int .i64 n_Ip60, .int .i64 n_Handler61, s_Stack62.val, s_Back63.val, s_Mem64.val, .string t_Out65, .string t_In66, .int .i64 n_Read67, .int .i64 n_Status68, .int .i64 n_Code69], .agg #[.int .i64 n_Exit70, .int .i64 n_Steps71, .bool b_Hit72]]) ∧
 ∀ (b73 : Nat) (w74 : World), b73 = w59.heap.size → w74 = World.alloc w59 (.cells #[.int .i64 (0 : Int), .int .i64 (0 : Int), .slice none 0 0, .slice none 0 0, .slice none 0 0, .string (bs []), .string (bs []), .int .i64 (0 : Int), .int .i64 (0 : Int), .int .i64 (0 : Int)] T_api_State) →
 ∀ (b75 : Nat) (w76 : World), b75 = w74.heap.size → w76 = World.alloc w74 (.cells #[.int .i64 (0 : Int), .int .i64 (0 : Int), .bool false] T_eval_Done) →
 wrOk w76 ⟨b73, 0, none⟩ 10 ∧ ∀ w77 : World, w77 = stW w76 ⟨b73, 0, none⟩ 0 [.int .i64 n_Ip60, .int .i64 n_Handler61, s_Stack62.val, s_Back63.val, s_Mem64.val, .string t_Out65, .string t_In66, .int .i64 n_Read67, .int .i64 n_Status68, .int .i64 n_Code69] →
 wrOk w77 ⟨b75, 0, none⟩ 3 ∧ ∀ w78 : World, w78 = stW w77 ⟨b75, 0, none⟩ 0 [.int .i64 n_Exit70, .int .i64 n_Steps71, .bool b_Hit72] →
 ∀ (b79 : Nat) (w80 : World), b79 = w78.heap.size → w80 = World.alloc w78 (.cells #[.bool (a_1 != (0 : Int)), .bool (a_1 == (0 : Int)), .bool (a_1 == b_2)] T_bool) →
 (3 : Int) ≠ 0 ∧ (3 : Int) ≠ 0 ∧ ∃ a81 : Addr, (some ⟨b79, 0, none⟩) = some a81 ∧ 0 ≤ (Int.tmod (wr ((Int.tmod kind3 (3 : Int)) + (3 : Int))) (3 : Int)) ∧ (Int.tmod (wr ((Int.tmod kind3 (3 : Int)) + (3 : Int))) (3 : Int)) < (3 : Int) ∧
 ∃ b82 : Bool, w80.cell? (Addr.add a81 (Int.toNat (Int.tmod (wr ((Int.tmod kind3 (3 : Int)) + (3 : Int))) (3 : Int)) * 1)) = some (.bool b82) ∧
 brB b82
 (∃ n_Exit83 : Int, ∃ n_Steps84 : Int, ∃ b_Hit85 : Bool, w80.cell? ⟨b75, 0, none⟩ = some (.int .i64 n_Exit83) ∧ w80.cell? ⟨b75, 1, none⟩ = some (.int .i64 n_Steps84) ∧ w80.cell? ⟨b75, 2, none⟩ = some (.bool b_Hit85) ∧
 ∃ b86 : Bool, ∃ w87 : World, ((do eqGuard .eql T_eval_Done (.tmp 61) (.tmp 62) (.agg #[.int .i64 n_Exit83, .int .i64 n_Steps84, .bool b_Hit85]) (.agg #[.int .i64 (1 : Int), .int .i64 (2 : Int), .bool false]); binOp .eql T_eval_Done (.agg #[.int .i64 n_Exit83, .int .i64 n_Steps84, .bool b_Hit85]) (.agg #[.int .i64 (1 : Int), .int .i64 (2 : Int), .bool false]) : Sem Value)).run Try.prog w80 = .ok (.bool b86) w87 ∧
 brB b86
 (∃ t88 : ByteArray, w87.cell? ⟨b73, 5, none⟩ = some (.string t88) ∧
 ∀ (b89 : Nat) (w90 : World), b89 = w87.heap.size → w90 = World.alloc w87 (.cells #[.int .u8 (IntKind.wrap .u8 a_1)] T_uint8) →
 ∃ t91 : ByteArray, ∃ w92 : World, (convert T_sl_uint8 T_string (.slice (some ⟨b89, 0, none⟩) 1 1)).run Try.prog w90 = .ok (.string t91) w92 ∧
 brB (t88.toList == t91.toList)
 (∃ s93 : Sl, w92.cell? ⟨b73, 2, none⟩ = some (s93.val) ∧
 K (.bool ((s93.len : Int) == (0 : Int))) w92)
 (K (.bool false) w92))
 (K (.bool false) w87))
 (∃ n_Exit96 : Int, ∃ n_Steps97 : Int, ∃ b_Hit98 : Bool, w80.cell? ⟨b75, 0, none⟩ = some (.int .i64 n_Exit96) ∧ w80.cell? ⟨b75, 1, none⟩ = some (.int .i64 n_Steps97) ∧ w80.cell? ⟨b75, 2, none⟩ = some (.bool b_Hit98) ∧
 ∃ b99 : Bool, ∃ w100 : World, ((do eqGuard .eql T_eval_Done (.tmp 79) (.tmp 80) (.agg #[.int .i64 n_Exit96, .int .i64 n_Steps97, .bool b_Hit98]) (.agg #[.int .i64 (0 : Int), .int .i64 (0 : Int), .bool false]); binOp .eql T_eval_Done (.agg #[.int .i64 n_Exit96, .int .i64 n_Steps97, .bool b_Hit98]) (.agg #[.int .i64 (0 : Int), .int .i64 (0 : Int), .bool false]) : Sem Value)).run Try.prog w80 = .ok (.bool b99) w100 ∧
 brB b99
 (∃ t101 : ByteArray, w100.cell? ⟨b73, 5, none⟩ = some (.string t101) ∧
 brB (t101.toList == (bs []).toList)
 (∃ s102 : Sl, w100.cell? ⟨b73, 2, none⟩ = some (s102.val) ∧
 brB ((s102.len : Int) == (1 : Int))
 (∃ s103 : Sl, w100.cell? ⟨b73, 2, none⟩ = some (s103.val) ∧
 ∃ a104 : Addr, s103.ptr = some a104 ∧ 0 ≤ (0 : Int) ∧ (0 : Int) < (s103.len : Int) ∧
 ∃ n105 : Int, w100.cell? (Addr.add a104 (Int.toNat (0 : Int) * 1)) = some (.int .i64 n105) ∧
 brB (n105 == a_1)
 (∃ n106 : Int, w100.cell? ⟨b73, 0, none⟩ = some (.int .i64 n106) ∧
 K (.bool (n106 == (7 : Int))) w100)
 (K (.bool false) w100))
 (K (.bool false) w100))
 (K (.bool false) w100))
 (K (.bool false) w100)))
def hollowaylaw15_EvalGuards_an : An := ⟨[], [], []⟩
theorem hollowaylaw15_EvalGuards_lift {a_1 : Int} {b_2 : Int} {kind3 : Int} {w : World} {K : Value → World → Prop} (h : hollowaylaw15_EvalGuards_sh a_1 b_2 kind3 w K) : Calls Try.prog fn_hollowaylaw15_EvalGuards #[.int .i64 a_1, .int .i64 b_2, .int .i64 kind3] w fun e w' => ∃ v, e = .returned v ∧ K v w' :=
   lift_calls (A := hollowaylaw15_EvalGuards_an) (c := bodyOf Try.f5) (args := [.int .i64 a_1, .int .i64 b_2, .int .i64 kind3]) orc orc_wide Try.func5 (by kernel_rfl) (by kernel_rfl) (Eq.mp (by kernel_rfl : hollowaylaw15_EvalGuards_sh a_1 b_2 kind3 w K = wpc orc Try.f5.ntmps hollowaylaw15_EvalGuards_an (bodyOf Try.f5) (argl 0 [.int .i64 a_1, .int .i64 b_2, .int .i64 kind3]) w (retQ orc Try.f5.results.toList K)) h)

-- holloway/hollowaylaw15.alive
def hollowaylaw15_alive_sh  (w : World) (K : Value → World → Prop) : Prop :=
 ∀ (b1 : Nat) (w2 : World), b1 = w.heap.size → w2 = World.alloc w (.cells #[.int .i64 (2 : Int), .int .i64 (0 : Int), .int .i64 (0 : Int), .int .i64 (0 : Int), .int .i64 (0 : Int), .int .i64 (4 : Int), .int .i64 (11 : Int), .int .i64 (0 : Int), .int .i64 (0 : Int), .int .i64 (0 : Int)] T_api_Ins) →
 ∀ (b3 : Nat) (w4 : World), b3 = w2.heap.size → w4 = World.alloc w2 (.cells #[.int .i64 (1 : Int)] T_int) →
 ∀ (b5 : Nat) (w6 : World), b5 = w4.heap.size → w6 = World.alloc w4 (.cells #[.int .i64 (7 : Int), .int .i64 (2 : Int), .slice (some ⟨b3, 0, none⟩) 1 1, .slice none 0 0] T_api_Out) →
 ∀ (b7 : Nat) (w8 : World), b7 = w6.heap.size → w8 = World.alloc w6 (.cells #[.int .i64 (0 : Int), .int .i64 (0 : Int), .int .i64 (0 : Int), .int .i64 (0 : Int), .int .i64 (0 : Int), .slice none 0 0, .slice none 0 0, .int .i64 (0 : Int), .slice none 0 0] T_api_Trace) →
 wrOk w8 ⟨b7, 0, none⟩ 9 ∧ ∀ w9 : World, w9 = stW w8 ⟨b7, 0, none⟩ 0 [.int .i64 (5 : Int), .int .i64 (1 : Int), .int .i64 (0 : Int), .int .i64 (0 : Int), .int .i64 (0 : Int), .slice (some ⟨b1, 0, none⟩) 2 2, .slice (some ⟨b5, 0, none⟩) 1 1, .int .i64 (0 : Int), .slice none 0 0] →
 Calls Try.prog fn_hollowayref9_Boot #[.int .i64 (20 : Int), .string (bs [])] w9 fun e10 w11 => ∃ n_Ip12 : Int, ∃ n_Handler13 : Int, ∃ s_Stack14 : Sl, ∃ s_Back15 : Sl, ∃ s_Mem16 : Sl, ∃ t_Out17 : ByteArray, ∃ t_In18 : ByteArray, ∃ n_Read19 : Int, ∃ n_Status20 : Int, ∃ n_Code21 : Int, e10 = .returned (.agg #[.int .i64 n_Ip12, .int .i64 n_Handler13, s_Stack14.val, s_Back15.val, s_Mem16.val, .string t_Out17, .string t_In18, .int .i64 n_Read19, .int .i64 n_Status20, .int .i64 n_Code21]) ∧
 ∀ (b22 : Nat) (w23 : World), b22 = w11.heap.size → w23 = World.alloc w11 (.cells #[.int .i64 (0 : Int), .int .i64 (0 : Int), .slice none 0 0, .slice none 0 0, .slice none 0 0, .string (bs []), .string (bs []), .int .i64 (0 : Int), .int .i64 (0 : Int), .int .i64 (0 : Int)] T_api_State) →
 wrOk w23 ⟨b22, 0, none⟩ 10 ∧ ∀ w24 : World, w24 = stW w23 ⟨b22, 0, none⟩ 0 [.int .i64 n_Ip12, .int .i64 n_Handler13, s_Stack14.val, s_Back15.val, s_Mem16.val, .string t_Out17, .string t_In18, .int .i64 n_Read19, .int .i64 n_Status20, .int .i64 n_Code21] →
 ∀ (b25 : Nat) (w26 : World), b25 = w24.heap.size → w26 = World.alloc w24 (.cells #[.int .i64 (3 : Int), .int .i64 (4 : Int)] T_int) →
 wrOk w26 ⟨b22, 0, none⟩ 1 ∧ ∀ w27 : World, w27 = stW w26 ⟨b22, 0, none⟩ 0 [.int .i64 (5 : Int)] →
 wrOk w27 ⟨b22, 8, none⟩ 1 ∧ ∀ w28 : World, w28 = stW w27 ⟨b22, 8, none⟩ 0 [.int .i64 (0 : Int)] →
 wrOk w28 ⟨b22, 2, none⟩ 1 ∧ ∀ w29 : World, w29 = stW w28 ⟨b22, 2, none⟩ 0 [.slice (some ⟨b25, 0, none⟩) 2 2] →
 ∃ n_Start30 : Int, ∃ n_Slots31 : Int, ∃ n_Backs32 : Int, ∃ n_Grow33 : Int, ∃ n_GrowBack34 : Int, ∃ s_Ins35 : Sl, ∃ s_Outs36 : Sl, ∃ n_Last37 : Int, ∃ s_Cells38 : Sl, w29.cell? ⟨b7, 0, none⟩ = some (.int .i64 n_Start30) ∧ w29.cell? ⟨b7, 1, none⟩ = some (.int .i64 n_Slots31) ∧ w29.cell? ⟨b7, 2, none⟩ = some (.int .i64 n_Backs32) ∧ w29.cell? ⟨b7, 3, none⟩ = some (.int .i64 n_Grow33) ∧ w29.cell? ⟨b7, 4, none⟩ = some (.int .i64 n_GrowBack34) ∧ w29.cell? ⟨b7, 5, none⟩ = some (s_Ins35.val) ∧ w29.cell? ⟨b7, 6, none⟩ = some (s_Outs36.val) ∧ w29.cell? ⟨b7, 7, none⟩ = some (.int .i64 n_Last37) ∧ w29.cell? ⟨b7, 8, none⟩ = some (s_Cells38.val) ∧
 ∃ n_Ip39 : Int, ∃ n_Handler40 : Int, ∃ s_Stack41 : Sl, ∃ s_Back42 : Sl, ∃ s_Mem43 : Sl, ∃ t_Out44 : ByteArray, ∃ t_In45 : ByteArray, ∃ n_Read46 : Int, ∃ n_Status47 : Int, ∃ n_Code48 : Int, w29.cell? ⟨b22, 0, none⟩ = some (.int .i64 n_Ip39) ∧ w29.cell? ⟨b22, 1, none⟩ = some (.int .i64 n_Handler40) ∧ w29.cell? ⟨b22, 2, none⟩ = some (s_Stack41.val) ∧ w29.cell? ⟨b22, 3, none⟩ = some (s_Back42.val) ∧ w29.cell? ⟨b22, 4, none⟩ = some (s_Mem43.val) ∧ w29.cell? ⟨b22, 5, none⟩ = some (.string t_Out44) ∧ w29.cell? ⟨b22, 6, none⟩ = some (.string t_In45) ∧ w29.cell? ⟨b22, 7, none⟩ = some (.int .i64 n_Read46) ∧ w29.cell? ⟨b22, 8, none⟩ = some (.int .i64 n_Status47) ∧ w29.cell? ⟨b22, 9, none⟩ = some (.int .i64 n_Code48) ∧
 Calls Try.prog fn_eval_Run #[.agg #[.int .i64 n_Start30, .int .i64 n_Slots31, .int .i64 n_Backs32, .int .i64 n_Grow33, .int .i64 n_GrowBack34, s_Ins35.val, s_Outs36.val, .int .i64 n_Last37, s_Cells38.val], .agg #[.int .i64 n_Ip39, .int .i64 n_Handler40, s_Stack41.val, s_Back42.val, s_Mem43.val, .string t_Out44, .string t_In45, .int .i64 n_Read46, .int .i64 n_Status47, .int .i64 n_Code48], .slice none 0 0] w29 fun e49 w50 => ∃ n_Ip51 : Int, ∃ n_Handler52 : Int, ∃ s_Stack53 : Sl, ∃ s_Back54 : Sl, ∃ s_Mem55 : Sl, ∃ t_Out56 : ByteArray, ∃ t_In57 : ByteArray, ∃ n_Read58 : Int, ∃ n_Status59 : Int, ∃ n_Code60 : Int, ∃ n_Exit61 : Int, ∃ n_Steps62 : Int, ∃ b_Hit63 : Bool, e49 = .returned (.tuple #[.agg #[.int .i64 n_Ip51, .int .i64 n_Handler52, s_Stack53.val, s_Back54.val, s_Mem55.val, .string t_Out56, .string t_In57, .int .i64 n_Read58, .int .i64 n_Status59, .int .i64 n_Code60], .agg #[.int .i64 n_Exit61, .int .i64 n_Steps62, .bool b_Hit63]]) ∧
 ∀ (b64 : Nat) (w65 : World), b64 = w50.heap.size → w65 = World.alloc w50 (.cells #[.int .i64 (0 : Int), .int .i64 (0 : Int), .slice none 0 0, .slice none 0 0, .slice none 0 0, .string (bs []), .string (bs []), .int .i64 (0 : Int), .int .i64 (0 : Int), .int .i64 (0 : Int)] T_api_State) →
 ∀ (b66 : Nat) (w67 : World), b66 = w65.heap.size → w67 = World.alloc w65 (.cells #[.int .i64 (0 : Int), .int .i64 (0 : Int), .bool false] T_eval_Done) →
 wrOk w67 ⟨b64, 0, none⟩ 10 ∧ ∀ w68 : World, w68 = stW w67 ⟨b64, 0, none⟩ 0 [.int .i64 n_Ip51, .int .i64 n_Handler52, s_Stack53.val, s_Back54.val, s_Mem55.val, .string t_Out56, .string t_In57, .int .i64 n_Read58, .int .i64 n_Status59, .int .i64 n_Code60] →
 wrOk w68 ⟨b66, 0, none⟩ 3 ∧ ∀ w69 : World, w69 = stW w68 ⟨b66, 0, none⟩ 0 [.int .i64 n_Exit61, .int .i64 n_Steps62, .bool b_Hit63] →
 ∃ n_Exit70 : Int, ∃ n_Steps71 : Int, ∃ b_Hit72 : Bool, w69.cell? ⟨b66, 0, none⟩ = some (.int .i64 n_Exit70) ∧ w69.cell? ⟨b66, 1, none⟩ = some (.int .i64 n_Steps71) ∧ w69.cell? ⟨b66, 2, none⟩ = some (.bool b_Hit72) ∧
 ∃ b73 : Bool, ∃ w74 : World, ((do eqGuard .eql T_eval_Done (.tmp 23) (.tmp 24) (.agg #[.int .i64 n_Exit70, .int .i64 n_Steps71, .bool b_Hit72]) (.agg #[.int .i64 (0 : Int), .int .i64 (2 : Int), .bool false]); binOp .eql T_eval_Done (.agg #[.int .i64 n_Exit70, .int .i64 n_Steps71, .bool b_Hit72]) (.agg #[.int .i64 (0 : Int), .int .i64 (2 : Int), .bool false]) : Sem Value)).run Try.prog w69 = .ok (.bool b73) w74 ∧
 brB b73
 (∃ n75 : Int, w74.cell? ⟨b64, 0, none⟩ = some (.int .i64 n75) ∧
 brB (n75 == (7 : Int))
 (∃ s76 : Sl, w74.cell? ⟨b64, 2, none⟩ = some (s76.val) ∧
 brB ((s76.len : Int) == (2 : Int))
 (∃ s77 : Sl, w74.cell? ⟨b64, 2, none⟩ = some (s77.val) ∧
 ∃ a78 : Addr, s77.ptr = some a78 ∧ 0 ≤ (1 : Int) ∧ (1 : Int) < (s77.len : Int) ∧
 ∃ n79 : Int, w74.cell? (Addr.add a78 (Int.toNat (1 : Int) * 1)) = some (.int .i64 n79) ∧
 brB (n79 == (8 : Int))
 (∃ n_Start80 : Int, ∃ n_Slots81 : Int, ∃ n_Backs82 : Int, ∃ n_Grow83 : Int, ∃ n_GrowBack84 : Int, ∃ s_Ins85 : Sl, ∃ s_Outs86 : Sl, ∃ n_Last87 : Int, ∃ s_Cells88 : Sl, w74.cell? ⟨b7, 0, none⟩ = some (.int .i64 n_Start80) ∧ w74.cell? ⟨b7, 1, none⟩ = some (.int .i64 n_Slots81) ∧ w74.cell? ⟨b7, 2, none⟩ = some (.int .i64 n_Backs82) ∧ w74.cell? ⟨b7, 3, none⟩ = some (.int .i64 n_Grow83) ∧ w74.cell? ⟨b7, 4, none⟩ = some (.int .i64 n_GrowBack84) ∧ w74.cell? ⟨b7, 5, none⟩ = some (s_Ins85.val) ∧ w74.cell? ⟨b7, 6, none⟩ = some (s_Outs86.val) ∧ w74.cell? ⟨b7, 7, none⟩ = some (.int .i64 n_Last87) ∧ w74.cell? ⟨b7, 8, none⟩ = some (s_Cells88.val) ∧
 ∃ n_Ip89 : Int, ∃ n_Handler90 : Int, ∃ s_Stack91 : Sl, ∃ s_Back92 : Sl, ∃ s_Mem93 : Sl, ∃ t_Out94 : ByteArray, ∃ t_In95 : ByteArray, ∃ n_Read96 : Int, ∃ n_Status97 : Int, ∃ n_Code98 : Int, w74.cell? ⟨b22, 0, none⟩ = some (.int .i64 n_Ip89) ∧ w74.cell? ⟨b22, 1, none⟩ = some (.int .i64 n_Handler90) ∧ w74.cell? ⟨b22, 2, none⟩ = some (s_Stack91.val) ∧ w74.cell? ⟨b22, 3, none⟩ = some (s_Back92.val) ∧ w74.cell? ⟨b22, 4, none⟩ = some (s_Mem93.val) ∧ w74.cell? ⟨b22, 5, none⟩ = some (.string t_Out94) ∧ w74.cell? ⟨b22, 6, none⟩ = some (.string t_In95) ∧ w74.cell? ⟨b22, 7, none⟩ = some (.int .i64 n_Read96) ∧ w74.cell? ⟨b22, 8, none⟩ = some (.int .i64 n_Status97) ∧ w74.cell? ⟨b22, 9, none⟩ = some (.int .i64 n_Code98) ∧
 Calls Try.prog fn_eval_May #[.agg #[.int .i64 n_Start80, .int .i64 n_Slots81, .int .i64 n_Backs82, .int .i64 n_Grow83, .int .i64 n_GrowBack84, s_Ins85.val, s_Outs86.val, .int .i64 n_Last87, s_Cells88.val], .agg #[.int .i64 n_Ip89, .int .i64 n_Handler90, s_Stack91.val, s_Back92.val, s_Mem93.val, .string t_Out94, .string t_In95, .int .i64 n_Read96, .int .i64 n_Status97, .int .i64 n_Code98]] w74 fun e99 w100 => ∃ b101 : Bool, e99 = .returned (.bool b101) ∧
 K (.bool b101) w100)
 (K (.bool false) w74))
 (K (.bool false) w74))
 (K (.bool false) w74))
 (K (.bool false) w74)
def hollowaylaw15_alive_an : An := ⟨[], [], []⟩
theorem hollowaylaw15_alive_lift  {w : World} {K : Value → World → Prop} (h : hollowaylaw15_alive_sh  w K) : Calls Try.prog fn_hollowaylaw15_alive #[] w fun e w' => ∃ v, e = .returned v ∧ K v w' :=
   lift_calls (A := hollowaylaw15_alive_an) (c := bodyOf Try.f19) (args := []) orc orc_wide Try.func19 (by kernel_rfl) (by kernel_rfl) (Eq.mp (by kernel_rfl : hollowaylaw15_alive_sh  w K = wpc orc Try.f19.ntmps hollowaylaw15_alive_an (bodyOf Try.f19) (argl 0 []) w (retQ orc Try.f19.results.toList K)) h)

end Go.Proofs.Ytblmoilneiffgaa

/- The law's first call (chapter 15), EvalGuards. -/
set_option maxRecDepth 100000
namespace Go.Proofs.Ytblmoilneiffgaa
open Go.RowKit

/-- Literals. -/
theorem litIns {w w' : World} {b : Nat} (xs : List In5) (cs : List Value) (hcs : cs = fl insE xs) (hb : b = w.heap.size) (hw : w' = World.alloc w (.cells cs.toArray T_api_Ins)) (hl : xs.length ≤ 100) : Ow insE w' ⟨some ⟨b, 0, none⟩, xs.length, xs.length⟩ xs ∧ Chg No w w' := by
  rw [hw, hb]
  exact ⟨Ow.lit (E := insE) w xs cs hcs (by unfold maxLen; omega), Chg.alloc _ _ _⟩
theorem litOus {w w' : World} {b : Nat} (xs : List OuC) (cs : List Value) (hcs : cs = fl ouE xs) (hb : b = w.heap.size) (hw : w' = World.alloc w (.cells cs.toArray T_api_Out)) (hl : xs.length ≤ 100) : Ow ouE w' ⟨some ⟨b, 0, none⟩, xs.length, xs.length⟩ xs ∧ Chg No w w' := by
  rw [hw, hb]
  exact ⟨Ow.lit (E := ouE) w xs cs hcs (by unfold maxLen; omega), Chg.alloc _ _ _⟩
def Any : Nat → Prop := fun _ => True
def outsOf (w : World) (os : List OuC) (vs : List OuV) : Prop := OusIs Any w os vs
theorem ous_nil (w : World) : OusIs Any w [] [] := ⟨rfl, fun i o v h => by simp at h⟩
theorem ous_cons {w : World} {o : OuC} {v : OuV} {os : List OuC} {vs : List OuV} (h1 : o.ip = v.ip ∧ o.steps = v.steps) (h2 : Rd intE w o.stack v.stack) (h3 : Rd intE w o.back v.back) (h : OusIs Any w os vs) : OusIs Any w (o :: os) (v :: vs) := by
  refine ⟨by simp [h.1], fun i o' v' ho hv => ?_⟩
  cases i with
  | zero =>
    have ho : o = o' := by simpa using ho
    have hv : v = v' := by simpa using hv
    subst ho hv
    exact ⟨h1.1, h1.2, h2, h3, fun _ _ => trivial, fun _ _ => trivial⟩
  | succ i => exact h.2 i o' v' (by simpa using ho) (by simpa using hv)
/-- A trace's cells and what it says. -/
theorem tris {w : World} {t : TrP} {v : TrG} {os : List OuC} (h1 : t.start = v.start ∧ t.slots = v.slots ∧ t.backs = v.backs ∧ t.grow = v.grow ∧ t.growBack = v.growBack ∧ t.last = v.last) (h2 : Rd insE w t.ins v.ins) (h3 : Rd ouE w t.outs os) (h4 : OusIs Any w os v.outs) (h5 : Rd intE w t.cells v.cells) : TrIs Any w t v :=
  ⟨h1, h2, ⟨os, h3, h4⟩, h5, fun _ _ => trivial, fun _ _ => trivial, fun _ _ => trivial⟩
theorem stis {w : World} {S : StC} {s : StV} (h : StNums S s) (h1 : Rd intE w S.stack s.stack) (h2 : Rd intE w S.back s.back) (h3 : Rd intE w S.mem s.mem) : StIs Any w S s := ⟨h, h1, h2, h3, fun _ _ => trivial, fun _ _ => trivial, fun _ _ => trivial⟩
def alT : TrG := ⟨5, 1, 0, 0, 0, [⟨2, 0, 0, 0, 0⟩, ⟨4, 11, 0, 0, 0⟩], [⟨7, 2, [1], []⟩], 0, []⟩
def alS : StV := { bootV 20 (bs []) with ip := 5, status := 0, stack := [3, 4] }
theorem al_may : mayV alT alS = true := by decide +kernel
theorem al_run : runG alT alS [] = (0, ⟨alS, [4, 8], -1⟩) := by
  have h1 : runG alT alS [] = goV (idA 2) [] 0 [⟨2, 0, 0, 0, 0⟩, ⟨4, 11, 0, 0, 0⟩] 0 (en0 2 alS) := rfl
  rw [h1, goV_val (s := alS) (v := 4) rfl, goV_val (s := alS) (v := Cn.two 11 4 4) rfl]
  have h2 : Cn.two 11 4 4 = 8 := by decide +kernel
  rw [h2]; rfl
theorem alive15_any (w : World) : Calls Try.prog fn_hollowaylaw15_alive #[] w fun e w' => e = .returned (.bool true) ∧ Chg No w w' := by
  refine (hollowaylaw15_alive_lift (K := fun v w' => v = .bool true ∧ Chg No w w') ?_).mono (by rintro e w' ⟨v, rfl, rfl, h⟩; exact ⟨rfl, h⟩)
  unfold hollowaylaw15_alive_sh
  intro b1 w2 hb1 hw2 b3 w4 hb3 hw4 b5 w6 hb5 hw6 b7 w8 hb7 hw8
  obtain ⟨g2, c2⟩ := litIns alT.ins _ rfl hb1 hw2 (by decide)
  obtain ⟨g4, c4⟩ := lit1 1 hb3 hw4
  obtain ⟨g6, c6⟩ := litOus [⟨7, 2, ⟨some ⟨b3, 0, none⟩, 1, 1⟩, nilS⟩] _ rfl hb5 hw6 (by simp)
  have hn := fun (w2 : World) => newOb (w2 := w2) (T := T_api_Trace) (trP ⟨0, 0, 0, 0, 0, nilS, nilS, 0, nilS⟩) (trP ⟨5, 1, 0, 0, 0, ⟨some ⟨b1, 0, none⟩, 2, 2⟩, ⟨some ⟨b5, 0, none⟩, 1, 1⟩, 0, nilS⟩) rfl hb7 hw8
  refine ⟨(hn w8).1, fun w9 hw9 => ?_⟩
  obtain ⟨o9, c9⟩ := (hn w9).2 hw9
  have k9 : Chg No w w9 := trN (trN (trN c2 c4) c6) c9
  have ht9 : TrIs Any w9 ⟨5, 1, 0, 0, 0, ⟨some ⟨b1, 0, none⟩, 2, 2⟩, ⟨some ⟨b5, 0, none⟩, 1, 1⟩, 0, nilS⟩ alT :=
    tris ⟨rfl, rfl, rfl, rfl, rfl, rfl⟩ (((g2.no c4).no c6).no c9).rd (g6.no c9).rd (ous_cons ⟨rfl, rfl⟩ ((g4.no c6).no c9).rd (Rd.nil _ _) (ous_nil _)) (Rd.nil _ _)
  refine (r9boot_any 20 (bs []) (M := 20) (by decide) w9).mono ?_
  rintro e w11 ⟨S, rfl, hS, c11⟩
  refine ⟨_, _, _, _, _, _, _, _, _, _, rfl, ?_⟩
  intro b22 w23 hb22 hw23
  have hn := fun (w2 : World) => newOb (w2 := w2) (T := T_api_State) (stC st0) (stC S) rfl hb22 hw23
  refine ⟨(hn w23).1, fun w24 hw24 => ?_⟩
  obtain ⟨o24, c24⟩ := (hn w24).2 hw24
  intro b25 w26 hb25 hw26
  obtain ⟨g26, c26⟩ := lit2 3 4 hb25 hw26
  have o26 := o24.no c26
  refine ⟨o26.wr (by simp [stC]), fun w27 hw27 => ?_⟩
  obtain ⟨o27, c27⟩ := o26.up (k := 0) (vs := [.int .i64 5]) (cs' := stC { S with ip := 5 }) (by simp [stC]) rfl hw27
  refine ⟨o27.wr (by simp [stC]), fun w28 hw28 => ?_⟩
  obtain ⟨o28, c28⟩ := o27.up (k := 8) (vs := [.int .i64 0]) (cs' := stC { S with ip := 5, status := 0 }) (by simp [stC]) rfl hw28
  refine ⟨o28.wr (by simp [stC]), fun w29 hw29 => ?_⟩
  obtain ⟨o29, c29⟩ := o28.up (k := 2) (vs := [(⟨some ⟨b25, 0, none⟩, 2, 2⟩ : Sl).val]) (cs' := stC { S with ip := 5, status := 0, stack := ⟨some ⟨b25, 0, none⟩, 2, 2⟩ }) (by simp [stC]) rfl hw29
  have z9 := k9.size
  have z11 := c11.size
  have z24 := c24.size
  have z26 := c26.size
  have cX : Chg (fun k => k = b22) w26 w29 := (c27.trans c28 (fun _ _ h => h) (fun _ _ h => h)).trans c29 (fun _ _ h => h) (fun _ _ h => h)
  have z29 := cX.size
  have hb22lt := o24.lt
  have z23 : b22 = w11.heap.size := hb22
  have k29 : Chg No w w29 := (trN (trN (trN k9 c11) c24) c26).trans cX (fun _ _ h => h) (fun k hk he => by omega)
  have o9' : Ob w29 b7 _ T_api_Trace := (((o9.no c11).no c24).no c26).chg cX (fun he => by have := o9.lt; omega)
  have ht29 : TrIs Any w29 _ alT := ht9.no ((trN (trN c11 c24) c26).trans cX (fun _ _ h => h) (fun k hk he => by omega))
  obtain ⟨m1, m2, m3, m4, m5, m6, m7⟩ := hS.nums
  have hst : StIs Any w29 { S with ip := 5, status := 0, stack := ⟨some ⟨b25, 0, none⟩, 2, 2⟩ } alS := by
    have hme : Rd intE w29 S.mem (bootM 20) := ((hS.me.no c24).no c26).rd.chg cX (fun k hk he => by have := hS.me.lt hk; omega)
    have hbk : Rd intE w29 S.back [] := ((hS.bk.no c24).no c26).rd.chg cX (fun k hk he => by have := hS.bk.lt hk; omega)
    exact stis ⟨rfl, m2, m3, m4, m5, rfl, m7⟩ (g26.rd.chg cX (fun k hk he => by have : b25 = k := Option.some.inj hk; omega)) hbk hme
  refine ⟨_, _, _, _, _, _, _, _, _, o9'.cell rfl, o9'.cell rfl, o9'.cell rfl, o9'.cell rfl, o9'.cell rfl, o9'.cell rfl, o9'.cell rfl, o9'.cell rfl, o9'.cell rfl, ?_⟩
  refine ⟨_, _, _, _, _, _, _, _, _, _, o29.cell rfl, o29.cell rfl, o29.cell rfl, o29.cell rfl, o29.cell rfl, o29.cell rfl, o29.cell rfl, o29.cell rfl, o29.cell rfl, o29.cell rfl, ?_⟩
  have hR : RightV alT := rightB_ok (by decide +kernel)
  refine (erun_any ⟨5, 1, 0, 0, 0, ⟨some ⟨b1, 0, none⟩, 2, 2⟩, ⟨some ⟨b5, 0, none⟩, 1, 1⟩, 0, nilS⟩ { S with ip := 5, status := 0, stack := ⟨some ⟨b25, 0, none⟩, 2, 2⟩ } ht29 hR hst (waS := nilS) (wl := []) (Rd.nil _ _) (by decide) (by decide) (by decide) ⟨by decide, by decide, by decide⟩).mono ?_
  rintro e w50 ⟨S', rfl, hS', c50⟩
  have e1 : outX alT alS [] = 0 := by unfold outX; rw [if_pos al_may, al_run]
  have e2 : outN alT alS [] = 2 := by unfold outN; rw [if_pos al_may, al_run]; rfl
  have e3 : outH alT alS [] = false := by unfold outH; rw [if_pos al_may, al_run]; rfl
  have e4 : outS alT alS [] = { alS with ip := 7, stack := [3, 8] } := by unfold outS; rw [if_pos al_may, al_run]; rfl
  rw [e4] at hS'
  refine ⟨_, _, _, _, _, _, _, _, _, _, _, _, _, rfl, ?_⟩
  rw [e1, e2, e3]
  intro b64 w65 hb64 hw65 b66 w67 hb66 hw67
  have c65 := al hw65
  have c67 := al hw67
  have z65 : w65.heap.size = w50.heap.size + 1 := by rw [hw65]; simp
  have z67 : w67.heap.size = w65.heap.size + 1 := by rw [hw67]; simp
  have o64 : Ob w67 b64 (stC st0) T_api_State := by
    have : Ob w65 b64 (stC st0) T_api_State := by rw [hw65, hb64]; exact Ob.new w50 (stC st0) T_api_State
    exact this.no c67
  have o66 : Ob w67 b66 [.int .i64 0, .int .i64 0, .bool false] T_eval_Done := by rw [hw67, hb66]; exact Ob.new w65 [.int .i64 0, .int .i64 0, .bool false] T_eval_Done
  refine ⟨o64.wr (by simp [stC]), fun w68 hw68 => ?_⟩
  obtain ⟨p64, c68⟩ := o64.up (k := 0) (vs := stC S') (cs' := stC S') (by simp [stC]) rfl hw68
  have p66 := o66.chg c68 (fun he => by omega)
  refine ⟨p66.wr (by simp), fun w69 hw69 => ?_⟩
  obtain ⟨q66, c69⟩ := p66.up (k := 0) (vs := [.int .i64 0, .int .i64 2, .bool false]) (cs' := [.int .i64 0, .int .i64 2, .bool false]) (by simp) rfl hw69
  have q64 := p64.chg c69 (fun he => by omega)
  have cY : Chg (fun k => k = b64 ∨ k = b66) w50 w69 := ((trN c65 c67).trans c68 (U := fun k => k = b64 ∨ k = b66) (fun _ _ h => h.elim) (fun _ _ h => Or.inl h)).trans c69 (fun _ _ h => h) (fun _ _ h => Or.inr h)
  have k69 : Chg No w w69 := (trN k29 c50).trans cY (fun _ _ h => h) (fun k hk he => by have := k29.size; have := c50.size; omega)
  refine ⟨_, _, _, q66.cell rfl, q66.cell rfl, q66.cell rfl, _, _, done_eql _ _ _ _ _ _ _ _ _, ?_⟩
  rw [show decide ((0 : Int) = 0 ∧ (2 : Int) = 2 ∧ false = false) = true by decide]
  have hst' : Rd intE w69 S'.stack [3, 8] := hS'.st.rd.chg cY (fun k hk he => by have := hS'.st.lt hk; omega)
  have hsl : S'.stack.len = 2 := hst'.len
  have hip : S'.ip = 7 := hS'.nums.1
  refine brB_t ⟨S'.ip, q64.cell rfl, ?_⟩
  rw [hip]
  refine brB_t ⟨S'.stack, q64.cell rfl, ?_⟩
  rw [show ((S'.stack.len : Int) == 2) = true by rw [hsl]; rfl]
  refine brB_t ⟨S'.stack, q64.cell rfl, hst'.ix (i := 1) (x := 8) (by omega) rfl fun a _ hcell => ?_⟩
  have q1 := hcell 0 _ rfl
  rw [add0] at q1
  refine ⟨8, q1, brB_t ?_⟩
  have o9'' : Ob w69 b7 _ T_api_Trace := (o9'.no c50).chg cY (fun he => by have := o9'.lt; have := c50.size; omega)
  have o29' := (o29.no c50).chg cY (fun he => by have := o29.lt; have := c50.size; omega)
  have kk : Chg No w29 w69 := c50.trans cY (fun _ _ h => h) (fun k hk he => by have := c50.size; omega)
  refine ⟨_, _, _, _, _, _, _, _, _, o9''.cell rfl, o9''.cell rfl, o9''.cell rfl, o9''.cell rfl, o9''.cell rfl, o9''.cell rfl, o9''.cell rfl, o9''.cell rfl, o9''.cell rfl, ?_⟩
  refine ⟨_, _, _, _, _, _, _, _, _, _, o29'.cell rfl, o29'.cell rfl, o29'.cell rfl, o29'.cell rfl, o29'.cell rfl, o29'.cell rfl, o29'.cell rfl, o29'.cell rfl, o29'.cell rfl, o29'.cell rfl, ?_⟩
  refine (emay_any ⟨5, 1, 0, 0, 0, ⟨some ⟨b1, 0, none⟩, 2, 2⟩, ⟨some ⟨b5, 0, none⟩, 1, 1⟩, 0, nilS⟩ { S with ip := 5, status := 0, stack := ⟨some ⟨b25, 0, none⟩, 2, 2⟩ } (ht29.no kk) (hst.no kk) (by decide) (by decide) (by decide) (by decide)).mono ?_
  rintro e w100 ⟨rfl, c100⟩
  rw [al_may]
  exact ⟨_, rfl, rfl, trN k69 c100⟩
end Go.Proofs.Ytblmoilneiffgaa

/- EvalWatched: the walk. -/
set_option maxRecDepth 100000
namespace Go.Proofs.Ytblmoilneiffgaa
open Go.RowKit

theorem evalWatched_walk {D D' : Nat → Prop} (t : TrP) (S : StC) {v : TrG} {s : StV} (w : World) (ht : TrIs D w t v) (h : StIs D' w S s) : Calls Try.prog fn_hollowaylaw15_EvalWatched #[.agg (trP t).toArray, .agg (stC S).toArray] w fun e w' => e = .returned (.bool true) ∧ Chg No w w' := by
  refine (hollowaylaw15_EvalWatched_lift (K := fun v w' => v = .bool true ∧ Chg No w w') ?_).mono (by rintro e w' ⟨v, rfl, rfl, h⟩; exact ⟨rfl, h⟩)
  unfold hollowaylaw15_EvalWatched_sh
  intro b20 w21 hb20 hw21 b22 w23 hb22 hw23
  have c21 := al hw21
  have c23 := al hw23
  have z21 : w21.heap.size = w.heap.size + 1 := by rw [hw21]; simp
  have z23 : w23.heap.size = w21.heap.size + 1 := by rw [hw23]; simp
  have o20 : Ob w23 b20 (trP t) T_api_Trace := by
    have : Ob w21 b20 (trP t) T_api_Trace := by rw [hw21, hb20]; exact Ob.new w (trP t) T_api_Trace
    exact this.no c23
  have o22 : Ob w23 b22 (stC S) T_api_State := by rw [hw23, hb22]; exact Ob.new w21 (stC S) T_api_State
  have k23 := trN c21 c23
  obtain ⟨m1, m2, m3, m4, m5, m6, m7⟩ := h.nums
  obtain ⟨n1, n2, n3, n4, n5, n6⟩ := ht.nums
  refine ⟨fun b w' => (b = false → LightS s ∧ RightV v) ∧ Chg No w23 w', ?_, ?_⟩
  · rintro b w64 ⟨hb, c64⟩
    have k64 := trN k23 c64
    refine brB_of (fun _ => ?_) (fun hf => ?_)
    · refine (alive15_any _).mono ?_
      rintro e w67 ⟨rfl, c67⟩
      exact ⟨_, rfl, rfl, trN k64 c67⟩
    obtain ⟨hL, hR⟩ := hb hf
    have gs := hL.right.st
    have gb := hL.right.bk
    have gm := hL.me
    obtain ⟨q1, q2, q3, q4, q5, q6, q7⟩ := hR.head
    have p20 := o20.no c64
    have p22 := o22.no c64
    have z64 := k64.size
    have z64' := c64.size
    refine ⟨t.start, p20.cell rfl, p22.wr (by simp [stC]), fun w70 hw70 => ?_⟩
    obtain ⟨o70, c70⟩ := p22.up (k := 0) (vs := [.int .i64 t.start]) (cs' := stC { S with ip := t.start }) (by simp [stC]) rfl hw70
    refine ⟨o70.wr (by simp [stC]), fun w71 hw71 => ?_⟩
    obtain ⟨o71, c71⟩ := o70.up (k := 8) (vs := [.int .i64 0]) (cs' := stC { S with ip := t.start, status := 0 }) (by simp [stC]) rfl hw71
    have cX : Chg (fun k => k = b22) w64 w71 := c70.trans c71 (fun _ _ h => h) (fun _ _ h => h)
    have z71 := cX.size
    have k71 : Chg No w w71 := k64.trans cX (fun _ _ h => h) (fun k hk he => by omega)
    have r20 := p20.chg cX (fun he => by omega)
    obtain ⟨S1, hS1⟩ : ∃ S1 : StC, S1 = { S with ip := t.start, status := 0 } := ⟨_, rfl⟩
    obtain ⟨s1, hs1⟩ : ∃ s1 : StV, s1 = { s with ip := v.start, status := 0 } := ⟨_, rfl⟩
    have hm1 : s1.mem = s.mem := by rw [hs1]
    have hSm : S1.mem = S.mem := by rw [hS1]
    have hst : StIs D' w71 S1 s1 := by
      rw [hS1, hs1]
      exact ⟨⟨n1, m2, m3, m4, m5, rfl, m7⟩, h.st.no k71, h.bk.no k71, h.me.no k71, h.stD, h.bkD, h.meD⟩
    have hlen1 : s1.stack.length ≤ 48 ∧ s1.back.length ≤ 48 ∧ s1.mem.length ≤ 700 := by rw [hs1]; exact ⟨gs, gb, gm⟩
    have htx : TxOk s1 := by rw [hs1]; exact hL.tx
    rw [← hS1] at o71
    refine ⟨_, _, _, _, _, _, _, _, _, r20.cell rfl, r20.cell rfl, r20.cell rfl, r20.cell rfl, r20.cell rfl, r20.cell rfl, r20.cell rfl, r20.cell rfl, r20.cell rfl, ?_⟩
    refine ⟨_, _, _, _, _, _, _, _, _, _, o71.cell rfl, o71.cell rfl, o71.cell rfl, o71.cell rfl, o71.cell rfl, o71.cell rfl, o71.cell rfl, o71.cell rfl, o71.cell rfl, o71.cell rfl, ?_⟩
    refine (rmay_any t S1 (ht.no k71) hst (by omega) (by omega) (by omega) (by omega)).mono ?_
    rintro e w92 ⟨rfl, c92⟩
    have k92 := trN k71 c92
    refine ⟨_, rfl, brB_of (fun _ => ⟨rfl, k92⟩) (fun hm => ?_)⟩
    have hm : mayV v s1 = true := by simpa using hm
    have hml := h.me.len
    have hmc := h.me.capL
    have a20 := r20.no c92
    have a22 := o71.no c92
    refine ⟨fun l n w' => ∃ k : Nat, n = k ∧ k ≤ s.mem.length ∧ Ow intE w' l (idA k) ∧ Chg No w92 w' ∧ (∀ k, l.blk = some k → w92.heap.size ≤ k), fun _ n _ => s.mem.length - n.toNat, ⟨0, rfl, Nat.zero_le _, Ow.nil _ _, Chg.refl _ _, fun k hk => by cases hk⟩, ?_⟩
    rintro all n w94 ⟨k, rfl, hk, g94, c94, b94⟩
    have k94 := trN k92 c94
    have e20 := a20.no c94
    have e22 := a22.no c94
    refine ⟨S1.mem, e22.cell rfl, brB_of (fun hlt => ?_) (fun hlt => ?_)⟩
    · rw [hSm] at hlt
      have hlt : k < s.mem.length := by simp at hlt; omega
      intro b98 w99 hb98 hw99
      refine app1_ints hb98 hw99 g94 c94 b94 (by rw [idA_len]; omega) ?_
      intro s100 w101 g101 c101 b101
      rw [wr_in (by omega)]
      exact ⟨⟨k + 1, by omega, by omega, by rw [idA_snoc]; exact g101, c101, b101⟩, by show s.mem.length - Int.toNat ((k : Int) + 1) < s.mem.length - Int.toNat (k : Int); omega⟩
    · rw [hSm] at hlt
      have hlt : k = s.mem.length := by simp at hlt; omega
      subst hlt
      have k7194 := trN c92 c94
      have ht94 := ht.no k94
      have hs94 := hst.no k7194
      refine ⟨_, _, _, _, _, _, _, _, _, e20.cell rfl, e20.cell rfl, e20.cell rfl, e20.cell rfl, e20.cell rfl, e20.cell rfl, e20.cell rfl, e20.cell rfl, e20.cell rfl, ?_⟩
      refine ⟨_, _, _, _, _, _, _, _, _, _, e22.cell rfl, e22.cell rfl, e22.cell rfl, e22.cell rfl, e22.cell rfl, e22.cell rfl, e22.cell rfl, e22.cell rfl, e22.cell rfl, e22.cell rfl, ?_⟩
      refine (erun_any t S1 ht94 hR hs94 (waS := nilS) (wl := []) (Rd.nil _ _) (by omega) (by omega) (by omega) htx).mono ?_
      rintro e w122 ⟨Sx, rfl, hSx, c122⟩
      refine ⟨_, _, _, _, _, _, _, _, _, _, _, _, _, rfl, ?_⟩
      intro b136 w137 hb136 hw137 b138 w139 hb138 hw139
      have c137 := al hw137
      have c139 := al hw139
      have z137 : w137.heap.size = w122.heap.size + 1 := by rw [hw137]; simp
      have z139 : w139.heap.size = w137.heap.size + 1 := by rw [hw139]; simp
      have o136 : Ob w139 b136 (stC st0) T_api_State := by
        have : Ob w137 b136 (stC st0) T_api_State := by rw [hw137, hb136]; exact Ob.new w122 (stC st0) T_api_State
        exact this.no c139
      have o138 : Ob w139 b138 [.int .i64 0, .int .i64 0, .bool false] T_eval_Done := by rw [hw139, hb138]; exact Ob.new w137 [.int .i64 0, .int .i64 0, .bool false] T_eval_Done
      refine ⟨o136.wr (by simp [stC]), fun w140 hw140 => ?_⟩
      obtain ⟨p136, c140⟩ := o136.up (k := 0) (vs := stC Sx) (cs' := stC Sx) (by simp [stC]) rfl hw140
      have p138 := o138.chg c140 (fun he => by omega)
      refine ⟨p138.wr (by simp), fun w141 hw141 => ?_⟩
      obtain ⟨q138, c141⟩ := p138.up (k := 0) (vs := [.int .i64 (outX v s1 []), .int .i64 (outN v s1 []), .bool (outH v s1 [])]) (cs' := [.int .i64 (outX v s1 []), .int .i64 (outN v s1 []), .bool (outH v s1 [])]) (by simp) rfl hw141
      have q136 := p136.chg c141 (fun he => by omega)
      have cY : Chg (fun k => k = b136 ∨ k = b138) w122 w141 := ((trN c137 c139).trans c140 (U := fun k => k = b136 ∨ k = b138) (fun _ _ h => h.elim) (fun _ _ h => Or.inl h)).trans c141 (fun _ _ h => h) (fun _ _ h => Or.inr h)
      have z122 := c122.size
      have c94141 : Chg No w94 w141 := c122.trans cY (fun _ _ h => h) (fun k hk he => by omega)
      have k141 := trN k94 c94141
      have f20 := e20.no c94141
      have f22 := e22.no c94141
      have hx141 : StIs Any w141 Sx (outS v s1 []) := stis hSx.nums (hSx.st.rd.chg cY (fun k hk he => by have := hSx.st.lt hk; omega)) (hSx.bk.rd.chg cY (fun k hk he => by have := hSx.bk.lt hk; omega)) (hSx.me.rd.chg cY (fun k hk he => by have := hSx.me.lt hk; omega))
      refine ⟨_, _, _, _, _, _, _, _, _, f20.cell rfl, f20.cell rfl, f20.cell rfl, f20.cell rfl, f20.cell rfl, f20.cell rfl, f20.cell rfl, f20.cell rfl, f20.cell rfl, ?_⟩
      refine ⟨_, _, _, _, _, _, _, _, _, _, f22.cell rfl, f22.cell rfl, f22.cell rfl, f22.cell rfl, f22.cell rfl, f22.cell rfl, f22.cell rfl, f22.cell rfl, f22.cell rfl, f22.cell rfl, ?_⟩
      refine (erun_any t S1 (ht94.no c94141) hR (hs94.no c94141) (waS := all) (wl := idA s.mem.length) (g94.no c94141).rd (by omega) (by omega) (by omega) htx).mono ?_
      rintro e w162 ⟨Sy, rfl, hSy, c162⟩
      refine ⟨_, _, _, _, _, _, _, _, _, _, _, _, _, rfl, ?_⟩
      intro b176 w177 hb176 hw177 b178 w179 hb178 hw179
      have c177 := al hw177
      have c179 := al hw179
      have z177 : w177.heap.size = w162.heap.size + 1 := by rw [hw177]; simp
      have z179 : w179.heap.size = w177.heap.size + 1 := by rw [hw179]; simp
      have o176 : Ob w179 b176 (stC st0) T_api_State := by
        have : Ob w177 b176 (stC st0) T_api_State := by rw [hw177, hb176]; exact Ob.new w162 (stC st0) T_api_State
        exact this.no c179
      have o178 : Ob w179 b178 [.int .i64 0, .int .i64 0, .bool false] T_eval_Done := by rw [hw179, hb178]; exact Ob.new w177 [.int .i64 0, .int .i64 0, .bool false] T_eval_Done
      refine ⟨o176.wr (by simp [stC]), fun w180 hw180 => ?_⟩
      obtain ⟨p176, c180⟩ := o176.up (k := 0) (vs := stC Sy) (cs' := stC Sy) (by simp [stC]) rfl hw180
      have p178 := o178.chg c180 (fun he => by omega)
      refine ⟨p178.wr (by simp), fun w181 hw181 => ?_⟩
      obtain ⟨q178, c181⟩ := p178.up (k := 0) (vs := [.int .i64 (outX v s1 (idA s.mem.length)), .int .i64 (outN v s1 (idA s.mem.length)), .bool (outH v s1 (idA s.mem.length))]) (cs' := [.int .i64 (outX v s1 (idA s.mem.length)), .int .i64 (outN v s1 (idA s.mem.length)), .bool (outH v s1 (idA s.mem.length))]) (by simp) rfl hw181
      have q176 := p176.chg c181 (fun he => by omega)
      have cZ : Chg (fun k => k = b176 ∨ k = b178) w162 w181 := ((trN c177 c179).trans c180 (U := fun k => k = b176 ∨ k = b178) (fun _ _ h => h.elim) (fun _ _ h => Or.inl h)).trans c181 (fun _ _ h => h) (fun _ _ h => Or.inr h)
      have z162 := c162.size
      have c141181 : Chg No w141 w181 := c162.trans cZ (fun _ _ h => h) (fun k hk he => by omega)
      have k181 := trN k141 c141181
      have u138 := q138.no c141181
      have u136 := q136.no c141181
      have u22 := f22.no c141181
      have hx := hx141.no c141181
      have hy : StIs Any w181 Sy (outS v s1 (idA s.mem.length)) := stis hSy.nums (hSy.st.rd.chg cZ (fun k hk he => by have := hSy.st.lt hk; omega)) (hSy.bk.rd.chg cZ (fun k hk he => by have := hSy.bk.lt hk; omega)) (hSy.me.rd.chg cZ (fun k hk he => by have := hSy.me.lt hk; omega))
      -- the plain law
      have hn : (runG v s1 []).2.hit = -1 := none_hit v.ins 0 (en0 v.ins.length s1)
      have hall := all_hit (ats := idA v.ins.length) (wl := idA s.mem.length) hR v.ins 0 (en0 v.ins.length s1) rfl rfl (fun x h0 h1 => by
        rw [show (en0 v.ins.length s1).s.mem = s.mem from hm1] at h1
        unfold idA
        exact List.mem_map.2 ⟨x.toNat, List.mem_range.2 (by omega), by omega⟩)
      have hall : (0 ≤ (runG v s1 (idA s.mem.length)).2.hit ∧ ∃ p : Nat, ∃ x, (runG v s1 (idA s.mem.length)).2.s.mem = s1.mem.set p x) ∨ ((runG v s1 (idA s.mem.length)).2.hit = -1 ∧ (runG v s1 (idA s.mem.length)).2.s.mem = s1.mem ∧ runG v s1 [] = runG v s1 (idA s.mem.length)) := hall
      have eH : outH v s1 [] = false := by unfold outH; rw [if_pos hm]; exact decide_eq_false (by omega)
      have eMx : (outS v s1 []).mem = (runG v s1 []).2.s.mem := by unfold outS; rw [if_pos hm]; rfl
      have eMy : (outS v s1 (idA s.mem.length)).mem = (runG v s1 (idA s.mem.length)).2.s.mem := by unfold outS; rw [if_pos hm]; rfl
      have kept : ∀ (wl : List Int) (r : List In5) (q : Int) (e : En), (goV (idA v.ins.length) wl v.last r q e).2.s.mem.length = e.s.mem.length := by
        intro wl r
        induction r with
        | nil => intro q e; rfl
        | cons i r ih =>
          intro q e
          rw [goV_cons]
          have hk := (insV_keeps (idA v.ins.length) wl q i e).2.2.2.2
          split
          · exact hk
          · rw [ih]; exact hk
      have lx : (outS v s1 []).mem.length = s.mem.length := by rw [eMx, ← hm1]; exact kept _ _ _ _
      have ly : (outS v s1 (idA s.mem.length)).mem.length = s.mem.length := by rw [eMy, ← hm1]; exact kept _ _ _ _
      have gx := hx.me.len
      have gy := hy.me.len
      refine ⟨_, u138.cell rfl, ?_⟩
      rw [eH]
      refine brB_f ⟨fun b w' => b = false ∧ w' = w181, ?_, ?_⟩
      · rintro b w187 ⟨rfl, rfl⟩
        refine brB_f ⟨fun c n w' => ∃ k : Nat, n = k ∧ k ≤ s.mem.length ∧ c = cntD (outS v s1 (idA s.mem.length)).mem s.mem k ∧ Chg No w187 w', fun _ n _ => s.mem.length - n.toNat, ⟨0, rfl, Nat.zero_le _, rfl, Chg.refl _ _⟩, ?_⟩
        rintro c n w189 ⟨k, rfl, hk, rfl, c189⟩
        have k189 := trN k181 c189
        have v176 := q176.no c189
        have v178 := q178.no c189
        have v138 := u138.no c189
        have v136 := u136.no c189
        have v22 := u22.no c189
        have hcr := cntD_range (outS v s1 (idA s.mem.length)).mem s.mem k
        refine ⟨Sy.mem, v176.cell rfl, brB_of (fun hlt => ?_) (fun hlt => ?_)⟩
        · have hlt : k < s.mem.length := by have := of_decide_eq_true hlt; omega
          refine ⟨fun c w' => c = cntD (outS v s1 (idA s.mem.length)).mem s.mem (k + 1) ∧ Chg No w187 w', ?_, ?_⟩
          · rintro c w200 ⟨rfl, c200⟩
            rw [wr_in (by omega)]
            exact ⟨⟨k + 1, by omega, by omega, rfl, c200⟩, by show s.mem.length - Int.toNat ((k : Int) + 1) < s.mem.length - Int.toNat (k : Int); omega⟩
          · intro w192 hw192
            have c192 := dw hw192
            have k192 := trN k189 c192
            refine ⟨Sy.mem, held_Lw ((v176.no c192).cell rfl), ?_⟩
            refine ((hy.no c189).no c192).me.ix (i := (k : Int)) (x := getI (outS v s1 (idA s.mem.length)).mem k) (by omega) (getI_ix (by omega) (by omega)) fun a _ hcell => ?_
            have q := hcell 0 _ rfl
            rw [add0] at q
            refine ⟨_, held_Lw q, S1.mem, held_Lw ((v22.no c192).cell rfl), ?_⟩
            rw [hSm]
            refine (h.me.no k192).ix (i := (k : Int)) (x := getI s.mem k) (by omega) (getI_ix (by omega) (by omega)) fun a' _ hcell' => ?_
            have q' := hcell' 0 _ rfl
            rw [add0] at q'
            refine ⟨_, held_Lw q', brB_of (fun hne => ?_) (fun hne => ?_)⟩
            · have hne : getI (outS v s1 (idA s.mem.length)).mem k ≠ getI s.mem k := by simpa using hne
              rw [wr_in (by omega)]
              exact ⟨by rw [cntD_succ, if_pos hne], trN c189 c192⟩
            · have hne : ¬ getI (outS v s1 (idA s.mem.length)).mem k ≠ getI s.mem k := by simpa using hne
              exact ⟨by rw [cntD_succ, if_neg hne]; omega, trN c189 c192⟩
        · have hlt : k = s.mem.length := by have := of_decide_eq_false hlt; omega
          subst hlt
          refine ⟨_, v178.cell rfl, ?_⟩
          rcases hall with ⟨h0, p, x, hp⟩ | ⟨h0, h1, h2⟩
          · have eH' : outH v s1 (idA s.mem.length) = true := by unfold outH; rw [if_pos hm]; exact decide_eq_true (by omega)
            rw [eH']
            refine brB_t ⟨?_, k189⟩
            have := cntD_set s.mem p x s.mem.length
            rw [eMy, hp, hm1]
            congr 1
            apply decide_eq_true
            split at this <;> omega
          · have eH' : outH v s1 (idA s.mem.length) = false := by unfold outH; rw [if_pos hm]; exact decide_eq_false (by omega)
            have hc0 : cntD (outS v s1 (idA s.mem.length)).mem s.mem s.mem.length = 0 := by rw [eMy, h1, hm1]; exact cntD_same _ _
            have eX : outX v s1 (idA s.mem.length) = outX v s1 [] := by unfold outX; rw [if_pos hm, if_pos hm, h2]
            have eN : outN v s1 (idA s.mem.length) = outN v s1 [] := by unfold outN; rw [if_pos hm, if_pos hm, h2]
            have eS : outS v s1 (idA s.mem.length) = outS v s1 [] := by unfold outS; rw [if_pos hm, if_pos hm, h2]
            rw [eH', hc0]
            refine brB_f (brB_t ?_)
            rw [eX, eN, eH'] at v178
            rw [eH] at v138
            refine ⟨_, _, _, v138.cell rfl, v138.cell rfl, v138.cell rfl, _, _, _, v178.cell rfl, v178.cell rfl, v178.cell rfl, _, _, done_eql _ _ _ _ _ _ _ _ _, ?_⟩
            rw [show decide (outX v s1 [] = outX v s1 [] ∧ outN v s1 [] = outN v s1 [] ∧ false = false) = true from decide_eq_true ⟨rfl, rfl, rfl⟩]
            refine brB_t ⟨_, _, _, _, _, _, _, _, _, _, v136.cell rfl, v136.cell rfl, v136.cell rfl, v136.cell rfl, v136.cell rfl, v136.cell rfl, v136.cell rfl, v136.cell rfl, v136.cell rfl, v136.cell rfl, ?_⟩
            refine ⟨_, _, _, _, _, _, _, _, _, _, v176.cell rfl, v176.cell rfl, v176.cell rfl, v176.cell rfl, v176.cell rfl, v176.cell rfl, v176.cell rfl, v176.cell rfl, v176.cell rfl, v176.cell rfl, ?_⟩
            rw [eS] at hy
            refine (sameState_any Sx Sy (hx.no c189) (hy.no c189)).mono ?_
            rintro e w231 ⟨rfl, c231⟩
            exact ⟨_, rfl, rfl, trN k189 c231⟩
      · refine ⟨Sx.mem, u136.cell rfl, S1.mem, u22.cell rfl, ?_⟩
        rw [hSm, gx, hml, lx, show ((s.mem.length : Int) != (s.mem.length : Int)) = false by simp]
        refine brB_f ⟨Sy.mem, q176.cell rfl, S1.mem, u22.cell rfl, ?_, rfl⟩
        rw [hSm, gy, hml, ly]; simp
  · refine ⟨_, _, _, _, _, _, _, _, _, o20.cell rfl, o20.cell rfl, o20.cell rfl, o20.cell rfl, o20.cell rfl, o20.cell rfl, o20.cell rfl, o20.cell rfl, o20.cell rfl, (light14_any t (ht.no k23)).mono ?_⟩
    rintro e w34 ⟨b, rfl, hb, c34⟩
    have p22 := o22.no c34
    refine ⟨b, rfl, brB_of (fun _ => ⟨(fun h => by cases h), c34⟩) (fun hb0 => ?_)⟩
    refine ⟨_, _, _, _, _, _, _, _, _, _, p22.cell rfl, p22.cell rfl, p22.cell rfl, p22.cell rfl, p22.cell rfl, p22.cell rfl, p22.cell rfl, p22.cell rfl, p22.cell rfl, p22.cell rfl, (light9_any S (h.no (trN k23 c34))).mono ?_⟩
    rintro e w47 ⟨b2, rfl, hb2, c47⟩
    have c47' := trN c34 c47
    have p20 := o20.no c47'
    refine ⟨b2, rfl, brB_of (fun _ => ⟨(fun h => by cases h), c47'⟩) (fun hb20 => ?_)⟩
    have hL := hb2.1 (by simpa using hb20)
    refine ⟨_, _, _, _, _, _, _, _, _, p20.cell rfl, p20.cell rfl, p20.cell rfl, p20.cell rfl, p20.cell rfl, p20.cell rfl, p20.cell rfl, p20.cell rfl, p20.cell rfl, (rright_any t (ht.no (trN k23 c47'))).mono ?_⟩
    rintro e w59 ⟨b3, rfl, hb3, c59⟩
    refine ⟨b3, rfl, brB_of (fun _ => ⟨(fun h => by cases h), trN c47' c59⟩) (fun hb30 => ?_)⟩
    have hR := hb3.1 (by simpa using hb30)
    refine (alive15_any _).mono ?_
    rintro e w62 ⟨rfl, c62⟩
    exact ⟨_, rfl, fun _ => ⟨hL, hR⟩, trN (trN c47' c59) c62⟩
end Go.Proofs.Ytblmoilneiffgaa
