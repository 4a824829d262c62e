/- The lifted texts of the laws. -/
import Derived.Test.YtblmoilneiffgaaJ4

/- Functions of Slots, read without their frames; that each is enough. Printed by a program of mine (wip/lift/gen.py). -/
set_option maxRecDepth 100000
namespace Go.Proofs.Ytblmoilneiffgaa
open Go.RowKit

-- holloway/slots.Make
def slots_Make_sh (t__Start1 : Int) (t__Slots2 : Int) (t__Backs3 : Int) (t__Grow4 : Int) (t__GrowBack5 : Int) (t__Ins6 : Sl) (t__Outs7 : Sl) (t__Last8 : Int) (t__Cells9 : Sl) (most10 : Int) (w : World) (K : Value → World → Prop) : Prop :=
 ∀ (b11 : Nat) (w12 : World), b11 = w.heap.size → w12 = World.alloc w (.cells #[.int .i64 t__Start1, .int .i64 t__Slots2, .int .i64 t__Backs3, .int .i64 t__Grow4, .int .i64 t__GrowBack5, t__Ins6.val, t__Outs7.val, .int .i64 t__Last8, t__Cells9.val] T_api_Trace) →
 ∃ J3 : Bool → World → Prop, (∀ (b38 : Bool) (w37 : World), J3 b38 w37 →
 brB b38
 (K (.tuple #[.pointer none, .bool false]) w37)
 (∃ n_Start39 : Int, ∃ n_Slots40 : Int, ∃ n_Backs41 : Int, ∃ n_Grow42 : Int, ∃ n_GrowBack43 : Int, ∃ s_Ins44 : Sl, ∃ s_Outs45 : Sl, ∃ n_Last46 : Int, ∃ s_Cells47 : Sl, w37.cell? ⟨b11, 0, none⟩ = some (.int .i64 n_Start39) ∧ w37.cell? ⟨b11, 1, none⟩ = some (.int .i64 n_Slots40) ∧ w37.cell? ⟨b11, 2, none⟩ = some (.int .i64 n_Backs41) ∧ w37.cell? ⟨b11, 3, none⟩ = some (.int .i64 n_Grow42) ∧ w37.cell? ⟨b11, 4, none⟩ = some (.int .i64 n_GrowBack43) ∧ w37.cell? ⟨b11, 5, none⟩ = some (s_Ins44.val) ∧ w37.cell? ⟨b11, 6, none⟩ = some (s_Outs45.val) ∧ w37.cell? ⟨b11, 7, none⟩ = some (.int .i64 n_Last46) ∧ w37.cell? ⟨b11, 8, none⟩ = some (s_Cells47.val) ∧
 Calls Try.prog fn_slots_own #[.agg #[.int .i64 n_Start39, .int .i64 n_Slots40, .int .i64 n_Backs41, .int .i64 n_Grow42, .int .i64 n_GrowBack43, s_Ins44.val, s_Outs45.val, .int .i64 n_Last46, s_Cells47.val]] w37 fun e48 w49 => ∃ n_Start50 : Int, ∃ n_Slots51 : Int, ∃ n_Backs52 : Int, ∃ n_Grow53 : Int, ∃ n_GrowBack54 : Int, ∃ s_Ins55 : Sl, ∃ s_Outs56 : Sl, ∃ n_Last57 : Int, ∃ s_Cells58 : Sl, e48 = .returned (.agg #[.int .i64 n_Start50, .int .i64 n_Slots51, .int .i64 n_Backs52, .int .i64 n_Grow53, .int .i64 n_GrowBack54, s_Ins55.val, s_Outs56.val, .int .i64 n_Last57, s_Cells58.val]) ∧
 wrOk w49 ⟨b11, 0, none⟩ 9 ∧ ∀ w59 : World, w59 = stW w49 ⟨b11, 0, none⟩ 0 [.int .i64 n_Start50, .int .i64 n_Slots51, .int .i64 n_Backs52, .int .i64 n_Grow53, .int .i64 n_GrowBack54, s_Ins55.val, s_Outs56.val, .int .i64 n_Last57, s_Cells58.val] →
 ∃ n_Start60 : Int, ∃ n_Slots61 : Int, ∃ n_Backs62 : Int, ∃ n_Grow63 : Int, ∃ n_GrowBack64 : Int, ∃ s_Ins65 : Sl, ∃ s_Outs66 : Sl, ∃ n_Last67 : Int, ∃ s_Cells68 : Sl, w59.cell? ⟨b11, 0, none⟩ = some (.int .i64 n_Start60) ∧ w59.cell? ⟨b11, 1, none⟩ = some (.int .i64 n_Slots61) ∧ w59.cell? ⟨b11, 2, none⟩ = some (.int .i64 n_Backs62) ∧ w59.cell? ⟨b11, 3, none⟩ = some (.int .i64 n_Grow63) ∧ w59.cell? ⟨b11, 4, none⟩ = some (.int .i64 n_GrowBack64) ∧ w59.cell? ⟨b11, 5, none⟩ = some (s_Ins65.val) ∧ w59.cell? ⟨b11, 6, none⟩ = some (s_Outs66.val) ∧ w59.cell? ⟨b11, 7, none⟩ = some (.int .i64 n_Last67) ∧ w59.cell? ⟨b11, 8, none⟩ = some (s_Cells68.val) ∧
 Calls Try.prog fn_slots_allot #[.agg #[.int .i64 n_Start60, .int .i64 n_Slots61, .int .i64 n_Backs62, .int .i64 n_Grow63, .int .i64 n_GrowBack64, s_Ins65.val, s_Outs66.val, .int .i64 n_Last67, s_Cells68.val]] w59 fun e69 w70 => ∃ s71 : Sl, ∃ n72 : Int, e69 = .returned (.tuple #[s71.val, .int .i64 n72]) ∧
 ∃ n_Start73 : Int, ∃ n_Slots74 : Int, ∃ n_Backs75 : Int, ∃ n_Grow76 : Int, ∃ n_GrowBack77 : Int, ∃ s_Ins78 : Sl, ∃ s_Outs79 : Sl, ∃ n_Last80 : Int, ∃ s_Cells81 : Sl, w70.cell? ⟨b11, 0, none⟩ = some (.int .i64 n_Start73) ∧ w70.cell? ⟨b11, 1, none⟩ = some (.int .i64 n_Slots74) ∧ w70.cell? ⟨b11, 2, none⟩ = some (.int .i64 n_Backs75) ∧ w70.cell? ⟨b11, 3, none⟩ = some (.int .i64 n_Grow76) ∧ w70.cell? ⟨b11, 4, none⟩ = some (.int .i64 n_GrowBack77) ∧ w70.cell? ⟨b11, 5, none⟩ = some (s_Ins78.val) ∧ w70.cell? ⟨b11, 6, none⟩ = some (s_Outs79.val) ∧ w70.cell? ⟨b11, 7, none⟩ = some (.int .i64 n_Last80) ∧ w70.cell? ⟨b11, 8, none⟩ = some (s_Cells81.val) ∧
 ∀ (b82 : Nat) (w83 : World), b82 = w70.heap.size → w83 = World.alloc w70 (.cells #[.int .i64 n_Start73, .int .i64 n_Slots74, .int .i64 n_Backs75, .int .i64 n_Grow76, .int .i64 n_GrowBack77, s_Ins78.val, s_Outs79.val, .int .i64 n_Last80, s_Cells81.val, s71.val, .int .i64 n72] T_slots_Code) →
 K (.tuple #[.pointer (some ⟨b82, 0, none⟩), .bool true]) w83)) ∧
 ∃ n_Start13 : Int, ∃ n_Slots14 : Int, ∃ n_Backs15 : Int, ∃ n_Grow16 : Int, ∃ n_GrowBack17 : Int, ∃ s_Ins18 : Sl, ∃ s_Outs19 : Sl, ∃ n_Last20 : Int, ∃ s_Cells21 : Sl, w12.cell? ⟨b11, 0, none⟩ = some (.int .i64 n_Start13) ∧ w12.cell? ⟨b11, 1, none⟩ = some (.int .i64 n_Slots14) ∧ w12.cell? ⟨b11, 2, none⟩ = some (.int .i64 n_Backs15) ∧ w12.cell? ⟨b11, 3, none⟩ = some (.int .i64 n_Grow16) ∧ w12.cell? ⟨b11, 4, none⟩ = some (.int .i64 n_GrowBack17) ∧ w12.cell? ⟨b11, 5, none⟩ = some (s_Ins18.val) ∧ w12.cell? ⟨b11, 6, none⟩ = some (s_Outs19.val) ∧ w12.cell? ⟨b11, 7, none⟩ = some (.int .i64 n_Last20) ∧ w12.cell? ⟨b11, 8, none⟩ = some (s_Cells21.val) ∧
 Calls Try.prog fn_ir_Right #[.agg #[.int .i64 n_Start13, .int .i64 n_Slots14, .int .i64 n_Backs15, .int .i64 n_Grow16, .int .i64 n_GrowBack17, s_Ins18.val, s_Outs19.val, .int .i64 n_Last20, s_Cells21.val]] w12 fun e22 w23 => ∃ b24 : Bool, e22 = .returned (.bool b24) ∧
 brB (!b24)
 (J3 true w23)
 (∃ n_Start25 : Int, ∃ n_Slots26 : Int, ∃ n_Backs27 : Int, ∃ n_Grow28 : Int, ∃ n_GrowBack29 : Int, ∃ s_Ins30 : Sl, ∃ s_Outs31 : Sl, ∃ n_Last32 : Int, ∃ s_Cells33 : Sl, w23.cell? ⟨b11, 0, none⟩ = some (.int .i64 n_Start25) ∧ w23.cell? ⟨b11, 1, none⟩ = some (.int .i64 n_Slots26) ∧ w23.cell? ⟨b11, 2, none⟩ = some (.int .i64 n_Backs27) ∧ w23.cell? ⟨b11, 3, none⟩ = some (.int .i64 n_Grow28) ∧ w23.cell? ⟨b11, 4, none⟩ = some (.int .i64 n_GrowBack29) ∧ w23.cell? ⟨b11, 5, none⟩ = some (s_Ins30.val) ∧ w23.cell? ⟨b11, 6, none⟩ = some (s_Outs31.val) ∧ w23.cell? ⟨b11, 7, none⟩ = some (.int .i64 n_Last32) ∧ w23.cell? ⟨b11, 8, none⟩ = some (s_Cells33.val) ∧
 Calls Try.prog fn_slots_Least #[.agg #[.int .i64 n_Start25, .int .i64 n_Slots26, .int .i64 n_Backs27, .int .i64 n_Grow28, .int .i64 n_GrowBack29, s_Ins30.val, s_Outs31.val, .int .i64 n_Last32, s_Cells33.val]] w23 fun e34 w35 => ∃ n36 : Int, e34 = .returned (.int .i64 n36) ∧
 J3 (decide (most10 < n36)) w35)
def slots_Make_an : An := ⟨[], [], [(2, [(16, .bool)])]⟩
theorem slots_Make_lift {t__Start1 : Int} {t__Slots2 : Int} {t__Backs3 : Int} {t__Grow4 : Int} {t__GrowBack5 : Int} {t__Ins6 : Sl} {t__Outs7 : Sl} {t__Last8 : Int} {t__Cells9 : Sl} {most10 : Int} {w : World} {K : Value → World → Prop} (h : slots_Make_sh t__Start1 t__Slots2 t__Backs3 t__Grow4 t__GrowBack5 t__Ins6 t__Outs7 t__Last8 t__Cells9 most10 w K) : Calls Try.prog fn_slots_Make #[.agg #[.int .i64 t__Start1, .int .i64 t__Slots2, .int .i64 t__Backs3, .int .i64 t__Grow4, .int .i64 t__GrowBack5, t__Ins6.val, t__Outs7.val, .int .i64 t__Last8, t__Cells9.val], .int .i64 most10] w fun e w' => ∃ v, e = .returned v ∧ K v w' :=
   lift_calls (A := slots_Make_an) (c := bodyOf Try.f42) (args := [.agg #[.int .i64 t__Start1, .int .i64 t__Slots2, .int .i64 t__Backs3, .int .i64 t__Grow4, .int .i64 t__GrowBack5, t__Ins6.val, t__Outs7.val, .int .i64 t__Last8, t__Cells9.val], .int .i64 most10]) orc orc_wide Try.func42 (by kernel_rfl) (by kernel_rfl) (Eq.mp (by kernel_rfl : slots_Make_sh t__Start1 t__Slots2 t__Backs3 t__Grow4 t__GrowBack5 t__Ins6 t__Outs7 t__Last8 t__Cells9 most10 w K = wpc orc Try.f42.ntmps slots_Make_an (bodyOf Try.f42) (argl 0 [.agg #[.int .i64 t__Start1, .int .i64 t__Slots2, .int .i64 t__Backs3, .int .i64 t__Grow4, .int .i64 t__GrowBack5, t__Ins6.val, t__Outs7.val, .int .i64 t__Last8, t__Cells9.val], .int .i64 most10]) w (retQ orc Try.f42.results.toList K)) h)

-- (*holloway/slots.Code).Run
def slots_Code_Run_sh (c_1 : Nat) (s__Ip2 : Int) (s__Handler3 : Int) (s__Stack4 : Sl) (s__Back5 : Sl) (s__Mem6 : Sl) (s__Out7 : ByteArray) (s__In8 : ByteArray) (s__Read9 : Int) (s__Status10 : Int) (s__Code11 : Int) (watched12 : Sl) (w : World) (K : Value → World → Prop) : Prop :=
 ∀ (b13 : Nat) (w14 : World), b13 = w.heap.size → w14 = World.alloc w (.cells #[.int .i64 s__Ip2, .int .i64 s__Handler3, s__Stack4.val, s__Back5.val, s__Mem6.val, .string s__Out7, .string s__In8, .int .i64 s__Read9, .int .i64 s__Status10, .int .i64 s__Code11] T_api_State) →
 ∀ (b15 : Nat) (w16 : World), b15 = w14.heap.size → w16 = World.alloc w14 (.cells #[.int .i64 (0 : Int), .int .i64 (0 : Int), .slice none 0 0, .slice none 0 0, .slice none 0 0, .string (bs []), .string (bs []), .int .i64 (0 : Int), .int .i64 (0 : Int), .int .i64 (0 : Int)] T_api_State) →
 ∀ (b17 : Nat) (w18 : World), b17 = w16.heap.size → w18 = World.alloc w16 (.cells #[.int .i64 (0 : Int), .int .i64 (0 : Int), .bool false] T_eval_Done) →
 ∃ n_Ip19 : Int, ∃ n_Handler20 : Int, ∃ s_Stack21 : Sl, ∃ s_Back22 : Sl, ∃ s_Mem23 : Sl, ∃ t_Out24 : ByteArray, ∃ t_In25 : ByteArray, ∃ n_Read26 : Int, ∃ n_Status27 : Int, ∃ n_Code28 : Int, w18.cell? ⟨b13, 0, none⟩ = some (.int .i64 n_Ip19) ∧ w18.cell? ⟨b13, 1, none⟩ = some (.int .i64 n_Handler20) ∧ w18.cell? ⟨b13, 2, none⟩ = some (s_Stack21.val) ∧ w18.cell? ⟨b13, 3, none⟩ = some (s_Back22.val) ∧ w18.cell? ⟨b13, 4, none⟩ = some (s_Mem23.val) ∧ w18.cell? ⟨b13, 5, none⟩ = some (.string t_Out24) ∧ w18.cell? ⟨b13, 6, none⟩ = some (.string t_In25) ∧ w18.cell? ⟨b13, 7, none⟩ = some (.int .i64 n_Read26) ∧ w18.cell? ⟨b13, 8, none⟩ = some (.int .i64 n_Status27) ∧ w18.cell? ⟨b13, 9, none⟩ = some (.int .i64 n_Code28) ∧
 Calls Try.prog fn_slots_Code_Through #[.pointer (some ⟨c_1, 0, none⟩), .agg #[.int .i64 n_Ip19, .int .i64 n_Handler20, s_Stack21.val, s_Back22.val, s_Mem23.val, .string t_Out24, .string t_In25, .int .i64 n_Read26, .int .i64 n_Status27, .int .i64 n_Code28], watched12.val] w18 fun e29 w30 => ∃ n_Ip31 : Int, ∃ n_Handler32 : Int, ∃ s_Stack33 : Sl, ∃ s_Back34 : Sl, ∃ s_Mem35 : Sl, ∃ t_Out36 : ByteArray, ∃ t_In37 : ByteArray, ∃ n_Read38 : Int, ∃ n_Status39 : Int, ∃ n_Code40 : Int, ∃ n_Exit41 : Int, ∃ n_Steps42 : Int, ∃ b_Hit43 : Bool, ∃ n44 : Int, e29 = .returned (.tuple #[.agg #[.int .i64 n_Ip31, .int .i64 n_Handler32, s_Stack33.val, s_Back34.val, s_Mem35.val, .string t_Out36, .string t_In37, .int .i64 n_Read38, .int .i64 n_Status39, .int .i64 n_Code40], .agg #[.int .i64 n_Exit41, .int .i64 n_Steps42, .bool b_Hit43], .int .i64 n44]) ∧
 ∀ (b45 : Nat) (w46 : World), b45 = w30.heap.size → w46 = World.alloc w30 (.cells #[.int .i64 (0 : Int), .int .i64 (0 : Int), .slice none 0 0, .slice none 0 0, .slice none 0 0, .string (bs []), .string (bs []), .int .i64 (0 : Int), .int .i64 (0 : Int), .int .i64 (0 : Int)] T_api_State) →
 ∀ (b47 : Nat) (w48 : World), b47 = w46.heap.size → w48 = World.alloc w46 (.cells #[.int .i64 (0 : Int), .int .i64 (0 : Int), .bool false] T_eval_Done) →
 wrOk w48 ⟨b45, 0, none⟩ 10 ∧ ∀ w49 : World, w49 = stW w48 ⟨b45, 0, none⟩ 0 [.int .i64 n_Ip31, .int .i64 n_Handler32, s_Stack33.val, s_Back34.val, s_Mem35.val, .string t_Out36, .string t_In37, .int .i64 n_Read38, .int .i64 n_Status39, .int .i64 n_Code40] →
 wrOk w49 ⟨b47, 0, none⟩ 3 ∧ ∀ w50 : World, w50 = stW w49 ⟨b47, 0, none⟩ 0 [.int .i64 n_Exit41, .int .i64 n_Steps42, .bool b_Hit43] →
 ∀ w51 : World, w51 = World.drew w50 →
 ∃ S52 : World → Prop, S52 w51 ∧
 ∃ n_Ip53 : Int, ∃ n_Handler54 : Int, ∃ s_Stack55 : Sl, ∃ s_Back56 : Sl, ∃ s_Mem57 : Sl, ∃ t_Out58 : ByteArray, ∃ t_In59 : ByteArray, ∃ n_Read60 : Int, ∃ n_Status61 : Int, ∃ n_Code62 : Int, held S52 ⟨b45, 0, none⟩ (.int .i64 n_Ip53) ∧ held S52 ⟨b45, 1, none⟩ (.int .i64 n_Handler54) ∧ held S52 ⟨b45, 2, none⟩ (s_Stack55.val) ∧ held S52 ⟨b45, 3, none⟩ (s_Back56.val) ∧ held S52 ⟨b45, 4, none⟩ (s_Mem57.val) ∧ held S52 ⟨b45, 5, none⟩ (.string t_Out58) ∧ held S52 ⟨b45, 6, none⟩ (.string t_In59) ∧ held S52 ⟨b45, 7, none⟩ (.int .i64 n_Read60) ∧ held S52 ⟨b45, 8, none⟩ (.int .i64 n_Status61) ∧ held S52 ⟨b45, 9, none⟩ (.int .i64 n_Code62) ∧
 ∃ n_Exit63 : Int, ∃ n_Steps64 : Int, ∃ b_Hit65 : Bool, held S52 ⟨b47, 0, none⟩ (.int .i64 n_Exit63) ∧ held S52 ⟨b47, 1, none⟩ (.int .i64 n_Steps64) ∧ held S52 ⟨b47, 2, none⟩ (.bool b_Hit65) ∧
 wrOk w51 ⟨b15, 0, none⟩ 10 ∧ ∀ w66 : World, w66 = stW w51 ⟨b15, 0, none⟩ 0 [.int .i64 n_Ip53, .int .i64 n_Handler54, s_Stack55.val, s_Back56.val, s_Mem57.val, .string t_Out58, .string t_In59, .int .i64 n_Read60, .int .i64 n_Status61, .int .i64 n_Code62] →
 S52 w66 ∧
 wrOk w66 ⟨b17, 0, none⟩ 3 ∧ ∀ w67 : World, w67 = stW w66 ⟨b17, 0, none⟩ 0 [.int .i64 n_Exit63, .int .i64 n_Steps64, .bool b_Hit65] →
 ∃ r_Ip68 : Int, ∃ r_Handler69 : Int, ∃ r_Stack70 : Sl, ∃ r_Back71 : Sl, ∃ r_Mem72 : Sl, ∃ r_Out73 : ByteArray, ∃ r_In74 : ByteArray, ∃ r_Read75 : Int, ∃ r_Status76 : Int, ∃ r_Code77 : Int, w67.cell? ⟨b15, 0, none⟩ = some (.int .i64 r_Ip68) ∧ w67.cell? ⟨b15, 1, none⟩ = some (.int .i64 r_Handler69) ∧ w67.cell? ⟨b15, 2, none⟩ = some (r_Stack70.val) ∧ w67.cell? ⟨b15, 3, none⟩ = some (r_Back71.val) ∧ w67.cell? ⟨b15, 4, none⟩ = some (r_Mem72.val) ∧ w67.cell? ⟨b15, 5, none⟩ = some (.string r_Out73) ∧ w67.cell? ⟨b15, 6, none⟩ = some (.string r_In74) ∧ w67.cell? ⟨b15, 7, none⟩ = some (.int .i64 r_Read75) ∧ w67.cell? ⟨b15, 8, none⟩ = some (.int .i64 r_Status76) ∧ w67.cell? ⟨b15, 9, none⟩ = some (.int .i64 r_Code77) ∧
 ∃ r_Exit78 : Int, ∃ r_Steps79 : Int, ∃ r_Hit80 : Bool, w67.cell? ⟨b17, 0, none⟩ = some (.int .i64 r_Exit78) ∧ w67.cell? ⟨b17, 1, none⟩ = some (.int .i64 r_Steps79) ∧ w67.cell? ⟨b17, 2, none⟩ = some (.bool r_Hit80) ∧
 K (.tuple #[.agg #[.int .i64 r_Ip68, .int .i64 r_Handler69, r_Stack70.val, r_Back71.val, r_Mem72.val, .string r_Out73, .string r_In74, .int .i64 r_Read75, .int .i64 r_Status76, .int .i64 r_Code77], .agg #[.int .i64 r_Exit78, .int .i64 r_Steps79, .bool r_Hit80]]) w67
def slots_Code_Run_an : An := ⟨[], [(2, (3, .st 0 (.st 1 (.ef 2 .done)), 1))], []⟩
theorem slots_Code_Run_lift {c_1 : Nat} {s__Ip2 : Int} {s__Handler3 : Int} {s__Stack4 : Sl} {s__Back5 : Sl} {s__Mem6 : Sl} {s__Out7 : ByteArray} {s__In8 : ByteArray} {s__Read9 : Int} {s__Status10 : Int} {s__Code11 : Int} {watched12 : Sl} {w : World} {K : Value → World → Prop} (h : slots_Code_Run_sh c_1 s__Ip2 s__Handler3 s__Stack4 s__Back5 s__Mem6 s__Out7 s__In8 s__Read9 s__Status10 s__Code11 watched12 w K) : Calls Try.prog fn_slots_Code_Run #[.pointer (some ⟨c_1, 0, none⟩), .agg #[.int .i64 s__Ip2, .int .i64 s__Handler3, s__Stack4.val, s__Back5.val, s__Mem6.val, .string s__Out7, .string s__In8, .int .i64 s__Read9, .int .i64 s__Status10, .int .i64 s__Code11], watched12.val] w fun e w' => ∃ v, e = .returned v ∧ K v w' :=
   lift_calls (A := slots_Code_Run_an) (c := bodyOf Try.f43) (args := [.pointer (some ⟨c_1, 0, none⟩), .agg #[.int .i64 s__Ip2, .int .i64 s__Handler3, s__Stack4.val, s__Back5.val, s__Mem6.val, .string s__Out7, .string s__In8, .int .i64 s__Read9, .int .i64 s__Status10, .int .i64 s__Code11], watched12.val]) orc orc_wide Try.func43 (by kernel_rfl) (by kernel_rfl) (Eq.mp (by kernel_rfl : slots_Code_Run_sh c_1 s__Ip2 s__Handler3 s__Stack4 s__Back5 s__Mem6 s__Out7 s__In8 s__Read9 s__Status10 s__Code11 watched12 w K = wpc orc Try.f43.ntmps slots_Code_Run_an (bodyOf Try.f43) (argl 0 [.pointer (some ⟨c_1, 0, none⟩), .agg #[.int .i64 s__Ip2, .int .i64 s__Handler3, s__Stack4.val, s__Back5.val, s__Mem6.val, .string s__Out7, .string s__In8, .int .i64 s__Read9, .int .i64 s__Status10, .int .i64 s__Code11], watched12.val]) w (retQ orc Try.f43.results.toList K)) h)

-- holloway/slots.Least
def slots_Least_sh (t__Start1 : Int) (t__Slots2 : Int) (t__Backs3 : Int) (t__Grow4 : Int) (t__GrowBack5 : Int) (t__Ins6 : Sl) (t__Outs7 : Sl) (t__Last8 : Int) (t__Cells9 : Sl) (w : World) (K : Value → World → Prop) : Prop :=
 ∀ (b10 : Nat) (w11 : World), b10 = w.heap.size → w11 = World.alloc w (.cells #[.int .i64 t__Start1, .int .i64 t__Slots2, .int .i64 t__Backs3, .int .i64 t__Grow4, .int .i64 t__GrowBack5, t__Ins6.val, t__Outs7.val, .int .i64 t__Last8, t__Cells9.val] T_api_Trace) →
 ∃ n_Start12 : Int, ∃ n_Slots13 : Int, ∃ n_Backs14 : Int, ∃ n_Grow15 : Int, ∃ n_GrowBack16 : Int, ∃ s_Ins17 : Sl, ∃ s_Outs18 : Sl, ∃ n_Last19 : Int, ∃ s_Cells20 : Sl, w11.cell? ⟨b10, 0, none⟩ = some (.int .i64 n_Start12) ∧ w11.cell? ⟨b10, 1, none⟩ = some (.int .i64 n_Slots13) ∧ w11.cell? ⟨b10, 2, none⟩ = some (.int .i64 n_Backs14) ∧ w11.cell? ⟨b10, 3, none⟩ = some (.int .i64 n_Grow15) ∧ w11.cell? ⟨b10, 4, none⟩ = some (.int .i64 n_GrowBack16) ∧ w11.cell? ⟨b10, 5, none⟩ = some (s_Ins17.val) ∧ w11.cell? ⟨b10, 6, none⟩ = some (s_Outs18.val) ∧ w11.cell? ⟨b10, 7, none⟩ = some (.int .i64 n_Last19) ∧ w11.cell? ⟨b10, 8, none⟩ = some (s_Cells20.val) ∧
 Calls Try.prog fn_ir_Right #[.agg #[.int .i64 n_Start12, .int .i64 n_Slots13, .int .i64 n_Backs14, .int .i64 n_Grow15, .int .i64 n_GrowBack16, s_Ins17.val, s_Outs18.val, .int .i64 n_Last19, s_Cells20.val]] w11 fun e21 w22 => ∃ b23 : Bool, e21 = .returned (.bool b23) ∧
 brB (!b23)
 (K (.int .i64 (0 : Int)) w22)
 (∃ n_Start24 : Int, ∃ n_Slots25 : Int, ∃ n_Backs26 : Int, ∃ n_Grow27 : Int, ∃ n_GrowBack28 : Int, ∃ s_Ins29 : Sl, ∃ s_Outs30 : Sl, ∃ n_Last31 : Int, ∃ s_Cells32 : Sl, w22.cell? ⟨b10, 0, none⟩ = some (.int .i64 n_Start24) ∧ w22.cell? ⟨b10, 1, none⟩ = some (.int .i64 n_Slots25) ∧ w22.cell? ⟨b10, 2, none⟩ = some (.int .i64 n_Backs26) ∧ w22.cell? ⟨b10, 3, none⟩ = some (.int .i64 n_Grow27) ∧ w22.cell? ⟨b10, 4, none⟩ = some (.int .i64 n_GrowBack28) ∧ w22.cell? ⟨b10, 5, none⟩ = some (s_Ins29.val) ∧ w22.cell? ⟨b10, 6, none⟩ = some (s_Outs30.val) ∧ w22.cell? ⟨b10, 7, none⟩ = some (.int .i64 n_Last31) ∧ w22.cell? ⟨b10, 8, none⟩ = some (s_Cells32.val) ∧
 Calls Try.prog fn_slots_allot #[.agg #[.int .i64 n_Start24, .int .i64 n_Slots25, .int .i64 n_Backs26, .int .i64 n_Grow27, .int .i64 n_GrowBack28, s_Ins29.val, s_Outs30.val, .int .i64 n_Last31, s_Cells32.val]] w22 fun e33 w34 => ∃ s35 : Sl, ∃ n36 : Int, e33 = .returned (.tuple #[s35.val, .int .i64 n36]) ∧
 K (.int .i64 n36) w34)
def slots_Least_an : An := ⟨[], [], []⟩
theorem slots_Least_lift {t__Start1 : Int} {t__Slots2 : Int} {t__Backs3 : Int} {t__Grow4 : Int} {t__GrowBack5 : Int} {t__Ins6 : Sl} {t__Outs7 : Sl} {t__Last8 : Int} {t__Cells9 : Sl} {w : World} {K : Value → World → Prop} (h : slots_Least_sh t__Start1 t__Slots2 t__Backs3 t__Grow4 t__GrowBack5 t__Ins6 t__Outs7 t__Last8 t__Cells9 w K) : Calls Try.prog fn_slots_Least #[.agg #[.int .i64 t__Start1, .int .i64 t__Slots2, .int .i64 t__Backs3, .int .i64 t__Grow4, .int .i64 t__GrowBack5, t__Ins6.val, t__Outs7.val, .int .i64 t__Last8, t__Cells9.val]] w fun e w' => ∃ v, e = .returned v ∧ K v w' :=
   lift_calls (A := slots_Least_an) (c := bodyOf Try.f44) (args := [.agg #[.int .i64 t__Start1, .int .i64 t__Slots2, .int .i64 t__Backs3, .int .i64 t__Grow4, .int .i64 t__GrowBack5, t__Ins6.val, t__Outs7.val, .int .i64 t__Last8, t__Cells9.val]]) orc orc_wide Try.func44 (by kernel_rfl) (by kernel_rfl) (Eq.mp (by kernel_rfl : slots_Least_sh t__Start1 t__Slots2 t__Backs3 t__Grow4 t__GrowBack5 t__Ins6 t__Outs7 t__Last8 t__Cells9 w K = wpc orc Try.f44.ntmps slots_Least_an (bodyOf Try.f44) (argl 0 [.agg #[.int .i64 t__Start1, .int .i64 t__Slots2, .int .i64 t__Backs3, .int .i64 t__Grow4, .int .i64 t__GrowBack5, t__Ins6.val, t__Outs7.val, .int .i64 t__Last8, t__Cells9.val]]) w (retQ orc Try.f44.results.toList K)) h)

-- (*holloway/slots.Code).Registers
def slots_Code_Registers_sh (c_1 : Nat) (w : World) (K : Value → World → Prop) : Prop :=
 ∃ n2 : Int, w.cell? ⟨c_1, 10, none⟩ = some (.int .i64 n2) ∧
 K (.int .i64 n2) w
def slots_Code_Registers_an : An := ⟨[], [], []⟩
theorem slots_Code_Registers_lift {c_1 : Nat} {w : World} {K : Value → World → Prop} (h : slots_Code_Registers_sh c_1 w K) : Calls Try.prog fn_slots_Code_Registers #[.pointer (some ⟨c_1, 0, none⟩)] w fun e w' => ∃ v, e = .returned v ∧ K v w' :=
   lift_calls (A := slots_Code_Registers_an) (c := bodyOf Try.f45) (args := [.pointer (some ⟨c_1, 0, none⟩)]) orc orc_wide Try.func45 (by kernel_rfl) (by kernel_rfl) (Eq.mp (by kernel_rfl : slots_Code_Registers_sh c_1 w K = wpc orc Try.f45.ntmps slots_Code_Registers_an (bodyOf Try.f45) (argl 0 [.pointer (some ⟨c_1, 0, none⟩)]) w (retQ orc Try.f45.results.toList K)) h)

-- (*holloway/slots.Code).Len
def slots_Code_Len_sh (c_1 : Nat) (w : World) (K : Value → World → Prop) : Prop :=
 ∃ s2 : Sl, w.cell? ⟨c_1, 5, none⟩ = some (s2.val) ∧
 K (.int .i64 (s2.len : Int)) w
def slots_Code_Len_an : An := ⟨[], [], []⟩
theorem slots_Code_Len_lift {c_1 : Nat} {w : World} {K : Value → World → Prop} (h : slots_Code_Len_sh c_1 w K) : Calls Try.prog fn_slots_Code_Len #[.pointer (some ⟨c_1, 0, none⟩)] w fun e w' => ∃ v, e = .returned v ∧ K v w' :=
   lift_calls (A := slots_Code_Len_an) (c := bodyOf Try.f111) (args := [.pointer (some ⟨c_1, 0, none⟩)]) orc orc_wide Try.func111 (by kernel_rfl) (by kernel_rfl) (Eq.mp (by kernel_rfl : slots_Code_Len_sh c_1 w K = wpc orc Try.f111.ntmps slots_Code_Len_an (bodyOf Try.f111) (argl 0 [.pointer (some ⟨c_1, 0, none⟩)]) w (retQ orc Try.f111.results.toList K)) h)

-- holloway/slots.own
def slots_own_sh (t__Start1 : Int) (t__Slots2 : Int) (t__Backs3 : Int) (t__Grow4 : Int) (t__GrowBack5 : Int) (t__Ins6 : Sl) (t__Outs7 : Sl) (t__Last8 : Int) (t__Cells9 : Sl) (w : World) (K : Value → World → Prop) : Prop :=
 ∀ (b10 : Nat) (w11 : World), b10 = w.heap.size → w11 = World.alloc w (.cells #[.int .i64 t__Start1, .int .i64 t__Slots2, .int .i64 t__Backs3, .int .i64 t__Grow4, .int .i64 t__GrowBack5, t__Ins6.val, t__Outs7.val, .int .i64 t__Last8, t__Cells9.val] T_api_Trace) →
 ∀ (b12 : Nat) (w13 : World), b12 = w11.heap.size → w13 = World.alloc w11 (.cells #[.int .i64 (0 : Int), .int .i64 (0 : Int), .int .i64 (0 : Int), .int .i64 (0 : Int), .int .i64 (0 : Int), .slice none 0 0, .slice none 0 0, .int .i64 (0 : Int), .slice none 0 0] T_api_Trace) →
 ∀ w14 : World, w14 = World.drew w13 →
 ∃ S15 R16 : World → Prop, (∀ w17 : World, S15 w17 → R16 w17) ∧ S15 w14 ∧
 ∃ s18 : Sl, held S15 ⟨b10, 5, none⟩ (s18.val) ∧
 ∃ s19 : Sl, held R16 ⟨b10, 6, none⟩ (s19.val) ∧
 ∃ s20 : Sl, held R16 ⟨b10, 8, none⟩ (s20.val) ∧
 Calls Try.prog fn_slices_Clone_sl_api_Ins_api_Ins #[s18.val] w14 fun e21 w22 => ∃ s23 : Sl, e21 = .returned (s23.val) ∧
 R16 w22 ∧
 Calls Try.prog fn_slices_Clone_sl_api_Out_api_Out #[s19.val] w22 fun e24 w25 => ∃ s26 : Sl, e24 = .returned (s26.val) ∧
 R16 w25 ∧
 Calls Try.prog fn_slices_Clone_sl_int_int #[s20.val] w25 fun e27 w28 => ∃ s29 : Sl, e27 = .returned (s29.val) ∧
 R16 w28 ∧
 wrOk w28 ⟨b10, 5, none⟩ 1 ∧ ∀ w30 : World, w30 = stW w28 ⟨b10, 5, none⟩ 0 [s23.val] →
 wrOk w30 ⟨b10, 6, none⟩ 1 ∧ ∀ w31 : World, w31 = stW w30 ⟨b10, 6, none⟩ 0 [s26.val] →
 wrOk w31 ⟨b10, 8, none⟩ 1 ∧ ∀ w32 : World, w32 = stW w31 ⟨b10, 8, none⟩ 0 [s29.val] →
 ∃ s33 : Sl, w32.cell? ⟨b10, 6, none⟩ = some (s33.val) ∧
 ∃ (I1 : Int → World → Prop) (μ1 : Int → World → Nat), I1 (0 : Int) w32 ∧ ∀ (n35 : Int) (w34 : World), I1 n35 w34 →
 brB (decide (n35 < (s33.len : Int)))
 (∀ w36 : World, w36 = World.drew w34 →
 ∃ S37 R38 : World → Prop, (∀ w39 : World, S37 w39 → R38 w39) ∧ S37 w36 ∧
 ∃ s40 : Sl, held R38 ⟨b10, 6, none⟩ (s40.val) ∧
 ∃ s41 : Sl, held R38 ⟨b10, 6, none⟩ (s41.val) ∧
 ∃ s42 : Sl, held R38 ⟨b10, 6, none⟩ (s42.val) ∧
 ∃ a43 : Addr, s42.ptr = some a43 ∧ 0 ≤ n35 ∧ n35 < (s42.len : Int) ∧
 ∃ s44 : Sl, held S37 (Addr.add (Addr.add a43 (Int.toNat n35 * 4)) 2) (s44.val) ∧
 ∃ s45 : Sl, held R38 ⟨b10, 6, none⟩ (s45.val) ∧
 ∃ a46 : Addr, s45.ptr = some a46 ∧ 0 ≤ n35 ∧ n35 < (s45.len : Int) ∧
 ∃ s47 : Sl, held R38 (Addr.add (Addr.add a46 (Int.toNat n35 * 4)) 3) (s47.val) ∧
 Calls Try.prog fn_slices_Clone_sl_int_int #[s44.val] w36 fun e48 w49 => ∃ s50 : Sl, e48 = .returned (s50.val) ∧
 R38 w49 ∧
 Calls Try.prog fn_slices_Clone_sl_int_int #[s47.val] w49 fun e51 w52 => ∃ s53 : Sl, e51 = .returned (s53.val) ∧
 R38 w52 ∧
 ∃ a54 : Addr, s40.ptr = some a54 ∧ 0 ≤ n35 ∧ n35 < (s40.len : Int) ∧
 wrOk w52 (Addr.add (Addr.add a54 (Int.toNat n35 * 4)) 2) 1 ∧ ∀ w55 : World, w55 = stW w52 (Addr.add (Addr.add a54 (Int.toNat n35 * 4)) 2) 0 [s50.val] →
 R38 w55 ∧
 ∃ a56 : Addr, s41.ptr = some a56 ∧ 0 ≤ n35 ∧ n35 < (s41.len : Int) ∧
 wrOk w55 (Addr.add (Addr.add a56 (Int.toNat n35 * 4)) 3) 1 ∧ ∀ w57 : World, w57 = stW w55 (Addr.add (Addr.add a56 (Int.toNat n35 * 4)) 3) 0 [s53.val] →
 I1 (wr (n35 + (1 : Int))) w57 ∧ μ1 (wr (n35 + (1 : Int))) w57 < μ1 n35 w34)
 (∃ n_Start58 : Int, ∃ n_Slots59 : Int, ∃ n_Backs60 : Int, ∃ n_Grow61 : Int, ∃ n_GrowBack62 : Int, ∃ s_Ins63 : Sl, ∃ s_Outs64 : Sl, ∃ n_Last65 : Int, ∃ s_Cells66 : Sl, w34.cell? ⟨b10, 0, none⟩ = some (.int .i64 n_Start58) ∧ w34.cell? ⟨b10, 1, none⟩ = some (.int .i64 n_Slots59) ∧ w34.cell? ⟨b10, 2, none⟩ = some (.int .i64 n_Backs60) ∧ w34.cell? ⟨b10, 3, none⟩ = some (.int .i64 n_Grow61) ∧ w34.cell? ⟨b10, 4, none⟩ = some (.int .i64 n_GrowBack62) ∧ w34.cell? ⟨b10, 5, none⟩ = some (s_Ins63.val) ∧ w34.cell? ⟨b10, 6, none⟩ = some (s_Outs64.val) ∧ w34.cell? ⟨b10, 7, none⟩ = some (.int .i64 n_Last65) ∧ w34.cell? ⟨b10, 8, none⟩ = some (s_Cells66.val) ∧
 wrOk w34 ⟨b12, 0, none⟩ 9 ∧ ∀ w67 : World, w67 = stW w34 ⟨b12, 0, none⟩ 0 [.int .i64 n_Start58, .int .i64 n_Slots59, .int .i64 n_Backs60, .int .i64 n_Grow61, .int .i64 n_GrowBack62, s_Ins63.val, s_Outs64.val, .int .i64 n_Last65, s_Cells66.val] →
 ∃ r_Start68 : Int, ∃ r_Slots69 : Int, ∃ r_Backs70 : Int, ∃ r_Grow71 : Int, ∃ r_GrowBack72 : Int, ∃ r_Ins73 : Sl, ∃ r_Outs74 : Sl, ∃ r_Last75 : Int, ∃ r_Cells76 : Sl, w67.cell? ⟨b12, 0, none⟩ = some (.int .i64 r_Start68) ∧ w67.cell? ⟨b12, 1, none⟩ = some (.int .i64 r_Slots69) ∧ w67.cell? ⟨b12, 2, none⟩ = some (.int .i64 r_Backs70) ∧ w67.cell? ⟨b12, 3, none⟩ = some (.int .i64 r_Grow71) ∧ w67.cell? ⟨b12, 4, none⟩ = some (.int .i64 r_GrowBack72) ∧ w67.cell? ⟨b12, 5, none⟩ = some (r_Ins73.val) ∧ w67.cell? ⟨b12, 6, none⟩ = some (r_Outs74.val) ∧ w67.cell? ⟨b12, 7, none⟩ = some (.int .i64 r_Last75) ∧ w67.cell? ⟨b12, 8, none⟩ = some (r_Cells76.val) ∧
 K (.agg #[.int .i64 r_Start68, .int .i64 r_Slots69, .int .i64 r_Backs70, .int .i64 r_Grow71, .int .i64 r_GrowBack72, r_Ins73.val, r_Outs74.val, .int .i64 r_Last75, r_Cells76.val]) w67)
def slots_own_an : An := ⟨[(3, [(19, .int .i64)])], [(1, (10, .st 0 (.st 1 (.st 3 (.st 4 (.st 6 (.st 7 (.ef 2 (.st 9 (.ef 5 (.ef 8 .done))))))))), 5)), (5, (23, .st 0 (.st 1 (.st 2 (.st 3 (.st 4 (.st 5 (.st 6 (.st 7 (.st 8 (.st 9 (.st 10 (.st 11 (.st 13 (.st 14 (.st 15 (.st 16 (.st 17 (.st 18 (.ef 12 (.ef 19 (.st 20 (.st 21 (.ef 22 .done)))))))))))))))))))))), 15))], []⟩
theorem slots_own_lift {t__Start1 : Int} {t__Slots2 : Int} {t__Backs3 : Int} {t__Grow4 : Int} {t__GrowBack5 : Int} {t__Ins6 : Sl} {t__Outs7 : Sl} {t__Last8 : Int} {t__Cells9 : Sl} {w : World} {K : Value → World → Prop} (h : slots_own_sh t__Start1 t__Slots2 t__Backs3 t__Grow4 t__GrowBack5 t__Ins6 t__Outs7 t__Last8 t__Cells9 w K) : Calls Try.prog fn_slots_own #[.agg #[.int .i64 t__Start1, .int .i64 t__Slots2, .int .i64 t__Backs3, .int .i64 t__Grow4, .int .i64 t__GrowBack5, t__Ins6.val, t__Outs7.val, .int .i64 t__Last8, t__Cells9.val]] w fun e w' => ∃ v, e = .returned v ∧ K v w' :=
   lift_calls (A := slots_own_an) (c := bodyOf Try.f112) (args := [.agg #[.int .i64 t__Start1, .int .i64 t__Slots2, .int .i64 t__Backs3, .int .i64 t__Grow4, .int .i64 t__GrowBack5, t__Ins6.val, t__Outs7.val, .int .i64 t__Last8, t__Cells9.val]]) orc orc_wide Try.func112 (by kernel_rfl) (by kernel_rfl) (Eq.mp (by kernel_rfl : slots_own_sh t__Start1 t__Slots2 t__Backs3 t__Grow4 t__GrowBack5 t__Ins6 t__Outs7 t__Last8 t__Cells9 w K = wpc orc Try.f112.ntmps slots_own_an (bodyOf Try.f112) (argl 0 [.agg #[.int .i64 t__Start1, .int .i64 t__Slots2, .int .i64 t__Backs3, .int .i64 t__Grow4, .int .i64 t__GrowBack5, t__Ins6.val, t__Outs7.val, .int .i64 t__Last8, t__Cells9.val]]) w (retQ orc Try.f112.results.toList K)) h)

-- holloway/slots.allot
def slots_allot_sh (t__Start1 : Int) (t__Slots2 : Int) (t__Backs3 : Int) (t__Grow4 : Int) (t__GrowBack5 : Int) (t__Ins6 : Sl) (t__Outs7 : Sl) (t__Last8 : Int) (t__Cells9 : Sl) (w : World) (K : Value → World → Prop) : Prop :=
 ∀ (b10 : Nat) (w11 : World), b10 = w.heap.size → w11 = World.alloc w (.cells #[.int .i64 t__Start1, .int .i64 t__Slots2, .int .i64 t__Backs3, .int .i64 t__Grow4, .int .i64 t__GrowBack5, t__Ins6.val, t__Outs7.val, .int .i64 t__Last8, t__Cells9.val] T_api_Trace) →
 ∃ n_Start12 : Int, ∃ n_Slots13 : Int, ∃ n_Backs14 : Int, ∃ n_Grow15 : Int, ∃ n_GrowBack16 : Int, ∃ s_Ins17 : Sl, ∃ s_Outs18 : Sl, ∃ n_Last19 : Int, ∃ s_Cells20 : Sl, w11.cell? ⟨b10, 0, none⟩ = some (.int .i64 n_Start12) ∧ w11.cell? ⟨b10, 1, none⟩ = some (.int .i64 n_Slots13) ∧ w11.cell? ⟨b10, 2, none⟩ = some (.int .i64 n_Backs14) ∧ w11.cell? ⟨b10, 3, none⟩ = some (.int .i64 n_Grow15) ∧ w11.cell? ⟨b10, 4, none⟩ = some (.int .i64 n_GrowBack16) ∧ w11.cell? ⟨b10, 5, none⟩ = some (s_Ins17.val) ∧ w11.cell? ⟨b10, 6, none⟩ = some (s_Outs18.val) ∧ w11.cell? ⟨b10, 7, none⟩ = some (.int .i64 n_Last19) ∧ w11.cell? ⟨b10, 8, none⟩ = some (s_Cells20.val) ∧
 Calls Try.prog fn_slots_lives #[.agg #[.int .i64 n_Start12, .int .i64 n_Slots13, .int .i64 n_Backs14, .int .i64 n_Grow15, .int .i64 n_GrowBack16, s_Ins17.val, s_Outs18.val, .int .i64 n_Last19, s_Cells20.val]] w11 fun e21 w22 => ∃ s23 : Sl, e21 = .returned (s23.val) ∧
 ∃ s24 : Sl, w22.cell? ⟨b10, 5, none⟩ = some (s24.val) ∧
 ∃ s25 : Sl, ∃ w26 : World, (Instr.makeSlice T_sl_int (.int .i64 (s24.len : Int)) (.int .i64 (s24.len : Int))).run Try.prog w22 = .ok s25.val w26 ∧
 ∃ s27 : Sl, w26.cell? ⟨b10, 5, none⟩ = some (s27.val) ∧
 ∃ (I1 : Sl → Int → World → Prop) (μ1 : Sl → Int → World → Nat), I1 (⟨none, 0, 0⟩ : Sl) (0 : Int) w26 ∧ ∀ (until46 : Sl) (n29 : Int) (w28 : World), I1 until46 n29 w28 →
 brB (decide (n29 < (s27.len : Int)))
 (∃ J9 : Sl → World → Prop, (∀ (until66 : Sl) (w65 : World), J9 until66 w65 →
 I1 until66 (wr (n29 + (1 : Int))) w65 ∧ μ1 until66 (wr (n29 + (1 : Int))) w65 < μ1 until46 n29 w28) ∧
 ∃ a30 : Addr, s27.ptr = some a30 ∧ 0 ≤ n29 ∧ n29 < (s27.len : Int) ∧
 ∃ n_Op31 : Int, ∃ n_A32 : Int, ∃ n_B33 : Int, ∃ n_C34 : Int, ∃ n_X35 : Int, w28.cell? (Addr.add a30 (Int.toNat n29 * 5)) = some (.int .i64 n_Op31) ∧ w28.cell? (Addr.add (Addr.add a30 (Int.toNat n29 * 5)) 1) = some (.int .i64 n_A32) ∧ w28.cell? (Addr.add (Addr.add a30 (Int.toNat n29 * 5)) 2) = some (.int .i64 n_B33) ∧ w28.cell? (Addr.add (Addr.add a30 (Int.toNat n29 * 5)) 3) = some (.int .i64 n_C34) ∧ w28.cell? (Addr.add (Addr.add a30 (Int.toNat n29 * 5)) 4) = some (.int .i64 n_X35) ∧
 ∀ (b36 : Nat) (w37 : World), b36 = w28.heap.size → w37 = World.alloc w28 (.cells #[.int .i64 (0 : Int)] T_int) →
 ∀ (b38 : Nat) (w39 : World), b38 = w37.heap.size → w39 = World.alloc w37 (.cells #[.int .i64 (0 : Int), .int .i64 (0 : Int), .int .i64 (0 : Int), .int .i64 (0 : Int), .int .i64 (0 : Int)] T_api_Ins) →
 wrOk w39 ⟨b36, 0, none⟩ 1 ∧ ∀ w40 : World, w40 = stW w39 ⟨b36, 0, none⟩ 0 [.int .i64 n29] →
 wrOk w40 ⟨b38, 0, none⟩ 5 ∧ ∀ w41 : World, w41 = stW w40 ⟨b38, 0, none⟩ 0 [.int .i64 n_Op31, .int .i64 n_A32, .int .i64 n_B33, .int .i64 n_C34, .int .i64 n_X35] →
 ∃ n42 : Int, w41.cell? ⟨b38, 0, none⟩ = some (.int .i64 n42) ∧
 Calls Try.prog fn_ir_Gives #[.int .i64 n42] w41 fun e43 w44 => ∃ b45 : Bool, e43 = .returned (.bool b45) ∧
 brB (!b45)
 (J9 until46 w44)
 (Calls Try.prog fn_slices_IndexFunc_sl_int_int #[until46.val, .func (.func fn_slots_allot_1) #[] #[.pointer (some ⟨b36, 0, none⟩)]] w44 fun e47 w48 => ∃ n49 : Int, e47 = .returned (.int .i64 n49) ∧
 ∃ J15 : Sl → Int → World → Prop, (∀ (until55 : Sl) (r56 : Int) (w54 : World), J15 until55 r56 w54 →
 ∃ n57 : Int, w54.cell? ⟨b36, 0, none⟩ = some (.int .i64 n57) ∧
 ∃ a58 : Addr, s23.ptr = some a58 ∧ 0 ≤ n57 ∧ n57 < (s23.len : Int) ∧
 ∃ n59 : Int, w54.cell? (Addr.add a58 (Int.toNat n57 * 1)) = some (.int .i64 n59) ∧
 ∃ a60 : Addr, until55.ptr = some a60 ∧ 0 ≤ r56 ∧ r56 < (until55.len : Int) ∧
 wrOk w54 (Addr.add a60 (Int.toNat r56 * 1)) 1 ∧ ∀ w61 : World, w61 = stW w54 (Addr.add a60 (Int.toNat r56 * 1)) 0 [.int .i64 n59] →
 ∃ n62 : Int, w61.cell? ⟨b36, 0, none⟩ = some (.int .i64 n62) ∧
 ∃ a63 : Addr, s25.ptr = some a63 ∧ 0 ≤ n62 ∧ n62 < (s25.len : Int) ∧
 wrOk w61 (Addr.add a63 (Int.toNat n62 * 1)) 1 ∧ ∀ w64 : World, w64 = stW w61 (Addr.add a63 (Int.toNat n62 * 1)) 0 [.int .i64 r56] →
 J9 until55 w64) ∧
 brB (decide (n49 < (0 : Int)))
 (∀ (b50 : Nat) (w51 : World), b50 = w48.heap.size → w51 = World.alloc w48 (.cells #[.int .i64 (0 : Int)] T_int) →
 ∃ s52 : Sl, ∃ w53 : World, (Builtin.append_ #[T_sl_int, T_sl_int] T_sl_int #[until46.val, .slice (some ⟨b50, 0, none⟩) 1 1]).run Try.prog w51 = .ok (s52.val) w53 ∧
 J15 s52 (until46.len : Int) w53)
 (J15 until46 n49 w48)))
 (K (.tuple #[s25.val, .int .i64 (until46.len : Int)]) w28)
def slots_allot_an : An := ⟨[(5, [(6, .sl), (19, .int .i64)])], [], [(12, [(6, .sl), (9, .int .i64)]), (14, [(6, .sl)])]⟩
theorem slots_allot_lift {t__Start1 : Int} {t__Slots2 : Int} {t__Backs3 : Int} {t__Grow4 : Int} {t__GrowBack5 : Int} {t__Ins6 : Sl} {t__Outs7 : Sl} {t__Last8 : Int} {t__Cells9 : Sl} {w : World} {K : Value → World → Prop} (h : slots_allot_sh t__Start1 t__Slots2 t__Backs3 t__Grow4 t__GrowBack5 t__Ins6 t__Outs7 t__Last8 t__Cells9 w K) : Calls Try.prog fn_slots_allot #[.agg #[.int .i64 t__Start1, .int .i64 t__Slots2, .int .i64 t__Backs3, .int .i64 t__Grow4, .int .i64 t__GrowBack5, t__Ins6.val, t__Outs7.val, .int .i64 t__Last8, t__Cells9.val]] w fun e w' => ∃ v, e = .returned v ∧ K v w' :=
   lift_calls (A := slots_allot_an) (c := bodyOf Try.f113) (args := [.agg #[.int .i64 t__Start1, .int .i64 t__Slots2, .int .i64 t__Backs3, .int .i64 t__Grow4, .int .i64 t__GrowBack5, t__Ins6.val, t__Outs7.val, .int .i64 t__Last8, t__Cells9.val]]) orc orc_wide Try.func113 (by kernel_rfl) (by kernel_rfl) (Eq.mp (by kernel_rfl : slots_allot_sh t__Start1 t__Slots2 t__Backs3 t__Grow4 t__GrowBack5 t__Ins6 t__Outs7 t__Last8 t__Cells9 w K = wpc orc Try.f113.ntmps slots_allot_an (bodyOf Try.f113) (argl 0 [.agg #[.int .i64 t__Start1, .int .i64 t__Slots2, .int .i64 t__Backs3, .int .i64 t__Grow4, .int .i64 t__GrowBack5, t__Ins6.val, t__Outs7.val, .int .i64 t__Last8, t__Cells9.val]]) w (retQ orc Try.f113.results.toList K)) h)

-- (*holloway/slots.Code).Through
def slots_Code_Through_sh (c_1 : Nat) (s__Ip2 : Int) (s__Handler3 : Int) (s__Stack4 : Sl) (s__Back5 : Sl) (s__Mem6 : Sl) (s__Out7 : ByteArray) (s__In8 : ByteArray) (s__Read9 : Int) (s__Status10 : Int) (s__Code11 : Int) (watched12 : Sl) (w : World) (K : Value → World → Prop) : Prop :=
 ∀ (b13 : Nat) (w14 : World), b13 = w.heap.size → w14 = World.alloc w (.cells #[.int .i64 s__Ip2, .int .i64 s__Handler3, s__Stack4.val, s__Back5.val, s__Mem6.val, .string s__Out7, .string s__In8, .int .i64 s__Read9, .int .i64 s__Status10, .int .i64 s__Code11] T_api_State) →
 ∀ (b15 : Nat) (w16 : World), b15 = w14.heap.size → w16 = World.alloc w14 (.cells #[.int .i64 (0 : Int), .int .i64 (0 : Int), .slice none 0 0, .slice none 0 0, .slice none 0 0, .string (bs []), .string (bs []), .int .i64 (0 : Int), .int .i64 (0 : Int), .int .i64 (0 : Int)] T_api_State) →
 ∀ (b17 : Nat) (w18 : World), b17 = w16.heap.size → w18 = World.alloc w16 (.cells #[.int .i64 (0 : Int), .int .i64 (0 : Int), .bool false] T_eval_Done) →
 ∀ w19 : World, w19 = World.drew w18 →
 ∃ S20 : World → Prop, S20 w19 ∧
 ∃ n_Start21 : Int, ∃ n_Slots22 : Int, ∃ n_Backs23 : Int, ∃ n_Grow24 : Int, ∃ n_GrowBack25 : Int, ∃ s_Ins26 : Sl, ∃ s_Outs27 : Sl, ∃ n_Last28 : Int, ∃ s_Cells29 : Sl, held S20 ⟨c_1, 0, none⟩ (.int .i64 n_Start21) ∧ held S20 ⟨c_1, 1, none⟩ (.int .i64 n_Slots22) ∧ held S20 ⟨c_1, 2, none⟩ (.int .i64 n_Backs23) ∧ held S20 ⟨c_1, 3, none⟩ (.int .i64 n_Grow24) ∧ held S20 ⟨c_1, 4, none⟩ (.int .i64 n_GrowBack25) ∧ held S20 ⟨c_1, 5, none⟩ (s_Ins26.val) ∧ held S20 ⟨c_1, 6, none⟩ (s_Outs27.val) ∧ held S20 ⟨c_1, 7, none⟩ (.int .i64 n_Last28) ∧ held S20 ⟨c_1, 8, none⟩ (s_Cells29.val) ∧
 ∃ n_Ip30 : Int, ∃ n_Handler31 : Int, ∃ s_Stack32 : Sl, ∃ s_Back33 : Sl, ∃ s_Mem34 : Sl, ∃ t_Out35 : ByteArray, ∃ t_In36 : ByteArray, ∃ n_Read37 : Int, ∃ n_Status38 : Int, ∃ n_Code39 : Int, held S20 ⟨b13, 0, none⟩ (.int .i64 n_Ip30) ∧ held S20 ⟨b13, 1, none⟩ (.int .i64 n_Handler31) ∧ held S20 ⟨b13, 2, none⟩ (s_Stack32.val) ∧ held S20 ⟨b13, 3, none⟩ (s_Back33.val) ∧ held S20 ⟨b13, 4, none⟩ (s_Mem34.val) ∧ held S20 ⟨b13, 5, none⟩ (.string t_Out35) ∧ held S20 ⟨b13, 6, none⟩ (.string t_In36) ∧ held S20 ⟨b13, 7, none⟩ (.int .i64 n_Read37) ∧ held S20 ⟨b13, 8, none⟩ (.int .i64 n_Status38) ∧ held S20 ⟨b13, 9, none⟩ (.int .i64 n_Code39) ∧
 ∃ s40 : Sl, held S20 ⟨c_1, 9, none⟩ (s40.val) ∧
 ∃ n41 : Int, held S20 ⟨c_1, 10, none⟩ (.int .i64 n41) ∧
 Calls Try.prog fn_eval_Through #[.agg #[.int .i64 n_Start21, .int .i64 n_Slots22, .int .i64 n_Backs23, .int .i64 n_Grow24, .int .i64 n_GrowBack25, s_Ins26.val, s_Outs27.val, .int .i64 n_Last28, s_Cells29.val], .agg #[.int .i64 n_Ip30, .int .i64 n_Handler31, s_Stack32.val, s_Back33.val, s_Mem34.val, .string t_Out35, .string t_In36, .int .i64 n_Read37, .int .i64 n_Status38, .int .i64 n_Code39], s40.val, .int .i64 n41, watched12.val] w19 fun e42 w43 => ∃ n_Ip44 : Int, ∃ n_Handler45 : Int, ∃ s_Stack46 : Sl, ∃ s_Back47 : Sl, ∃ s_Mem48 : Sl, ∃ t_Out49 : ByteArray, ∃ t_In50 : ByteArray, ∃ n_Read51 : Int, ∃ n_Status52 : Int, ∃ n_Code53 : Int, ∃ n_Exit54 : Int, ∃ n_Steps55 : Int, ∃ b_Hit56 : Bool, ∃ n57 : Int, e42 = .returned (.tuple #[.agg #[.int .i64 n_Ip44, .int .i64 n_Handler45, s_Stack46.val, s_Back47.val, s_Mem48.val, .string t_Out49, .string t_In50, .int .i64 n_Read51, .int .i64 n_Status52, .int .i64 n_Code53], .agg #[.int .i64 n_Exit54, .int .i64 n_Steps55, .bool b_Hit56], .int .i64 n57]) ∧
 S20 w43 ∧
 wrOk w43 ⟨b15, 0, none⟩ 10 ∧ ∀ w58 : World, w58 = stW w43 ⟨b15, 0, none⟩ 0 [.int .i64 n_Ip44, .int .i64 n_Handler45, s_Stack46.val, s_Back47.val, s_Mem48.val, .string t_Out49, .string t_In50, .int .i64 n_Read51, .int .i64 n_Status52, .int .i64 n_Code53] →
 wrOk w58 ⟨b17, 0, none⟩ 3 ∧ ∀ w59 : World, w59 = stW w58 ⟨b17, 0, none⟩ 0 [.int .i64 n_Exit54, .int .i64 n_Steps55, .bool b_Hit56] →
 ∃ r_Ip60 : Int, ∃ r_Handler61 : Int, ∃ r_Stack62 : Sl, ∃ r_Back63 : Sl, ∃ r_Mem64 : Sl, ∃ r_Out65 : ByteArray, ∃ r_In66 : ByteArray, ∃ r_Read67 : Int, ∃ r_Status68 : Int, ∃ r_Code69 : Int, w59.cell? ⟨b15, 0, none⟩ = some (.int .i64 r_Ip60) ∧ w59.cell? ⟨b15, 1, none⟩ = some (.int .i64 r_Handler61) ∧ w59.cell? ⟨b15, 2, none⟩ = some (r_Stack62.val) ∧ w59.cell? ⟨b15, 3, none⟩ = some (r_Back63.val) ∧ w59.cell? ⟨b15, 4, none⟩ = some (r_Mem64.val) ∧ w59.cell? ⟨b15, 5, none⟩ = some (.string r_Out65) ∧ w59.cell? ⟨b15, 6, none⟩ = some (.string r_In66) ∧ w59.cell? ⟨b15, 7, none⟩ = some (.int .i64 r_Read67) ∧ w59.cell? ⟨b15, 8, none⟩ = some (.int .i64 r_Status68) ∧ w59.cell? ⟨b15, 9, none⟩ = some (.int .i64 r_Code69) ∧
 ∃ r_Exit70 : Int, ∃ r_Steps71 : Int, ∃ r_Hit72 : Bool, w59.cell? ⟨b17, 0, none⟩ = some (.int .i64 r_Exit70) ∧ w59.cell? ⟨b17, 1, none⟩ = some (.int .i64 r_Steps71) ∧ w59.cell? ⟨b17, 2, none⟩ = some (.bool r_Hit72) ∧
 K (.tuple #[.agg #[.int .i64 r_Ip60, .int .i64 r_Handler61, r_Stack62.val, r_Back63.val, r_Mem64.val, .string r_Out65, .string r_In66, .int .i64 r_Read67, .int .i64 r_Status68, .int .i64 r_Code69], .agg #[.int .i64 r_Exit70, .int .i64 r_Steps71, .bool r_Hit72], .int .i64 n57]) w59
def slots_Code_Through_an : An := ⟨[], [(3, (18, .st 0 (.st 1 (.st 2 (.st 3 (.st 4 (.st 5 (.st 6 (.st 7 (.st 8 (.st 9 (.st 10 (.st 11 (.st 12 (.st 13 (.ef 14 (.st 15 (.st 16 (.st 17 .done))))))))))))))))), 1))], []⟩
theorem slots_Code_Through_lift {c_1 : Nat} {s__Ip2 : Int} {s__Handler3 : Int} {s__Stack4 : Sl} {s__Back5 : Sl} {s__Mem6 : Sl} {s__Out7 : ByteArray} {s__In8 : ByteArray} {s__Read9 : Int} {s__Status10 : Int} {s__Code11 : Int} {watched12 : Sl} {w : World} {K : Value → World → Prop} (h : slots_Code_Through_sh c_1 s__Ip2 s__Handler3 s__Stack4 s__Back5 s__Mem6 s__Out7 s__In8 s__Read9 s__Status10 s__Code11 watched12 w K) : Calls Try.prog fn_slots_Code_Through #[.pointer (some ⟨c_1, 0, none⟩), .agg #[.int .i64 s__Ip2, .int .i64 s__Handler3, s__Stack4.val, s__Back5.val, s__Mem6.val, .string s__Out7, .string s__In8, .int .i64 s__Read9, .int .i64 s__Status10, .int .i64 s__Code11], watched12.val] w fun e w' => ∃ v, e = .returned v ∧ K v w' :=
   lift_calls (A := slots_Code_Through_an) (c := bodyOf Try.f114) (args := [.pointer (some ⟨c_1, 0, none⟩), .agg #[.int .i64 s__Ip2, .int .i64 s__Handler3, s__Stack4.val, s__Back5.val, s__Mem6.val, .string s__Out7, .string s__In8, .int .i64 s__Read9, .int .i64 s__Status10, .int .i64 s__Code11], watched12.val]) orc orc_wide Try.func114 (by kernel_rfl) (by kernel_rfl) (Eq.mp (by kernel_rfl : slots_Code_Through_sh c_1 s__Ip2 s__Handler3 s__Stack4 s__Back5 s__Mem6 s__Out7 s__In8 s__Read9 s__Status10 s__Code11 watched12 w K = wpc orc Try.f114.ntmps slots_Code_Through_an (bodyOf Try.f114) (argl 0 [.pointer (some ⟨c_1, 0, none⟩), .agg #[.int .i64 s__Ip2, .int .i64 s__Handler3, s__Stack4.val, s__Back5.val, s__Mem6.val, .string s__Out7, .string s__In8, .int .i64 s__Read9, .int .i64 s__Status10, .int .i64 s__Code11], watched12.val]) w (retQ orc Try.f114.results.toList K)) h)

-- holloway/slots.lives
def slots_lives_sh (t__Start1 : Int) (t__Slots2 : Int) (t__Backs3 : Int) (t__Grow4 : Int) (t__GrowBack5 : Int) (t__Ins6 : Sl) (t__Outs7 : Sl) (t__Last8 : Int) (t__Cells9 : Sl) (w : World) (K : Value → World → Prop) : Prop :=
 ∀ (b10 : Nat) (w11 : World), b10 = w.heap.size → w11 = World.alloc w (.cells #[.int .i64 t__Start1, .int .i64 t__Slots2, .int .i64 t__Backs3, .int .i64 t__Grow4, .int .i64 t__GrowBack5, t__Ins6.val, t__Outs7.val, .int .i64 t__Last8, t__Cells9.val] T_api_Trace) →
 ∃ s12 : Sl, w11.cell? ⟨b10, 5, none⟩ = some (s12.val) ∧
 ∃ s13 : Sl, ∃ w14 : World, (Instr.makeSlice T_sl_int (.int .i64 (s12.len : Int)) (.int .i64 (s12.len : Int))).run Try.prog w11 = .ok s13.val w14 ∧
 ∀ (b15 : Nat) (w16 : World), b15 = w14.heap.size → w16 = World.alloc w14 (.cells #[.slice none 0 0] T_sl_int) →
 wrOk w16 ⟨b15, 0, none⟩ 1 ∧ ∀ w17 : World, w17 = stW w16 ⟨b15, 0, none⟩ 0 [s13.val] →
 ∀ (b18 : Nat) (w19 : World), b18 = w17.heap.size → w19 = World.alloc w17 (.cells #[.nilFunc] T_func_int_sl_int) →
 wrOk w19 ⟨b18, 0, none⟩ 1 ∧ ∀ w20 : World, w20 = stW w19 ⟨b18, 0, none⟩ 0 [.func (.func fn_slots_lives_1) #[] #[.pointer (some ⟨b15, 0, none⟩)]] →
 ∃ s21 : Sl, w20.cell? ⟨b10, 5, none⟩ = some (s21.val) ∧
 ∃ (I1 : Int → World → Prop) (μ1 : Int → World → Nat), I1 (0 : Int) w20 ∧ ∀ (n23 : Int) (w22 : World), I1 n23 w22 →
 brB (decide (n23 < (s21.len : Int)))
 (∃ a24 : Addr, s21.ptr = some a24 ∧ 0 ≤ n23 ∧ n23 < (s21.len : Int) ∧
 ∃ n_Op25 : Int, ∃ n_A26 : Int, ∃ n_B27 : Int, ∃ n_C28 : Int, ∃ n_X29 : Int, w22.cell? (Addr.add a24 (Int.toNat n23 * 5)) = some (.int .i64 n_Op25) ∧ w22.cell? (Addr.add (Addr.add a24 (Int.toNat n23 * 5)) 1) = some (.int .i64 n_A26) ∧ w22.cell? (Addr.add (Addr.add a24 (Int.toNat n23 * 5)) 2) = some (.int .i64 n_B27) ∧ w22.cell? (Addr.add (Addr.add a24 (Int.toNat n23 * 5)) 3) = some (.int .i64 n_C28) ∧ w22.cell? (Addr.add (Addr.add a24 (Int.toNat n23 * 5)) 4) = some (.int .i64 n_X29) ∧
 ∀ (b30 : Nat) (w31 : World), b30 = w22.heap.size → w31 = World.alloc w22 (.cells #[.int .i64 (0 : Int), .int .i64 (0 : Int), .int .i64 (0 : Int), .int .i64 (0 : Int), .int .i64 (0 : Int)] T_api_Ins) →
 wrOk w31 ⟨b30, 0, none⟩ 5 ∧ ∀ w32 : World, w32 = stW w31 ⟨b30, 0, none⟩ 0 [.int .i64 n_Op25, .int .i64 n_A26, .int .i64 n_B27, .int .i64 n_C28, .int .i64 n_X29] →
 ∃ s33 : Sl, w32.cell? ⟨b15, 0, none⟩ = some (s33.val) ∧
 ∃ a34 : Addr, s33.ptr = some a34 ∧ 0 ≤ n23 ∧ n23 < (s33.len : Int) ∧
 wrOk w32 (Addr.add a34 (Int.toNat n23 * 1)) 1 ∧ ∀ w35 : World, w35 = stW w32 (Addr.add a34 (Int.toNat n23 * 1)) 0 [.int .i64 n23] →
 ∀ w36 : World, w36 = World.drew w35 →
 ∃ S37 : World → Prop, S37 w36 ∧
 ∃ v38 : Value, held S37 ⟨b18, 0, none⟩ (v38) ∧
 ∃ n_Op39 : Int, ∃ n_A40 : Int, ∃ n_B41 : Int, ∃ n_C42 : Int, ∃ n_X43 : Int, held S37 ⟨b30, 0, none⟩ (.int .i64 n_Op39) ∧ held S37 ⟨b30, 1, none⟩ (.int .i64 n_A40) ∧ held S37 ⟨b30, 2, none⟩ (.int .i64 n_B41) ∧ held S37 ⟨b30, 3, none⟩ (.int .i64 n_C42) ∧ held S37 ⟨b30, 4, none⟩ (.int .i64 n_X43) ∧
 Calls Try.prog fn_ir_Uses #[.agg #[.int .i64 n_Op39, .int .i64 n_A40, .int .i64 n_B41, .int .i64 n_C42, .int .i64 n_X43]] w36 fun e44 w45 => ∃ s46 : Sl, e44 = .returned (s46.val) ∧
 S37 w45 ∧
 ∃ (g47 : FuncId) (fs48 cs49 : Array Value), (v38 : Value) = .func (.func g47) fs48 cs49 ∧ (∀ args w, (callFunc g47 args).run Try.prog w = .ok (.enter g47 args) w) ∧
 Calls Try.prog g47 (((fs48.toList ++ [(.int .i64 n23 : Value)]) ++ [(s46.val : Value)]) ++ cs49.toList).toArray w45 fun e50 w51 => e50 = .returned (.tuple #[]) ∧
 ∃ n_Op52 : Int, ∃ n_A53 : Int, ∃ n_B54 : Int, ∃ n_C55 : Int, ∃ n_X56 : Int, w51.cell? ⟨b30, 0, none⟩ = some (.int .i64 n_Op52) ∧ w51.cell? ⟨b30, 1, none⟩ = some (.int .i64 n_A53) ∧ w51.cell? ⟨b30, 2, none⟩ = some (.int .i64 n_B54) ∧ w51.cell? ⟨b30, 3, none⟩ = some (.int .i64 n_C55) ∧ w51.cell? ⟨b30, 4, none⟩ = some (.int .i64 n_X56) ∧
 Calls Try.prog fn_ir_Outs #[.agg #[.int .i64 n_Op52, .int .i64 n_A53, .int .i64 n_B54, .int .i64 n_C55, .int .i64 n_X56]] w51 fun e57 w58 => ∃ s59 : Sl, e57 = .returned (s59.val) ∧
 ∃ (I2 : Int → World → Prop) (μ2 : Int → World → Nat), I2 (0 : Int) w58 ∧ ∀ (n61 : Int) (w60 : World), I2 n61 w60 →
 brB (decide (n61 < (s59.len : Int)))
 (∃ a62 : Addr, s59.ptr = some a62 ∧ 0 ≤ n61 ∧ n61 < (s59.len : Int) ∧
 ∃ n63 : Int, w60.cell? (Addr.add a62 (Int.toNat n61 * 1)) = some (.int .i64 n63) ∧
 ∃ (g64 : FuncId) (fs65 cs66 : Array Value), (.func (.func fn_slots_lives_2) #[] #[.pointer (some ⟨b18, 0, none⟩), .pointer (some ⟨b10, 0, none⟩)] : Value) = .func (.func g64) fs65 cs66 ∧ (∀ args w, (callFunc g64 args).run Try.prog w = .ok (.enter g64 args) w) ∧
 Calls Try.prog g64 (((fs65.toList ++ [(.int .i64 n23 : Value)]) ++ [(.int .i64 n63 : Value)]) ++ cs66.toList).toArray w60 fun e67 w68 => e67 = .returned (.tuple #[]) ∧
 I2 (wr (n61 + (1 : Int))) w68 ∧ μ2 (wr (n61 + (1 : Int))) w68 < μ2 n61 w60)
 (I1 (wr (n23 + (1 : Int))) w60 ∧ μ1 (wr (n23 + (1 : Int))) w60 < μ1 n23 w22))
 (∃ s69 : Sl, w22.cell? ⟨b10, 5, none⟩ = some (s69.val) ∧
 ∃ n70 : Int, w22.cell? ⟨b10, 7, none⟩ = some (.int .i64 n70) ∧
 ∃ (g71 : FuncId) (fs72 cs73 : Array Value), (.func (.func fn_slots_lives_2) #[] #[.pointer (some ⟨b18, 0, none⟩), .pointer (some ⟨b10, 0, none⟩)] : Value) = .func (.func g71) fs72 cs73 ∧ (∀ args w, (callFunc g71 args).run Try.prog w = .ok (.enter g71 args) w) ∧
 Calls Try.prog g71 (((fs72.toList ++ [(.int .i64 (wr ((s69.len : Int) - (1 : Int))) : Value)]) ++ [(.int .i64 n70 : Value)]) ++ cs73.toList).toArray w22 fun e74 w75 => e74 = .returned (.tuple #[]) ∧
 ∃ s76 : Sl, w75.cell? ⟨b15, 0, none⟩ = some (s76.val) ∧
 K (s76.val) w75)
def slots_lives_an : An := ⟨[(5, [(19, .int .i64)]), (10, [(36, .int .i64)])], [(8, (4, .st 0 (.st 1 (.st 2 (.ef 3 .done))), 1))], []⟩
theorem slots_lives_lift {t__Start1 : Int} {t__Slots2 : Int} {t__Backs3 : Int} {t__Grow4 : Int} {t__GrowBack5 : Int} {t__Ins6 : Sl} {t__Outs7 : Sl} {t__Last8 : Int} {t__Cells9 : Sl} {w : World} {K : Value → World → Prop} (h : slots_lives_sh t__Start1 t__Slots2 t__Backs3 t__Grow4 t__GrowBack5 t__Ins6 t__Outs7 t__Last8 t__Cells9 w K) : Calls Try.prog fn_slots_lives #[.agg #[.int .i64 t__Start1, .int .i64 t__Slots2, .int .i64 t__Backs3, .int .i64 t__Grow4, .int .i64 t__GrowBack5, t__Ins6.val, t__Outs7.val, .int .i64 t__Last8, t__Cells9.val]] w fun e w' => ∃ v, e = .returned v ∧ K v w' :=
   lift_calls (A := slots_lives_an) (c := bodyOf Try.f150) (args := [.agg #[.int .i64 t__Start1, .int .i64 t__Slots2, .int .i64 t__Backs3, .int .i64 t__Grow4, .int .i64 t__GrowBack5, t__Ins6.val, t__Outs7.val, .int .i64 t__Last8, t__Cells9.val]]) orc orc_wide Try.func150 (by kernel_rfl) (by kernel_rfl) (Eq.mp (by kernel_rfl : slots_lives_sh t__Start1 t__Slots2 t__Backs3 t__Grow4 t__GrowBack5 t__Ins6 t__Outs7 t__Last8 t__Cells9 w K = wpc orc Try.f150.ntmps slots_lives_an (bodyOf Try.f150) (argl 0 [.agg #[.int .i64 t__Start1, .int .i64 t__Slots2, .int .i64 t__Backs3, .int .i64 t__Grow4, .int .i64 t__GrowBack5, t__Ins6.val, t__Outs7.val, .int .i64 t__Last8, t__Cells9.val]]) w (retQ orc Try.f150.results.toList K)) h)

-- holloway/slots.allot$1
def slots_allot_1_sh (end_1 : Int) (c2 : Nat) (w : World) (K : Value → World → Prop) : Prop :=
 ∃ n3 : Int, w.cell? ⟨c2, 0, none⟩ = some (.int .i64 n3) ∧
 K (.bool (decide (end_1 < n3))) w
def slots_allot_1_an : An := ⟨[], [], []⟩
theorem slots_allot_1_lift {end_1 : Int} {c2 : Nat} {w : World} {K : Value → World → Prop} (h : slots_allot_1_sh end_1 c2 w K) : Calls Try.prog fn_slots_allot_1 #[.int .i64 end_1, .pointer (some ⟨c2, 0, none⟩)] w fun e w' => ∃ v, e = .returned v ∧ K v w' :=
   lift_calls (A := slots_allot_1_an) (c := bodyOf Try.f153) (args := [.int .i64 end_1, .pointer (some ⟨c2, 0, none⟩)]) orc orc_wide Try.func153 (by kernel_rfl) (by kernel_rfl) (Eq.mp (by kernel_rfl : slots_allot_1_sh end_1 c2 w K = wpc orc Try.f153.ntmps slots_allot_1_an (bodyOf Try.f153) (argl 0 [.int .i64 end_1, .pointer (some ⟨c2, 0, none⟩)]) w (retQ orc Try.f153.results.toList K)) h)

-- holloway/slots.lives$1
def slots_lives_1_sh (at_1 : Int) (l_2 : Sl) (c3 : Nat) (w : World) (K : Value → World → Prop) : Prop :=
 ∃ (I1 : Int → World → Prop) (μ1 : Int → World → Nat), I1 (0 : Int) w ∧ ∀ (n5 : Int) (w4 : World), I1 n5 w4 →
 brB (decide (n5 < (l_2.len : Int)))
 (∃ a6 : Addr, l_2.ptr = some a6 ∧ 0 ≤ n5 ∧ n5 < (l_2.len : Int) ∧
 ∃ n7 : Int, w4.cell? (Addr.add a6 (Int.toNat n5 * 1)) = some (.int .i64 n7) ∧
 ∀ w8 : World, w8 = World.drew w4 →
 ∃ s9 : Sl, held (Lw w8) ⟨c3, 0, none⟩ (s9.val) ∧
 ∃ s10 : Sl, held (Lw w8) ⟨c3, 0, none⟩ (s10.val) ∧
 ∃ a11 : Addr, s10.ptr = some a11 ∧ 0 ≤ n7 ∧ n7 < (s10.len : Int) ∧
 ∃ n12 : Int, held (Lw w8) (Addr.add a11 (Int.toNat n7 * 1)) (.int .i64 n12) ∧
 ∃ a13 : Addr, s9.ptr = some a13 ∧ 0 ≤ n7 ∧ n7 < (s9.len : Int) ∧
 wrOk w8 (Addr.add a13 (Int.toNat n7 * 1)) 1 ∧ ∀ w14 : World, w14 = stW w8 (Addr.add a13 (Int.toNat n7 * 1)) 0 [.int .i64 (imax n12 at_1)] →
 I1 (wr (n5 + (1 : Int))) w14 ∧ μ1 (wr (n5 + (1 : Int))) w14 < μ1 n5 w4)
 (K (.tuple #[]) w4)
def slots_lives_1_an : An := ⟨[(1, [(9, .int .i64)])], [(3, (9, .st 0 (.st 1 (.st 2 (.st 3 (.st 4 (.st 5 (.st 6 (.st 7 (.st 8 .done)))))))), 0))], []⟩
theorem slots_lives_1_lift {at_1 : Int} {l_2 : Sl} {c3 : Nat} {w : World} {K : Value → World → Prop} (h : slots_lives_1_sh at_1 l_2 c3 w K) : Calls Try.prog fn_slots_lives_1 #[.int .i64 at_1, l_2.val, .pointer (some ⟨c3, 0, none⟩)] w fun e w' => ∃ v, e = .returned v ∧ K v w' :=
   lift_calls (A := slots_lives_1_an) (c := bodyOf Try.f170) (args := [.int .i64 at_1, l_2.val, .pointer (some ⟨c3, 0, none⟩)]) orc orc_wide Try.func170 (by kernel_rfl) (by kernel_rfl) (Eq.mp (by kernel_rfl : slots_lives_1_sh at_1 l_2 c3 w K = wpc orc Try.f170.ntmps slots_lives_1_an (bodyOf Try.f170) (argl 0 [.int .i64 at_1, l_2.val, .pointer (some ⟨c3, 0, none⟩)]) w (retQ orc Try.f170.results.toList K)) h)

-- holloway/slots.lives$2
def slots_lives_2_sh (at_1 : Int) (x_2 : Int) (c3 : Nat) (c4 : Nat) (w : World) (K : Value → World → Prop) : Prop :=
 ∀ w5 : World, w5 = World.drew w →
 ∃ v6 : Value, held (Lw w5) ⟨c3, 0, none⟩ (v6) ∧
 ∃ s7 : Sl, held (Lw w5) ⟨c4, 6, none⟩ (s7.val) ∧
 ∃ a8 : Addr, s7.ptr = some a8 ∧ 0 ≤ x_2 ∧ x_2 < (s7.len : Int) ∧
 ∃ s9 : Sl, held (Lw w5) (Addr.add (Addr.add a8 (Int.toNat x_2 * 4)) 2) (s9.val) ∧
 ∃ (g10 : FuncId) (fs11 cs12 : Array Value), (v6 : Value) = .func (.func g10) fs11 cs12 ∧ (∀ args w, (callFunc g10 args).run Try.prog w = .ok (.enter g10 args) w) ∧
 Calls Try.prog g10 (((fs11.toList ++ [(.int .i64 at_1 : Value)]) ++ [(s9.val : Value)]) ++ cs12.toList).toArray w5 fun e13 w14 => e13 = .returned (.tuple #[]) ∧
 ∀ w15 : World, w15 = World.drew w14 →
 ∃ v16 : Value, held (Lw w15) ⟨c3, 0, none⟩ (v16) ∧
 ∃ s17 : Sl, held (Lw w15) ⟨c4, 6, none⟩ (s17.val) ∧
 ∃ a18 : Addr, s17.ptr = some a18 ∧ 0 ≤ x_2 ∧ x_2 < (s17.len : Int) ∧
 ∃ s19 : Sl, held (Lw w15) (Addr.add (Addr.add a18 (Int.toNat x_2 * 4)) 3) (s19.val) ∧
 ∃ (g20 : FuncId) (fs21 cs22 : Array Value), (v16 : Value) = .func (.func g20) fs21 cs22 ∧ (∀ args w, (callFunc g20 args).run Try.prog w = .ok (.enter g20 args) w) ∧
 Calls Try.prog g20 (((fs21.toList ++ [(.int .i64 at_1 : Value)]) ++ [(s19.val : Value)]) ++ cs22.toList).toArray w15 fun e23 w24 => e23 = .returned (.tuple #[]) ∧
 K (.tuple #[]) w24
def slots_lives_2_an : An := ⟨[], [(0, (8, .st 0 (.st 1 (.st 2 (.st 3 (.st 4 (.st 5 (.st 6 (.st 7 .done))))))), 0)), (1, (8, .st 0 (.st 1 (.st 2 (.st 3 (.st 4 (.st 5 (.st 6 (.st 7 .done))))))), 0))], []⟩
theorem slots_lives_2_lift {at_1 : Int} {x_2 : Int} {c3 : Nat} {c4 : Nat} {w : World} {K : Value → World → Prop} (h : slots_lives_2_sh at_1 x_2 c3 c4 w K) : Calls Try.prog fn_slots_lives_2 #[.int .i64 at_1, .int .i64 x_2, .pointer (some ⟨c3, 0, none⟩), .pointer (some ⟨c4, 0, none⟩)] w fun e w' => ∃ v, e = .returned v ∧ K v w' :=
   lift_calls (A := slots_lives_2_an) (c := bodyOf Try.f171) (args := [.int .i64 at_1, .int .i64 x_2, .pointer (some ⟨c3, 0, none⟩), .pointer (some ⟨c4, 0, none⟩)]) orc orc_wide Try.func171 (by kernel_rfl) (by kernel_rfl) (Eq.mp (by kernel_rfl : slots_lives_2_sh at_1 x_2 c3 c4 w K = wpc orc Try.f171.ntmps slots_lives_2_an (bodyOf Try.f171) (argl 0 [.int .i64 at_1, .int .i64 x_2, .pointer (some ⟨c3, 0, none⟩), .pointer (some ⟨c4, 0, none⟩)]) w (retQ orc Try.f171.results.toList K)) h)

-- (*holloway/slots.Code).Run:nil
-- (*holloway/slots.Code).Through:nil
-- (*holloway/slots.Code).Registers:nil
-- (*holloway/slots.Code).Len:nil
end Go.Proofs.Ytblmoilneiffgaa

/- Functions of Hollowaylaw15, read without their frames; that each is enough. Printed by a program of mine (wip/lift/gen.py). -/
set_option maxRecDepth 100000
namespace Go.Proofs.Ytblmoilneiffgaa
open Go.RowKit

-- holloway/hollowaylaw15.EvalWatched
-- holloway/hollowaylaw15.EvalEmpty
-- holloway/hollowaylaw15.EvalGuards
-- holloway/hollowaylaw15.alive
end Go.Proofs.Ytblmoilneiffgaa

/- Functions of Hollowaylaw20, read without their frames; that each is enough. Printed by a program of mine (wip/lift/gen.py). -/
set_option maxRecDepth 100000
namespace Go.Proofs.Ytblmoilneiffgaa
open Go.RowKit

-- holloway/hollowaylaw20.SlotsFew
-- holloway/hollowaylaw20.SlotsMany
def hollowaylaw20_SlotsMany_sh (n_1 : Int) (l_2 : Sl) (w : World) (K : Value → World → Prop) : Prop :=
 ∃ J3 : Bool → World → Prop, (∀ (b7 : Bool) (w6 : World), J3 b7 w6 →
 brB b7
 (Calls Try.prog fn_hollowaylaw20_alive #[] w6 fun e8 w9 => ∃ b10 : Bool, e8 = .returned (.bool b10) ∧
 K (.bool b10) w9)
 (∀ (b11 : Nat) (w12 : World), b11 = w6.heap.size → w12 = World.alloc w6 (.cells #[.int .i64 (5 : Int), .int .i64 (1 : Int), .slice none 0 0, .slice none 0 0] T_api_Out) →
 ∀ (b13 : Nat) (w14 : World), b13 = w12.heap.size → w14 = World.alloc w12 (.cells #[.int .i64 (0 : Int), .int .i64 (0 : Int), .int .i64 (0 : Int), .int .i64 (0 : Int), .int .i64 (0 : Int), .slice none 0 0, .slice none 0 0, .int .i64 (0 : Int), .slice none 0 0] T_api_Trace) →
 wrOk w14 ⟨b13, 0, none⟩ 9 ∧ ∀ w15 : World, w15 = stW w14 ⟨b13, 0, none⟩ 0 [.int .i64 (5 : Int), .int .i64 (0 : Int), .int .i64 (0 : Int), .int .i64 (40 : Int), .int .i64 (0 : Int), .slice none 0 0, .slice (some ⟨b11, 0, none⟩) 1 1, .int .i64 (0 : Int), .slice none 0 0] →
 ∃ (I1 : Sl → Int → World → Prop) (μ1 : Sl → Int → World → Nat), I1 (⟨none, 0, 0⟩ : Sl) (0 : Int) w15 ∧ ∀ (want40 : Sl) (i17 : Int) (w16 : World), I1 want40 i17 w16 →
 brB (decide (i17 < n_1))
 (∃ J13 : Int → World → Prop, (∀ (v22 : Int) (w20 : World), J13 v22 w20 →
 ∃ s21 : Sl, w20.cell? ⟨b13, 5, none⟩ = some (s21.val) ∧
 ∀ (b23 : Nat) (w24 : World), b23 = w20.heap.size → w24 = World.alloc w20 (.cells #[.int .i64 (1 : Int), .int .i64 v22, .int .i64 (0 : Int), .int .i64 (0 : Int), .int .i64 (0 : Int)] T_api_Ins) →
 ∃ s25 : Sl, ∃ w26 : World, (Builtin.append_ #[T_sl_api_Ins, T_sl_api_Ins] T_sl_api_Ins #[s21.val, .slice (some ⟨b23, 0, none⟩) 1 1]).run Try.prog w24 = .ok (s25.val) w26 ∧
 wrOk w26 ⟨b13, 5, none⟩ 1 ∧ ∀ w27 : World, w27 = stW w26 ⟨b13, 5, none⟩ 0 [s25.val] →
 ∀ w28 : World, w28 = World.drew w27 →
 ∃ S29 : World → Prop, S29 w28 ∧
 ∃ s30 : Sl, held S29 ⟨b13, 6, none⟩ (s30.val) ∧
 ∃ s31 : Sl, held S29 ⟨b13, 6, none⟩ (s31.val) ∧
 ∃ a32 : Addr, s31.ptr = some a32 ∧ 0 ≤ (0 : Int) ∧ (0 : Int) < (s31.len : Int) ∧
 ∃ s33 : Sl, held S29 (Addr.add (Addr.add a32 (Int.toNat (0 : Int) * 4)) 2) (s33.val) ∧
 ∀ (b34 : Nat) (w35 : World), b34 = w28.heap.size → w35 = World.alloc w28 (.cells #[.int .i64 i17] T_int) →
 S29 w35 ∧
 ∃ s36 : Sl, ∃ w37 : World, (Builtin.append_ #[T_sl_int, T_sl_int] T_sl_int #[s33.val, .slice (some ⟨b34, 0, none⟩) 1 1]).run Try.prog w35 = .ok (s36.val) w37 ∧
 S29 w37 ∧
 ∃ a38 : Addr, s30.ptr = some a38 ∧ 0 ≤ (0 : Int) ∧ (0 : Int) < (s30.len : Int) ∧
 wrOk w37 (Addr.add (Addr.add a38 (Int.toNat (0 : Int) * 4)) 2) 1 ∧ ∀ w39 : World, w39 = stW w37 (Addr.add (Addr.add a38 (Int.toNat (0 : Int) * 4)) 2) 0 [s36.val] →
 ∀ (b41 : Nat) (w42 : World), b41 = w39.heap.size → w42 = World.alloc w39 (.cells #[.int .i64 v22] T_int) →
 ∃ s43 : Sl, ∃ w44 : World, (Builtin.append_ #[T_sl_int, T_sl_int] T_sl_int #[want40.val, .slice (some ⟨b41, 0, none⟩) 1 1]).run Try.prog w42 = .ok (s43.val) w44 ∧
 I1 s43 (wr (i17 + (1 : Int))) w44 ∧ μ1 s43 (wr (i17 + (1 : Int))) w44 < μ1 want40 i17 w16) ∧
 brB (decide (i17 < (l_2.len : Int)))
 (∃ a18 : Addr, l_2.ptr = some a18 ∧ 0 ≤ i17 ∧ i17 < (l_2.len : Int) ∧
 ∃ n19 : Int, w16.cell? (Addr.add a18 (Int.toNat i17 * 1)) = some (.int .i64 n19) ∧
 J13 n19 w16)
 (J13 i17 w16))
 (∃ n_Start45 : Int, ∃ n_Slots46 : Int, ∃ n_Backs47 : Int, ∃ n_Grow48 : Int, ∃ n_GrowBack49 : Int, ∃ s_Ins50 : Sl, ∃ s_Outs51 : Sl, ∃ n_Last52 : Int, ∃ s_Cells53 : Sl, w16.cell? ⟨b13, 0, none⟩ = some (.int .i64 n_Start45) ∧ w16.cell? ⟨b13, 1, none⟩ = some (.int .i64 n_Slots46) ∧ w16.cell? ⟨b13, 2, none⟩ = some (.int .i64 n_Backs47) ∧ w16.cell? ⟨b13, 3, none⟩ = some (.int .i64 n_Grow48) ∧ w16.cell? ⟨b13, 4, none⟩ = some (.int .i64 n_GrowBack49) ∧ w16.cell? ⟨b13, 5, none⟩ = some (s_Ins50.val) ∧ w16.cell? ⟨b13, 6, none⟩ = some (s_Outs51.val) ∧ w16.cell? ⟨b13, 7, none⟩ = some (.int .i64 n_Last52) ∧ w16.cell? ⟨b13, 8, none⟩ = some (s_Cells53.val) ∧
 Calls Try.prog fn_slots_Make #[.agg #[.int .i64 n_Start45, .int .i64 n_Slots46, .int .i64 n_Backs47, .int .i64 n_Grow48, .int .i64 n_GrowBack49, s_Ins50.val, s_Outs51.val, .int .i64 n_Last52, s_Cells53.val], .int .i64 n_1] w16 fun e54 w55 => ∃ p56 : Option Addr, ∃ b57 : Bool, e54 = .returned (.tuple #[.pointer p56, .bool b57]) ∧
 ∃ n_Start58 : Int, ∃ n_Slots59 : Int, ∃ n_Backs60 : Int, ∃ n_Grow61 : Int, ∃ n_GrowBack62 : Int, ∃ s_Ins63 : Sl, ∃ s_Outs64 : Sl, ∃ n_Last65 : Int, ∃ s_Cells66 : Sl, w55.cell? ⟨b13, 0, none⟩ = some (.int .i64 n_Start58) ∧ w55.cell? ⟨b13, 1, none⟩ = some (.int .i64 n_Slots59) ∧ w55.cell? ⟨b13, 2, none⟩ = some (.int .i64 n_Backs60) ∧ w55.cell? ⟨b13, 3, none⟩ = some (.int .i64 n_Grow61) ∧ w55.cell? ⟨b13, 4, none⟩ = some (.int .i64 n_GrowBack62) ∧ w55.cell? ⟨b13, 5, none⟩ = some (s_Ins63.val) ∧ w55.cell? ⟨b13, 6, none⟩ = some (s_Outs64.val) ∧ w55.cell? ⟨b13, 7, none⟩ = some (.int .i64 n_Last65) ∧ w55.cell? ⟨b13, 8, none⟩ = some (s_Cells66.val) ∧
 Calls Try.prog fn_slots_Make #[.agg #[.int .i64 n_Start58, .int .i64 n_Slots59, .int .i64 n_Backs60, .int .i64 n_Grow61, .int .i64 n_GrowBack62, s_Ins63.val, s_Outs64.val, .int .i64 n_Last65, s_Cells66.val], .int .i64 (wr (n_1 - (1 : Int)))] w55 fun e67 w68 => ∃ p69 : Option Addr, ∃ b70 : Bool, e67 = .returned (.tuple #[.pointer p69, .bool b70]) ∧
 ∃ s71 : Sl, ∃ w72 : World, (Instr.makeSlice T_sl_int (.int .i64 (9 : Int)) (.int .i64 (9 : Int))).run Try.prog w68 = .ok s71.val w72 ∧
 Calls Try.prog fn_slots_Code_Run #[.pointer p56, .agg #[.int .i64 (5 : Int), .int .i64 (0 : Int), .slice none 0 0, .slice none 0 0, s71.val, .string (bs []), .string (bs []), .int .i64 (0 : Int), .int .i64 (0 : Int), .int .i64 (0 : Int)], .slice none 0 0] w72 fun e73 w74 => ∃ n_Ip75 : Int, ∃ n_Handler76 : Int, ∃ s_Stack77 : Sl, ∃ s_Back78 : Sl, ∃ s_Mem79 : Sl, ∃ t_Out80 : ByteArray, ∃ t_In81 : ByteArray, ∃ n_Read82 : Int, ∃ n_Status83 : Int, ∃ n_Code84 : Int, ∃ n_Exit85 : Int, ∃ n_Steps86 : Int, ∃ b_Hit87 : Bool, e73 = .returned (.tuple #[.agg #[.int .i64 n_Ip75, .int .i64 n_Handler76, s_Stack77.val, s_Back78.val, s_Mem79.val, .string t_Out80, .string t_In81, .int .i64 n_Read82, .int .i64 n_Status83, .int .i64 n_Code84], .agg #[.int .i64 n_Exit85, .int .i64 n_Steps86, .bool b_Hit87]]) ∧
 ∀ (b88 : Nat) (w89 : World), b88 = w74.heap.size → w89 = World.alloc w74 (.cells #[.int .i64 (0 : Int), .int .i64 (0 : Int), .slice none 0 0, .slice none 0 0, .slice none 0 0, .string (bs []), .string (bs []), .int .i64 (0 : Int), .int .i64 (0 : Int), .int .i64 (0 : Int)] T_api_State) →
 ∀ (b90 : Nat) (w91 : World), b90 = w89.heap.size → w91 = World.alloc w89 (.cells #[.int .i64 (0 : Int), .int .i64 (0 : Int), .bool false] T_eval_Done) →
 wrOk w91 ⟨b88, 0, none⟩ 10 ∧ ∀ w92 : World, w92 = stW w91 ⟨b88, 0, none⟩ 0 [.int .i64 n_Ip75, .int .i64 n_Handler76, s_Stack77.val, s_Back78.val, s_Mem79.val, .string t_Out80, .string t_In81, .int .i64 n_Read82, .int .i64 n_Status83, .int .i64 n_Code84] →
 wrOk w92 ⟨b90, 0, none⟩ 3 ∧ ∀ w93 : World, w93 = stW w92 ⟨b90, 0, none⟩ 0 [.int .i64 n_Exit85, .int .i64 n_Steps86, .bool b_Hit87] →
 ∃ J21 : Bool → World → Prop, (∀ (b112 : Bool) (w111 : World), J21 b112 w111 →
 brB b112
 (K (.bool false) w111)
 (∃ (I2 : Int → World → Prop) (μ2 : Int → World → Nat), I2 (0 : Int) w111 ∧ ∀ (i114 : Int) (w113 : World), I2 i114 w113 →
 brB (decide (i114 < n_1))
 (∀ w115 : World, w115 = World.drew w113 →
 ∃ s116 : Sl, held (Lw w115) ⟨b88, 2, none⟩ (s116.val) ∧
 ∃ a117 : Addr, s116.ptr = some a117 ∧ 0 ≤ i114 ∧ i114 < (s116.len : Int) ∧
 ∃ n118 : Int, held (Lw w115) (Addr.add a117 (Int.toNat i114 * 1)) (.int .i64 n118) ∧
 ∃ a119 : Addr, want40.ptr = some a119 ∧ 0 ≤ i114 ∧ i114 < (want40.len : Int) ∧
 ∃ n120 : Int, held (Lw w115) (Addr.add a119 (Int.toNat i114 * 1)) (.int .i64 n120) ∧
 brB (n118 != n120)
 (K (.bool false) w115)
 (I2 (wr (i114 + (1 : Int))) w115 ∧ μ2 (wr (i114 + (1 : Int))) w115 < μ2 i114 w113))
 (K (.bool true) w113))) ∧
 brB (!b57)
 (J21 true w93)
 (brB b70
 (J21 true w93)
 (∃ n_Start94 : Int, ∃ n_Slots95 : Int, ∃ n_Backs96 : Int, ∃ n_Grow97 : Int, ∃ n_GrowBack98 : Int, ∃ s_Ins99 : Sl, ∃ s_Outs100 : Sl, ∃ n_Last101 : Int, ∃ s_Cells102 : Sl, w93.cell? ⟨b13, 0, none⟩ = some (.int .i64 n_Start94) ∧ w93.cell? ⟨b13, 1, none⟩ = some (.int .i64 n_Slots95) ∧ w93.cell? ⟨b13, 2, none⟩ = some (.int .i64 n_Backs96) ∧ w93.cell? ⟨b13, 3, none⟩ = some (.int .i64 n_Grow97) ∧ w93.cell? ⟨b13, 4, none⟩ = some (.int .i64 n_GrowBack98) ∧ w93.cell? ⟨b13, 5, none⟩ = some (s_Ins99.val) ∧ w93.cell? ⟨b13, 6, none⟩ = some (s_Outs100.val) ∧ w93.cell? ⟨b13, 7, none⟩ = some (.int .i64 n_Last101) ∧ w93.cell? ⟨b13, 8, none⟩ = some (s_Cells102.val) ∧
 Calls Try.prog fn_slots_Least #[.agg #[.int .i64 n_Start94, .int .i64 n_Slots95, .int .i64 n_Backs96, .int .i64 n_Grow97, .int .i64 n_GrowBack98, s_Ins99.val, s_Outs100.val, .int .i64 n_Last101, s_Cells102.val]] w93 fun e103 w104 => ∃ n105 : Int, e103 = .returned (.int .i64 n105) ∧
 brB (n105 != n_1)
 (J21 true w104)
 (Calls Try.prog fn_slots_Code_Registers #[.pointer p56] w104 fun e106 w107 => ∃ n108 : Int, e106 = .returned (.int .i64 n108) ∧
 brB (decide (n108 > n_1))
 (J21 true w107)
 (∃ n109 : Int, w107.cell? ⟨b90, 0, none⟩ = some (.int .i64 n109) ∧
 brB (n109 != (0 : Int))
 (J21 true w107)
 (∃ s110 : Sl, w107.cell? ⟨b88, 2, none⟩ = some (s110.val) ∧
 J21 ((s110.len : Int) != n_1) w107)))))))) ∧
 brB (decide (n_1 < (1 : Int)))
 (J3 true w)
 (brB (decide (n_1 > (40 : Int)))
 (J3 true w)
 (brB (decide ((l_2.len : Int) > (40 : Int)))
 (J3 true w)
 (Calls Try.prog fn_hollowaylaw20_alive #[] w fun e3 w4 => ∃ b5 : Bool, e3 = .returned (.bool b5) ∧
 J3 (!b5) w4)))
def hollowaylaw20_SlotsMany_an : An := ⟨[(6, [(6, .sl), (7, .int .i64)]), (20, [(15, .int .i64)])], [(12, (10, .st 0 (.st 1 (.st 2 (.st 3 (.st 4 (.st 5 (.st 6 (.st 7 (.ef 8 (.ef 9 .done))))))))), 1)), (22, (10, .st 0 (.st 1 (.st 2 (.st 3 (.st 4 (.st 5 (.st 6 (.st 7 (.st 8 (.st 9 .done))))))))), 0))], [(2, [(30, .bool)]), (11, [(8, .int .i64)]), (18, [(120, .bool)])]⟩
theorem hollowaylaw20_SlotsMany_lift {n_1 : Int} {l_2 : Sl} {w : World} {K : Value → World → Prop} (h : hollowaylaw20_SlotsMany_sh n_1 l_2 w K) : Calls Try.prog fn_hollowaylaw20_SlotsMany #[.int .i64 n_1, l_2.val] w fun e w' => ∃ v, e = .returned v ∧ K v w' :=
   lift_calls (A := hollowaylaw20_SlotsMany_an) (c := bodyOf Try.f15) (args := [.int .i64 n_1, l_2.val]) orc orc_wide Try.func15 (by kernel_rfl) (by kernel_rfl) (Eq.mp (by kernel_rfl : hollowaylaw20_SlotsMany_sh n_1 l_2 w K = wpc orc Try.f15.ntmps hollowaylaw20_SlotsMany_an (bodyOf Try.f15) (argl 0 [.int .i64 n_1, l_2.val]) w (retQ orc Try.f15.results.toList K)) h)

-- holloway/hollowaylaw20.alive
def hollowaylaw20_alive_sh  (w : World) (K : Value → World → Prop) : Prop :=
 ∀ (b1 : Nat) (w2 : World), b1 = w.heap.size → w2 = World.alloc w (.cells #[.int .i64 (2 : Int), .int .i64 (0 : Int), .int .i64 (0 : Int), .int .i64 (0 : Int), .int .i64 (0 : Int), .int .i64 (4 : Int), .int .i64 (11 : Int), .int .i64 (0 : Int), .int .i64 (0 : Int), .int .i64 (0 : Int)] T_api_Ins) →
 ∀ (b3 : Nat) (w4 : World), b3 = w2.heap.size → w4 = World.alloc w2 (.cells #[.int .i64 (1 : Int)] T_int) →
 ∀ (b5 : Nat) (w6 : World), b5 = w4.heap.size → w6 = World.alloc w4 (.cells #[.int .i64 (7 : Int), .int .i64 (2 : Int), .slice (some ⟨b3, 0, none⟩) 1 1, .slice none 0 0] T_api_Out) →
 ∀ (b7 : Nat) (w8 : World), b7 = w6.heap.size → w8 = World.alloc w6 (.cells #[.int .i64 (0 : Int), .int .i64 (0 : Int), .int .i64 (0 : Int), .int .i64 (0 : Int), .int .i64 (0 : Int), .slice none 0 0, .slice none 0 0, .int .i64 (0 : Int), .slice none 0 0] T_api_Trace) →
 wrOk w8 ⟨b7, 0, none⟩ 9 ∧ ∀ w9 : World, w9 = stW w8 ⟨b7, 0, none⟩ 0 [.int .i64 (5 : Int), .int .i64 (1 : Int), .int .i64 (0 : Int), .int .i64 (0 : Int), .int .i64 (0 : Int), .slice (some ⟨b1, 0, none⟩) 2 2, .slice (some ⟨b5, 0, none⟩) 1 1, .int .i64 (0 : Int), .slice none 0 0] →
 ∃ n_Start10 : Int, ∃ n_Slots11 : Int, ∃ n_Backs12 : Int, ∃ n_Grow13 : Int, ∃ n_GrowBack14 : Int, ∃ s_Ins15 : Sl, ∃ s_Outs16 : Sl, ∃ n_Last17 : Int, ∃ s_Cells18 : Sl, w9.cell? ⟨b7, 0, none⟩ = some (.int .i64 n_Start10) ∧ w9.cell? ⟨b7, 1, none⟩ = some (.int .i64 n_Slots11) ∧ w9.cell? ⟨b7, 2, none⟩ = some (.int .i64 n_Backs12) ∧ w9.cell? ⟨b7, 3, none⟩ = some (.int .i64 n_Grow13) ∧ w9.cell? ⟨b7, 4, none⟩ = some (.int .i64 n_GrowBack14) ∧ w9.cell? ⟨b7, 5, none⟩ = some (s_Ins15.val) ∧ w9.cell? ⟨b7, 6, none⟩ = some (s_Outs16.val) ∧ w9.cell? ⟨b7, 7, none⟩ = some (.int .i64 n_Last17) ∧ w9.cell? ⟨b7, 8, none⟩ = some (s_Cells18.val) ∧
 Calls Try.prog fn_slots_Make #[.agg #[.int .i64 n_Start10, .int .i64 n_Slots11, .int .i64 n_Backs12, .int .i64 n_Grow13, .int .i64 n_GrowBack14, s_Ins15.val, s_Outs16.val, .int .i64 n_Last17, s_Cells18.val], .int .i64 (2 : Int)] w9 fun e19 w20 => ∃ p21 : Option Addr, ∃ b22 : Bool, e19 = .returned (.tuple #[.pointer p21, .bool b22]) ∧
 ∃ n_Start23 : Int, ∃ n_Slots24 : Int, ∃ n_Backs25 : Int, ∃ n_Grow26 : Int, ∃ n_GrowBack27 : Int, ∃ s_Ins28 : Sl, ∃ s_Outs29 : Sl, ∃ n_Last30 : Int, ∃ s_Cells31 : Sl, w20.cell? ⟨b7, 0, none⟩ = some (.int .i64 n_Start23) ∧ w20.cell? ⟨b7, 1, none⟩ = some (.int .i64 n_Slots24) ∧ w20.cell? ⟨b7, 2, none⟩ = some (.int .i64 n_Backs25) ∧ w20.cell? ⟨b7, 3, none⟩ = some (.int .i64 n_Grow26) ∧ w20.cell? ⟨b7, 4, none⟩ = some (.int .i64 n_GrowBack27) ∧ w20.cell? ⟨b7, 5, none⟩ = some (s_Ins28.val) ∧ w20.cell? ⟨b7, 6, none⟩ = some (s_Outs29.val) ∧ w20.cell? ⟨b7, 7, none⟩ = some (.int .i64 n_Last30) ∧ w20.cell? ⟨b7, 8, none⟩ = some (s_Cells31.val) ∧
 Calls Try.prog fn_slots_Make #[.agg #[.int .i64 n_Start23, .int .i64 n_Slots24, .int .i64 n_Backs25, .int .i64 n_Grow26, .int .i64 n_GrowBack27, s_Ins28.val, s_Outs29.val, .int .i64 n_Last30, s_Cells31.val], .int .i64 (1 : Int)] w20 fun e32 w33 => ∃ p34 : Option Addr, ∃ b35 : Bool, e32 = .returned (.tuple #[.pointer p34, .bool b35]) ∧
 ∃ n_Start36 : Int, ∃ n_Slots37 : Int, ∃ n_Backs38 : Int, ∃ n_Grow39 : Int, ∃ n_GrowBack40 : Int, ∃ s_Ins41 : Sl, ∃ s_Outs42 : Sl, ∃ n_Last43 : Int, ∃ s_Cells44 : Sl, w33.cell? ⟨b7, 0, none⟩ = some (.int .i64 n_Start36) ∧ w33.cell? ⟨b7, 1, none⟩ = some (.int .i64 n_Slots37) ∧ w33.cell? ⟨b7, 2, none⟩ = some (.int .i64 n_Backs38) ∧ w33.cell? ⟨b7, 3, none⟩ = some (.int .i64 n_Grow39) ∧ w33.cell? ⟨b7, 4, none⟩ = some (.int .i64 n_GrowBack40) ∧ w33.cell? ⟨b7, 5, none⟩ = some (s_Ins41.val) ∧ w33.cell? ⟨b7, 6, none⟩ = some (s_Outs42.val) ∧ w33.cell? ⟨b7, 7, none⟩ = some (.int .i64 n_Last43) ∧ w33.cell? ⟨b7, 8, none⟩ = some (s_Cells44.val) ∧
 Calls Try.prog fn_slots_Least #[.agg #[.int .i64 n_Start36, .int .i64 n_Slots37, .int .i64 n_Backs38, .int .i64 n_Grow39, .int .i64 n_GrowBack40, s_Ins41.val, s_Outs42.val, .int .i64 n_Last43, s_Cells44.val]] w33 fun e45 w46 => ∃ n47 : Int, e45 = .returned (.int .i64 n47) ∧
 brB (n47 == (2 : Int))
 (brB b22
 (brB (!(Option.isNone p21))
 (brB (!b35)
 (Calls Try.prog fn_slots_Code_Registers #[.pointer p21] w46 fun e48 w49 => ∃ n50 : Int, e48 = .returned (.int .i64 n50) ∧
 brB (decide (n50 ≥ (1 : Int)))
 (Calls Try.prog fn_slots_Code_Registers #[.pointer p21] w49 fun e51 w52 => ∃ n53 : Int, e51 = .returned (.int .i64 n53) ∧
 brB (decide (n53 ≤ (2 : Int)))
 (Calls Try.prog fn_slots_Code_Len #[.pointer p21] w52 fun e54 w55 => ∃ n56 : Int, e54 = .returned (.int .i64 n56) ∧
 K (.bool (n56 == (2 : Int))) w55)
 (K (.bool false) w52))
 (K (.bool false) w49))
 (K (.bool false) w46))
 (K (.bool false) w46))
 (K (.bool false) w46))
 (K (.bool false) w46)
def hollowaylaw20_alive_an : An := ⟨[], [], []⟩
theorem hollowaylaw20_alive_lift  {w : World} {K : Value → World → Prop} (h : hollowaylaw20_alive_sh  w K) : Calls Try.prog fn_hollowaylaw20_alive #[] w fun e w' => ∃ v, e = .returned v ∧ K v w' :=
   lift_calls (A := hollowaylaw20_alive_an) (c := bodyOf Try.f41) (args := []) orc orc_wide Try.func41 (by kernel_rfl) (by kernel_rfl) (Eq.mp (by kernel_rfl : hollowaylaw20_alive_sh  w K = wpc orc Try.f41.ntmps hollowaylaw20_alive_an (bodyOf Try.f41) (argl 0 []) w (retQ orc Try.f41.results.toList K)) h)

end Go.Proofs.Ytblmoilneiffgaa
