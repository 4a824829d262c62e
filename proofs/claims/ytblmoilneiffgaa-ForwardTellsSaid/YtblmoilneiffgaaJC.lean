/- The lifted texts of the laws. -/
import Derived.Test.YtblmoilneiffgaaJ4

/- Functions of Hollowaylaw15, read without their frames; that each is enough. Printed by a program of mine (wip/lift/gen.py). -/
set_option maxRecDepth 100000
namespace Go.Proofs.Ytblmoilneiffgaa
open Go.RowKit

-- holloway/hollowaylaw15.EvalWatched
-- holloway/hollowaylaw15.EvalEmpty
-- holloway/hollowaylaw15.EvalGuards
-- holloway/hollowaylaw15.alive
end Go.Proofs.Ytblmoilneiffgaa

/- Functions of Hollowaylaw18, read without their frames; that each is enough. Printed by a program of mine (wip/lift/gen.py). -/
set_option maxRecDepth 100000
namespace Go.Proofs.Ytblmoilneiffgaa
open Go.RowKit

-- holloway/hollowaylaw18.ForwardTells
def hollowaylaw18_ForwardTells_sh (t__Start1 : Int) (t__Slots2 : Int) (t__Backs3 : Int) (t__Grow4 : Int) (t__GrowBack5 : Int) (t__Ins6 : Sl) (t__Outs7 : Sl) (t__Last8 : Int) (t__Cells9 : Sl) (w : World) (K : Value → World → Prop) : Prop :=
 ∀ (b10 : Nat) (w11 : World), b10 = w.heap.size → w11 = World.alloc w (.cells #[.int .i64 t__Start1, .int .i64 t__Slots2, .int .i64 t__Backs3, .int .i64 t__Grow4, .int .i64 t__GrowBack5, t__Ins6.val, t__Outs7.val, .int .i64 t__Last8, t__Cells9.val] T_api_Trace) →
 ∃ J3 : Bool → World → Prop, (∀ (b28 : Bool) (w27 : World), J3 b28 w27 →
 brB b28
 (Calls Try.prog fn_hollowaylaw18_alive #[] w27 fun e29 w30 => ∃ b31 : Bool, e29 = .returned (.bool b31) ∧
 K (.bool b31) w30)
 (∃ n_Start32 : Int, ∃ n_Slots33 : Int, ∃ n_Backs34 : Int, ∃ n_Grow35 : Int, ∃ n_GrowBack36 : Int, ∃ s_Ins37 : Sl, ∃ s_Outs38 : Sl, ∃ n_Last39 : Int, ∃ s_Cells40 : Sl, w27.cell? ⟨b10, 0, none⟩ = some (.int .i64 n_Start32) ∧ w27.cell? ⟨b10, 1, none⟩ = some (.int .i64 n_Slots33) ∧ w27.cell? ⟨b10, 2, none⟩ = some (.int .i64 n_Backs34) ∧ w27.cell? ⟨b10, 3, none⟩ = some (.int .i64 n_Grow35) ∧ w27.cell? ⟨b10, 4, none⟩ = some (.int .i64 n_GrowBack36) ∧ w27.cell? ⟨b10, 5, none⟩ = some (s_Ins37.val) ∧ w27.cell? ⟨b10, 6, none⟩ = some (s_Outs38.val) ∧ w27.cell? ⟨b10, 7, none⟩ = some (.int .i64 n_Last39) ∧ w27.cell? ⟨b10, 8, none⟩ = some (s_Cells40.val) ∧
 Calls Try.prog fn_hollowaybook_LentTrace #[.agg #[.int .i64 n_Start32, .int .i64 n_Slots33, .int .i64 n_Backs34, .int .i64 n_Grow35, .int .i64 n_GrowBack36, s_Ins37.val, s_Outs38.val, .int .i64 n_Last39, s_Cells40.val]] w27 fun e41 w42 => ∃ n_Start43 : Int, ∃ n_Slots44 : Int, ∃ n_Backs45 : Int, ∃ n_Grow46 : Int, ∃ n_GrowBack47 : Int, ∃ s_Ins48 : Sl, ∃ s_Outs49 : Sl, ∃ n_Last50 : Int, ∃ s_Cells51 : Sl, e41 = .returned (.agg #[.int .i64 n_Start43, .int .i64 n_Slots44, .int .i64 n_Backs45, .int .i64 n_Grow46, .int .i64 n_GrowBack47, s_Ins48.val, s_Outs49.val, .int .i64 n_Last50, s_Cells51.val]) ∧
 ∀ (b52 : Nat) (w53 : World), b52 = w42.heap.size → w53 = World.alloc w42 (.cells #[.int .i64 (0 : Int), .int .i64 (0 : Int), .int .i64 (0 : Int), .int .i64 (0 : Int), .int .i64 (0 : Int), .slice none 0 0, .slice none 0 0, .int .i64 (0 : Int), .slice none 0 0] T_api_Trace) →
 wrOk w53 ⟨b52, 0, none⟩ 9 ∧ ∀ w54 : World, w54 = stW w53 ⟨b52, 0, none⟩ 0 [.int .i64 n_Start43, .int .i64 n_Slots44, .int .i64 n_Backs45, .int .i64 n_Grow46, .int .i64 n_GrowBack47, s_Ins48.val, s_Outs49.val, .int .i64 n_Last50, s_Cells51.val] →
 ∀ w55 : World, w55 = World.drew w54 →
 ∃ S56 : World → Prop, S56 w55 ∧
 ∃ n_Start57 : Int, ∃ n_Slots58 : Int, ∃ n_Backs59 : Int, ∃ n_Grow60 : Int, ∃ n_GrowBack61 : Int, ∃ s_Ins62 : Sl, ∃ s_Outs63 : Sl, ∃ n_Last64 : Int, ∃ s_Cells65 : Sl, held S56 ⟨b52, 0, none⟩ (.int .i64 n_Start57) ∧ held S56 ⟨b52, 1, none⟩ (.int .i64 n_Slots58) ∧ held S56 ⟨b52, 2, none⟩ (.int .i64 n_Backs59) ∧ held S56 ⟨b52, 3, none⟩ (.int .i64 n_Grow60) ∧ held S56 ⟨b52, 4, none⟩ (.int .i64 n_GrowBack61) ∧ held S56 ⟨b52, 5, none⟩ (s_Ins62.val) ∧ held S56 ⟨b52, 6, none⟩ (s_Outs63.val) ∧ held S56 ⟨b52, 7, none⟩ (.int .i64 n_Last64) ∧ held S56 ⟨b52, 8, none⟩ (s_Cells65.val) ∧
 ∃ n_Start66 : Int, ∃ n_Slots67 : Int, ∃ n_Backs68 : Int, ∃ n_Grow69 : Int, ∃ n_GrowBack70 : Int, ∃ s_Ins71 : Sl, ∃ s_Outs72 : Sl, ∃ n_Last73 : Int, ∃ s_Cells74 : Sl, held S56 ⟨b52, 0, none⟩ (.int .i64 n_Start66) ∧ held S56 ⟨b52, 1, none⟩ (.int .i64 n_Slots67) ∧ held S56 ⟨b52, 2, none⟩ (.int .i64 n_Backs68) ∧ held S56 ⟨b52, 3, none⟩ (.int .i64 n_Grow69) ∧ held S56 ⟨b52, 4, none⟩ (.int .i64 n_GrowBack70) ∧ held S56 ⟨b52, 5, none⟩ (s_Ins71.val) ∧ held S56 ⟨b52, 6, none⟩ (s_Outs72.val) ∧ held S56 ⟨b52, 7, none⟩ (.int .i64 n_Last73) ∧ held S56 ⟨b52, 8, none⟩ (s_Cells74.val) ∧
 ∃ Z75 : List (Nat × List Value) → World → Prop, Z75 [] w55 ∧
 (∀ lg76 : List (Nat × List Value), ∀ w77 : World, S56 w77 → Z75 lg76 w77 →
 Calls Try.prog fn_forward_Do #[.agg #[.int .i64 n_Start57, .int .i64 n_Slots58, .int .i64 n_Backs59, .int .i64 n_Grow60, .int .i64 n_GrowBack61, s_Ins62.val, s_Outs63.val, .int .i64 n_Last64, s_Cells65.val]] w77 fun e78 w79 => ∃ n_Start80 : Int, ∃ n_Slots81 : Int, ∃ n_Backs82 : Int, ∃ n_Grow83 : Int, ∃ n_GrowBack84 : Int, ∃ s_Ins85 : Sl, ∃ s_Outs86 : Sl, ∃ n_Last87 : Int, ∃ s_Cells88 : Sl, e78 = .returned (.agg #[.int .i64 n_Start80, .int .i64 n_Slots81, .int .i64 n_Backs82, .int .i64 n_Grow83, .int .i64 n_GrowBack84, s_Ins85.val, s_Outs86.val, .int .i64 n_Last87, s_Cells88.val]) ∧
 S56 w79 ∧ True ∧ Z75 (lg76 ++ [(1, ([.int .i64 n_Start80, .int .i64 n_Slots81, .int .i64 n_Backs82, .int .i64 n_Grow83, .int .i64 n_GrowBack84, s_Ins85.val, s_Outs86.val, .int .i64 n_Last87, s_Cells88.val] : List Value))]) w79) ∧
 (∀ lg89 : List (Nat × List Value), ∀ w90 : World, S56 w90 → Z75 lg89 w90 →
 Calls Try.prog fn_forward_Do #[.agg #[.int .i64 n_Start66, .int .i64 n_Slots67, .int .i64 n_Backs68, .int .i64 n_Grow69, .int .i64 n_GrowBack70, s_Ins71.val, s_Outs72.val, .int .i64 n_Last73, s_Cells74.val]] w90 fun e91 w92 => ∃ n_Start93 : Int, ∃ n_Slots94 : Int, ∃ n_Backs95 : Int, ∃ n_Grow96 : Int, ∃ n_GrowBack97 : Int, ∃ s_Ins98 : Sl, ∃ s_Outs99 : Sl, ∃ n_Last100 : Int, ∃ s_Cells101 : Sl, e91 = .returned (.agg #[.int .i64 n_Start93, .int .i64 n_Slots94, .int .i64 n_Backs95, .int .i64 n_Grow96, .int .i64 n_GrowBack97, s_Ins98.val, s_Outs99.val, .int .i64 n_Last100, s_Cells101.val]) ∧
 S56 w92 ∧ True ∧ Z75 (lg89 ++ [(3, ([.int .i64 n_Start93, .int .i64 n_Slots94, .int .i64 n_Backs95, .int .i64 n_Grow96, .int .i64 n_GrowBack97, s_Ins98.val, s_Outs99.val, .int .i64 n_Last100, s_Cells101.val] : List Value))]) w92) ∧
 (∀ lg102 : List (Nat × List Value), ∀ w103 : World, S56 w103 → Z75 lg102 w103 →
 ∀ (b104 : Nat) (w105 : World), b104 = w103.heap.size → w105 = World.alloc w103 (.cells #[.int .i64 (0 : Int), .int .i64 (0 : Int), .int .i64 (0 : Int), .int .i64 (0 : Int), .int .i64 (0 : Int), .slice none 0 0, .slice none 0 0, .int .i64 (0 : Int), .slice none 0 0] T_api_Trace) →
 S56 w105 ∧ True ∧ Z75 (lg102 ++ [(4, ([.pointer (some ⟨b104, 0, none⟩)] : List Value))]) w105) ∧
 (∀ lg106 : List (Nat × List Value), ∀ w107 : World, S56 w107 → Z75 lg106 w107 →
 ∀ (b108 : Nat) (w109 : World), b108 = w107.heap.size → w109 = World.alloc w107 (.cells #[.int .i64 (0 : Int), .int .i64 (0 : Int), .int .i64 (0 : Int), .int .i64 (0 : Int), .int .i64 (0 : Int), .slice none 0 0, .slice none 0 0, .int .i64 (0 : Int), .slice none 0 0] T_api_Trace) →
 S56 w109 ∧ True ∧ Z75 (lg106 ++ [(5, ([.pointer (some ⟨b108, 0, none⟩)] : List Value))]) w109) ∧
 ∀ lg110 : List (Nat × List Value), ∀ w111 : World, S56 w111 → Z75 lg110 w111 →
 ∀ (n112 : Int) (n113 : Int) (n114 : Int) (n115 : Int) (n116 : Int) (s117 : Sl) (s118 : Sl) (n119 : Int) (s120 : Sl), (1, ([.int .i64 n112, .int .i64 n113, .int .i64 n114, .int .i64 n115, .int .i64 n116, s117.val, s118.val, .int .i64 n119, s120.val] : List Value)) ∈ lg110 →
 ∀ (n121 : Int) (n122 : Int) (n123 : Int) (n124 : Int) (n125 : Int) (s126 : Sl) (s127 : Sl) (n128 : Int) (s129 : Sl), (3, ([.int .i64 n121, .int .i64 n122, .int .i64 n123, .int .i64 n124, .int .i64 n125, s126.val, s127.val, .int .i64 n128, s129.val] : List Value)) ∈ lg110 →
 ∀ (a130 : Nat), (4, ([.pointer (some ⟨a130, 0, none⟩)] : List Value)) ∈ lg110 →
 ∀ (b131 : Nat), (5, ([.pointer (some ⟨b131, 0, none⟩)] : List Value)) ∈ lg110 →
 wrOk w111 ⟨a130, 0, none⟩ 9 ∧ ∀ w132 : World, w132 = stW w111 ⟨a130, 0, none⟩ 0 [.int .i64 n112, .int .i64 n113, .int .i64 n114, .int .i64 n115, .int .i64 n116, s117.val, s118.val, .int .i64 n119, s120.val] →
 wrOk w132 ⟨b131, 0, none⟩ 9 ∧ ∀ w133 : World, w133 = stW w132 ⟨b131, 0, none⟩ 0 [.int .i64 n121, .int .i64 n122, .int .i64 n123, .int .i64 n124, .int .i64 n125, s126.val, s127.val, .int .i64 n128, s129.val] →
 ∃ J8 : Bool → World → Prop, (∀ (b177 : Bool) (w176 : World), J8 b177 w176 →
 brB b177
 (K (.bool false) w176)
 (∃ n_Start178 : Int, ∃ n_Slots179 : Int, ∃ n_Backs180 : Int, ∃ n_Grow181 : Int, ∃ n_GrowBack182 : Int, ∃ s_Ins183 : Sl, ∃ s_Outs184 : Sl, ∃ n_Last185 : Int, ∃ s_Cells186 : Sl, w176.cell? ⟨b10, 0, none⟩ = some (.int .i64 n_Start178) ∧ w176.cell? ⟨b10, 1, none⟩ = some (.int .i64 n_Slots179) ∧ w176.cell? ⟨b10, 2, none⟩ = some (.int .i64 n_Backs180) ∧ w176.cell? ⟨b10, 3, none⟩ = some (.int .i64 n_Grow181) ∧ w176.cell? ⟨b10, 4, none⟩ = some (.int .i64 n_GrowBack182) ∧ w176.cell? ⟨b10, 5, none⟩ = some (s_Ins183.val) ∧ w176.cell? ⟨b10, 6, none⟩ = some (s_Outs184.val) ∧ w176.cell? ⟨b10, 7, none⟩ = some (.int .i64 n_Last185) ∧ w176.cell? ⟨b10, 8, none⟩ = some (s_Cells186.val) ∧
 Calls Try.prog fn_hollowayref15_Right #[.agg #[.int .i64 n_Start178, .int .i64 n_Slots179, .int .i64 n_Backs180, .int .i64 n_Grow181, .int .i64 n_GrowBack182, s_Ins183.val, s_Outs184.val, .int .i64 n_Last185, s_Cells186.val]] w176 fun e187 w188 => ∃ b189 : Bool, e187 = .returned (.bool b189) ∧
 brB (!b189)
 (∃ n_Start190 : Int, ∃ n_Slots191 : Int, ∃ n_Backs192 : Int, ∃ n_Grow193 : Int, ∃ n_GrowBack194 : Int, ∃ s_Ins195 : Sl, ∃ s_Outs196 : Sl, ∃ n_Last197 : Int, ∃ s_Cells198 : Sl, w188.cell? ⟨a130, 0, none⟩ = some (.int .i64 n_Start190) ∧ w188.cell? ⟨a130, 1, none⟩ = some (.int .i64 n_Slots191) ∧ w188.cell? ⟨a130, 2, none⟩ = some (.int .i64 n_Backs192) ∧ w188.cell? ⟨a130, 3, none⟩ = some (.int .i64 n_Grow193) ∧ w188.cell? ⟨a130, 4, none⟩ = some (.int .i64 n_GrowBack194) ∧ w188.cell? ⟨a130, 5, none⟩ = some (s_Ins195.val) ∧ w188.cell? ⟨a130, 6, none⟩ = some (s_Outs196.val) ∧ w188.cell? ⟨a130, 7, none⟩ = some (.int .i64 n_Last197) ∧ w188.cell? ⟨a130, 8, none⟩ = some (s_Cells198.val) ∧
 ∃ n_Start199 : Int, ∃ n_Slots200 : Int, ∃ n_Backs201 : Int, ∃ n_Grow202 : Int, ∃ n_GrowBack203 : Int, ∃ s_Ins204 : Sl, ∃ s_Outs205 : Sl, ∃ n_Last206 : Int, ∃ s_Cells207 : Sl, w188.cell? ⟨b10, 0, none⟩ = some (.int .i64 n_Start199) ∧ w188.cell? ⟨b10, 1, none⟩ = some (.int .i64 n_Slots200) ∧ w188.cell? ⟨b10, 2, none⟩ = some (.int .i64 n_Backs201) ∧ w188.cell? ⟨b10, 3, none⟩ = some (.int .i64 n_Grow202) ∧ w188.cell? ⟨b10, 4, none⟩ = some (.int .i64 n_GrowBack203) ∧ w188.cell? ⟨b10, 5, none⟩ = some (s_Ins204.val) ∧ w188.cell? ⟨b10, 6, none⟩ = some (s_Outs205.val) ∧ w188.cell? ⟨b10, 7, none⟩ = some (.int .i64 n_Last206) ∧ w188.cell? ⟨b10, 8, none⟩ = some (s_Cells207.val) ∧
 Calls Try.prog fn_hollowaybook_SameTrace #[.agg #[.int .i64 n_Start190, .int .i64 n_Slots191, .int .i64 n_Backs192, .int .i64 n_Grow193, .int .i64 n_GrowBack194, s_Ins195.val, s_Outs196.val, .int .i64 n_Last197, s_Cells198.val], .agg #[.int .i64 n_Start199, .int .i64 n_Slots200, .int .i64 n_Backs201, .int .i64 n_Grow202, .int .i64 n_GrowBack203, s_Ins204.val, s_Outs205.val, .int .i64 n_Last206, s_Cells207.val]] w188 fun e208 w209 => ∃ b210 : Bool, e208 = .returned (.bool b210) ∧
 K (.bool b210) w209)
 (∀ (b211 : Nat) (w212 : World), b211 = w188.heap.size → w212 = World.alloc w188 (.cells #[.slice none 0 0, .slice none 0 0, .slice none 0 0, .slice none 0 0, .slice none 0 0, .slice none 0 0, .slice none 0 0, .slice none 0 0, .slice none 0 0, .slice none 0 0, .slice none 0 0, .slice none 0 0] T_hollowaybook_Book) →
 ∃ n_Start213 : Int, ∃ n_Slots214 : Int, ∃ n_Backs215 : Int, ∃ n_Grow216 : Int, ∃ n_GrowBack217 : Int, ∃ s_Ins218 : Sl, ∃ s_Outs219 : Sl, ∃ n_Last220 : Int, ∃ s_Cells221 : Sl, w212.cell? ⟨a130, 0, none⟩ = some (.int .i64 n_Start213) ∧ w212.cell? ⟨a130, 1, none⟩ = some (.int .i64 n_Slots214) ∧ w212.cell? ⟨a130, 2, none⟩ = some (.int .i64 n_Backs215) ∧ w212.cell? ⟨a130, 3, none⟩ = some (.int .i64 n_Grow216) ∧ w212.cell? ⟨a130, 4, none⟩ = some (.int .i64 n_GrowBack217) ∧ w212.cell? ⟨a130, 5, none⟩ = some (s_Ins218.val) ∧ w212.cell? ⟨a130, 6, none⟩ = some (s_Outs219.val) ∧ w212.cell? ⟨a130, 7, none⟩ = some (.int .i64 n_Last220) ∧ w212.cell? ⟨a130, 8, none⟩ = some (s_Cells221.val) ∧
 Calls Try.prog fn_hollowaybook_Book_Trace #[.pointer (some ⟨b211, 0, none⟩), .agg #[.int .i64 n_Start213, .int .i64 n_Slots214, .int .i64 n_Backs215, .int .i64 n_Grow216, .int .i64 n_GrowBack217, s_Ins218.val, s_Outs219.val, .int .i64 n_Last220, s_Cells221.val]] w212 fun e222 w223 => e222 = .returned (.tuple #[]) ∧
 ∃ n_Start224 : Int, ∃ n_Slots225 : Int, ∃ n_Backs226 : Int, ∃ n_Grow227 : Int, ∃ n_GrowBack228 : Int, ∃ s_Ins229 : Sl, ∃ s_Outs230 : Sl, ∃ n_Last231 : Int, ∃ s_Cells232 : Sl, w223.cell? ⟨b131, 0, none⟩ = some (.int .i64 n_Start224) ∧ w223.cell? ⟨b131, 1, none⟩ = some (.int .i64 n_Slots225) ∧ w223.cell? ⟨b131, 2, none⟩ = some (.int .i64 n_Backs226) ∧ w223.cell? ⟨b131, 3, none⟩ = some (.int .i64 n_Grow227) ∧ w223.cell? ⟨b131, 4, none⟩ = some (.int .i64 n_GrowBack228) ∧ w223.cell? ⟨b131, 5, none⟩ = some (s_Ins229.val) ∧ w223.cell? ⟨b131, 6, none⟩ = some (s_Outs230.val) ∧ w223.cell? ⟨b131, 7, none⟩ = some (.int .i64 n_Last231) ∧ w223.cell? ⟨b131, 8, none⟩ = some (s_Cells232.val) ∧
 Calls Try.prog fn_hollowaybook_Book_Trace #[.pointer (some ⟨b211, 0, none⟩), .agg #[.int .i64 n_Start224, .int .i64 n_Slots225, .int .i64 n_Backs226, .int .i64 n_Grow227, .int .i64 n_GrowBack228, s_Ins229.val, s_Outs230.val, .int .i64 n_Last231, s_Cells232.val]] w223 fun e233 w234 => e233 = .returned (.tuple #[]) ∧
 ∃ J17 : Bool → World → Prop, (∀ (b317 : Bool) (w316 : World), J17 b317 w316 →
 brB b317
 (K (.bool false) w316)
 (∀ w318 : World, w318 = World.drew w316 →
 ∃ S319 : World → Prop, S319 w318 ∧
 ∃ n_Start320 : Int, ∃ n_Slots321 : Int, ∃ n_Backs322 : Int, ∃ n_Grow323 : Int, ∃ n_GrowBack324 : Int, ∃ s_Ins325 : Sl, ∃ s_Outs326 : Sl, ∃ n_Last327 : Int, ∃ s_Cells328 : Sl, held S319 ⟨a130, 0, none⟩ (.int .i64 n_Start320) ∧ held S319 ⟨a130, 1, none⟩ (.int .i64 n_Slots321) ∧ held S319 ⟨a130, 2, none⟩ (.int .i64 n_Backs322) ∧ held S319 ⟨a130, 3, none⟩ (.int .i64 n_Grow323) ∧ held S319 ⟨a130, 4, none⟩ (.int .i64 n_GrowBack324) ∧ held S319 ⟨a130, 5, none⟩ (s_Ins325.val) ∧ held S319 ⟨a130, 6, none⟩ (s_Outs326.val) ∧ held S319 ⟨a130, 7, none⟩ (.int .i64 n_Last327) ∧ held S319 ⟨a130, 8, none⟩ (s_Cells328.val) ∧
 ∃ s329 : Sl, held S319 ⟨a130, 5, none⟩ (s329.val) ∧
 Calls Try.prog fn_forward_Do #[.agg #[.int .i64 n_Start320, .int .i64 n_Slots321, .int .i64 n_Backs322, .int .i64 n_Grow323, .int .i64 n_GrowBack324, s_Ins325.val, s_Outs326.val, .int .i64 n_Last327, s_Cells328.val]] w318 fun e330 w331 => ∃ n_Start332 : Int, ∃ n_Slots333 : Int, ∃ n_Backs334 : Int, ∃ n_Grow335 : Int, ∃ n_GrowBack336 : Int, ∃ s_Ins337 : Sl, ∃ s_Outs338 : Sl, ∃ n_Last339 : Int, ∃ s_Cells340 : Sl, e330 = .returned (.agg #[.int .i64 n_Start332, .int .i64 n_Slots333, .int .i64 n_Backs334, .int .i64 n_Grow335, .int .i64 n_GrowBack336, s_Ins337.val, s_Outs338.val, .int .i64 n_Last339, s_Cells340.val]) ∧
 S319 w331 ∧
 S319 w331 ∧
 brB ((s_Ins337.len : Int) == (s329.len : Int))
 (Calls Try.prog fn_hollowaybook_Book_Apart #[.pointer (some ⟨b211, 0, none⟩)] w331 fun e341 w342 => ∃ b343 : Bool, e341 = .returned (.bool b343) ∧
 K (.bool b343) w342)
 (K (.bool false) w331))) ∧
 ∀ w235 : World, w235 = World.drew w234 →
 ∃ S236 : World → Prop, S236 w235 ∧
 ∃ n_Start237 : Int, ∃ n_Slots238 : Int, ∃ n_Backs239 : Int, ∃ n_Grow240 : Int, ∃ n_GrowBack241 : Int, ∃ s_Ins242 : Sl, ∃ s_Outs243 : Sl, ∃ n_Last244 : Int, ∃ s_Cells245 : Sl, held S236 ⟨a130, 0, none⟩ (.int .i64 n_Start237) ∧ held S236 ⟨a130, 1, none⟩ (.int .i64 n_Slots238) ∧ held S236 ⟨a130, 2, none⟩ (.int .i64 n_Backs239) ∧ held S236 ⟨a130, 3, none⟩ (.int .i64 n_Grow240) ∧ held S236 ⟨a130, 4, none⟩ (.int .i64 n_GrowBack241) ∧ held S236 ⟨a130, 5, none⟩ (s_Ins242.val) ∧ held S236 ⟨a130, 6, none⟩ (s_Outs243.val) ∧ held S236 ⟨a130, 7, none⟩ (.int .i64 n_Last244) ∧ held S236 ⟨a130, 8, none⟩ (s_Cells245.val) ∧
 Calls Try.prog fn_hollowayref15_Right #[.agg #[.int .i64 n_Start237, .int .i64 n_Slots238, .int .i64 n_Backs239, .int .i64 n_Grow240, .int .i64 n_GrowBack241, s_Ins242.val, s_Outs243.val, .int .i64 n_Last244, s_Cells245.val]] w235 fun e246 w247 => ∃ b248 : Bool, e246 = .returned (.bool b248) ∧
 S236 w247 ∧
 brB (!b248)
 (J17 true w247)
 (∃ n249 : Int, held S236 ⟨a130, 0, none⟩ (.int .i64 n249) ∧
 ∃ n250 : Int, held S236 ⟨b10, 0, none⟩ (.int .i64 n250) ∧
 brB (n249 != n250)
 (J17 true w247)
 (∃ n251 : Int, held S236 ⟨a130, 1, none⟩ (.int .i64 n251) ∧
 ∃ n252 : Int, held S236 ⟨b10, 1, none⟩ (.int .i64 n252) ∧
 brB (n251 != n252)
 (J17 true w247)
 (∃ n253 : Int, held S236 ⟨a130, 2, none⟩ (.int .i64 n253) ∧
 ∃ n254 : Int, held S236 ⟨b10, 2, none⟩ (.int .i64 n254) ∧
 brB (n253 != n254)
 (J17 true w247)
 (∃ n255 : Int, held S236 ⟨a130, 3, none⟩ (.int .i64 n255) ∧
 ∃ n256 : Int, held S236 ⟨b10, 3, none⟩ (.int .i64 n256) ∧
 brB (n255 != n256)
 (J17 true w247)
 (∃ n257 : Int, held S236 ⟨a130, 4, none⟩ (.int .i64 n257) ∧
 ∃ n258 : Int, held S236 ⟨b10, 4, none⟩ (.int .i64 n258) ∧
 brB (n257 != n258)
 (J17 true w247)
 (∃ s259 : Sl, held S236 ⟨a130, 8, none⟩ (s259.val) ∧
 ∃ s260 : Sl, held S236 ⟨b10, 8, none⟩ (s260.val) ∧
 Calls Try.prog fn_hollowaybook_SameInts #[s259.val, s260.val] w247 fun e261 w262 => ∃ b263 : Bool, e261 = .returned (.bool b263) ∧
 S236 w262 ∧
 brB (!b263)
 (J17 true w262)
 (∃ s264 : Sl, held S236 ⟨a130, 5, none⟩ (s264.val) ∧
 ∃ s265 : Sl, held S236 ⟨b10, 5, none⟩ (s265.val) ∧
 brB (decide ((s264.len : Int) > (s265.len : Int)))
 (J17 true w262)
 (∃ s266 : Sl, held S236 ⟨a130, 6, none⟩ (s266.val) ∧
 ∃ s267 : Sl, held S236 ⟨b10, 6, none⟩ (s267.val) ∧
 brB (decide ((s266.len : Int) > (s267.len : Int)))
 (J17 true w262)
 (∃ n_Start268 : Int, ∃ n_Slots269 : Int, ∃ n_Backs270 : Int, ∃ n_Grow271 : Int, ∃ n_GrowBack272 : Int, ∃ s_Ins273 : Sl, ∃ s_Outs274 : Sl, ∃ n_Last275 : Int, ∃ s_Cells276 : Sl, held S236 ⟨a130, 0, none⟩ (.int .i64 n_Start268) ∧ held S236 ⟨a130, 1, none⟩ (.int .i64 n_Slots269) ∧ held S236 ⟨a130, 2, none⟩ (.int .i64 n_Backs270) ∧ held S236 ⟨a130, 3, none⟩ (.int .i64 n_Grow271) ∧ held S236 ⟨a130, 4, none⟩ (.int .i64 n_GrowBack272) ∧ held S236 ⟨a130, 5, none⟩ (s_Ins273.val) ∧ held S236 ⟨a130, 6, none⟩ (s_Outs274.val) ∧ held S236 ⟨a130, 7, none⟩ (.int .i64 n_Last275) ∧ held S236 ⟨a130, 8, none⟩ (s_Cells276.val) ∧
 Calls Try.prog fn_hollowaylaw18_left #[.agg #[.int .i64 n_Start268, .int .i64 n_Slots269, .int .i64 n_Backs270, .int .i64 n_Grow271, .int .i64 n_GrowBack272, s_Ins273.val, s_Outs274.val, .int .i64 n_Last275, s_Cells276.val]] w262 fun e277 w278 => ∃ n279 : Int, e277 = .returned (.int .i64 n279) ∧
 S236 w278 ∧
 brB (n279 != (0 : Int))
 (J17 true w278)
 (∃ n_Start280 : Int, ∃ n_Slots281 : Int, ∃ n_Backs282 : Int, ∃ n_Grow283 : Int, ∃ n_GrowBack284 : Int, ∃ s_Ins285 : Sl, ∃ s_Outs286 : Sl, ∃ n_Last287 : Int, ∃ s_Cells288 : Sl, held S236 ⟨a130, 0, none⟩ (.int .i64 n_Start280) ∧ held S236 ⟨a130, 1, none⟩ (.int .i64 n_Slots281) ∧ held S236 ⟨a130, 2, none⟩ (.int .i64 n_Backs282) ∧ held S236 ⟨a130, 3, none⟩ (.int .i64 n_Grow283) ∧ held S236 ⟨a130, 4, none⟩ (.int .i64 n_GrowBack284) ∧ held S236 ⟨a130, 5, none⟩ (s_Ins285.val) ∧ held S236 ⟨a130, 6, none⟩ (s_Outs286.val) ∧ held S236 ⟨a130, 7, none⟩ (.int .i64 n_Last287) ∧ held S236 ⟨a130, 8, none⟩ (s_Cells288.val) ∧
 Calls Try.prog fn_forward_Left #[.agg #[.int .i64 n_Start280, .int .i64 n_Slots281, .int .i64 n_Backs282, .int .i64 n_Grow283, .int .i64 n_GrowBack284, s_Ins285.val, s_Outs286.val, .int .i64 n_Last287, s_Cells288.val]] w278 fun e289 w290 => ∃ n291 : Int, e289 = .returned (.int .i64 n291) ∧
 S236 w290 ∧
 brB (n291 != (0 : Int))
 (J17 true w290)
 (∃ n_Start292 : Int, ∃ n_Slots293 : Int, ∃ n_Backs294 : Int, ∃ n_Grow295 : Int, ∃ n_GrowBack296 : Int, ∃ s_Ins297 : Sl, ∃ s_Outs298 : Sl, ∃ n_Last299 : Int, ∃ s_Cells300 : Sl, held S236 ⟨b10, 0, none⟩ (.int .i64 n_Start292) ∧ held S236 ⟨b10, 1, none⟩ (.int .i64 n_Slots293) ∧ held S236 ⟨b10, 2, none⟩ (.int .i64 n_Backs294) ∧ held S236 ⟨b10, 3, none⟩ (.int .i64 n_Grow295) ∧ held S236 ⟨b10, 4, none⟩ (.int .i64 n_GrowBack296) ∧ held S236 ⟨b10, 5, none⟩ (s_Ins297.val) ∧ held S236 ⟨b10, 6, none⟩ (s_Outs298.val) ∧ held S236 ⟨b10, 7, none⟩ (.int .i64 n_Last299) ∧ held S236 ⟨b10, 8, none⟩ (s_Cells300.val) ∧
 ∃ n_Start301 : Int, ∃ n_Slots302 : Int, ∃ n_Backs303 : Int, ∃ n_Grow304 : Int, ∃ n_GrowBack305 : Int, ∃ s_Ins306 : Sl, ∃ s_Outs307 : Sl, ∃ n_Last308 : Int, ∃ s_Cells309 : Sl, held S236 ⟨b10, 0, none⟩ (.int .i64 n_Start301) ∧ held S236 ⟨b10, 1, none⟩ (.int .i64 n_Slots302) ∧ held S236 ⟨b10, 2, none⟩ (.int .i64 n_Backs303) ∧ held S236 ⟨b10, 3, none⟩ (.int .i64 n_Grow304) ∧ held S236 ⟨b10, 4, none⟩ (.int .i64 n_GrowBack305) ∧ held S236 ⟨b10, 5, none⟩ (s_Ins306.val) ∧ held S236 ⟨b10, 6, none⟩ (s_Outs307.val) ∧ held S236 ⟨b10, 7, none⟩ (.int .i64 n_Last308) ∧ held S236 ⟨b10, 8, none⟩ (s_Cells309.val) ∧
 Calls Try.prog fn_forward_Left #[.agg #[.int .i64 n_Start292, .int .i64 n_Slots293, .int .i64 n_Backs294, .int .i64 n_Grow295, .int .i64 n_GrowBack296, s_Ins297.val, s_Outs298.val, .int .i64 n_Last299, s_Cells300.val]] w290 fun e310 w311 => ∃ n312 : Int, e310 = .returned (.int .i64 n312) ∧
 S236 w311 ∧
 Calls Try.prog fn_hollowaylaw18_left #[.agg #[.int .i64 n_Start301, .int .i64 n_Slots302, .int .i64 n_Backs303, .int .i64 n_Grow304, .int .i64 n_GrowBack305, s_Ins306.val, s_Outs307.val, .int .i64 n_Last308, s_Cells309.val]] w311 fun e313 w314 => ∃ n315 : Int, e313 = .returned (.int .i64 n315) ∧
 S236 w314 ∧
 J17 (!((n312 == (0 : Int)) == (n315 == (0 : Int)))) w314)))))))))))))) ∧
 ∃ n_Start134 : Int, ∃ n_Slots135 : Int, ∃ n_Backs136 : Int, ∃ n_Grow137 : Int, ∃ n_GrowBack138 : Int, ∃ s_Ins139 : Sl, ∃ s_Outs140 : Sl, ∃ n_Last141 : Int, ∃ s_Cells142 : Sl, w133.cell? ⟨a130, 0, none⟩ = some (.int .i64 n_Start134) ∧ w133.cell? ⟨a130, 1, none⟩ = some (.int .i64 n_Slots135) ∧ w133.cell? ⟨a130, 2, none⟩ = some (.int .i64 n_Backs136) ∧ w133.cell? ⟨a130, 3, none⟩ = some (.int .i64 n_Grow137) ∧ w133.cell? ⟨a130, 4, none⟩ = some (.int .i64 n_GrowBack138) ∧ w133.cell? ⟨a130, 5, none⟩ = some (s_Ins139.val) ∧ w133.cell? ⟨a130, 6, none⟩ = some (s_Outs140.val) ∧ w133.cell? ⟨a130, 7, none⟩ = some (.int .i64 n_Last141) ∧ w133.cell? ⟨a130, 8, none⟩ = some (s_Cells142.val) ∧
 ∃ n_Start143 : Int, ∃ n_Slots144 : Int, ∃ n_Backs145 : Int, ∃ n_Grow146 : Int, ∃ n_GrowBack147 : Int, ∃ s_Ins148 : Sl, ∃ s_Outs149 : Sl, ∃ n_Last150 : Int, ∃ s_Cells151 : Sl, w133.cell? ⟨b131, 0, none⟩ = some (.int .i64 n_Start143) ∧ w133.cell? ⟨b131, 1, none⟩ = some (.int .i64 n_Slots144) ∧ w133.cell? ⟨b131, 2, none⟩ = some (.int .i64 n_Backs145) ∧ w133.cell? ⟨b131, 3, none⟩ = some (.int .i64 n_Grow146) ∧ w133.cell? ⟨b131, 4, none⟩ = some (.int .i64 n_GrowBack147) ∧ w133.cell? ⟨b131, 5, none⟩ = some (s_Ins148.val) ∧ w133.cell? ⟨b131, 6, none⟩ = some (s_Outs149.val) ∧ w133.cell? ⟨b131, 7, none⟩ = some (.int .i64 n_Last150) ∧ w133.cell? ⟨b131, 8, none⟩ = some (s_Cells151.val) ∧
 Calls Try.prog fn_hollowaybook_SameTrace #[.agg #[.int .i64 n_Start134, .int .i64 n_Slots135, .int .i64 n_Backs136, .int .i64 n_Grow137, .int .i64 n_GrowBack138, s_Ins139.val, s_Outs140.val, .int .i64 n_Last141, s_Cells142.val], .agg #[.int .i64 n_Start143, .int .i64 n_Slots144, .int .i64 n_Backs145, .int .i64 n_Grow146, .int .i64 n_GrowBack147, s_Ins148.val, s_Outs149.val, .int .i64 n_Last150, s_Cells151.val]] w133 fun e152 w153 => ∃ b154 : Bool, e152 = .returned (.bool b154) ∧
 brB (!b154)
 (J8 true w153)
 (∃ n_Start155 : Int, ∃ n_Slots156 : Int, ∃ n_Backs157 : Int, ∃ n_Grow158 : Int, ∃ n_GrowBack159 : Int, ∃ s_Ins160 : Sl, ∃ s_Outs161 : Sl, ∃ n_Last162 : Int, ∃ s_Cells163 : Sl, w153.cell? ⟨b52, 0, none⟩ = some (.int .i64 n_Start155) ∧ w153.cell? ⟨b52, 1, none⟩ = some (.int .i64 n_Slots156) ∧ w153.cell? ⟨b52, 2, none⟩ = some (.int .i64 n_Backs157) ∧ w153.cell? ⟨b52, 3, none⟩ = some (.int .i64 n_Grow158) ∧ w153.cell? ⟨b52, 4, none⟩ = some (.int .i64 n_GrowBack159) ∧ w153.cell? ⟨b52, 5, none⟩ = some (s_Ins160.val) ∧ w153.cell? ⟨b52, 6, none⟩ = some (s_Outs161.val) ∧ w153.cell? ⟨b52, 7, none⟩ = some (.int .i64 n_Last162) ∧ w153.cell? ⟨b52, 8, none⟩ = some (s_Cells163.val) ∧
 ∃ n_Start164 : Int, ∃ n_Slots165 : Int, ∃ n_Backs166 : Int, ∃ n_Grow167 : Int, ∃ n_GrowBack168 : Int, ∃ s_Ins169 : Sl, ∃ s_Outs170 : Sl, ∃ n_Last171 : Int, ∃ s_Cells172 : Sl, w153.cell? ⟨b10, 0, none⟩ = some (.int .i64 n_Start164) ∧ w153.cell? ⟨b10, 1, none⟩ = some (.int .i64 n_Slots165) ∧ w153.cell? ⟨b10, 2, none⟩ = some (.int .i64 n_Backs166) ∧ w153.cell? ⟨b10, 3, none⟩ = some (.int .i64 n_Grow167) ∧ w153.cell? ⟨b10, 4, none⟩ = some (.int .i64 n_GrowBack168) ∧ w153.cell? ⟨b10, 5, none⟩ = some (s_Ins169.val) ∧ w153.cell? ⟨b10, 6, none⟩ = some (s_Outs170.val) ∧ w153.cell? ⟨b10, 7, none⟩ = some (.int .i64 n_Last171) ∧ w153.cell? ⟨b10, 8, none⟩ = some (s_Cells172.val) ∧
 Calls Try.prog fn_hollowaybook_StaysTrace #[.agg #[.int .i64 n_Start155, .int .i64 n_Slots156, .int .i64 n_Backs157, .int .i64 n_Grow158, .int .i64 n_GrowBack159, s_Ins160.val, s_Outs161.val, .int .i64 n_Last162, s_Cells163.val], .agg #[.int .i64 n_Start164, .int .i64 n_Slots165, .int .i64 n_Backs166, .int .i64 n_Grow167, .int .i64 n_GrowBack168, s_Ins169.val, s_Outs170.val, .int .i64 n_Last171, s_Cells172.val]] w153 fun e173 w174 => ∃ b175 : Bool, e173 = .returned (.bool b175) ∧
 J8 (!b175) w174))) ∧
 ∃ n_Start12 : Int, ∃ n_Slots13 : Int, ∃ n_Backs14 : Int, ∃ n_Grow15 : Int, ∃ n_GrowBack16 : Int, ∃ s_Ins17 : Sl, ∃ s_Outs18 : Sl, ∃ n_Last19 : Int, ∃ s_Cells20 : Sl, w11.cell? ⟨b10, 0, none⟩ = some (.int .i64 n_Start12) ∧ w11.cell? ⟨b10, 1, none⟩ = some (.int .i64 n_Slots13) ∧ w11.cell? ⟨b10, 2, none⟩ = some (.int .i64 n_Backs14) ∧ w11.cell? ⟨b10, 3, none⟩ = some (.int .i64 n_Grow15) ∧ w11.cell? ⟨b10, 4, none⟩ = some (.int .i64 n_GrowBack16) ∧ w11.cell? ⟨b10, 5, none⟩ = some (s_Ins17.val) ∧ w11.cell? ⟨b10, 6, none⟩ = some (s_Outs18.val) ∧ w11.cell? ⟨b10, 7, none⟩ = some (.int .i64 n_Last19) ∧ w11.cell? ⟨b10, 8, none⟩ = some (s_Cells20.val) ∧
 Calls Try.prog fn_hollowaylaw14_Light #[.agg #[.int .i64 n_Start12, .int .i64 n_Slots13, .int .i64 n_Backs14, .int .i64 n_Grow15, .int .i64 n_GrowBack16, s_Ins17.val, s_Outs18.val, .int .i64 n_Last19, s_Cells20.val]] w11 fun e21 w22 => ∃ b23 : Bool, e21 = .returned (.bool b23) ∧
 brB (!b23)
 (J3 true w22)
 (Calls Try.prog fn_hollowaylaw18_alive #[] w22 fun e24 w25 => ∃ b26 : Bool, e24 = .returned (.bool b26) ∧
 J3 (!b26) w25)
def hollowaylaw18_ForwardTells_an : An := ⟨[], [(4, (6, .st 0 (.st 2 (.log [(1, true, [.int .i64, .int .i64, .int .i64, .int .i64, .int .i64, .sl, .sl, .int .i64, .sl]), (3, true, [.int .i64, .int .i64, .int .i64, .int .i64, .int .i64, .sl, .sl, .int .i64, .sl]), (4, false, [.blk]), (5, false, [.blk])] (.done))), 1)), (12, (81, .st 0 (.ef 1 (.st 2 (.st 3 (.st 4 (.st 5 (.st 6 (.st 7 (.st 8 (.st 9 (.st 10 (.st 11 (.st 12 (.st 13 (.st 14 (.st 15 (.st 16 (.st 17 (.st 18 (.st 19 (.st 20 (.st 21 (.st 22 (.st 23 (.st 24 (.st 25 (.st 26 (.st 27 (.st 28 (.st 29 (.st 30 (.st 31 (.st 32 (.st 33 (.st 34 (.st 35 (.st 36 (.st 37 (.st 38 (.st 39 (.st 40 (.st 41 (.st 42 (.ef 43 (.st 44 (.st 45 (.st 46 (.st 47 (.st 48 (.st 49 (.st 50 (.st 51 (.st 52 (.st 53 (.st 54 (.st 55 (.st 56 (.st 57 (.st 58 (.st 59 (.st 60 (.st 61 (.st 62 (.st 63 (.st 64 (.st 65 (.ef 66 (.st 67 (.st 68 (.st 69 (.st 70 (.ef 71 (.st 72 (.st 73 (.st 74 (.st 75 (.st 78 (.ef 76 (.st 77 (.ef 79 (.st 80 .done)))))))))))))))))))))))))))))))))))))))))))))))))))))))))))))))))))))))))))))))), 1)), (14, (7, .st 0 (.st 4 (.st 5 (.st 6 (.ef 1 (.ef 2 (.st 3 .done)))))), 1))], [(2, [(13, .bool)]), (6, [(30, .bool)]), (13, [(127, .bool)])]⟩
theorem hollowaylaw18_ForwardTells_lift {t__Start1 : Int} {t__Slots2 : Int} {t__Backs3 : Int} {t__Grow4 : Int} {t__GrowBack5 : Int} {t__Ins6 : Sl} {t__Outs7 : Sl} {t__Last8 : Int} {t__Cells9 : Sl} {w : World} {K : Value → World → Prop} (h : hollowaylaw18_ForwardTells_sh t__Start1 t__Slots2 t__Backs3 t__Grow4 t__GrowBack5 t__Ins6 t__Outs7 t__Last8 t__Cells9 w K) : Calls Try.prog fn_hollowaylaw18_ForwardTells #[.agg #[.int .i64 t__Start1, .int .i64 t__Slots2, .int .i64 t__Backs3, .int .i64 t__Grow4, .int .i64 t__GrowBack5, t__Ins6.val, t__Outs7.val, .int .i64 t__Last8, t__Cells9.val]] w fun e w' => ∃ v, e = .returned v ∧ K v w' :=
   lift_calls (A := hollowaylaw18_ForwardTells_an) (c := bodyOf Try.f9) (args := [.agg #[.int .i64 t__Start1, .int .i64 t__Slots2, .int .i64 t__Backs3, .int .i64 t__Grow4, .int .i64 t__GrowBack5, t__Ins6.val, t__Outs7.val, .int .i64 t__Last8, t__Cells9.val]]) orc orc_wide Try.func9 (by kernel_rfl) (by kernel_rfl) (Eq.mp (by kernel_rfl : hollowaylaw18_ForwardTells_sh t__Start1 t__Slots2 t__Backs3 t__Grow4 t__GrowBack5 t__Ins6 t__Outs7 t__Last8 t__Cells9 w K = wpc orc Try.f9.ntmps hollowaylaw18_ForwardTells_an (bodyOf Try.f9) (argl 0 [.agg #[.int .i64 t__Start1, .int .i64 t__Slots2, .int .i64 t__Backs3, .int .i64 t__Grow4, .int .i64 t__GrowBack5, t__Ins6.val, t__Outs7.val, .int .i64 t__Last8, t__Cells9.val]]) w (retQ orc Try.f9.results.toList K)) h)

-- holloway/hollowaylaw18.ForwardHolds
-- holloway/hollowaylaw18.ForwardLoads
-- holloway/hollowaylaw18.alive
def hollowaylaw18_alive_sh  (w : World) (K : Value → World → Prop) : Prop :=
 ∀ (b1 : Nat) (w2 : World), b1 = w.heap.size → w2 = World.alloc w (.cells #[.int .i64 (2 : Int), .int .i64 (0 : Int), .int .i64 (0 : Int), .int .i64 (0 : Int), .int .i64 (0 : Int), .int .i64 (5 : Int), .int .i64 (0 : Int), .int .i64 (0 : Int), .int .i64 (0 : Int), .int .i64 (0 : Int), .int .i64 (5 : Int), .int .i64 (0 : Int), .int .i64 (0 : Int), .int .i64 (0 : Int), .int .i64 (0 : Int)] T_api_Ins) →
 ∀ (b3 : Nat) (w4 : World), b3 = w2.heap.size → w4 = World.alloc w2 (.cells #[.int .i64 (1 : Int), .int .i64 (2 : Int)] T_int) →
 ∀ (b5 : Nat) (w6 : World), b5 = w4.heap.size → w6 = World.alloc w4 (.cells #[.int .i64 (5 : Int), .int .i64 (0 : Int), .slice none 0 0, .slice none 0 0, .int .i64 (5 : Int), .int .i64 (1 : Int), .slice (some ⟨b3, 0, none⟩) 2 2, .slice none 0 0] T_api_Out) →
 ∀ (b7 : Nat) (w8 : World), b7 = w6.heap.size → w8 = World.alloc w6 (.cells #[.int .i64 (0 : Int), .int .i64 (0 : Int), .int .i64 (0 : Int), .int .i64 (0 : Int), .int .i64 (0 : Int), .slice none 0 0, .slice none 0 0, .int .i64 (0 : Int), .slice none 0 0] T_api_Trace) →
 wrOk w8 ⟨b7, 0, none⟩ 9 ∧ ∀ w9 : World, w9 = stW w8 ⟨b7, 0, none⟩ 0 [.int .i64 (5 : Int), .int .i64 (1 : Int), .int .i64 (0 : Int), .int .i64 (1 : Int), .int .i64 (0 : Int), .slice (some ⟨b1, 0, none⟩) 3 3, .slice (some ⟨b5, 0, none⟩) 2 2, .int .i64 (1 : Int), .slice none 0 0] →
 ∃ n_Start10 : Int, ∃ n_Slots11 : Int, ∃ n_Backs12 : Int, ∃ n_Grow13 : Int, ∃ n_GrowBack14 : Int, ∃ s_Ins15 : Sl, ∃ s_Outs16 : Sl, ∃ n_Last17 : Int, ∃ s_Cells18 : Sl, w9.cell? ⟨b7, 0, none⟩ = some (.int .i64 n_Start10) ∧ w9.cell? ⟨b7, 1, none⟩ = some (.int .i64 n_Slots11) ∧ w9.cell? ⟨b7, 2, none⟩ = some (.int .i64 n_Backs12) ∧ w9.cell? ⟨b7, 3, none⟩ = some (.int .i64 n_Grow13) ∧ w9.cell? ⟨b7, 4, none⟩ = some (.int .i64 n_GrowBack14) ∧ w9.cell? ⟨b7, 5, none⟩ = some (s_Ins15.val) ∧ w9.cell? ⟨b7, 6, none⟩ = some (s_Outs16.val) ∧ w9.cell? ⟨b7, 7, none⟩ = some (.int .i64 n_Last17) ∧ w9.cell? ⟨b7, 8, none⟩ = some (s_Cells18.val) ∧
 Calls Try.prog fn_forward_Do #[.agg #[.int .i64 n_Start10, .int .i64 n_Slots11, .int .i64 n_Backs12, .int .i64 n_Grow13, .int .i64 n_GrowBack14, s_Ins15.val, s_Outs16.val, .int .i64 n_Last17, s_Cells18.val]] w9 fun e19 w20 => ∃ n_Start21 : Int, ∃ n_Slots22 : Int, ∃ n_Backs23 : Int, ∃ n_Grow24 : Int, ∃ n_GrowBack25 : Int, ∃ s_Ins26 : Sl, ∃ s_Outs27 : Sl, ∃ n_Last28 : Int, ∃ s_Cells29 : Sl, e19 = .returned (.agg #[.int .i64 n_Start21, .int .i64 n_Slots22, .int .i64 n_Backs23, .int .i64 n_Grow24, .int .i64 n_GrowBack25, s_Ins26.val, s_Outs27.val, .int .i64 n_Last28, s_Cells29.val]) ∧
 ∀ (b30 : Nat) (w31 : World), b30 = w20.heap.size → w31 = World.alloc w20 (.cells #[.int .i64 (0 : Int), .int .i64 (0 : Int), .int .i64 (0 : Int), .int .i64 (0 : Int), .int .i64 (0 : Int), .slice none 0 0, .slice none 0 0, .int .i64 (0 : Int), .slice none 0 0] T_api_Trace) →
 wrOk w31 ⟨b30, 0, none⟩ 9 ∧ ∀ w32 : World, w32 = stW w31 ⟨b30, 0, none⟩ 0 [.int .i64 n_Start21, .int .i64 n_Slots22, .int .i64 n_Backs23, .int .i64 n_Grow24, .int .i64 n_GrowBack25, s_Ins26.val, s_Outs27.val, .int .i64 n_Last28, s_Cells29.val] →
 Calls Try.prog fn_hollowayref1_Two #[.int .i64 (11 : Int), .int .i64 (1 : Int), .int .i64 (1 : Int)] w32 fun e33 w34 => ∃ n35 : Int, ∃ b36 : Bool, e33 = .returned (.tuple #[.int .i64 n35, .bool b36]) ∧
 ∃ n_Start37 : Int, ∃ n_Slots38 : Int, ∃ n_Backs39 : Int, ∃ n_Grow40 : Int, ∃ n_GrowBack41 : Int, ∃ s_Ins42 : Sl, ∃ s_Outs43 : Sl, ∃ n_Last44 : Int, ∃ s_Cells45 : Sl, w34.cell? ⟨b7, 0, none⟩ = some (.int .i64 n_Start37) ∧ w34.cell? ⟨b7, 1, none⟩ = some (.int .i64 n_Slots38) ∧ w34.cell? ⟨b7, 2, none⟩ = some (.int .i64 n_Backs39) ∧ w34.cell? ⟨b7, 3, none⟩ = some (.int .i64 n_Grow40) ∧ w34.cell? ⟨b7, 4, none⟩ = some (.int .i64 n_GrowBack41) ∧ w34.cell? ⟨b7, 5, none⟩ = some (s_Ins42.val) ∧ w34.cell? ⟨b7, 6, none⟩ = some (s_Outs43.val) ∧ w34.cell? ⟨b7, 7, none⟩ = some (.int .i64 n_Last44) ∧ w34.cell? ⟨b7, 8, none⟩ = some (s_Cells45.val) ∧
 Calls Try.prog fn_forward_Left #[.agg #[.int .i64 n_Start37, .int .i64 n_Slots38, .int .i64 n_Backs39, .int .i64 n_Grow40, .int .i64 n_GrowBack41, s_Ins42.val, s_Outs43.val, .int .i64 n_Last44, s_Cells45.val]] w34 fun e46 w47 => ∃ n48 : Int, e46 = .returned (.int .i64 n48) ∧
 brB (n48 == (1 : Int))
 (∃ n_Start49 : Int, ∃ n_Slots50 : Int, ∃ n_Backs51 : Int, ∃ n_Grow52 : Int, ∃ n_GrowBack53 : Int, ∃ s_Ins54 : Sl, ∃ s_Outs55 : Sl, ∃ n_Last56 : Int, ∃ s_Cells57 : Sl, w47.cell? ⟨b30, 0, none⟩ = some (.int .i64 n_Start49) ∧ w47.cell? ⟨b30, 1, none⟩ = some (.int .i64 n_Slots50) ∧ w47.cell? ⟨b30, 2, none⟩ = some (.int .i64 n_Backs51) ∧ w47.cell? ⟨b30, 3, none⟩ = some (.int .i64 n_Grow52) ∧ w47.cell? ⟨b30, 4, none⟩ = some (.int .i64 n_GrowBack53) ∧ w47.cell? ⟨b30, 5, none⟩ = some (s_Ins54.val) ∧ w47.cell? ⟨b30, 6, none⟩ = some (s_Outs55.val) ∧ w47.cell? ⟨b30, 7, none⟩ = some (.int .i64 n_Last56) ∧ w47.cell? ⟨b30, 8, none⟩ = some (s_Cells57.val) ∧
 Calls Try.prog fn_forward_Left #[.agg #[.int .i64 n_Start49, .int .i64 n_Slots50, .int .i64 n_Backs51, .int .i64 n_Grow52, .int .i64 n_GrowBack53, s_Ins54.val, s_Outs55.val, .int .i64 n_Last56, s_Cells57.val]] w47 fun e58 w59 => ∃ n60 : Int, e58 = .returned (.int .i64 n60) ∧
 brB (n60 == (0 : Int))
 (∃ n_Start61 : Int, ∃ n_Slots62 : Int, ∃ n_Backs63 : Int, ∃ n_Grow64 : Int, ∃ n_GrowBack65 : Int, ∃ s_Ins66 : Sl, ∃ s_Outs67 : Sl, ∃ n_Last68 : Int, ∃ s_Cells69 : Sl, w59.cell? ⟨b30, 0, none⟩ = some (.int .i64 n_Start61) ∧ w59.cell? ⟨b30, 1, none⟩ = some (.int .i64 n_Slots62) ∧ w59.cell? ⟨b30, 2, none⟩ = some (.int .i64 n_Backs63) ∧ w59.cell? ⟨b30, 3, none⟩ = some (.int .i64 n_Grow64) ∧ w59.cell? ⟨b30, 4, none⟩ = some (.int .i64 n_GrowBack65) ∧ w59.cell? ⟨b30, 5, none⟩ = some (s_Ins66.val) ∧ w59.cell? ⟨b30, 6, none⟩ = some (s_Outs67.val) ∧ w59.cell? ⟨b30, 7, none⟩ = some (.int .i64 n_Last68) ∧ w59.cell? ⟨b30, 8, none⟩ = some (s_Cells69.val) ∧
 Calls Try.prog fn_hollowayref15_Right #[.agg #[.int .i64 n_Start61, .int .i64 n_Slots62, .int .i64 n_Backs63, .int .i64 n_Grow64, .int .i64 n_GrowBack65, s_Ins66.val, s_Outs67.val, .int .i64 n_Last68, s_Cells69.val]] w59 fun e70 w71 => ∃ b72 : Bool, e70 = .returned (.bool b72) ∧
 brB b72
 (∃ s73 : Sl, w71.cell? ⟨b30, 5, none⟩ = some (s73.val) ∧
 brB (decide ((s73.len : Int) ≤ (3 : Int)))
 (K (.bool (n35 == (2 : Int))) w71)
 (K (.bool false) w71))
 (K (.bool false) w71))
 (K (.bool false) w59))
 (K (.bool false) w47)
def hollowaylaw18_alive_an : An := ⟨[], [], []⟩
theorem hollowaylaw18_alive_lift  {w : World} {K : Value → World → Prop} (h : hollowaylaw18_alive_sh  w K) : Calls Try.prog fn_hollowaylaw18_alive #[] w fun e w' => ∃ v, e = .returned v ∧ K v w' :=
   lift_calls (A := hollowaylaw18_alive_an) (c := bodyOf Try.f35) (args := []) orc orc_wide Try.func35 (by kernel_rfl) (by kernel_rfl) (Eq.mp (by kernel_rfl : hollowaylaw18_alive_sh  w K = wpc orc Try.f35.ntmps hollowaylaw18_alive_an (bodyOf Try.f35) (argl 0 []) w (retQ orc Try.f35.results.toList K)) h)

-- holloway/hollowaylaw18.left
def hollowaylaw18_left_j1 (I2 : Bool → Int → World → Prop) (μ2 : Bool → Int → World → Nat) (known27 : Bool) (j26 : Int) (w25 : World) (b10 : Nat) (b22 : Nat) (J7 : Int → World → Prop) (n79 : Int) (b31 : Bool) (w30 : World) (_K : Value → World → Prop) : Prop :=
 brB b31
 (∃ J14 : Bool → Int → World → Prop, (∀ (known82 : Bool) (j78 : Int) (w77 : World), J14 known82 j78 w77 →
 I2 known82 (wr (j78 - (1 : Int))) w77 ∧ μ2 known82 (wr (j78 - (1 : Int))) w77 < μ2 known27 j26 w25) ∧
 ∃ s32 : Sl, w30.cell? ⟨b10, 5, none⟩ = some (s32.val) ∧
 ∃ a33 : Addr, s32.ptr = some a33 ∧ 0 ≤ j26 ∧ j26 < (s32.len : Int) ∧
 ∃ n_Op34 : Int, ∃ n_A35 : Int, ∃ n_B36 : Int, ∃ n_C37 : Int, ∃ n_X38 : Int, w30.cell? (Addr.add a33 (Int.toNat j26 * 5)) = some (.int .i64 n_Op34) ∧ w30.cell? (Addr.add (Addr.add a33 (Int.toNat j26 * 5)) 1) = some (.int .i64 n_A35) ∧ w30.cell? (Addr.add (Addr.add a33 (Int.toNat j26 * 5)) 2) = some (.int .i64 n_B36) ∧ w30.cell? (Addr.add (Addr.add a33 (Int.toNat j26 * 5)) 3) = some (.int .i64 n_C37) ∧ w30.cell? (Addr.add (Addr.add a33 (Int.toNat j26 * 5)) 4) = some (.int .i64 n_X38) ∧
 ∀ (b39 : Nat) (w40 : World), b39 = w30.heap.size → w40 = World.alloc w30 (.cells #[.int .i64 (0 : Int), .int .i64 (0 : Int), .int .i64 (0 : Int), .int .i64 (0 : Int), .int .i64 (0 : Int)] T_api_Ins) →
 wrOk w40 ⟨b39, 0, none⟩ 5 ∧ ∀ w41 : World, w41 = stW w40 ⟨b39, 0, none⟩ 0 [.int .i64 n_Op34, .int .i64 n_A35, .int .i64 n_B36, .int .i64 n_C37, .int .i64 n_X38] →
 ∃ n42 : Int, w41.cell? ⟨b22, 0, none⟩ = some (.int .i64 n42) ∧
 brB (n42 == (5 : Int))
 (∃ J18 : Bool → World → Prop, (∀ (known83 : Bool) (w51 : World), J18 known83 w51 →
 ∃ J20 : Bool → World → Prop, (∀ (b56 : Bool) (w55 : World), J20 b56 w55 →
 brB b56
 (J14 known83 (-1 : Int) w55)
 (J14 known83 j26 w55)) ∧
 ∃ n52 : Int, w51.cell? ⟨b39, 0, none⟩ = some (.int .i64 n52) ∧
 brB (n52 == (6 : Int))
 (∃ n53 : Int, w51.cell? ⟨b39, 2, none⟩ = some (.int .i64 n53) ∧
 ∃ n54 : Int, w51.cell? ⟨b22, 2, none⟩ = some (.int .i64 n54) ∧
 J20 (n53 != n54) w51)
 (J20 false w51)) ∧
 ∃ J19 : Bool → World → Prop, (∀ (b50 : Bool) (w49 : World), J19 b50 w49 →
 brB b50
 (J18 true w49)
 (J18 known27 w49)) ∧
 ∃ n43 : Int, w41.cell? ⟨b39, 0, none⟩ = some (.int .i64 n43) ∧
 brB (n43 == (5 : Int))
 (∃ n44 : Int, w41.cell? ⟨b39, 2, none⟩ = some (.int .i64 n44) ∧
 ∃ n45 : Int, w41.cell? ⟨b22, 2, none⟩ = some (.int .i64 n45) ∧
 J19 (n44 == n45) w41)
 (∃ n46 : Int, w41.cell? ⟨b39, 0, none⟩ = some (.int .i64 n46) ∧
 brB (n46 == (6 : Int))
 (∃ n47 : Int, w41.cell? ⟨b39, 2, none⟩ = some (.int .i64 n47) ∧
 ∃ n48 : Int, w41.cell? ⟨b22, 2, none⟩ = some (.int .i64 n48) ∧
 J19 (n47 == n48) w41)
 (J19 false w41)))
 (∃ J21 : Bool → World → Prop, (∀ (b58 : Bool) (w57 : World), J21 b58 w57 →
 brB b58
 (∃ n59 : Int, w57.cell? ⟨b39, 0, none⟩ = some (.int .i64 n59) ∧
 ∃ n60 : Int, w57.cell? ⟨b22, 0, none⟩ = some (.int .i64 n60) ∧
 brB (n59 == n60)
 (∃ n61 : Int, w57.cell? ⟨b39, 2, none⟩ = some (.int .i64 n61) ∧
 ∃ n62 : Int, w57.cell? ⟨b22, 2, none⟩ = some (.int .i64 n62) ∧
 J14 (n61 == n62) j26 w57)
 (J14 false j26 w57))
 (brB (n42 == (9 : Int))
 (∃ n63 : Int, w57.cell? ⟨b39, 0, none⟩ = some (.int .i64 n63) ∧
 ∃ n64 : Int, w57.cell? ⟨b22, 0, none⟩ = some (.int .i64 n64) ∧
 brB (n63 == n64)
 (∃ n65 : Int, w57.cell? ⟨b39, 2, none⟩ = some (.int .i64 n65) ∧
 ∃ n66 : Int, w57.cell? ⟨b22, 2, none⟩ = some (.int .i64 n66) ∧
 brB (n65 == n66)
 (∃ n67 : Int, w57.cell? ⟨b39, 3, none⟩ = some (.int .i64 n67) ∧
 ∃ n68 : Int, w57.cell? ⟨b22, 3, none⟩ = some (.int .i64 n68) ∧
 brB (n67 == n68)
 (J14 true j26 w57)
 (∃ n69 : Int, w57.cell? ⟨b39, 2, none⟩ = some (.int .i64 n69) ∧
 ∃ n70 : Int, w57.cell? ⟨b22, 3, none⟩ = some (.int .i64 n70) ∧
 brB (n69 == n70)
 (∃ n71 : Int, w57.cell? ⟨b39, 3, none⟩ = some (.int .i64 n71) ∧
 ∃ n72 : Int, w57.cell? ⟨b22, 2, none⟩ = some (.int .i64 n72) ∧
 J14 (n71 == n72) j26 w57)
 (J14 false j26 w57)))
 (∃ n73 : Int, w57.cell? ⟨b39, 2, none⟩ = some (.int .i64 n73) ∧
 ∃ n74 : Int, w57.cell? ⟨b22, 3, none⟩ = some (.int .i64 n74) ∧
 brB (n73 == n74)
 (∃ n75 : Int, w57.cell? ⟨b39, 3, none⟩ = some (.int .i64 n75) ∧
 ∃ n76 : Int, w57.cell? ⟨b22, 2, none⟩ = some (.int .i64 n76) ∧
 J14 (n75 == n76) j26 w57)
 (J14 false j26 w57)))
 (J14 false j26 w57))
 (J14 known27 j26 w57))) ∧
 brB (n42 == (7 : Int))
 (J21 (n42 == (7 : Int)) w41)
 (J21 (n42 == (8 : Int)) w41)))
 (brB known27
 (J7 (wr (n79 + (1 : Int))) w30)
 (J7 n79 w30))
def hollowaylaw18_left_sh (t__Start1 : Int) (t__Slots2 : Int) (t__Backs3 : Int) (t__Grow4 : Int) (t__GrowBack5 : Int) (t__Ins6 : Sl) (t__Outs7 : Sl) (t__Last8 : Int) (t__Cells9 : Sl) (w : World) (K : Value → World → Prop) : Prop :=
 ∀ (b10 : Nat) (w11 : World), b10 = w.heap.size → w11 = World.alloc w (.cells #[.int .i64 t__Start1, .int .i64 t__Slots2, .int .i64 t__Backs3, .int .i64 t__Grow4, .int .i64 t__GrowBack5, t__Ins6.val, t__Outs7.val, .int .i64 t__Last8, t__Cells9.val] T_api_Trace) →
 ∃ (I1 : Int → Int → World → Prop) (μ1 : Int → Int → World → Nat), I1 (0 : Int) (0 : Int) w11 ∧ ∀ (n79 : Int) (k13 : Int) (w12 : World), I1 n79 k13 w12 →
 ∃ s14 : Sl, w12.cell? ⟨b10, 5, none⟩ = some (s14.val) ∧
 brB (decide (k13 < (s14.len : Int)))
 (∃ J7 : Int → World → Prop, (∀ (n81 : Int) (w80 : World), J7 n81 w80 →
 I1 n81 (wr (k13 + (1 : Int))) w80 ∧ μ1 n81 (wr (k13 + (1 : Int))) w80 < μ1 n79 k13 w12) ∧
 ∃ s15 : Sl, w12.cell? ⟨b10, 5, none⟩ = some (s15.val) ∧
 ∃ a16 : Addr, s15.ptr = some a16 ∧ 0 ≤ k13 ∧ k13 < (s15.len : Int) ∧
 ∃ n_Op17 : Int, ∃ n_A18 : Int, ∃ n_B19 : Int, ∃ n_C20 : Int, ∃ n_X21 : Int, w12.cell? (Addr.add a16 (Int.toNat k13 * 5)) = some (.int .i64 n_Op17) ∧ w12.cell? (Addr.add (Addr.add a16 (Int.toNat k13 * 5)) 1) = some (.int .i64 n_A18) ∧ w12.cell? (Addr.add (Addr.add a16 (Int.toNat k13 * 5)) 2) = some (.int .i64 n_B19) ∧ w12.cell? (Addr.add (Addr.add a16 (Int.toNat k13 * 5)) 3) = some (.int .i64 n_C20) ∧ w12.cell? (Addr.add (Addr.add a16 (Int.toNat k13 * 5)) 4) = some (.int .i64 n_X21) ∧
 ∀ (b22 : Nat) (w23 : World), b22 = w12.heap.size → w23 = World.alloc w12 (.cells #[.int .i64 (0 : Int), .int .i64 (0 : Int), .int .i64 (0 : Int), .int .i64 (0 : Int), .int .i64 (0 : Int)] T_api_Ins) →
 wrOk w23 ⟨b22, 0, none⟩ 5 ∧ ∀ w24 : World, w24 = stW w23 ⟨b22, 0, none⟩ 0 [.int .i64 n_Op17, .int .i64 n_A18, .int .i64 n_B19, .int .i64 n_C20, .int .i64 n_X21] →
 ∃ (I2 : Bool → Int → World → Prop) (μ2 : Bool → Int → World → Nat), I2 false (wr (k13 - (1 : Int))) w24 ∧ ∀ (known27 : Bool) (j26 : Int) (w25 : World), I2 known27 j26 w25 →
 brB (decide (j26 ≥ (0 : Int)))
 (hollowaylaw18_left_j1 I2 (μ2) known27 j26 w25 b10 b22 J7 n79 (!known27) w25 K)
 (hollowaylaw18_left_j1 I2 (μ2) known27 j26 w25 b10 b22 J7 n79 false w25 K))
 (K (.int .i64 n79) w12)
def hollowaylaw18_left_an : An := ⟨[(3, [(3, .int .i64), (4, .int .i64)]), (8, [(6, .bool), (7, .int .i64)])], [], [(14, [(54, .bool)]), (16, [(64, .bool)]), (15, [(6, .bool)]), (19, [(65, .bool)]), (9, [(6, .bool), (7, .int .i64)]), (4, [(3, .int .i64)])]⟩
theorem hollowaylaw18_left_lift {t__Start1 : Int} {t__Slots2 : Int} {t__Backs3 : Int} {t__Grow4 : Int} {t__GrowBack5 : Int} {t__Ins6 : Sl} {t__Outs7 : Sl} {t__Last8 : Int} {t__Cells9 : Sl} {w : World} {K : Value → World → Prop} (h : hollowaylaw18_left_sh t__Start1 t__Slots2 t__Backs3 t__Grow4 t__GrowBack5 t__Ins6 t__Outs7 t__Last8 t__Cells9 w K) : Calls Try.prog fn_hollowaylaw18_left #[.agg #[.int .i64 t__Start1, .int .i64 t__Slots2, .int .i64 t__Backs3, .int .i64 t__Grow4, .int .i64 t__GrowBack5, t__Ins6.val, t__Outs7.val, .int .i64 t__Last8, t__Cells9.val]] w fun e w' => ∃ v, e = .returned v ∧ K v w' :=
   lift_calls (A := hollowaylaw18_left_an) (c := bodyOf Try.f37) (args := [.agg #[.int .i64 t__Start1, .int .i64 t__Slots2, .int .i64 t__Backs3, .int .i64 t__Grow4, .int .i64 t__GrowBack5, t__Ins6.val, t__Outs7.val, .int .i64 t__Last8, t__Cells9.val]]) orc orc_wide Try.func37 (by kernel_rfl) (by kernel_rfl) (Eq.mp (by kernel_rfl : hollowaylaw18_left_sh t__Start1 t__Slots2 t__Backs3 t__Grow4 t__GrowBack5 t__Ins6 t__Outs7 t__Last8 t__Cells9 w K = wpc orc Try.f37.ntmps hollowaylaw18_left_an (bodyOf Try.f37) (argl 0 [.agg #[.int .i64 t__Start1, .int .i64 t__Slots2, .int .i64 t__Backs3, .int .i64 t__Grow4, .int .i64 t__GrowBack5, t__Ins6.val, t__Outs7.val, .int .i64 t__Last8, t__Cells9.val]]) w (retQ orc Try.f37.results.toList K)) h)

end Go.Proofs.Ytblmoilneiffgaa
