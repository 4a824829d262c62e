/- The lifted texts of the laws. -/
import Derived.Test.YtblmoilneiffgaaJ4

/- Functions of Hollowaylaw15, read without their frames; that each is enough. Printed by a program of mine (wip/lift/gen.py). -/
set_option maxRecDepth 100000
namespace Go.Proofs.Ytblmoilneiffgaa
open Go.RowKit

-- holloway/hollowaylaw15.EvalWatched
-- holloway/hollowaylaw15.EvalEmpty
-- holloway/hollowaylaw15.EvalGuards
-- holloway/hollowaylaw15.alive
end Go.Proofs.Ytblmoilneiffgaa

/- Functions of Hollowaylaw17, read without their frames; that each is enough. Printed by a program of mine (wip/lift/gen.py). -/
set_option maxRecDepth 100000
namespace Go.Proofs.Ytblmoilneiffgaa
open Go.RowKit

-- holloway/hollowaylaw17.FoldTells
def hollowaylaw17_FoldTells_sh (t__Start1 : Int) (t__Slots2 : Int) (t__Backs3 : Int) (t__Grow4 : Int) (t__GrowBack5 : Int) (t__Ins6 : Sl) (t__Outs7 : Sl) (t__Last8 : Int) (t__Cells9 : Sl) (w : World) (K : Value → World → Prop) : Prop :=
 ∀ (b10 : Nat) (w11 : World), b10 = w.heap.size → w11 = World.alloc w (.cells #[.int .i64 t__Start1, .int .i64 t__Slots2, .int .i64 t__Backs3, .int .i64 t__Grow4, .int .i64 t__GrowBack5, t__Ins6.val, t__Outs7.val, .int .i64 t__Last8, t__Cells9.val] T_api_Trace) →
 ∃ J3 : Bool → World → Prop, (∀ (b28 : Bool) (w27 : World), J3 b28 w27 →
 brB b28
 (Calls Try.prog fn_hollowaylaw17_alive #[] w27 fun e29 w30 => ∃ b31 : Bool, e29 = .returned (.bool b31) ∧
 K (.bool b31) w30)
 (∃ n_Start32 : Int, ∃ n_Slots33 : Int, ∃ n_Backs34 : Int, ∃ n_Grow35 : Int, ∃ n_GrowBack36 : Int, ∃ s_Ins37 : Sl, ∃ s_Outs38 : Sl, ∃ n_Last39 : Int, ∃ s_Cells40 : Sl, w27.cell? ⟨b10, 0, none⟩ = some (.int .i64 n_Start32) ∧ w27.cell? ⟨b10, 1, none⟩ = some (.int .i64 n_Slots33) ∧ w27.cell? ⟨b10, 2, none⟩ = some (.int .i64 n_Backs34) ∧ w27.cell? ⟨b10, 3, none⟩ = some (.int .i64 n_Grow35) ∧ w27.cell? ⟨b10, 4, none⟩ = some (.int .i64 n_GrowBack36) ∧ w27.cell? ⟨b10, 5, none⟩ = some (s_Ins37.val) ∧ w27.cell? ⟨b10, 6, none⟩ = some (s_Outs38.val) ∧ w27.cell? ⟨b10, 7, none⟩ = some (.int .i64 n_Last39) ∧ w27.cell? ⟨b10, 8, none⟩ = some (s_Cells40.val) ∧
 Calls Try.prog fn_hollowaybook_LentTrace #[.agg #[.int .i64 n_Start32, .int .i64 n_Slots33, .int .i64 n_Backs34, .int .i64 n_Grow35, .int .i64 n_GrowBack36, s_Ins37.val, s_Outs38.val, .int .i64 n_Last39, s_Cells40.val]] w27 fun e41 w42 => ∃ n_Start43 : Int, ∃ n_Slots44 : Int, ∃ n_Backs45 : Int, ∃ n_Grow46 : Int, ∃ n_GrowBack47 : Int, ∃ s_Ins48 : Sl, ∃ s_Outs49 : Sl, ∃ n_Last50 : Int, ∃ s_Cells51 : Sl, e41 = .returned (.agg #[.int .i64 n_Start43, .int .i64 n_Slots44, .int .i64 n_Backs45, .int .i64 n_Grow46, .int .i64 n_GrowBack47, s_Ins48.val, s_Outs49.val, .int .i64 n_Last50, s_Cells51.val]) ∧
 ∀ (b52 : Nat) (w53 : World), b52 = w42.heap.size → w53 = World.alloc w42 (.cells #[.int .i64 (0 : Int), .int .i64 (0 : Int), .int .i64 (0 : Int), .int .i64 (0 : Int), .int .i64 (0 : Int), .slice none 0 0, .slice none 0 0, .int .i64 (0 : Int), .slice none 0 0] T_api_Trace) →
 wrOk w53 ⟨b52, 0, none⟩ 9 ∧ ∀ w54 : World, w54 = stW w53 ⟨b52, 0, none⟩ 0 [.int .i64 n_Start43, .int .i64 n_Slots44, .int .i64 n_Backs45, .int .i64 n_Grow46, .int .i64 n_GrowBack47, s_Ins48.val, s_Outs49.val, .int .i64 n_Last50, s_Cells51.val] →
 ∀ w55 : World, w55 = World.drew w54 →
 ∃ S56 : World → Prop, S56 w55 ∧
 ∃ n_Start57 : Int, ∃ n_Slots58 : Int, ∃ n_Backs59 : Int, ∃ n_Grow60 : Int, ∃ n_GrowBack61 : Int, ∃ s_Ins62 : Sl, ∃ s_Outs63 : Sl, ∃ n_Last64 : Int, ∃ s_Cells65 : Sl, held S56 ⟨b52, 0, none⟩ (.int .i64 n_Start57) ∧ held S56 ⟨b52, 1, none⟩ (.int .i64 n_Slots58) ∧ held S56 ⟨b52, 2, none⟩ (.int .i64 n_Backs59) ∧ held S56 ⟨b52, 3, none⟩ (.int .i64 n_Grow60) ∧ held S56 ⟨b52, 4, none⟩ (.int .i64 n_GrowBack61) ∧ held S56 ⟨b52, 5, none⟩ (s_Ins62.val) ∧ held S56 ⟨b52, 6, none⟩ (s_Outs63.val) ∧ held S56 ⟨b52, 7, none⟩ (.int .i64 n_Last64) ∧ held S56 ⟨b52, 8, none⟩ (s_Cells65.val) ∧
 ∃ n_Start66 : Int, ∃ n_Slots67 : Int, ∃ n_Backs68 : Int, ∃ n_Grow69 : Int, ∃ n_GrowBack70 : Int, ∃ s_Ins71 : Sl, ∃ s_Outs72 : Sl, ∃ n_Last73 : Int, ∃ s_Cells74 : Sl, held S56 ⟨b52, 0, none⟩ (.int .i64 n_Start66) ∧ held S56 ⟨b52, 1, none⟩ (.int .i64 n_Slots67) ∧ held S56 ⟨b52, 2, none⟩ (.int .i64 n_Backs68) ∧ held S56 ⟨b52, 3, none⟩ (.int .i64 n_Grow69) ∧ held S56 ⟨b52, 4, none⟩ (.int .i64 n_GrowBack70) ∧ held S56 ⟨b52, 5, none⟩ (s_Ins71.val) ∧ held S56 ⟨b52, 6, none⟩ (s_Outs72.val) ∧ held S56 ⟨b52, 7, none⟩ (.int .i64 n_Last73) ∧ held S56 ⟨b52, 8, none⟩ (s_Cells74.val) ∧
 ∃ Z75 : List (Nat × List Value) → World → Prop, Z75 [] w55 ∧
 (∀ lg76 : List (Nat × List Value), ∀ w77 : World, S56 w77 → Z75 lg76 w77 →
 Calls Try.prog fn_fold_Do #[.agg #[.int .i64 n_Start57, .int .i64 n_Slots58, .int .i64 n_Backs59, .int .i64 n_Grow60, .int .i64 n_GrowBack61, s_Ins62.val, s_Outs63.val, .int .i64 n_Last64, s_Cells65.val]] w77 fun e78 w79 => ∃ n_Start80 : Int, ∃ n_Slots81 : Int, ∃ n_Backs82 : Int, ∃ n_Grow83 : Int, ∃ n_GrowBack84 : Int, ∃ s_Ins85 : Sl, ∃ s_Outs86 : Sl, ∃ n_Last87 : Int, ∃ s_Cells88 : Sl, e78 = .returned (.agg #[.int .i64 n_Start80, .int .i64 n_Slots81, .int .i64 n_Backs82, .int .i64 n_Grow83, .int .i64 n_GrowBack84, s_Ins85.val, s_Outs86.val, .int .i64 n_Last87, s_Cells88.val]) ∧
 S56 w79 ∧ True ∧ Z75 (lg76 ++ [(1, ([.int .i64 n_Start80, .int .i64 n_Slots81, .int .i64 n_Backs82, .int .i64 n_Grow83, .int .i64 n_GrowBack84, s_Ins85.val, s_Outs86.val, .int .i64 n_Last87, s_Cells88.val] : List Value))]) w79) ∧
 (∀ lg89 : List (Nat × List Value), ∀ w90 : World, S56 w90 → Z75 lg89 w90 →
 Calls Try.prog fn_fold_Do #[.agg #[.int .i64 n_Start66, .int .i64 n_Slots67, .int .i64 n_Backs68, .int .i64 n_Grow69, .int .i64 n_GrowBack70, s_Ins71.val, s_Outs72.val, .int .i64 n_Last73, s_Cells74.val]] w90 fun e91 w92 => ∃ n_Start93 : Int, ∃ n_Slots94 : Int, ∃ n_Backs95 : Int, ∃ n_Grow96 : Int, ∃ n_GrowBack97 : Int, ∃ s_Ins98 : Sl, ∃ s_Outs99 : Sl, ∃ n_Last100 : Int, ∃ s_Cells101 : Sl, e91 = .returned (.agg #[.int .i64 n_Start93, .int .i64 n_Slots94, .int .i64 n_Backs95, .int .i64 n_Grow96, .int .i64 n_GrowBack97, s_Ins98.val, s_Outs99.val, .int .i64 n_Last100, s_Cells101.val]) ∧
 S56 w92 ∧ True ∧ Z75 (lg89 ++ [(3, ([.int .i64 n_Start93, .int .i64 n_Slots94, .int .i64 n_Backs95, .int .i64 n_Grow96, .int .i64 n_GrowBack97, s_Ins98.val, s_Outs99.val, .int .i64 n_Last100, s_Cells101.val] : List Value))]) w92) ∧
 (∀ lg102 : List (Nat × List Value), ∀ w103 : World, S56 w103 → Z75 lg102 w103 →
 ∀ (b104 : Nat) (w105 : World), b104 = w103.heap.size → w105 = World.alloc w103 (.cells #[.int .i64 (0 : Int), .int .i64 (0 : Int), .int .i64 (0 : Int), .int .i64 (0 : Int), .int .i64 (0 : Int), .slice none 0 0, .slice none 0 0, .int .i64 (0 : Int), .slice none 0 0] T_api_Trace) →
 S56 w105 ∧ True ∧ Z75 (lg102 ++ [(4, ([.pointer (some ⟨b104, 0, none⟩)] : List Value))]) w105) ∧
 (∀ lg106 : List (Nat × List Value), ∀ w107 : World, S56 w107 → Z75 lg106 w107 →
 ∀ (b108 : Nat) (w109 : World), b108 = w107.heap.size → w109 = World.alloc w107 (.cells #[.int .i64 (0 : Int), .int .i64 (0 : Int), .int .i64 (0 : Int), .int .i64 (0 : Int), .int .i64 (0 : Int), .slice none 0 0, .slice none 0 0, .int .i64 (0 : Int), .slice none 0 0] T_api_Trace) →
 S56 w109 ∧ True ∧ Z75 (lg106 ++ [(5, ([.pointer (some ⟨b108, 0, none⟩)] : List Value))]) w109) ∧
 ∀ lg110 : List (Nat × List Value), ∀ w111 : World, S56 w111 → Z75 lg110 w111 →
 ∀ (n112 : Int) (n113 : Int) (n114 : Int) (n115 : Int) (n116 : Int) (s117 : Sl) (s118 : Sl) (n119 : Int) (s120 : Sl), (1, ([.int .i64 n112, .int .i64 n113, .int .i64 n114, .int .i64 n115, .int .i64 n116, s117.val, s118.val, .int .i64 n119, s120.val] : List Value)) ∈ lg110 →
 ∀ (n121 : Int) (n122 : Int) (n123 : Int) (n124 : Int) (n125 : Int) (s126 : Sl) (s127 : Sl) (n128 : Int) (s129 : Sl), (3, ([.int .i64 n121, .int .i64 n122, .int .i64 n123, .int .i64 n124, .int .i64 n125, s126.val, s127.val, .int .i64 n128, s129.val] : List Value)) ∈ lg110 →
 ∀ (a130 : Nat), (4, ([.pointer (some ⟨a130, 0, none⟩)] : List Value)) ∈ lg110 →
 ∀ (b131 : Nat), (5, ([.pointer (some ⟨b131, 0, none⟩)] : List Value)) ∈ lg110 →
 wrOk w111 ⟨a130, 0, none⟩ 9 ∧ ∀ w132 : World, w132 = stW w111 ⟨a130, 0, none⟩ 0 [.int .i64 n112, .int .i64 n113, .int .i64 n114, .int .i64 n115, .int .i64 n116, s117.val, s118.val, .int .i64 n119, s120.val] →
 wrOk w132 ⟨b131, 0, none⟩ 9 ∧ ∀ w133 : World, w133 = stW w132 ⟨b131, 0, none⟩ 0 [.int .i64 n121, .int .i64 n122, .int .i64 n123, .int .i64 n124, .int .i64 n125, s126.val, s127.val, .int .i64 n128, s129.val] →
 ∃ J8 : Bool → World → Prop, (∀ (b177 : Bool) (w176 : World), J8 b177 w176 →
 brB b177
 (K (.bool false) w176)
 (∃ n_Start178 : Int, ∃ n_Slots179 : Int, ∃ n_Backs180 : Int, ∃ n_Grow181 : Int, ∃ n_GrowBack182 : Int, ∃ s_Ins183 : Sl, ∃ s_Outs184 : Sl, ∃ n_Last185 : Int, ∃ s_Cells186 : Sl, w176.cell? ⟨b10, 0, none⟩ = some (.int .i64 n_Start178) ∧ w176.cell? ⟨b10, 1, none⟩ = some (.int .i64 n_Slots179) ∧ w176.cell? ⟨b10, 2, none⟩ = some (.int .i64 n_Backs180) ∧ w176.cell? ⟨b10, 3, none⟩ = some (.int .i64 n_Grow181) ∧ w176.cell? ⟨b10, 4, none⟩ = some (.int .i64 n_GrowBack182) ∧ w176.cell? ⟨b10, 5, none⟩ = some (s_Ins183.val) ∧ w176.cell? ⟨b10, 6, none⟩ = some (s_Outs184.val) ∧ w176.cell? ⟨b10, 7, none⟩ = some (.int .i64 n_Last185) ∧ w176.cell? ⟨b10, 8, none⟩ = some (s_Cells186.val) ∧
 Calls Try.prog fn_hollowayref15_Right #[.agg #[.int .i64 n_Start178, .int .i64 n_Slots179, .int .i64 n_Backs180, .int .i64 n_Grow181, .int .i64 n_GrowBack182, s_Ins183.val, s_Outs184.val, .int .i64 n_Last185, s_Cells186.val]] w176 fun e187 w188 => ∃ b189 : Bool, e187 = .returned (.bool b189) ∧
 brB (!b189)
 (∃ n_Start190 : Int, ∃ n_Slots191 : Int, ∃ n_Backs192 : Int, ∃ n_Grow193 : Int, ∃ n_GrowBack194 : Int, ∃ s_Ins195 : Sl, ∃ s_Outs196 : Sl, ∃ n_Last197 : Int, ∃ s_Cells198 : Sl, w188.cell? ⟨a130, 0, none⟩ = some (.int .i64 n_Start190) ∧ w188.cell? ⟨a130, 1, none⟩ = some (.int .i64 n_Slots191) ∧ w188.cell? ⟨a130, 2, none⟩ = some (.int .i64 n_Backs192) ∧ w188.cell? ⟨a130, 3, none⟩ = some (.int .i64 n_Grow193) ∧ w188.cell? ⟨a130, 4, none⟩ = some (.int .i64 n_GrowBack194) ∧ w188.cell? ⟨a130, 5, none⟩ = some (s_Ins195.val) ∧ w188.cell? ⟨a130, 6, none⟩ = some (s_Outs196.val) ∧ w188.cell? ⟨a130, 7, none⟩ = some (.int .i64 n_Last197) ∧ w188.cell? ⟨a130, 8, none⟩ = some (s_Cells198.val) ∧
 ∃ n_Start199 : Int, ∃ n_Slots200 : Int, ∃ n_Backs201 : Int, ∃ n_Grow202 : Int, ∃ n_GrowBack203 : Int, ∃ s_Ins204 : Sl, ∃ s_Outs205 : Sl, ∃ n_Last206 : Int, ∃ s_Cells207 : Sl, w188.cell? ⟨b10, 0, none⟩ = some (.int .i64 n_Start199) ∧ w188.cell? ⟨b10, 1, none⟩ = some (.int .i64 n_Slots200) ∧ w188.cell? ⟨b10, 2, none⟩ = some (.int .i64 n_Backs201) ∧ w188.cell? ⟨b10, 3, none⟩ = some (.int .i64 n_Grow202) ∧ w188.cell? ⟨b10, 4, none⟩ = some (.int .i64 n_GrowBack203) ∧ w188.cell? ⟨b10, 5, none⟩ = some (s_Ins204.val) ∧ w188.cell? ⟨b10, 6, none⟩ = some (s_Outs205.val) ∧ w188.cell? ⟨b10, 7, none⟩ = some (.int .i64 n_Last206) ∧ w188.cell? ⟨b10, 8, none⟩ = some (s_Cells207.val) ∧
 Calls Try.prog fn_hollowaybook_SameTrace #[.agg #[.int .i64 n_Start190, .int .i64 n_Slots191, .int .i64 n_Backs192, .int .i64 n_Grow193, .int .i64 n_GrowBack194, s_Ins195.val, s_Outs196.val, .int .i64 n_Last197, s_Cells198.val], .agg #[.int .i64 n_Start199, .int .i64 n_Slots200, .int .i64 n_Backs201, .int .i64 n_Grow202, .int .i64 n_GrowBack203, s_Ins204.val, s_Outs205.val, .int .i64 n_Last206, s_Cells207.val]] w188 fun e208 w209 => ∃ b210 : Bool, e208 = .returned (.bool b210) ∧
 K (.bool b210) w209)
 (∀ (b211 : Nat) (w212 : World), b211 = w188.heap.size → w212 = World.alloc w188 (.cells #[.slice none 0 0, .slice none 0 0, .slice none 0 0, .slice none 0 0, .slice none 0 0, .slice none 0 0, .slice none 0 0, .slice none 0 0, .slice none 0 0, .slice none 0 0, .slice none 0 0, .slice none 0 0] T_hollowaybook_Book) →
 ∃ n_Start213 : Int, ∃ n_Slots214 : Int, ∃ n_Backs215 : Int, ∃ n_Grow216 : Int, ∃ n_GrowBack217 : Int, ∃ s_Ins218 : Sl, ∃ s_Outs219 : Sl, ∃ n_Last220 : Int, ∃ s_Cells221 : Sl, w212.cell? ⟨a130, 0, none⟩ = some (.int .i64 n_Start213) ∧ w212.cell? ⟨a130, 1, none⟩ = some (.int .i64 n_Slots214) ∧ w212.cell? ⟨a130, 2, none⟩ = some (.int .i64 n_Backs215) ∧ w212.cell? ⟨a130, 3, none⟩ = some (.int .i64 n_Grow216) ∧ w212.cell? ⟨a130, 4, none⟩ = some (.int .i64 n_GrowBack217) ∧ w212.cell? ⟨a130, 5, none⟩ = some (s_Ins218.val) ∧ w212.cell? ⟨a130, 6, none⟩ = some (s_Outs219.val) ∧ w212.cell? ⟨a130, 7, none⟩ = some (.int .i64 n_Last220) ∧ w212.cell? ⟨a130, 8, none⟩ = some (s_Cells221.val) ∧
 Calls Try.prog fn_hollowaybook_Book_Trace #[.pointer (some ⟨b211, 0, none⟩), .agg #[.int .i64 n_Start213, .int .i64 n_Slots214, .int .i64 n_Backs215, .int .i64 n_Grow216, .int .i64 n_GrowBack217, s_Ins218.val, s_Outs219.val, .int .i64 n_Last220, s_Cells221.val]] w212 fun e222 w223 => e222 = .returned (.tuple #[]) ∧
 ∃ n_Start224 : Int, ∃ n_Slots225 : Int, ∃ n_Backs226 : Int, ∃ n_Grow227 : Int, ∃ n_GrowBack228 : Int, ∃ s_Ins229 : Sl, ∃ s_Outs230 : Sl, ∃ n_Last231 : Int, ∃ s_Cells232 : Sl, w223.cell? ⟨b131, 0, none⟩ = some (.int .i64 n_Start224) ∧ w223.cell? ⟨b131, 1, none⟩ = some (.int .i64 n_Slots225) ∧ w223.cell? ⟨b131, 2, none⟩ = some (.int .i64 n_Backs226) ∧ w223.cell? ⟨b131, 3, none⟩ = some (.int .i64 n_Grow227) ∧ w223.cell? ⟨b131, 4, none⟩ = some (.int .i64 n_GrowBack228) ∧ w223.cell? ⟨b131, 5, none⟩ = some (s_Ins229.val) ∧ w223.cell? ⟨b131, 6, none⟩ = some (s_Outs230.val) ∧ w223.cell? ⟨b131, 7, none⟩ = some (.int .i64 n_Last231) ∧ w223.cell? ⟨b131, 8, none⟩ = some (s_Cells232.val) ∧
 Calls Try.prog fn_hollowaybook_Book_Trace #[.pointer (some ⟨b211, 0, none⟩), .agg #[.int .i64 n_Start224, .int .i64 n_Slots225, .int .i64 n_Backs226, .int .i64 n_Grow227, .int .i64 n_GrowBack228, s_Ins229.val, s_Outs230.val, .int .i64 n_Last231, s_Cells232.val]] w223 fun e233 w234 => e233 = .returned (.tuple #[]) ∧
 ∃ J17 : Bool → World → Prop, (∀ (b317 : Bool) (w316 : World), J17 b317 w316 →
 brB b317
 (K (.bool false) w316)
 (∀ w318 : World, w318 = World.drew w316 →
 ∃ S319 : World → Prop, S319 w318 ∧
 ∃ n_Start320 : Int, ∃ n_Slots321 : Int, ∃ n_Backs322 : Int, ∃ n_Grow323 : Int, ∃ n_GrowBack324 : Int, ∃ s_Ins325 : Sl, ∃ s_Outs326 : Sl, ∃ n_Last327 : Int, ∃ s_Cells328 : Sl, held S319 ⟨a130, 0, none⟩ (.int .i64 n_Start320) ∧ held S319 ⟨a130, 1, none⟩ (.int .i64 n_Slots321) ∧ held S319 ⟨a130, 2, none⟩ (.int .i64 n_Backs322) ∧ held S319 ⟨a130, 3, none⟩ (.int .i64 n_Grow323) ∧ held S319 ⟨a130, 4, none⟩ (.int .i64 n_GrowBack324) ∧ held S319 ⟨a130, 5, none⟩ (s_Ins325.val) ∧ held S319 ⟨a130, 6, none⟩ (s_Outs326.val) ∧ held S319 ⟨a130, 7, none⟩ (.int .i64 n_Last327) ∧ held S319 ⟨a130, 8, none⟩ (s_Cells328.val) ∧
 ∃ s329 : Sl, held S319 ⟨a130, 5, none⟩ (s329.val) ∧
 Calls Try.prog fn_fold_Do #[.agg #[.int .i64 n_Start320, .int .i64 n_Slots321, .int .i64 n_Backs322, .int .i64 n_Grow323, .int .i64 n_GrowBack324, s_Ins325.val, s_Outs326.val, .int .i64 n_Last327, s_Cells328.val]] w318 fun e330 w331 => ∃ n_Start332 : Int, ∃ n_Slots333 : Int, ∃ n_Backs334 : Int, ∃ n_Grow335 : Int, ∃ n_GrowBack336 : Int, ∃ s_Ins337 : Sl, ∃ s_Outs338 : Sl, ∃ n_Last339 : Int, ∃ s_Cells340 : Sl, e330 = .returned (.agg #[.int .i64 n_Start332, .int .i64 n_Slots333, .int .i64 n_Backs334, .int .i64 n_Grow335, .int .i64 n_GrowBack336, s_Ins337.val, s_Outs338.val, .int .i64 n_Last339, s_Cells340.val]) ∧
 S319 w331 ∧
 S319 w331 ∧
 brB ((s_Ins337.len : Int) == (s329.len : Int))
 (Calls Try.prog fn_hollowaybook_Book_Apart #[.pointer (some ⟨b211, 0, none⟩)] w331 fun e341 w342 => ∃ b343 : Bool, e341 = .returned (.bool b343) ∧
 K (.bool b343) w342)
 (K (.bool false) w331))) ∧
 ∀ w235 : World, w235 = World.drew w234 →
 ∃ S236 : World → Prop, S236 w235 ∧
 ∃ n_Start237 : Int, ∃ n_Slots238 : Int, ∃ n_Backs239 : Int, ∃ n_Grow240 : Int, ∃ n_GrowBack241 : Int, ∃ s_Ins242 : Sl, ∃ s_Outs243 : Sl, ∃ n_Last244 : Int, ∃ s_Cells245 : Sl, held S236 ⟨a130, 0, none⟩ (.int .i64 n_Start237) ∧ held S236 ⟨a130, 1, none⟩ (.int .i64 n_Slots238) ∧ held S236 ⟨a130, 2, none⟩ (.int .i64 n_Backs239) ∧ held S236 ⟨a130, 3, none⟩ (.int .i64 n_Grow240) ∧ held S236 ⟨a130, 4, none⟩ (.int .i64 n_GrowBack241) ∧ held S236 ⟨a130, 5, none⟩ (s_Ins242.val) ∧ held S236 ⟨a130, 6, none⟩ (s_Outs243.val) ∧ held S236 ⟨a130, 7, none⟩ (.int .i64 n_Last244) ∧ held S236 ⟨a130, 8, none⟩ (s_Cells245.val) ∧
 Calls Try.prog fn_hollowayref15_Right #[.agg #[.int .i64 n_Start237, .int .i64 n_Slots238, .int .i64 n_Backs239, .int .i64 n_Grow240, .int .i64 n_GrowBack241, s_Ins242.val, s_Outs243.val, .int .i64 n_Last244, s_Cells245.val]] w235 fun e246 w247 => ∃ b248 : Bool, e246 = .returned (.bool b248) ∧
 S236 w247 ∧
 brB (!b248)
 (J17 true w247)
 (∃ n249 : Int, held S236 ⟨a130, 0, none⟩ (.int .i64 n249) ∧
 ∃ n250 : Int, held S236 ⟨b10, 0, none⟩ (.int .i64 n250) ∧
 brB (n249 != n250)
 (J17 true w247)
 (∃ n251 : Int, held S236 ⟨a130, 1, none⟩ (.int .i64 n251) ∧
 ∃ n252 : Int, held S236 ⟨b10, 1, none⟩ (.int .i64 n252) ∧
 brB (n251 != n252)
 (J17 true w247)
 (∃ n253 : Int, held S236 ⟨a130, 2, none⟩ (.int .i64 n253) ∧
 ∃ n254 : Int, held S236 ⟨b10, 2, none⟩ (.int .i64 n254) ∧
 brB (n253 != n254)
 (J17 true w247)
 (∃ n255 : Int, held S236 ⟨a130, 3, none⟩ (.int .i64 n255) ∧
 ∃ n256 : Int, held S236 ⟨b10, 3, none⟩ (.int .i64 n256) ∧
 brB (n255 != n256)
 (J17 true w247)
 (∃ n257 : Int, held S236 ⟨a130, 4, none⟩ (.int .i64 n257) ∧
 ∃ n258 : Int, held S236 ⟨b10, 4, none⟩ (.int .i64 n258) ∧
 brB (n257 != n258)
 (J17 true w247)
 (∃ s259 : Sl, held S236 ⟨a130, 8, none⟩ (s259.val) ∧
 ∃ s260 : Sl, held S236 ⟨b10, 8, none⟩ (s260.val) ∧
 Calls Try.prog fn_hollowaybook_SameInts #[s259.val, s260.val] w247 fun e261 w262 => ∃ b263 : Bool, e261 = .returned (.bool b263) ∧
 S236 w262 ∧
 brB (!b263)
 (J17 true w262)
 (∃ s264 : Sl, held S236 ⟨a130, 5, none⟩ (s264.val) ∧
 ∃ s265 : Sl, held S236 ⟨b10, 5, none⟩ (s265.val) ∧
 brB (decide ((s264.len : Int) > (s265.len : Int)))
 (J17 true w262)
 (∃ s266 : Sl, held S236 ⟨a130, 6, none⟩ (s266.val) ∧
 ∃ s267 : Sl, held S236 ⟨b10, 6, none⟩ (s267.val) ∧
 brB (decide ((s266.len : Int) > (s267.len : Int)))
 (J17 true w262)
 (∃ n_Start268 : Int, ∃ n_Slots269 : Int, ∃ n_Backs270 : Int, ∃ n_Grow271 : Int, ∃ n_GrowBack272 : Int, ∃ s_Ins273 : Sl, ∃ s_Outs274 : Sl, ∃ n_Last275 : Int, ∃ s_Cells276 : Sl, held S236 ⟨a130, 0, none⟩ (.int .i64 n_Start268) ∧ held S236 ⟨a130, 1, none⟩ (.int .i64 n_Slots269) ∧ held S236 ⟨a130, 2, none⟩ (.int .i64 n_Backs270) ∧ held S236 ⟨a130, 3, none⟩ (.int .i64 n_Grow271) ∧ held S236 ⟨a130, 4, none⟩ (.int .i64 n_GrowBack272) ∧ held S236 ⟨a130, 5, none⟩ (s_Ins273.val) ∧ held S236 ⟨a130, 6, none⟩ (s_Outs274.val) ∧ held S236 ⟨a130, 7, none⟩ (.int .i64 n_Last275) ∧ held S236 ⟨a130, 8, none⟩ (s_Cells276.val) ∧
 Calls Try.prog fn_hollowaylaw17_left #[.agg #[.int .i64 n_Start268, .int .i64 n_Slots269, .int .i64 n_Backs270, .int .i64 n_Grow271, .int .i64 n_GrowBack272, s_Ins273.val, s_Outs274.val, .int .i64 n_Last275, s_Cells276.val]] w262 fun e277 w278 => ∃ n279 : Int, e277 = .returned (.int .i64 n279) ∧
 S236 w278 ∧
 brB (n279 != (0 : Int))
 (J17 true w278)
 (∃ n_Start280 : Int, ∃ n_Slots281 : Int, ∃ n_Backs282 : Int, ∃ n_Grow283 : Int, ∃ n_GrowBack284 : Int, ∃ s_Ins285 : Sl, ∃ s_Outs286 : Sl, ∃ n_Last287 : Int, ∃ s_Cells288 : Sl, held S236 ⟨a130, 0, none⟩ (.int .i64 n_Start280) ∧ held S236 ⟨a130, 1, none⟩ (.int .i64 n_Slots281) ∧ held S236 ⟨a130, 2, none⟩ (.int .i64 n_Backs282) ∧ held S236 ⟨a130, 3, none⟩ (.int .i64 n_Grow283) ∧ held S236 ⟨a130, 4, none⟩ (.int .i64 n_GrowBack284) ∧ held S236 ⟨a130, 5, none⟩ (s_Ins285.val) ∧ held S236 ⟨a130, 6, none⟩ (s_Outs286.val) ∧ held S236 ⟨a130, 7, none⟩ (.int .i64 n_Last287) ∧ held S236 ⟨a130, 8, none⟩ (s_Cells288.val) ∧
 Calls Try.prog fn_fold_Left #[.agg #[.int .i64 n_Start280, .int .i64 n_Slots281, .int .i64 n_Backs282, .int .i64 n_Grow283, .int .i64 n_GrowBack284, s_Ins285.val, s_Outs286.val, .int .i64 n_Last287, s_Cells288.val]] w278 fun e289 w290 => ∃ n291 : Int, e289 = .returned (.int .i64 n291) ∧
 S236 w290 ∧
 brB (n291 != (0 : Int))
 (J17 true w290)
 (∃ n_Start292 : Int, ∃ n_Slots293 : Int, ∃ n_Backs294 : Int, ∃ n_Grow295 : Int, ∃ n_GrowBack296 : Int, ∃ s_Ins297 : Sl, ∃ s_Outs298 : Sl, ∃ n_Last299 : Int, ∃ s_Cells300 : Sl, held S236 ⟨b10, 0, none⟩ (.int .i64 n_Start292) ∧ held S236 ⟨b10, 1, none⟩ (.int .i64 n_Slots293) ∧ held S236 ⟨b10, 2, none⟩ (.int .i64 n_Backs294) ∧ held S236 ⟨b10, 3, none⟩ (.int .i64 n_Grow295) ∧ held S236 ⟨b10, 4, none⟩ (.int .i64 n_GrowBack296) ∧ held S236 ⟨b10, 5, none⟩ (s_Ins297.val) ∧ held S236 ⟨b10, 6, none⟩ (s_Outs298.val) ∧ held S236 ⟨b10, 7, none⟩ (.int .i64 n_Last299) ∧ held S236 ⟨b10, 8, none⟩ (s_Cells300.val) ∧
 ∃ n_Start301 : Int, ∃ n_Slots302 : Int, ∃ n_Backs303 : Int, ∃ n_Grow304 : Int, ∃ n_GrowBack305 : Int, ∃ s_Ins306 : Sl, ∃ s_Outs307 : Sl, ∃ n_Last308 : Int, ∃ s_Cells309 : Sl, held S236 ⟨b10, 0, none⟩ (.int .i64 n_Start301) ∧ held S236 ⟨b10, 1, none⟩ (.int .i64 n_Slots302) ∧ held S236 ⟨b10, 2, none⟩ (.int .i64 n_Backs303) ∧ held S236 ⟨b10, 3, none⟩ (.int .i64 n_Grow304) ∧ held S236 ⟨b10, 4, none⟩ (.int .i64 n_GrowBack305) ∧ held S236 ⟨b10, 5, none⟩ (s_Ins306.val) ∧ held S236 ⟨b10, 6, none⟩ (s_Outs307.val) ∧ held S236 ⟨b10, 7, none⟩ (.int .i64 n_Last308) ∧ held S236 ⟨b10, 8, none⟩ (s_Cells309.val) ∧
 Calls Try.prog fn_fold_Left #[.agg #[.int .i64 n_Start292, .int .i64 n_Slots293, .int .i64 n_Backs294, .int .i64 n_Grow295, .int .i64 n_GrowBack296, s_Ins297.val, s_Outs298.val, .int .i64 n_Last299, s_Cells300.val]] w290 fun e310 w311 => ∃ n312 : Int, e310 = .returned (.int .i64 n312) ∧
 S236 w311 ∧
 Calls Try.prog fn_hollowaylaw17_left #[.agg #[.int .i64 n_Start301, .int .i64 n_Slots302, .int .i64 n_Backs303, .int .i64 n_Grow304, .int .i64 n_GrowBack305, s_Ins306.val, s_Outs307.val, .int .i64 n_Last308, s_Cells309.val]] w311 fun e313 w314 => ∃ n315 : Int, e313 = .returned (.int .i64 n315) ∧
 S236 w314 ∧
 J17 (!((n312 == (0 : Int)) == (n315 == (0 : Int)))) w314)))))))))))))) ∧
 ∃ n_Start134 : Int, ∃ n_Slots135 : Int, ∃ n_Backs136 : Int, ∃ n_Grow137 : Int, ∃ n_GrowBack138 : Int, ∃ s_Ins139 : Sl, ∃ s_Outs140 : Sl, ∃ n_Last141 : Int, ∃ s_Cells142 : Sl, w133.cell? ⟨a130, 0, none⟩ = some (.int .i64 n_Start134) ∧ w133.cell? ⟨a130, 1, none⟩ = some (.int .i64 n_Slots135) ∧ w133.cell? ⟨a130, 2, none⟩ = some (.int .i64 n_Backs136) ∧ w133.cell? ⟨a130, 3, none⟩ = some (.int .i64 n_Grow137) ∧ w133.cell? ⟨a130, 4, none⟩ = some (.int .i64 n_GrowBack138) ∧ w133.cell? ⟨a130, 5, none⟩ = some (s_Ins139.val) ∧ w133.cell? ⟨a130, 6, none⟩ = some (s_Outs140.val) ∧ w133.cell? ⟨a130, 7, none⟩ = some (.int .i64 n_Last141) ∧ w133.cell? ⟨a130, 8, none⟩ = some (s_Cells142.val) ∧
 ∃ n_Start143 : Int, ∃ n_Slots144 : Int, ∃ n_Backs145 : Int, ∃ n_Grow146 : Int, ∃ n_GrowBack147 : Int, ∃ s_Ins148 : Sl, ∃ s_Outs149 : Sl, ∃ n_Last150 : Int, ∃ s_Cells151 : Sl, w133.cell? ⟨b131, 0, none⟩ = some (.int .i64 n_Start143) ∧ w133.cell? ⟨b131, 1, none⟩ = some (.int .i64 n_Slots144) ∧ w133.cell? ⟨b131, 2, none⟩ = some (.int .i64 n_Backs145) ∧ w133.cell? ⟨b131, 3, none⟩ = some (.int .i64 n_Grow146) ∧ w133.cell? ⟨b131, 4, none⟩ = some (.int .i64 n_GrowBack147) ∧ w133.cell? ⟨b131, 5, none⟩ = some (s_Ins148.val) ∧ w133.cell? ⟨b131, 6, none⟩ = some (s_Outs149.val) ∧ w133.cell? ⟨b131, 7, none⟩ = some (.int .i64 n_Last150) ∧ w133.cell? ⟨b131, 8, none⟩ = some (s_Cells151.val) ∧
 Calls Try.prog fn_hollowaybook_SameTrace #[.agg #[.int .i64 n_Start134, .int .i64 n_Slots135, .int .i64 n_Backs136, .int .i64 n_Grow137, .int .i64 n_GrowBack138, s_Ins139.val, s_Outs140.val, .int .i64 n_Last141, s_Cells142.val], .agg #[.int .i64 n_Start143, .int .i64 n_Slots144, .int .i64 n_Backs145, .int .i64 n_Grow146, .int .i64 n_GrowBack147, s_Ins148.val, s_Outs149.val, .int .i64 n_Last150, s_Cells151.val]] w133 fun e152 w153 => ∃ b154 : Bool, e152 = .returned (.bool b154) ∧
 brB (!b154)
 (J8 true w153)
 (∃ n_Start155 : Int, ∃ n_Slots156 : Int, ∃ n_Backs157 : Int, ∃ n_Grow158 : Int, ∃ n_GrowBack159 : Int, ∃ s_Ins160 : Sl, ∃ s_Outs161 : Sl, ∃ n_Last162 : Int, ∃ s_Cells163 : Sl, w153.cell? ⟨b52, 0, none⟩ = some (.int .i64 n_Start155) ∧ w153.cell? ⟨b52, 1, none⟩ = some (.int .i64 n_Slots156) ∧ w153.cell? ⟨b52, 2, none⟩ = some (.int .i64 n_Backs157) ∧ w153.cell? ⟨b52, 3, none⟩ = some (.int .i64 n_Grow158) ∧ w153.cell? ⟨b52, 4, none⟩ = some (.int .i64 n_GrowBack159) ∧ w153.cell? ⟨b52, 5, none⟩ = some (s_Ins160.val) ∧ w153.cell? ⟨b52, 6, none⟩ = some (s_Outs161.val) ∧ w153.cell? ⟨b52, 7, none⟩ = some (.int .i64 n_Last162) ∧ w153.cell? ⟨b52, 8, none⟩ = some (s_Cells163.val) ∧
 ∃ n_Start164 : Int, ∃ n_Slots165 : Int, ∃ n_Backs166 : Int, ∃ n_Grow167 : Int, ∃ n_GrowBack168 : Int, ∃ s_Ins169 : Sl, ∃ s_Outs170 : Sl, ∃ n_Last171 : Int, ∃ s_Cells172 : Sl, w153.cell? ⟨b10, 0, none⟩ = some (.int .i64 n_Start164) ∧ w153.cell? ⟨b10, 1, none⟩ = some (.int .i64 n_Slots165) ∧ w153.cell? ⟨b10, 2, none⟩ = some (.int .i64 n_Backs166) ∧ w153.cell? ⟨b10, 3, none⟩ = some (.int .i64 n_Grow167) ∧ w153.cell? ⟨b10, 4, none⟩ = some (.int .i64 n_GrowBack168) ∧ w153.cell? ⟨b10, 5, none⟩ = some (s_Ins169.val) ∧ w153.cell? ⟨b10, 6, none⟩ = some (s_Outs170.val) ∧ w153.cell? ⟨b10, 7, none⟩ = some (.int .i64 n_Last171) ∧ w153.cell? ⟨b10, 8, none⟩ = some (s_Cells172.val) ∧
 Calls Try.prog fn_hollowaybook_StaysTrace #[.agg #[.int .i64 n_Start155, .int .i64 n_Slots156, .int .i64 n_Backs157, .int .i64 n_Grow158, .int .i64 n_GrowBack159, s_Ins160.val, s_Outs161.val, .int .i64 n_Last162, s_Cells163.val], .agg #[.int .i64 n_Start164, .int .i64 n_Slots165, .int .i64 n_Backs166, .int .i64 n_Grow167, .int .i64 n_GrowBack168, s_Ins169.val, s_Outs170.val, .int .i64 n_Last171, s_Cells172.val]] w153 fun e173 w174 => ∃ b175 : Bool, e173 = .returned (.bool b175) ∧
 J8 (!b175) w174))) ∧
 ∃ n_Start12 : Int, ∃ n_Slots13 : Int, ∃ n_Backs14 : Int, ∃ n_Grow15 : Int, ∃ n_GrowBack16 : Int, ∃ s_Ins17 : Sl, ∃ s_Outs18 : Sl, ∃ n_Last19 : Int, ∃ s_Cells20 : Sl, w11.cell? ⟨b10, 0, none⟩ = some (.int .i64 n_Start12) ∧ w11.cell? ⟨b10, 1, none⟩ = some (.int .i64 n_Slots13) ∧ w11.cell? ⟨b10, 2, none⟩ = some (.int .i64 n_Backs14) ∧ w11.cell? ⟨b10, 3, none⟩ = some (.int .i64 n_Grow15) ∧ w11.cell? ⟨b10, 4, none⟩ = some (.int .i64 n_GrowBack16) ∧ w11.cell? ⟨b10, 5, none⟩ = some (s_Ins17.val) ∧ w11.cell? ⟨b10, 6, none⟩ = some (s_Outs18.val) ∧ w11.cell? ⟨b10, 7, none⟩ = some (.int .i64 n_Last19) ∧ w11.cell? ⟨b10, 8, none⟩ = some (s_Cells20.val) ∧
 Calls Try.prog fn_hollowaylaw14_Light #[.agg #[.int .i64 n_Start12, .int .i64 n_Slots13, .int .i64 n_Backs14, .int .i64 n_Grow15, .int .i64 n_GrowBack16, s_Ins17.val, s_Outs18.val, .int .i64 n_Last19, s_Cells20.val]] w11 fun e21 w22 => ∃ b23 : Bool, e21 = .returned (.bool b23) ∧
 brB (!b23)
 (J3 true w22)
 (Calls Try.prog fn_hollowaylaw17_alive #[] w22 fun e24 w25 => ∃ b26 : Bool, e24 = .returned (.bool b26) ∧
 J3 (!b26) w25)
def hollowaylaw17_FoldTells_an : An := ⟨[], [(4, (6, .st 0 (.st 2 (.log [(1, true, [.int .i64, .int .i64, .int .i64, .int .i64, .int .i64, .sl, .sl, .int .i64, .sl]), (3, true, [.int .i64, .int .i64, .int .i64, .int .i64, .int .i64, .sl, .sl, .int .i64, .sl]), (4, false, [.blk]), (5, false, [.blk])] (.done))), 1)), (12, (81, .st 0 (.ef 1 (.st 2 (.st 3 (.st 4 (.st 5 (.st 6 (.st 7 (.st 8 (.st 9 (.st 10 (.st 11 (.st 12 (.st 13 (.st 14 (.st 15 (.st 16 (.st 17 (.st 18 (.st 19 (.st 20 (.st 21 (.st 22 (.st 23 (.st 24 (.st 25 (.st 26 (.st 27 (.st 28 (.st 29 (.st 30 (.st 31 (.st 32 (.st 33 (.st 34 (.st 35 (.st 36 (.st 37 (.st 38 (.st 39 (.st 40 (.st 41 (.st 42 (.ef 43 (.st 44 (.st 45 (.st 46 (.st 47 (.st 48 (.st 49 (.st 50 (.st 51 (.st 52 (.st 53 (.st 54 (.st 55 (.st 56 (.st 57 (.st 58 (.st 59 (.st 60 (.st 61 (.st 62 (.st 63 (.st 64 (.st 65 (.ef 66 (.st 67 (.st 68 (.st 69 (.st 70 (.ef 71 (.st 72 (.st 73 (.st 74 (.st 75 (.st 78 (.ef 76 (.st 77 (.ef 79 (.st 80 .done)))))))))))))))))))))))))))))))))))))))))))))))))))))))))))))))))))))))))))))))), 1)), (14, (7, .st 0 (.st 4 (.st 5 (.st 6 (.ef 1 (.ef 2 (.st 3 .done)))))), 1))], [(2, [(13, .bool)]), (6, [(30, .bool)]), (13, [(127, .bool)])]⟩
theorem hollowaylaw17_FoldTells_lift {t__Start1 : Int} {t__Slots2 : Int} {t__Backs3 : Int} {t__Grow4 : Int} {t__GrowBack5 : Int} {t__Ins6 : Sl} {t__Outs7 : Sl} {t__Last8 : Int} {t__Cells9 : Sl} {w : World} {K : Value → World → Prop} (h : hollowaylaw17_FoldTells_sh t__Start1 t__Slots2 t__Backs3 t__Grow4 t__GrowBack5 t__Ins6 t__Outs7 t__Last8 t__Cells9 w K) : Calls Try.prog fn_hollowaylaw17_FoldTells #[.agg #[.int .i64 t__Start1, .int .i64 t__Slots2, .int .i64 t__Backs3, .int .i64 t__Grow4, .int .i64 t__GrowBack5, t__Ins6.val, t__Outs7.val, .int .i64 t__Last8, t__Cells9.val]] w fun e w' => ∃ v, e = .returned v ∧ K v w' :=
   lift_calls (A := hollowaylaw17_FoldTells_an) (c := bodyOf Try.f6) (args := [.agg #[.int .i64 t__Start1, .int .i64 t__Slots2, .int .i64 t__Backs3, .int .i64 t__Grow4, .int .i64 t__GrowBack5, t__Ins6.val, t__Outs7.val, .int .i64 t__Last8, t__Cells9.val]]) orc orc_wide Try.func6 (by kernel_rfl) (by kernel_rfl) (Eq.mp (by kernel_rfl : hollowaylaw17_FoldTells_sh t__Start1 t__Slots2 t__Backs3 t__Grow4 t__GrowBack5 t__Ins6 t__Outs7 t__Last8 t__Cells9 w K = wpc orc Try.f6.ntmps hollowaylaw17_FoldTells_an (bodyOf Try.f6) (argl 0 [.agg #[.int .i64 t__Start1, .int .i64 t__Slots2, .int .i64 t__Backs3, .int .i64 t__Grow4, .int .i64 t__GrowBack5, t__Ins6.val, t__Outs7.val, .int .i64 t__Last8, t__Cells9.val]]) w (retQ orc Try.f6.results.toList K)) h)

-- holloway/hollowaylaw17.FoldHolds
-- holloway/hollowaylaw17.FoldConsts
-- holloway/hollowaylaw17.alive
def hollowaylaw17_alive_sh  (w : World) (K : Value → World → Prop) : Prop :=
 ∀ (b1 : Nat) (w2 : World), b1 = w.heap.size → w2 = World.alloc w (.cells #[.int .i64 (1 : Int), .int .i64 (2 : Int), .int .i64 (0 : Int), .int .i64 (0 : Int), .int .i64 (0 : Int), .int .i64 (1 : Int), .int .i64 (3 : Int), .int .i64 (0 : Int), .int .i64 (0 : Int), .int .i64 (0 : Int), .int .i64 (4 : Int), .int .i64 (11 : Int), .int .i64 (0 : Int), .int .i64 (1 : Int), .int .i64 (0 : Int)] T_api_Ins) →
 ∀ (b3 : Nat) (w4 : World), b3 = w2.heap.size → w4 = World.alloc w2 (.cells #[.int .i64 (2 : Int)] T_int) →
 ∀ (b5 : Nat) (w6 : World), b5 = w4.heap.size → w6 = World.alloc w4 (.cells #[.int .i64 (5 : Int), .int .i64 (1 : Int), .slice (some ⟨b3, 0, none⟩) 1 1, .slice none 0 0] T_api_Out) →
 ∀ (b7 : Nat) (w8 : World), b7 = w6.heap.size → w8 = World.alloc w6 (.cells #[.int .i64 (0 : Int), .int .i64 (0 : Int), .int .i64 (0 : Int), .int .i64 (0 : Int), .int .i64 (0 : Int), .slice none 0 0, .slice none 0 0, .int .i64 (0 : Int), .slice none 0 0] T_api_Trace) →
 wrOk w8 ⟨b7, 0, none⟩ 9 ∧ ∀ w9 : World, w9 = stW w8 ⟨b7, 0, none⟩ 0 [.int .i64 (5 : Int), .int .i64 (0 : Int), .int .i64 (0 : Int), .int .i64 (1 : Int), .int .i64 (0 : Int), .slice (some ⟨b1, 0, none⟩) 3 3, .slice (some ⟨b5, 0, none⟩) 1 1, .int .i64 (0 : Int), .slice none 0 0] →
 ∃ n_Start10 : Int, ∃ n_Slots11 : Int, ∃ n_Backs12 : Int, ∃ n_Grow13 : Int, ∃ n_GrowBack14 : Int, ∃ s_Ins15 : Sl, ∃ s_Outs16 : Sl, ∃ n_Last17 : Int, ∃ s_Cells18 : Sl, w9.cell? ⟨b7, 0, none⟩ = some (.int .i64 n_Start10) ∧ w9.cell? ⟨b7, 1, none⟩ = some (.int .i64 n_Slots11) ∧ w9.cell? ⟨b7, 2, none⟩ = some (.int .i64 n_Backs12) ∧ w9.cell? ⟨b7, 3, none⟩ = some (.int .i64 n_Grow13) ∧ w9.cell? ⟨b7, 4, none⟩ = some (.int .i64 n_GrowBack14) ∧ w9.cell? ⟨b7, 5, none⟩ = some (s_Ins15.val) ∧ w9.cell? ⟨b7, 6, none⟩ = some (s_Outs16.val) ∧ w9.cell? ⟨b7, 7, none⟩ = some (.int .i64 n_Last17) ∧ w9.cell? ⟨b7, 8, none⟩ = some (s_Cells18.val) ∧
 Calls Try.prog fn_fold_Do #[.agg #[.int .i64 n_Start10, .int .i64 n_Slots11, .int .i64 n_Backs12, .int .i64 n_Grow13, .int .i64 n_GrowBack14, s_Ins15.val, s_Outs16.val, .int .i64 n_Last17, s_Cells18.val]] w9 fun e19 w20 => ∃ n_Start21 : Int, ∃ n_Slots22 : Int, ∃ n_Backs23 : Int, ∃ n_Grow24 : Int, ∃ n_GrowBack25 : Int, ∃ s_Ins26 : Sl, ∃ s_Outs27 : Sl, ∃ n_Last28 : Int, ∃ s_Cells29 : Sl, e19 = .returned (.agg #[.int .i64 n_Start21, .int .i64 n_Slots22, .int .i64 n_Backs23, .int .i64 n_Grow24, .int .i64 n_GrowBack25, s_Ins26.val, s_Outs27.val, .int .i64 n_Last28, s_Cells29.val]) ∧
 ∀ (b30 : Nat) (w31 : World), b30 = w20.heap.size → w31 = World.alloc w20 (.cells #[.int .i64 (0 : Int), .int .i64 (0 : Int), .int .i64 (0 : Int), .int .i64 (0 : Int), .int .i64 (0 : Int), .slice none 0 0, .slice none 0 0, .int .i64 (0 : Int), .slice none 0 0] T_api_Trace) →
 wrOk w31 ⟨b30, 0, none⟩ 9 ∧ ∀ w32 : World, w32 = stW w31 ⟨b30, 0, none⟩ 0 [.int .i64 n_Start21, .int .i64 n_Slots22, .int .i64 n_Backs23, .int .i64 n_Grow24, .int .i64 n_GrowBack25, s_Ins26.val, s_Outs27.val, .int .i64 n_Last28, s_Cells29.val] →
 ∃ n_Start33 : Int, ∃ n_Slots34 : Int, ∃ n_Backs35 : Int, ∃ n_Grow36 : Int, ∃ n_GrowBack37 : Int, ∃ s_Ins38 : Sl, ∃ s_Outs39 : Sl, ∃ n_Last40 : Int, ∃ s_Cells41 : Sl, w32.cell? ⟨b7, 0, none⟩ = some (.int .i64 n_Start33) ∧ w32.cell? ⟨b7, 1, none⟩ = some (.int .i64 n_Slots34) ∧ w32.cell? ⟨b7, 2, none⟩ = some (.int .i64 n_Backs35) ∧ w32.cell? ⟨b7, 3, none⟩ = some (.int .i64 n_Grow36) ∧ w32.cell? ⟨b7, 4, none⟩ = some (.int .i64 n_GrowBack37) ∧ w32.cell? ⟨b7, 5, none⟩ = some (s_Ins38.val) ∧ w32.cell? ⟨b7, 6, none⟩ = some (s_Outs39.val) ∧ w32.cell? ⟨b7, 7, none⟩ = some (.int .i64 n_Last40) ∧ w32.cell? ⟨b7, 8, none⟩ = some (s_Cells41.val) ∧
 Calls Try.prog fn_fold_Left #[.agg #[.int .i64 n_Start33, .int .i64 n_Slots34, .int .i64 n_Backs35, .int .i64 n_Grow36, .int .i64 n_GrowBack37, s_Ins38.val, s_Outs39.val, .int .i64 n_Last40, s_Cells41.val]] w32 fun e42 w43 => ∃ n44 : Int, e42 = .returned (.int .i64 n44) ∧
 brB (n44 == (1 : Int))
 (∃ n_Start45 : Int, ∃ n_Slots46 : Int, ∃ n_Backs47 : Int, ∃ n_Grow48 : Int, ∃ n_GrowBack49 : Int, ∃ s_Ins50 : Sl, ∃ s_Outs51 : Sl, ∃ n_Last52 : Int, ∃ s_Cells53 : Sl, w43.cell? ⟨b30, 0, none⟩ = some (.int .i64 n_Start45) ∧ w43.cell? ⟨b30, 1, none⟩ = some (.int .i64 n_Slots46) ∧ w43.cell? ⟨b30, 2, none⟩ = some (.int .i64 n_Backs47) ∧ w43.cell? ⟨b30, 3, none⟩ = some (.int .i64 n_Grow48) ∧ w43.cell? ⟨b30, 4, none⟩ = some (.int .i64 n_GrowBack49) ∧ w43.cell? ⟨b30, 5, none⟩ = some (s_Ins50.val) ∧ w43.cell? ⟨b30, 6, none⟩ = some (s_Outs51.val) ∧ w43.cell? ⟨b30, 7, none⟩ = some (.int .i64 n_Last52) ∧ w43.cell? ⟨b30, 8, none⟩ = some (s_Cells53.val) ∧
 Calls Try.prog fn_fold_Left #[.agg #[.int .i64 n_Start45, .int .i64 n_Slots46, .int .i64 n_Backs47, .int .i64 n_Grow48, .int .i64 n_GrowBack49, s_Ins50.val, s_Outs51.val, .int .i64 n_Last52, s_Cells53.val]] w43 fun e54 w55 => ∃ n56 : Int, e54 = .returned (.int .i64 n56) ∧
 brB (n56 == (0 : Int))
 (∃ n_Start57 : Int, ∃ n_Slots58 : Int, ∃ n_Backs59 : Int, ∃ n_Grow60 : Int, ∃ n_GrowBack61 : Int, ∃ s_Ins62 : Sl, ∃ s_Outs63 : Sl, ∃ n_Last64 : Int, ∃ s_Cells65 : Sl, w55.cell? ⟨b30, 0, none⟩ = some (.int .i64 n_Start57) ∧ w55.cell? ⟨b30, 1, none⟩ = some (.int .i64 n_Slots58) ∧ w55.cell? ⟨b30, 2, none⟩ = some (.int .i64 n_Backs59) ∧ w55.cell? ⟨b30, 3, none⟩ = some (.int .i64 n_Grow60) ∧ w55.cell? ⟨b30, 4, none⟩ = some (.int .i64 n_GrowBack61) ∧ w55.cell? ⟨b30, 5, none⟩ = some (s_Ins62.val) ∧ w55.cell? ⟨b30, 6, none⟩ = some (s_Outs63.val) ∧ w55.cell? ⟨b30, 7, none⟩ = some (.int .i64 n_Last64) ∧ w55.cell? ⟨b30, 8, none⟩ = some (s_Cells65.val) ∧
 Calls Try.prog fn_hollowayref15_Right #[.agg #[.int .i64 n_Start57, .int .i64 n_Slots58, .int .i64 n_Backs59, .int .i64 n_Grow60, .int .i64 n_GrowBack61, s_Ins62.val, s_Outs63.val, .int .i64 n_Last64, s_Cells65.val]] w55 fun e66 w67 => ∃ b68 : Bool, e66 = .returned (.bool b68) ∧
 brB b68
 (∃ s69 : Sl, w67.cell? ⟨b30, 5, none⟩ = some (s69.val) ∧
 K (.bool (decide ((s69.len : Int) ≤ (3 : Int)))) w67)
 (K (.bool false) w67))
 (K (.bool false) w55))
 (K (.bool false) w43)
def hollowaylaw17_alive_an : An := ⟨[], [], []⟩
theorem hollowaylaw17_alive_lift  {w : World} {K : Value → World → Prop} (h : hollowaylaw17_alive_sh  w K) : Calls Try.prog fn_hollowaylaw17_alive #[] w fun e w' => ∃ v, e = .returned v ∧ K v w' :=
   lift_calls (A := hollowaylaw17_alive_an) (c := bodyOf Try.f25) (args := []) orc orc_wide Try.func25 (by kernel_rfl) (by kernel_rfl) (Eq.mp (by kernel_rfl : hollowaylaw17_alive_sh  w K = wpc orc Try.f25.ntmps hollowaylaw17_alive_an (bodyOf Try.f25) (argl 0 []) w (retQ orc Try.f25.results.toList K)) h)

-- holloway/hollowaylaw17.left
def hollowaylaw17_left_sh (t__Start1 : Int) (t__Slots2 : Int) (t__Backs3 : Int) (t__Grow4 : Int) (t__GrowBack5 : Int) (t__Ins6 : Sl) (t__Outs7 : Sl) (t__Last8 : Int) (t__Cells9 : Sl) (w : World) (K : Value → World → Prop) : Prop :=
 ∀ (b10 : Nat) (w11 : World), b10 = w.heap.size → w11 = World.alloc w (.cells #[.int .i64 t__Start1, .int .i64 t__Slots2, .int .i64 t__Backs3, .int .i64 t__Grow4, .int .i64 t__GrowBack5, t__Ins6.val, t__Outs7.val, .int .i64 t__Last8, t__Cells9.val] T_api_Trace) →
 ∃ (I1 : Int → Int → World → Prop) (μ1 : Int → Int → World → Nat), I1 (0 : Int) (0 : Int) w11 ∧ ∀ (n64 : Int) (k13 : Int) (w12 : World), I1 n64 k13 w12 →
 ∃ s14 : Sl, w12.cell? ⟨b10, 5, none⟩ = some (s14.val) ∧
 brB (decide (k13 < (s14.len : Int)))
 (∃ J7 : Int → World → Prop, (∀ (n70 : Int) (w69 : World), J7 n70 w69 →
 I1 n70 (wr (k13 + (1 : Int))) w69 ∧ μ1 n70 (wr (k13 + (1 : Int))) w69 < μ1 n64 k13 w12) ∧
 ∃ s15 : Sl, w12.cell? ⟨b10, 5, none⟩ = some (s15.val) ∧
 ∃ a16 : Addr, s15.ptr = some a16 ∧ 0 ≤ k13 ∧ k13 < (s15.len : Int) ∧
 ∃ n_Op17 : Int, ∃ n_A18 : Int, ∃ n_B19 : Int, ∃ n_C20 : Int, ∃ n_X21 : Int, w12.cell? (Addr.add a16 (Int.toNat k13 * 5)) = some (.int .i64 n_Op17) ∧ w12.cell? (Addr.add (Addr.add a16 (Int.toNat k13 * 5)) 1) = some (.int .i64 n_A18) ∧ w12.cell? (Addr.add (Addr.add a16 (Int.toNat k13 * 5)) 2) = some (.int .i64 n_B19) ∧ w12.cell? (Addr.add (Addr.add a16 (Int.toNat k13 * 5)) 3) = some (.int .i64 n_C20) ∧ w12.cell? (Addr.add (Addr.add a16 (Int.toNat k13 * 5)) 4) = some (.int .i64 n_X21) ∧
 ∀ (b22 : Nat) (w23 : World), b22 = w12.heap.size → w23 = World.alloc w12 (.cells #[.int .i64 (0 : Int), .int .i64 (0 : Int), .int .i64 (0 : Int), .int .i64 (0 : Int), .int .i64 (0 : Int)] T_api_Ins) →
 wrOk w23 ⟨b22, 0, none⟩ 5 ∧ ∀ w24 : World, w24 = stW w23 ⟨b22, 0, none⟩ 0 [.int .i64 n_Op17, .int .i64 n_A18, .int .i64 n_B19, .int .i64 n_C20, .int .i64 n_X21] →
 ∃ n_Start25 : Int, ∃ n_Slots26 : Int, ∃ n_Backs27 : Int, ∃ n_Grow28 : Int, ∃ n_GrowBack29 : Int, ∃ s_Ins30 : Sl, ∃ s_Outs31 : Sl, ∃ n_Last32 : Int, ∃ s_Cells33 : Sl, w24.cell? ⟨b10, 0, none⟩ = some (.int .i64 n_Start25) ∧ w24.cell? ⟨b10, 1, none⟩ = some (.int .i64 n_Slots26) ∧ w24.cell? ⟨b10, 2, none⟩ = some (.int .i64 n_Backs27) ∧ w24.cell? ⟨b10, 3, none⟩ = some (.int .i64 n_Grow28) ∧ w24.cell? ⟨b10, 4, none⟩ = some (.int .i64 n_GrowBack29) ∧ w24.cell? ⟨b10, 5, none⟩ = some (s_Ins30.val) ∧ w24.cell? ⟨b10, 6, none⟩ = some (s_Outs31.val) ∧ w24.cell? ⟨b10, 7, none⟩ = some (.int .i64 n_Last32) ∧ w24.cell? ⟨b10, 8, none⟩ = some (s_Cells33.val) ∧
 ∃ n_Op34 : Int, ∃ n_A35 : Int, ∃ n_B36 : Int, ∃ n_C37 : Int, ∃ n_X38 : Int, w24.cell? ⟨b22, 0, none⟩ = some (.int .i64 n_Op34) ∧ w24.cell? ⟨b22, 1, none⟩ = some (.int .i64 n_A35) ∧ w24.cell? ⟨b22, 2, none⟩ = some (.int .i64 n_B36) ∧ w24.cell? ⟨b22, 3, none⟩ = some (.int .i64 n_C37) ∧ w24.cell? ⟨b22, 4, none⟩ = some (.int .i64 n_X38) ∧
 Calls Try.prog fn_hollowaylaw17_constant #[.agg #[.int .i64 n_Start25, .int .i64 n_Slots26, .int .i64 n_Backs27, .int .i64 n_Grow28, .int .i64 n_GrowBack29, s_Ins30.val, s_Outs31.val, .int .i64 n_Last32, s_Cells33.val], .agg #[.int .i64 n_Op34, .int .i64 n_A35, .int .i64 n_B36, .int .i64 n_C37, .int .i64 n_X38]] w24 fun e39 w40 => ∃ b41 : Bool, e39 = .returned (.bool b41) ∧
 brB (!b41)
 (J7 n64 w40)
 (∃ s42 : Sl, w40.cell? ⟨b10, 5, none⟩ = some (s42.val) ∧
 ∃ n43 : Int, w40.cell? ⟨b22, 2, none⟩ = some (.int .i64 n43) ∧
 ∃ a44 : Addr, s42.ptr = some a44 ∧ 0 ≤ n43 ∧ n43 < (s42.len : Int) ∧
 ∃ n45 : Int, w40.cell? (Addr.add (Addr.add a44 (Int.toNat n43 * 5)) 1) = some (.int .i64 n45) ∧
 ∃ n46 : Int, w40.cell? ⟨b22, 0, none⟩ = some (.int .i64 n46) ∧
 brB (n46 == (4 : Int))
 (∃ J15 : Bool → World → Prop, (∀ (ok63 : Bool) (w62 : World), J15 ok63 w62 →
 brB ok63
 (J7 (wr (n64 + (1 : Int))) w62)
 (J7 n64 w62)) ∧
 ∃ n47 : Int, w40.cell? ⟨b22, 1, none⟩ = some (.int .i64 n47) ∧
 Calls Try.prog fn_hollowayref1_IsTwo #[.int .i64 n47] w40 fun e48 w49 => ∃ b50 : Bool, e48 = .returned (.bool b50) ∧
 brB b50
 (∀ w51 : World, w51 = World.drew w49 →
 ∃ S52 : World → Prop, S52 w51 ∧
 ∃ n53 : Int, held S52 ⟨b22, 1, none⟩ (.int .i64 n53) ∧
 ∃ s54 : Sl, held S52 ⟨b10, 5, none⟩ (s54.val) ∧
 ∃ n55 : Int, held S52 ⟨b22, 3, none⟩ (.int .i64 n55) ∧
 ∃ a56 : Addr, s54.ptr = some a56 ∧ 0 ≤ n55 ∧ n55 < (s54.len : Int) ∧
 ∃ n57 : Int, held S52 (Addr.add (Addr.add a56 (Int.toNat n55 * 5)) 1) (.int .i64 n57) ∧
 Calls Try.prog fn_hollowayref1_Two #[.int .i64 n53, .int .i64 n45, .int .i64 n57] w51 fun e58 w59 => ∃ n60 : Int, ∃ b61 : Bool, e58 = .returned (.tuple #[.int .i64 n60, .bool b61]) ∧
 S52 w59 ∧
 J15 b61 w59)
 (J15 true w49))
 (brB (n46 == (7 : Int))
 (brB (n45 != (0 : Int))
 (J7 (wr (n64 + (1 : Int))) w40)
 (J7 n64 w40))
 (brB (n46 == (8 : Int))
 (brB (n45 == (0 : Int))
 (J7 (wr (n64 + (1 : Int))) w40)
 (J7 n64 w40))
 (brB (n46 == (9 : Int))
 (∃ s65 : Sl, w40.cell? ⟨b10, 5, none⟩ = some (s65.val) ∧
 ∃ n66 : Int, w40.cell? ⟨b22, 3, none⟩ = some (.int .i64 n66) ∧
 ∃ a67 : Addr, s65.ptr = some a67 ∧ 0 ≤ n66 ∧ n66 < (s65.len : Int) ∧
 ∃ n68 : Int, w40.cell? (Addr.add (Addr.add a67 (Int.toNat n66 * 5)) 1) = some (.int .i64 n68) ∧
 brB (n45 == n68)
 (J7 (wr (n64 + (1 : Int))) w40)
 (J7 n64 w40))
 (J7 n64 w40))))))
 (K (.int .i64 n64) w12)
def hollowaylaw17_left_an : An := ⟨[(3, [(3, .int .i64), (4, .int .i64)])], [(12, (14, .st 0 (.st 1 (.st 2 (.st 3 (.st 4 (.st 5 (.st 6 (.st 7 (.st 8 (.st 9 (.ef 10 (.st 11 (.st 12 (.st 13 .done))))))))))))), 1))], [(13, [(7, .bool)]), (4, [(3, .int .i64)])]⟩
theorem hollowaylaw17_left_lift {t__Start1 : Int} {t__Slots2 : Int} {t__Backs3 : Int} {t__Grow4 : Int} {t__GrowBack5 : Int} {t__Ins6 : Sl} {t__Outs7 : Sl} {t__Last8 : Int} {t__Cells9 : Sl} {w : World} {K : Value → World → Prop} (h : hollowaylaw17_left_sh t__Start1 t__Slots2 t__Backs3 t__Grow4 t__GrowBack5 t__Ins6 t__Outs7 t__Last8 t__Cells9 w K) : Calls Try.prog fn_hollowaylaw17_left #[.agg #[.int .i64 t__Start1, .int .i64 t__Slots2, .int .i64 t__Backs3, .int .i64 t__Grow4, .int .i64 t__GrowBack5, t__Ins6.val, t__Outs7.val, .int .i64 t__Last8, t__Cells9.val]] w fun e w' => ∃ v, e = .returned v ∧ K v w' :=
   lift_calls (A := hollowaylaw17_left_an) (c := bodyOf Try.f31) (args := [.agg #[.int .i64 t__Start1, .int .i64 t__Slots2, .int .i64 t__Backs3, .int .i64 t__Grow4, .int .i64 t__GrowBack5, t__Ins6.val, t__Outs7.val, .int .i64 t__Last8, t__Cells9.val]]) orc orc_wide Try.func31 (by kernel_rfl) (by kernel_rfl) (Eq.mp (by kernel_rfl : hollowaylaw17_left_sh t__Start1 t__Slots2 t__Backs3 t__Grow4 t__GrowBack5 t__Ins6 t__Outs7 t__Last8 t__Cells9 w K = wpc orc Try.f31.ntmps hollowaylaw17_left_an (bodyOf Try.f31) (argl 0 [.agg #[.int .i64 t__Start1, .int .i64 t__Slots2, .int .i64 t__Backs3, .int .i64 t__Grow4, .int .i64 t__GrowBack5, t__Ins6.val, t__Outs7.val, .int .i64 t__Last8, t__Cells9.val]]) w (retQ orc Try.f31.results.toList K)) h)

-- holloway/hollowaylaw17.constant
def hollowaylaw17_constant_sh (t__Start1 : Int) (t__Slots2 : Int) (t__Backs3 : Int) (t__Grow4 : Int) (t__GrowBack5 : Int) (t__Ins6 : Sl) (t__Outs7 : Sl) (t__Last8 : Int) (t__Cells9 : Sl) (i__Op10 : Int) (i__A11 : Int) (i__B12 : Int) (i__C13 : Int) (i__X14 : Int) (w : World) (K : Value → World → Prop) : Prop :=
 ∀ (b15 : Nat) (w16 : World), b15 = w.heap.size → w16 = World.alloc w (.cells #[.int .i64 t__Start1, .int .i64 t__Slots2, .int .i64 t__Backs3, .int .i64 t__Grow4, .int .i64 t__GrowBack5, t__Ins6.val, t__Outs7.val, .int .i64 t__Last8, t__Cells9.val] T_api_Trace) →
 ∀ (b17 : Nat) (w18 : World), b17 = w16.heap.size → w18 = World.alloc w16 (.cells #[.int .i64 i__Op10, .int .i64 i__A11, .int .i64 i__B12, .int .i64 i__C13, .int .i64 i__X14] T_api_Ins) →
 ∃ n_Op19 : Int, ∃ n_A20 : Int, ∃ n_B21 : Int, ∃ n_C22 : Int, ∃ n_X23 : Int, w18.cell? ⟨b17, 0, none⟩ = some (.int .i64 n_Op19) ∧ w18.cell? ⟨b17, 1, none⟩ = some (.int .i64 n_A20) ∧ w18.cell? ⟨b17, 2, none⟩ = some (.int .i64 n_B21) ∧ w18.cell? ⟨b17, 3, none⟩ = some (.int .i64 n_C22) ∧ w18.cell? ⟨b17, 4, none⟩ = some (.int .i64 n_X23) ∧
 Calls Try.prog fn_hollowayref15_Uses #[.agg #[.int .i64 n_Op19, .int .i64 n_A20, .int .i64 n_B21, .int .i64 n_C22, .int .i64 n_X23]] w18 fun e24 w25 => ∃ s26 : Sl, e24 = .returned (s26.val) ∧
 ∃ (I1 : Int → World → Prop) (μ1 : Int → World → Nat), I1 (0 : Int) w25 ∧ ∀ (k28 : Int) (w27 : World), I1 k28 w27 →
 brB (decide (k28 < (s26.len : Int)))
 (∀ w29 : World, w29 = World.drew w27 →
 ∃ s30 : Sl, held (Lw w29) ⟨b15, 5, none⟩ (s30.val) ∧
 ∃ a31 : Addr, s26.ptr = some a31 ∧ 0 ≤ k28 ∧ k28 < (s26.len : Int) ∧
 ∃ n32 : Int, held (Lw w29) (Addr.add a31 (Int.toNat k28 * 1)) (.int .i64 n32) ∧
 ∃ a33 : Addr, s30.ptr = some a33 ∧ 0 ≤ n32 ∧ n32 < (s30.len : Int) ∧
 ∃ n34 : Int, held (Lw w29) (Addr.add a33 (Int.toNat n32 * 5)) (.int .i64 n34) ∧
 brB (n34 != (1 : Int))
 (K (.bool false) w29)
 (I1 (wr (k28 + (1 : Int))) w29 ∧ μ1 (wr (k28 + (1 : Int))) w29 < μ1 k28 w27))
 (K (.bool (decide ((s26.len : Int) > (0 : Int)))) w27)
def hollowaylaw17_constant_an : An := ⟨[(3, [(6, .int .i64)])], [(5, (10, .st 0 (.st 1 (.st 2 (.st 3 (.st 4 (.st 5 (.st 6 (.st 7 (.st 8 (.st 9 .done))))))))), 0))], []⟩
theorem hollowaylaw17_constant_lift {t__Start1 : Int} {t__Slots2 : Int} {t__Backs3 : Int} {t__Grow4 : Int} {t__GrowBack5 : Int} {t__Ins6 : Sl} {t__Outs7 : Sl} {t__Last8 : Int} {t__Cells9 : Sl} {i__Op10 : Int} {i__A11 : Int} {i__B12 : Int} {i__C13 : Int} {i__X14 : Int} {w : World} {K : Value → World → Prop} (h : hollowaylaw17_constant_sh t__Start1 t__Slots2 t__Backs3 t__Grow4 t__GrowBack5 t__Ins6 t__Outs7 t__Last8 t__Cells9 i__Op10 i__A11 i__B12 i__C13 i__X14 w K) : Calls Try.prog fn_hollowaylaw17_constant #[.agg #[.int .i64 t__Start1, .int .i64 t__Slots2, .int .i64 t__Backs3, .int .i64 t__Grow4, .int .i64 t__GrowBack5, t__Ins6.val, t__Outs7.val, .int .i64 t__Last8, t__Cells9.val], .agg #[.int .i64 i__Op10, .int .i64 i__A11, .int .i64 i__B12, .int .i64 i__C13, .int .i64 i__X14]] w fun e w' => ∃ v, e = .returned v ∧ K v w' :=
   lift_calls (A := hollowaylaw17_constant_an) (c := bodyOf Try.f73) (args := [.agg #[.int .i64 t__Start1, .int .i64 t__Slots2, .int .i64 t__Backs3, .int .i64 t__Grow4, .int .i64 t__GrowBack5, t__Ins6.val, t__Outs7.val, .int .i64 t__Last8, t__Cells9.val], .agg #[.int .i64 i__Op10, .int .i64 i__A11, .int .i64 i__B12, .int .i64 i__C13, .int .i64 i__X14]]) orc orc_wide Try.func73 (by kernel_rfl) (by kernel_rfl) (Eq.mp (by kernel_rfl : hollowaylaw17_constant_sh t__Start1 t__Slots2 t__Backs3 t__Grow4 t__GrowBack5 t__Ins6 t__Outs7 t__Last8 t__Cells9 i__Op10 i__A11 i__B12 i__C13 i__X14 w K = wpc orc Try.f73.ntmps hollowaylaw17_constant_an (bodyOf Try.f73) (argl 0 [.agg #[.int .i64 t__Start1, .int .i64 t__Slots2, .int .i64 t__Backs3, .int .i64 t__Grow4, .int .i64 t__GrowBack5, t__Ins6.val, t__Outs7.val, .int .i64 t__Last8, t__Cells9.val], .agg #[.int .i64 i__Op10, .int .i64 i__A11, .int .i64 i__B12, .int .i64 i__C13, .int .i64 i__X14]]) w (retQ orc Try.f73.results.toList K)) h)

end Go.Proofs.Ytblmoilneiffgaa
