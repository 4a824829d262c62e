/- The lifted texts of small packages. -/
import Derived.Test.YtblmoilneiffgaaProg
import Derived.Test.YtblmoilneiffgaaJ1
import Derived.Test.YtblmoilneiffgaaJ2

/- What the lift is told of the program: types and functions, each fact proved. Printed by a program of mine (wip/lift/gen.py). -/
set_option maxRecDepth 100000
namespace Go.Proofs.Ytblmoilneiffgaa
open Go.RowKit

@[reducible] def T_int : TypeId := 3
@[reducible] def T_uint8 : TypeId := 5
@[reducible] def T_string : TypeId := 9
@[reducible] def T_sl_api_Ins : TypeId := 22
@[reducible] def T_sl_api_Out : TypeId := 23
@[reducible] def T_sl_int : TypeId := 24
@[reducible] def T_api_Trace : TypeId := 26
@[reducible] def T_api_State : TypeId := 28
@[reducible] def T_eval_Done : TypeId := 34
@[reducible] def T_api_Out : TypeId := 39
@[reducible] def T_api_Ins : TypeId := 43
@[reducible] def T_sl_uint8 : TypeId := 45
@[reducible] def T_slots_Code : TypeId := 127
@[reducible] def T_eval_engine : TypeId := 132
@[reducible] def T_func_int_sl_int : TypeId := 170
@[reducible] def fn_hollowaylaw20_SlotsMany : FuncId := 15
@[reducible] def fn_eval_May : FuncId := 23
@[reducible] def fn_hollowaylaw20_alive : FuncId := 41
@[reducible] def fn_slots_Make : FuncId := 42
@[reducible] def fn_slots_Code_Run : FuncId := 43
@[reducible] def fn_slots_Least : FuncId := 44
@[reducible] def fn_slots_Code_Registers : FuncId := 45
@[reducible] def fn_eval_Through : FuncId := 55
@[reducible] def fn_ir_Right : FuncId := 59
@[reducible] def fn_slices_Clone_sl_int_int : FuncId := 64
@[reducible] def fn_slots_Code_Len : FuncId := 111
@[reducible] def fn_slots_own : FuncId := 112
@[reducible] def fn_slots_allot : FuncId := 113
@[reducible] def fn_slots_Code_Through : FuncId := 114
@[reducible] def fn_inner_Copy : FuncId := 116
@[reducible] def fn_eval_engine_ins : FuncId := 117
@[reducible] def fn_eval_engine_leave : FuncId := 118
@[reducible] def fn_ir_head : FuncId := 122
@[reducible] def fn_ir_cells : FuncId := 123
@[reducible] def fn_ir_named : FuncId := 124
@[reducible] def fn_ir_out : FuncId := 125
@[reducible] def fn_ir_single : FuncId := 126
@[reducible] def fn_ir_places : FuncId := 127
@[reducible] def fn_ir_Uses : FuncId := 128
@[reducible] def fn_ir_Outs : FuncId := 129
@[reducible] def fn_cell_One : FuncId := 131
@[reducible] def fn_cell_Two : FuncId := 132
@[reducible] def fn_slices_Clone_sl_api_Ins_api_Ins : FuncId := 148
@[reducible] def fn_slices_Clone_sl_api_Out_api_Out : FuncId := 149
@[reducible] def fn_slots_lives : FuncId := 150
@[reducible] def fn_ir_Gives : FuncId := 151
@[reducible] def fn_slices_IndexFunc_sl_int_int : FuncId := 152
@[reducible] def fn_slots_allot_1 : FuncId := 153
@[reducible] def fn_eval_engine_set : FuncId := 154
@[reducible] def fn_eval_engine_calc : FuncId := 155
@[reducible] def fn_eval_engine_memory : FuncId := 156
@[reducible] def fn_eval_must : FuncId := 157
@[reducible] def fn_eval_engine_value : FuncId := 158
@[reducible] def fn_eval_engine_say : FuncId := 159
@[reducible] def fn_eval_engine_ask : FuncId := 160
@[reducible] def fn_eval_engine_values : FuncId := 161
@[reducible] def fn_ir_between : FuncId := 162
@[reducible] def fn_ir_two : FuncId := 163
@[reducible] def fn_ir_one : FuncId := 164
@[reducible] def fn_slots_lives_1 : FuncId := 170
@[reducible] def fn_slots_lives_2 : FuncId := 171
@[reducible] def fn_slices_Contains_sl_int_int : FuncId := 172
@[reducible] def fn_digits_Put : FuncId := 173
@[reducible] def fn_slices_Index_sl_int_int : FuncId := 174
@[reducible] def fn_digits_Right : FuncId := 175
def orc_ts : List (Nat × Ti) := [(3, ⟨.int .i64, false, [.int .i64]⟩),
  (4, ⟨.bool, false, [.bool]⟩),
  (5, ⟨.int .u8, false, [.int .u8]⟩),
  (9, ⟨.str, false, [.str]⟩),
  (22, ⟨.sl 43, false, [.sl]⟩),
  (23, ⟨.sl 39, false, [.sl]⟩),
  (24, ⟨.sl 3, false, [.sl]⟩),
  (26, ⟨.st [(0, 3), (1, 3), (2, 3), (3, 3), (4, 3), (5, 22), (6, 23), (7, 3), (8, 24)], true, [.int .i64, .int .i64, .int .i64, .int .i64, .int .i64, .sl, .sl, .int .i64, .sl]⟩),
  (28, ⟨.st [(0, 3), (1, 3), (2, 24), (3, 24), (4, 24), (5, 9), (6, 9), (7, 3), (8, 3), (9, 3)], true, [.int .i64, .int .i64, .sl, .sl, .sl, .str, .str, .int .i64, .int .i64, .int .i64]⟩),
  (34, ⟨.st [(0, 3), (1, 3), (2, 4)], true, [.int .i64, .int .i64, .bool]⟩),
  (39, ⟨.st [(0, 3), (1, 3), (2, 24), (3, 24)], true, [.int .i64, .int .i64, .sl, .sl]⟩),
  (43, ⟨.st [(0, 3), (1, 3), (2, 3), (3, 3), (4, 3)], true, [.int .i64, .int .i64, .int .i64, .int .i64, .int .i64]⟩),
  (44, ⟨.sl 4, false, [.sl]⟩),
  (45, ⟨.sl 5, false, [.sl]⟩),
  (50, ⟨.sl 144, false, [.sl]⟩),
  (51, ⟨.sl 24, false, [.sl]⟩),
  (52, ⟨.sl 146, false, [.sl]⟩),
  (53, ⟨.sl 148, false, [.sl]⟩),
  (54, ⟨.sl 22, false, [.sl]⟩),
  (55, ⟨.sl 23, false, [.sl]⟩),
  (57, ⟨.st [(0, 50), (1, 50), (2, 51), (3, 51), (4, 52), (5, 52), (6, 53), (7, 53), (8, 54), (9, 54), (10, 55), (11, 55)], true, [.sl, .sl, .sl, .sl, .sl, .sl, .sl, .sl, .sl, .sl, .sl, .sl]⟩),
  (63, ⟨.int .u64, false, [.int .u64]⟩),
  (65, ⟨.ptr, false, [.ptr]⟩),
  (82, ⟨.sl 3, false, [.sl]⟩),
  (109, ⟨.other, false, [.mp]⟩),
  (110, ⟨.other, false, [.mp]⟩),
  (112, ⟨.st [(0, 109), (1, 110), (2, 110)], true, [.mp, .mp, .mp]⟩),
  (119, ⟨.st [(0, 26), (9, 44), (10, 44)], true, [.int .i64, .int .i64, .int .i64, .int .i64, .int .i64, .sl, .sl, .int .i64, .sl, .sl, .sl]⟩),
  (127, ⟨.st [(0, 26), (9, 24), (10, 3)], true, [.int .i64, .int .i64, .int .i64, .int .i64, .int .i64, .sl, .sl, .int .i64, .sl, .sl, .int .i64]⟩),
  (132, ⟨.st [(0, 26), (9, 28), (19, 24), (20, 24), (21, 24), (22, 3)], true, [.int .i64, .int .i64, .int .i64, .int .i64, .int .i64, .sl, .sl, .int .i64, .sl, .int .i64, .int .i64, .sl, .sl, .sl, .str, .str, .int .i64, .int .i64, .int .i64, .sl, .sl, .sl, .int .i64]⟩),
  (141, ⟨.int .u64, false, [.int .u64]⟩),
  (144, ⟨.sl 9, false, [.sl]⟩),
  (146, ⟨.sl 154, false, [.sl]⟩),
  (148, ⟨.sl 157, false, [.sl]⟩),
  (154, ⟨.st [(0, 9), (1, 3), (2, 3), (3, 4)], true, [.str, .int .i64, .int .i64, .bool]⟩),
  (157, ⟨.st [(0, 3), (1, 3), (2, 3), (3, 3)], true, [.int .i64, .int .i64, .int .i64, .int .i64]⟩),
  (159, ⟨.arr 2 3, true, [.int .i64, .int .i64]⟩),
  (170, ⟨.other, false, [.val]⟩)]
theorem orc_tok : AllTi Try.prog orc_ts := ⟨⟨⟨_, Try.runUnderlying3, rfl⟩, Try.isAgg3, Try.sizeOf3⟩,
  ⟨⟨_, Try.runUnderlying4, rfl⟩, Try.isAgg4, Try.sizeOf4⟩,
  ⟨⟨_, Try.runUnderlying5, rfl⟩, Try.isAgg5, Try.sizeOf5⟩,
  ⟨⟨_, Try.runUnderlying9, rfl⟩, Try.isAgg9, Try.sizeOf9⟩,
  ⟨⟨_, Try.runUnderlying22, rfl⟩, Try.isAgg22, Try.sizeOf22⟩,
  ⟨⟨_, Try.runUnderlying23, rfl⟩, Try.isAgg23, Try.sizeOf23⟩,
  ⟨⟨_, Try.runUnderlying24, rfl⟩, Try.isAgg24, Try.sizeOf24⟩,
  ⟨⟨_, Try.runUnderlying26, ⟨_, rfl, rfl⟩⟩, Try.isAgg26, Try.sizeOf26⟩,
  ⟨⟨_, Try.runUnderlying28, ⟨_, rfl, rfl⟩⟩, Try.isAgg28, Try.sizeOf28⟩,
  ⟨⟨_, Try.runUnderlying34, ⟨_, rfl, rfl⟩⟩, Try.isAgg34, Try.sizeOf34⟩,
  ⟨⟨_, Try.runUnderlying39, ⟨_, rfl, rfl⟩⟩, Try.isAgg39, Try.sizeOf39⟩,
  ⟨⟨_, Try.runUnderlying43, ⟨_, rfl, rfl⟩⟩, Try.isAgg43, Try.sizeOf43⟩,
  ⟨⟨_, Try.runUnderlying44, rfl⟩, Try.isAgg44, Try.sizeOf44⟩,
  ⟨⟨_, Try.runUnderlying45, rfl⟩, Try.isAgg45, Try.sizeOf45⟩,
  ⟨⟨_, Try.runUnderlying50, rfl⟩, Try.isAgg50, Try.sizeOf50⟩,
  ⟨⟨_, Try.runUnderlying51, rfl⟩, Try.isAgg51, Try.sizeOf51⟩,
  ⟨⟨_, Try.runUnderlying52, rfl⟩, Try.isAgg52, Try.sizeOf52⟩,
  ⟨⟨_, Try.runUnderlying53, rfl⟩, Try.isAgg53, Try.sizeOf53⟩,
  ⟨⟨_, Try.runUnderlying54, rfl⟩, Try.isAgg54, Try.sizeOf54⟩,
  ⟨⟨_, Try.runUnderlying55, rfl⟩, Try.isAgg55, Try.sizeOf55⟩,
  ⟨⟨_, Try.runUnderlying57, ⟨_, rfl, rfl⟩⟩, Try.isAgg57, Try.sizeOf57⟩,
  ⟨⟨_, Try.runUnderlying63, rfl⟩, Try.isAgg63, Try.sizeOf63⟩,
  ⟨⟨_, Try.runUnderlying65, ⟨_, rfl⟩⟩, Try.isAgg65, Try.sizeOf65⟩,
  ⟨⟨_, Try.runUnderlying82, rfl⟩, Try.isAgg82, Try.sizeOf82⟩,
  ⟨⟨_, Try.runUnderlying109, trivial⟩, Try.isAgg109, Try.sizeOf109⟩,
  ⟨⟨_, Try.runUnderlying110, trivial⟩, Try.isAgg110, Try.sizeOf110⟩,
  ⟨⟨_, Try.runUnderlying112, ⟨_, rfl, rfl⟩⟩, Try.isAgg112, Try.sizeOf112⟩,
  ⟨⟨_, Try.runUnderlying119, ⟨_, rfl, rfl⟩⟩, Try.isAgg119, Try.sizeOf119⟩,
  ⟨⟨_, Try.runUnderlying127, ⟨_, rfl, rfl⟩⟩, Try.isAgg127, Try.sizeOf127⟩,
  ⟨⟨_, Try.runUnderlying132, ⟨_, rfl, rfl⟩⟩, Try.isAgg132, Try.sizeOf132⟩,
  ⟨⟨_, Try.runUnderlying141, rfl⟩, Try.isAgg141, Try.sizeOf141⟩,
  ⟨⟨_, Try.runUnderlying144, rfl⟩, Try.isAgg144, Try.sizeOf144⟩,
  ⟨⟨_, Try.runUnderlying146, rfl⟩, Try.isAgg146, Try.sizeOf146⟩,
  ⟨⟨_, Try.runUnderlying148, rfl⟩, Try.isAgg148, Try.sizeOf148⟩,
  ⟨⟨_, Try.runUnderlying154, ⟨_, rfl, rfl⟩⟩, Try.isAgg154, Try.sizeOf154⟩,
  ⟨⟨_, Try.runUnderlying157, ⟨_, rfl, rfl⟩⟩, Try.isAgg157, Try.sizeOf157⟩,
  ⟨⟨_, Try.runUnderlying159, rfl⟩, Try.isAgg159, Try.sizeOf159⟩,
  ⟨⟨_, Try.runUnderlying170, trivial⟩, Try.isAgg170, Try.sizeOf170⟩, trivial⟩
def orc_sg : List (Nat × List (Bool × List Kd)) := [(3, [(false, [.bool])]),
  (4, [(false, [.bool])]),
  (5, [(false, [.bool])]),
  (6, [(false, [.bool])]),
  (7, [(false, [.bool])]),
  (8, [(false, [.bool])]),
  (9, [(false, [.bool])]),
  (10, [(false, [.bool])]),
  (11, [(false, [.bool])]),
  (12, [(false, [.bool])]),
  (13, [(false, [.bool])]),
  (14, [(false, [.bool])]),
  (15, [(false, [.bool])]),
  (16, [(false, [.bool])]),
  (17, [(false, [.bool])]),
  (18, [(false, [.bool])]),
  (19, [(false, [.bool])]),
  (20, [(false, [.bool])]),
  (21, [(true, [.int .i64, .int .i64, .sl, .sl, .sl, .str, .str, .int .i64, .int .i64, .int .i64]), (true, [.int .i64, .int .i64, .bool])]),
  (22, [(false, [.bool])]),
  (23, [(false, [.bool])]),
  (24, [(false, [.bool])]),
  (25, [(false, [.bool])]),
  (26, [(true, [.int .i64, .int .i64, .int .i64, .int .i64, .int .i64, .sl, .sl, .int .i64, .sl])]),
  (27, [(true, [.int .i64, .int .i64, .int .i64, .int .i64, .int .i64, .sl, .sl, .int .i64, .sl])]),
  (28, [(false, [.bool])]),
  (29, [(false, [.bool])]),
  (30, []),
  (31, [(false, [.int .i64])]),
  (32, [(false, [.int .i64])]),
  (33, [(false, [.bool])]),
  (34, [(true, [.int .i64, .int .i64, .sl, .sl, .sl, .str, .str, .int .i64, .int .i64, .int .i64]), (false, [.int .i64]), (false, [.bool])]),
  (35, [(false, [.bool])]),
  (36, [(true, [.int .i64, .int .i64, .int .i64, .int .i64, .int .i64, .sl, .sl, .int .i64, .sl])]),
  (37, [(false, [.int .i64])]),
  (38, [(false, [.int .i64])]),
  (39, [(false, [.bool])]),
  (40, [(true, [.int .i64, .int .i64, .int .i64, .int .i64, .int .i64, .sl, .sl, .int .i64, .sl])]),
  (41, [(false, [.bool])]),
  (42, [(false, [.ptr]), (false, [.bool])]),
  (43, [(true, [.int .i64, .int .i64, .sl, .sl, .sl, .str, .str, .int .i64, .int .i64, .int .i64]), (true, [.int .i64, .int .i64, .bool])]),
  (44, [(false, [.int .i64])]),
  (45, [(false, [.int .i64])]),
  (46, [(false, [.bool])]),
  (47, [(false, [.bool])]),
  (48, [(false, [.bool])]),
  (49, [(false, [.bool])]),
  (50, [(false, [.bool])]),
  (51, [(false, [.sl])]),
  (52, [(false, [.sl])]),
  (53, [(false, [.bool])]),
  (54, [(true, [.int .i64, .int .i64, .sl, .sl, .sl, .str, .str, .int .i64, .int .i64, .int .i64])]),
  (55, [(true, [.int .i64, .int .i64, .sl, .sl, .sl, .str, .str, .int .i64, .int .i64, .int .i64]), (true, [.int .i64, .int .i64, .bool]), (false, [.int .i64])]),
  (56, [(false, [.sl])]),
  (57, [(false, [.sl])]),
  (58, [(false, [.sl])]),
  (59, [(false, [.bool])]),
  (60, [(true, [.int .i64, .int .i64, .int .i64, .int .i64, .int .i64])]),
  (61, [(false, [.bool])]),
  (62, [(false, [.int .i64]), (false, [.bool])]),
  (63, [(false, [.sl])]),
  (64, [(false, [.sl])]),
  (65, [(false, [.bool])]),
  (66, [(false, [.bool])]),
  (67, [(false, [.bool])]),
  (68, [(false, [.bool])]),
  (69, [(false, [.bool])]),
  (70, []),
  (71, []),
  (72, []),
  (73, [(false, [.bool])]),
  (74, [(false, [.int .i64]), (false, [.bool])]),
  (75, [(false, [.bool])]),
  (76, [(false, [.bool])]),
  (77, [(false, [.bool])]),
  (78, [(false, [.bool])]),
  (79, [(false, [.bool])]),
  (80, [(false, [.bool])]),
  (81, []),
  (82, []),
  (83, []),
  (84, []),
  (85, []),
  (86, []),
  (87, [(false, [.sl])]),
  (88, [(false, [.sl])]),
  (89, [(false, [.sl])]),
  (90, [(false, [.sl])]),
  (91, [(false, [.sl])]),
  (92, [(false, [.sl])]),
  (93, [(false, [.bool])]),
  (94, [(false, [.bool])]),
  (95, [(false, [.bool])]),
  (96, [(false, [.bool])]),
  (97, [(false, [.bool])]),
  (98, [(false, [.bool])]),
  (99, [(false, [.int .i64]), (false, [.bool])]),
  (100, [(true, [.int .i64, .int .i64, .sl, .sl, .sl, .str, .str, .int .i64, .int .i64, .int .i64])]),
  (101, [(false, [.str])]),
  (102, [(true, [.mp, .mp, .mp])]),
  (103, [(false, [.int .i64]), (false, [.bool])]),
  (104, []),
  (105, [(false, [.int .i64])]),
  (106, [(false, [.ptr])]),
  (107, [(false, [.bool])]),
  (108, []),
  (109, [(true, [.int .i64, .int .i64, .int .i64, .int .i64, .int .i64])]),
  (110, [(false, [.int .i64])]),
  (111, [(false, [.int .i64])]),
  (112, [(true, [.int .i64, .int .i64, .int .i64, .int .i64, .int .i64, .sl, .sl, .int .i64, .sl])]),
  (113, [(false, [.sl]), (false, [.int .i64])]),
  (114, [(true, [.int .i64, .int .i64, .sl, .sl, .sl, .str, .str, .int .i64, .int .i64, .int .i64]), (true, [.int .i64, .int .i64, .bool]), (false, [.int .i64])]),
  (115, [(false, [.bool])]),
  (116, [(true, [.int .i64, .int .i64, .sl, .sl, .sl, .str, .str, .int .i64, .int .i64, .int .i64])]),
  (117, [(false, [.int .i64])]),
  (118, [(true, [.int .i64, .int .i64, .sl, .sl, .sl, .str, .str, .int .i64, .int .i64, .int .i64]), (true, [.int .i64, .int .i64, .bool]), (false, [.int .i64])]),
  (119, [(false, [.sl])]),
  (120, [(false, [.sl])]),
  (121, [(false, [.sl])]),
  (122, [(false, [.bool])]),
  (123, [(false, [.bool])]),
  (124, [(false, [.bool])]),
  (125, [(false, [.bool])]),
  (126, [(false, [.bool])]),
  (127, [(false, [.bool])]),
  (128, [(false, [.sl])]),
  (129, [(false, [.sl])]),
  (130, [(false, [.sl]), (false, [.bool])]),
  (131, [(false, [.int .i64]), (false, [.bool])]),
  (132, [(false, [.int .i64]), (false, [.bool])]),
  (133, [(false, [.sl])]),
  (134, [(false, [.int .i64]), (false, [.int .i64])]),
  (135, [(false, [.int .i64])]),
  (136, [(false, [.bool])]),
  (137, [(false, [.bool])]),
  (138, [(false, [.bool])]),
  (139, [(false, [.sl])]),
  (140, [(false, [.sl])]),
  (141, [(false, [.sl])]),
  (142, [(false, [.sl])]),
  (143, [(false, [.sl])]),
  (144, [(false, [.sl])]),
  (145, [(true, [.int .i64, .int .i64])]),
  (146, []),
  (147, []),
  (148, [(false, [.sl])]),
  (149, [(false, [.sl])]),
  (150, [(false, [.sl])]),
  (151, [(false, [.bool])]),
  (152, [(false, [.int .i64])]),
  (153, [(false, [.bool])]),
  (154, [(false, [.int .i64])]),
  (155, [(false, [.int .i64])]),
  (156, [(false, [.int .i64])]),
  (157, [(false, [.int .i64])]),
  (158, [(false, [.int .i64])]),
  (159, [(false, [.int .i64])]),
  (160, [(false, [.int .i64])]),
  (161, [(false, [.sl])]),
  (162, [(false, [.bool])]),
  (163, [(false, [.bool])]),
  (164, [(false, [.bool])]),
  (165, [(false, [.int .i64])]),
  (166, [(false, [.int .i64]), (false, [.int .i64]), (false, [.bool])]),
  (167, [(false, [.int .i64])]),
  (168, [(false, [.int .i64])]),
  (169, [(false, [.str])]),
  (170, []),
  (171, []),
  (172, [(false, [.bool])]),
  (173, [(false, [.str])]),
  (174, [(false, [.int .i64])]),
  (175, [(false, [.bool])])]
theorem orc_sok : AllSg Try.prog orc_sg := ⟨Try.call3,
  Try.call4,
  Try.call5,
  Try.call6,
  Try.call7,
  Try.call8,
  Try.call9,
  Try.call10,
  Try.call11,
  Try.call12,
  Try.call13,
  Try.call14,
  Try.call15,
  Try.call16,
  Try.call17,
  Try.call18,
  Try.call19,
  Try.call20,
  Try.call21,
  Try.call22,
  Try.call23,
  Try.call24,
  Try.call25,
  Try.call26,
  Try.call27,
  Try.call28,
  Try.call29,
  Try.call30,
  Try.call31,
  Try.call32,
  Try.call33,
  Try.call34,
  Try.call35,
  Try.call36,
  Try.call37,
  Try.call38,
  Try.call39,
  Try.call40,
  Try.call41,
  Try.call42,
  Try.call43,
  Try.call44,
  Try.call45,
  Try.call46,
  Try.call47,
  Try.call48,
  Try.call49,
  Try.call50,
  Try.call51,
  Try.call52,
  Try.call53,
  Try.call54,
  Try.call55,
  Try.call56,
  Try.call57,
  Try.call58,
  Try.call59,
  Try.call60,
  Try.call61,
  Try.call62,
  Try.call63,
  Try.call64,
  Try.call65,
  Try.call66,
  Try.call67,
  Try.call68,
  Try.call69,
  Try.call70,
  Try.call71,
  Try.call72,
  Try.call73,
  Try.call74,
  Try.call75,
  Try.call76,
  Try.call77,
  Try.call78,
  Try.call79,
  Try.call80,
  Try.call81,
  Try.call82,
  Try.call83,
  Try.call84,
  Try.call85,
  Try.call86,
  Try.call87,
  Try.call88,
  Try.call89,
  Try.call90,
  Try.call91,
  Try.call92,
  Try.call93,
  Try.call94,
  Try.call95,
  Try.call96,
  Try.call97,
  Try.call98,
  Try.call99,
  Try.call100,
  Try.call101,
  Try.call102,
  Try.call103,
  Try.call104,
  Try.call105,
  Try.call106,
  Try.call107,
  Try.call108,
  Try.call109,
  Try.call110,
  Try.call111,
  Try.call112,
  Try.call113,
  Try.call114,
  Try.call115,
  Try.call116,
  Try.call117,
  Try.call118,
  Try.call119,
  Try.call120,
  Try.call121,
  Try.call122,
  Try.call123,
  Try.call124,
  Try.call125,
  Try.call126,
  Try.call127,
  Try.call128,
  Try.call129,
  Try.call130,
  Try.call131,
  Try.call132,
  Try.call133,
  Try.call134,
  Try.call135,
  Try.call136,
  Try.call137,
  Try.call138,
  Try.call139,
  Try.call140,
  Try.call141,
  Try.call142,
  Try.call143,
  Try.call144,
  Try.call145,
  Try.call146,
  Try.call147,
  Try.call148,
  Try.call149,
  Try.call150,
  Try.call151,
  Try.call152,
  Try.call153,
  Try.call154,
  Try.call155,
  Try.call156,
  Try.call157,
  Try.call158,
  Try.call159,
  Try.call160,
  Try.call161,
  Try.call162,
  Try.call163,
  Try.call164,
  Try.call165,
  Try.call166,
  Try.call167,
  Try.call168,
  Try.call169,
  Try.call170,
  Try.call171,
  Try.call172,
  Try.call173,
  Try.call174,
  Try.call175, trivial⟩
def orc : Orc Try.prog := ⟨orc_ts, allTi_of orc_tok, orc_sg, allSg_of orc_sok⟩
theorem orc_wide : Try.prog.follows .mixedOrders = true := by kernel_rfl
end Go.Proofs.Ytblmoilneiffgaa

/- Functions of Slices, read without their frames; that each is enough. Printed by a program of mine (wip/lift/gen.py). -/
set_option maxRecDepth 100000
namespace Go.Proofs.Ytblmoilneiffgaa
open Go.RowKit

-- slices.Clone[[]int,int]
def slices_Clone_sl_int_int_sh (s_1 : Sl) (w : World) (K : Value → World → Prop) : Prop :=
 brB (Option.isNone s_1.ptr)
 (K (.slice none 0 0) w)
 (∀ (b2 : Nat) (w3 : World), b2 = w.heap.size → w3 = World.alloc w (.cells #[] T_int) →
 ∃ s4 : Sl, ∃ w5 : World, (Builtin.append_ #[T_sl_int, T_sl_int] T_sl_int #[.slice (some ⟨b2, 0, none⟩) 0 0, s_1.val]).run Try.prog w3 = .ok (s4.val) w5 ∧
 K (s4.val) w5)
def slices_Clone_sl_int_int_an : An := ⟨[], [], []⟩
theorem slices_Clone_sl_int_int_lift {s_1 : Sl} {w : World} {K : Value → World → Prop} (h : slices_Clone_sl_int_int_sh s_1 w K) : Calls Try.prog fn_slices_Clone_sl_int_int #[s_1.val] w fun e w' => ∃ v, e = .returned v ∧ K v w' :=
   lift_calls (A := slices_Clone_sl_int_int_an) (c := bodyOf Try.f64) (args := [s_1.val]) orc orc_wide Try.func64 (by kernel_rfl) (by kernel_rfl) (Eq.mp (by kernel_rfl : slices_Clone_sl_int_int_sh s_1 w K = wpc orc Try.f64.ntmps slices_Clone_sl_int_int_an (bodyOf Try.f64) (argl 0 [s_1.val]) w (retQ orc Try.f64.results.toList K)) h)

-- slices.Clone[[]holloway/api.Ins,holloway/api.Ins]
def slices_Clone_sl_api_Ins_api_Ins_sh (s_1 : Sl) (w : World) (K : Value → World → Prop) : Prop :=
 brB (Option.isNone s_1.ptr)
 (K (.slice none 0 0) w)
 (∀ (b2 : Nat) (w3 : World), b2 = w.heap.size → w3 = World.alloc w (.cells #[] T_api_Ins) →
 ∃ s4 : Sl, ∃ w5 : World, (Builtin.append_ #[T_sl_api_Ins, T_sl_api_Ins] T_sl_api_Ins #[.slice (some ⟨b2, 0, none⟩) 0 0, s_1.val]).run Try.prog w3 = .ok (s4.val) w5 ∧
 K (s4.val) w5)
def slices_Clone_sl_api_Ins_api_Ins_an : An := ⟨[], [], []⟩
theorem slices_Clone_sl_api_Ins_api_Ins_lift {s_1 : Sl} {w : World} {K : Value → World → Prop} (h : slices_Clone_sl_api_Ins_api_Ins_sh s_1 w K) : Calls Try.prog fn_slices_Clone_sl_api_Ins_api_Ins #[s_1.val] w fun e w' => ∃ v, e = .returned v ∧ K v w' :=
   lift_calls (A := slices_Clone_sl_api_Ins_api_Ins_an) (c := bodyOf Try.f148) (args := [s_1.val]) orc orc_wide Try.func148 (by kernel_rfl) (by kernel_rfl) (Eq.mp (by kernel_rfl : slices_Clone_sl_api_Ins_api_Ins_sh s_1 w K = wpc orc Try.f148.ntmps slices_Clone_sl_api_Ins_api_Ins_an (bodyOf Try.f148) (argl 0 [s_1.val]) w (retQ orc Try.f148.results.toList K)) h)

-- slices.Clone[[]holloway/api.Out,holloway/api.Out]
def slices_Clone_sl_api_Out_api_Out_sh (s_1 : Sl) (w : World) (K : Value → World → Prop) : Prop :=
 brB (Option.isNone s_1.ptr)
 (K (.slice none 0 0) w)
 (∀ (b2 : Nat) (w3 : World), b2 = w.heap.size → w3 = World.alloc w (.cells #[] T_api_Out) →
 ∃ s4 : Sl, ∃ w5 : World, (Builtin.append_ #[T_sl_api_Out, T_sl_api_Out] T_sl_api_Out #[.slice (some ⟨b2, 0, none⟩) 0 0, s_1.val]).run Try.prog w3 = .ok (s4.val) w5 ∧
 K (s4.val) w5)
def slices_Clone_sl_api_Out_api_Out_an : An := ⟨[], [], []⟩
theorem slices_Clone_sl_api_Out_api_Out_lift {s_1 : Sl} {w : World} {K : Value → World → Prop} (h : slices_Clone_sl_api_Out_api_Out_sh s_1 w K) : Calls Try.prog fn_slices_Clone_sl_api_Out_api_Out #[s_1.val] w fun e w' => ∃ v, e = .returned v ∧ K v w' :=
   lift_calls (A := slices_Clone_sl_api_Out_api_Out_an) (c := bodyOf Try.f149) (args := [s_1.val]) orc orc_wide Try.func149 (by kernel_rfl) (by kernel_rfl) (Eq.mp (by kernel_rfl : slices_Clone_sl_api_Out_api_Out_sh s_1 w K = wpc orc Try.f149.ntmps slices_Clone_sl_api_Out_api_Out_an (bodyOf Try.f149) (argl 0 [s_1.val]) w (retQ orc Try.f149.results.toList K)) h)

-- slices.IndexFunc[[]int,int]
-- slices.Contains[[]int,int]
def slices_Contains_sl_int_int_sh (s_1 : Sl) (v_2 : Int) (w : World) (K : Value → World → Prop) : Prop :=
 Calls Try.prog fn_slices_Index_sl_int_int #[s_1.val, .int .i64 v_2] w fun e3 w4 => ∃ n5 : Int, e3 = .returned (.int .i64 n5) ∧
 K (.bool (decide (n5 ≥ (0 : Int)))) w4
def slices_Contains_sl_int_int_an : An := ⟨[], [], []⟩
theorem slices_Contains_sl_int_int_lift {s_1 : Sl} {v_2 : Int} {w : World} {K : Value → World → Prop} (h : slices_Contains_sl_int_int_sh s_1 v_2 w K) : Calls Try.prog fn_slices_Contains_sl_int_int #[s_1.val, .int .i64 v_2] w fun e w' => ∃ v, e = .returned v ∧ K v w' :=
   lift_calls (A := slices_Contains_sl_int_int_an) (c := bodyOf Try.f172) (args := [s_1.val, .int .i64 v_2]) orc orc_wide Try.func172 (by kernel_rfl) (by kernel_rfl) (Eq.mp (by kernel_rfl : slices_Contains_sl_int_int_sh s_1 v_2 w K = wpc orc Try.f172.ntmps slices_Contains_sl_int_int_an (bodyOf Try.f172) (argl 0 [s_1.val, .int .i64 v_2]) w (retQ orc Try.f172.results.toList K)) h)

-- slices.Index[[]int,int]
def slices_Index_sl_int_int_sh (s_1 : Sl) (v_2 : Int) (w : World) (K : Value → World → Prop) : Prop :=
 ∃ (I1 : Int → World → Prop) (μ1 : Int → World → Nat), I1 (0 : Int) w ∧ ∀ (n4 : Int) (w3 : World), I1 n4 w3 →
 brB (decide (n4 < (s_1.len : Int)))
 (∃ a5 : Addr, s_1.ptr = some a5 ∧ 0 ≤ n4 ∧ n4 < (s_1.len : Int) ∧
 ∃ n6 : Int, w3.cell? (Addr.add a5 (Int.toNat n4 * 1)) = some (.int .i64 n6) ∧
 brB (v_2 == n6)
 (K (.int .i64 n4) w3)
 (I1 (wr (n4 + (1 : Int))) w3 ∧ μ1 (wr (n4 + (1 : Int))) w3 < μ1 n4 w3))
 (K (.int .i64 (-1 : Int)) w3)
def slices_Index_sl_int_int_an : An := ⟨[(2, [(8, .int .i64)])], [], []⟩
theorem slices_Index_sl_int_int_lift {s_1 : Sl} {v_2 : Int} {w : World} {K : Value → World → Prop} (h : slices_Index_sl_int_int_sh s_1 v_2 w K) : Calls Try.prog fn_slices_Index_sl_int_int #[s_1.val, .int .i64 v_2] w fun e w' => ∃ v, e = .returned v ∧ K v w' :=
   lift_calls (A := slices_Index_sl_int_int_an) (c := bodyOf Try.f174) (args := [s_1.val, .int .i64 v_2]) orc orc_wide Try.func174 (by kernel_rfl) (by kernel_rfl) (Eq.mp (by kernel_rfl : slices_Index_sl_int_int_sh s_1 v_2 w K = wpc orc Try.f174.ntmps slices_Index_sl_int_int_an (bodyOf Try.f174) (argl 0 [s_1.val, .int .i64 v_2]) w (retQ orc Try.f174.results.toList K)) h)

-- slices.IndexFunc[[]int,int]@@1=holloway/slots.allot$1
def slices_IndexFunc_sl_int_int_at_slots_allot_1_sh (s_1 : Sl) (c2 : Nat) (w : World) (K : Value → World → Prop) : Prop :=
 ∃ (I1 : Int → World → Prop) (μ1 : Int → World → Nat), I1 (0 : Int) w ∧ ∀ (n4 : Int) (w3 : World), I1 n4 w3 →
 brB (decide (n4 < (s_1.len : Int)))
 (∃ a5 : Addr, s_1.ptr = some a5 ∧ 0 ≤ n4 ∧ n4 < (s_1.len : Int) ∧
 ∃ n6 : Int, w3.cell? (Addr.add a5 (Int.toNat n4 * 1)) = some (.int .i64 n6) ∧
 ∃ (g7 : FuncId) (fs8 cs9 : Array Value), (.func (.func fn_slots_allot_1) #[] #[.pointer (some ⟨c2, 0, none⟩)] : Value) = .func (.func g7) fs8 cs9 ∧ (∀ args w, (callFunc g7 args).run Try.prog w = .ok (.enter g7 args) w) ∧
 Calls Try.prog g7 ((fs8.toList ++ [(.int .i64 n6 : Value)]) ++ cs9.toList).toArray w3 fun e10 w11 => ∃ b12 : Bool, e10 = .returned (.bool b12) ∧
 brB b12
 (K (.int .i64 n4) w11)
 (I1 (wr (n4 + (1 : Int))) w11 ∧ μ1 (wr (n4 + (1 : Int))) w11 < μ1 n4 w3))
 (K (.int .i64 (-1 : Int)) w3)
def slices_IndexFunc_sl_int_int_at_slots_allot_1_an : An := ⟨[(2, [(8, .int .i64)])], [], []⟩
theorem slices_IndexFunc_sl_int_int_at_slots_allot_1_lift {s_1 : Sl} {c2 : Nat} {w : World} {K : Value → World → Prop} (h : slices_IndexFunc_sl_int_int_at_slots_allot_1_sh s_1 c2 w K) : Calls Try.prog fn_slices_IndexFunc_sl_int_int #[s_1.val, .func (.func fn_slots_allot_1) #[] #[.pointer (some ⟨c2, 0, none⟩)]] w fun e w' => ∃ v, e = .returned v ∧ K v w' :=
   lift_calls (A := slices_IndexFunc_sl_int_int_at_slots_allot_1_an) (c := bodyOf Try.f152) (args := [s_1.val, .func (.func fn_slots_allot_1) #[] #[.pointer (some ⟨c2, 0, none⟩)]]) orc orc_wide Try.func152 (by kernel_rfl) (by kernel_rfl) (Eq.mp (by kernel_rfl : slices_IndexFunc_sl_int_int_at_slots_allot_1_sh s_1 c2 w K = wpc orc Try.f152.ntmps slices_IndexFunc_sl_int_int_at_slots_allot_1_an (bodyOf Try.f152) (argl 0 [s_1.val, .func (.func fn_slots_allot_1) #[] #[.pointer (some ⟨c2, 0, none⟩)]]) w (retQ orc Try.f152.results.toList K)) h)

end Go.Proofs.Ytblmoilneiffgaa

/- Numbers as elements of lists; slices.Clone. -/
set_option maxRecDepth 100000
namespace Go.Proofs.Ytblmoilneiffgaa
open Go.RowKit

def intE : Enc Int := ⟨T_int, 1, 8, fun n => [.int .i64 n], by intro x; rfl, by intro x u hu; simp at hu; subst hu; rfl, by decide⟩
theorem intOk : EncOk Try.prog intE T_sl_int := EncOk.of (z := .int .i64 0) (by kernel_rfl) (by kernel_rfl) (by kernel_rfl)
/-! ### slices.Clone -/
theorem Rd.none {α : Type} {E : Enc α} {w : World} {s : Sl} {xs : List α} (h : Rd E w s xs) (hp : s.ptr = none) : xs = [] ∧ s.cap = 0 := by
  obtain ⟨ao, cap, he, _, _, h5, _⟩ := h
  have hq : s.ptr = ao ∧ s.cap = cap := by cases s; simp [Sl.val] at he; exact ⟨he.1, he.2.2⟩
  have := h5 (hq.1.symm.trans hp)
  exact ⟨List.eq_nil_of_length_eq_zero this.1, hq.2.trans this.2⟩
theorem clone_core {α : Type} {P : Program} {E : Enc α} {T : TypeId} (ok : EncOk P E T) (hby : E.bytes ≤ 1000) {w : World} {s : Sl} {xs : List α} (h : Rd E w s xs) (hsm : xs.length ≤ 1000000000) {K : Value → World → Prop}
    (k : ∀ (s' : Sl) (w' : World), Ow E w' s' xs → Chg No w w' → (∀ k, s'.blk = some k → w.heap.size ≤ k) → (s.ptr = none → s' = nilS) → K s'.val w') :
    brB (Option.isNone s.ptr) (K (.slice none 0 0) w) (∀ (b2 : Nat) (w3 : World), b2 = w.heap.size → w3 = World.alloc w (.cells #[] E.t) →
      ∃ s4 : Sl, ∃ w5 : World, (Builtin.append_ #[T, T] T #[.slice (some ⟨b2, 0, none⟩) 0 0, s.val]).run P w3 = .ok (s4.val) w5 ∧ K (s4.val) w5) := by
  refine brB_of (fun hp => ?_) (fun hp => ?_)
  · have hp : s.ptr = Option.none := by cases h : s.ptr with
      | none => rfl
      | some a => rw [h] at hp; cases hp
    obtain ⟨rfl, _⟩ := h.none hp
    exact k nilS w (Ow.nil E w) (Chg.refl _ _) (fun k hk => by cases hk) (fun _ => rfl)
  · intro b2 w3 hb hw
    have hne : s.ptr ≠ Option.none := fun e => by rw [e] at hp; cases hp
    have hc : Chg No w w3 := by rw [hw]; exact Chg.alloc _ _ _
    have hlit : Ow E w3 ⟨some ⟨b2, 0, Option.none⟩, 0, 0⟩ [] := by
      rw [hw, hb]; exact Ow.lit w [] [] rfl (Nat.zero_le _)
    have hs3 : w.heap.size < w3.heap.size := by rw [hw]; simp
    refine app_ok ok rfl rfl hlit (h.no hc) (by
      have : (xs.length) * E.bytes ≤ 1000000000 * 1000 := Nat.mul_le_mul hsm hby
      simp only [List.length_nil, Nat.zero_add]; omega) (by simp only [List.length_nil, Nat.zero_add]; unfold maxLen; omega) ?_
    intro s' w5 h5 hc5 hbk
    refine k s' w5 (by simpa using h5) (hc.trans hc5 (fun _ _ h => h) (fun j hj he => ?_)) (fun j hj => ?_) (fun e => absurd e hne)
    · have : some b2 = some j := he
      cases this; omega
    · rcases hbk with hk | hk
      · have : (⟨some ⟨b2, 0, Option.none⟩, 0, 0⟩ : Sl).blk = some b2 := rfl
        rw [hk, this] at hj; cases hj; omega
      · rw [hk] at hj; cases hj; omega
theorem clone_ints {w : World} {s : Sl} {xs : List Int} (h : Rd intE w s xs) (hsm : xs.length ≤ 1000000000) : Calls Try.prog fn_slices_Clone_sl_int_int #[s.val] w fun e w' => ∃ s' : Sl, e = .returned s'.val ∧ Ow intE w' s' xs ∧ Chg No w w' ∧ (∀ k, s'.blk = some k → w.heap.size ≤ k) ∧ (s.ptr = none → s' = nilS) := by
  refine (slices_Clone_sl_int_int_lift (K := fun v w' => ∃ s' : Sl, v = s'.val ∧ Ow intE w' s' xs ∧ Chg No w w' ∧ (∀ k, s'.blk = some k → w.heap.size ≤ k) ∧ (s.ptr = none → s' = nilS)) ?_).mono (by rintro e w' ⟨v, rfl, s', rfl, h⟩; exact ⟨s', rfl, h⟩)
  unfold slices_Clone_sl_int_int_sh
  exact clone_core (K := fun v w' => ∃ s' : Sl, v = s'.val ∧ Ow intE w' s' xs ∧ Chg No w w' ∧ (∀ k, s'.blk = some k → w.heap.size ≤ k) ∧ (s.ptr = none → s' = nilS)) intOk (by decide) h hsm fun s' w' h1 h2 h3 h4 => ⟨s', rfl, h1, h2, h3, h4⟩
end Go.Proofs.Ytblmoilneiffgaa

/- Functions of Inner, read without their frames; that each is enough. Printed by a program of mine (wip/lift/gen.py). -/
set_option maxRecDepth 100000
namespace Go.Proofs.Ytblmoilneiffgaa
open Go.RowKit

-- holloway/inner.Copy
def inner_Copy_sh (s__Ip1 : Int) (s__Handler2 : Int) (s__Stack3 : Sl) (s__Back4 : Sl) (s__Mem5 : Sl) (s__Out6 : ByteArray) (s__In7 : ByteArray) (s__Read8 : Int) (s__Status9 : Int) (s__Code10 : Int) (w : World) (K : Value → World → Prop) : Prop :=
 ∀ (b11 : Nat) (w12 : World), b11 = w.heap.size → w12 = World.alloc w (.cells #[.int .i64 s__Ip1, .int .i64 s__Handler2, s__Stack3.val, s__Back4.val, s__Mem5.val, .string s__Out6, .string s__In7, .int .i64 s__Read8, .int .i64 s__Status9, .int .i64 s__Code10] T_api_State) →
 ∀ (b13 : Nat) (w14 : World), b13 = w12.heap.size → w14 = World.alloc w12 (.cells #[.int .i64 (0 : Int), .int .i64 (0 : Int), .slice none 0 0, .slice none 0 0, .slice none 0 0, .string (bs []), .string (bs []), .int .i64 (0 : Int), .int .i64 (0 : Int), .int .i64 (0 : Int)] T_api_State) →
 ∀ w15 : World, w15 = World.drew w14 →
 ∃ S16 : World → Prop, S16 w15 ∧
 ∃ s17 : Sl, held S16 ⟨b11, 2, none⟩ (s17.val) ∧
 ∃ s18 : Sl, held S16 ⟨b11, 3, none⟩ (s18.val) ∧
 ∃ s19 : Sl, held S16 ⟨b11, 4, none⟩ (s19.val) ∧
 Calls Try.prog fn_slices_Clone_sl_int_int #[s17.val] w15 fun e20 w21 => ∃ s22 : Sl, e20 = .returned (s22.val) ∧
 S16 w21 ∧
 Calls Try.prog fn_slices_Clone_sl_int_int #[s18.val] w21 fun e23 w24 => ∃ s25 : Sl, e23 = .returned (s25.val) ∧
 S16 w24 ∧
 Calls Try.prog fn_slices_Clone_sl_int_int #[s19.val] w24 fun e26 w27 => ∃ s28 : Sl, e26 = .returned (s28.val) ∧
 S16 w27 ∧
 wrOk w27 ⟨b11, 2, none⟩ 1 ∧ ∀ w29 : World, w29 = stW w27 ⟨b11, 2, none⟩ 0 [s22.val] →
 wrOk w29 ⟨b11, 3, none⟩ 1 ∧ ∀ w30 : World, w30 = stW w29 ⟨b11, 3, none⟩ 0 [s25.val] →
 wrOk w30 ⟨b11, 4, none⟩ 1 ∧ ∀ w31 : World, w31 = stW w30 ⟨b11, 4, none⟩ 0 [s28.val] →
 ∃ n_Ip32 : Int, ∃ n_Handler33 : Int, ∃ s_Stack34 : Sl, ∃ s_Back35 : Sl, ∃ s_Mem36 : Sl, ∃ t_Out37 : ByteArray, ∃ t_In38 : ByteArray, ∃ n_Read39 : Int, ∃ n_Status40 : Int, ∃ n_Code41 : Int, w31.cell? ⟨b11, 0, none⟩ = some (.int .i64 n_Ip32) ∧ w31.cell? ⟨b11, 1, none⟩ = some (.int .i64 n_Handler33) ∧ w31.cell? ⟨b11, 2, none⟩ = some (s_Stack34.val) ∧ w31.cell? ⟨b11, 3, none⟩ = some (s_Back35.val) ∧ w31.cell? ⟨b11, 4, none⟩ = some (s_Mem36.val) ∧ w31.cell? ⟨b11, 5, none⟩ = some (.string t_Out37) ∧ w31.cell? ⟨b11, 6, none⟩ = some (.string t_In38) ∧ w31.cell? ⟨b11, 7, none⟩ = some (.int .i64 n_Read39) ∧ w31.cell? ⟨b11, 8, none⟩ = some (.int .i64 n_Status40) ∧ w31.cell? ⟨b11, 9, none⟩ = some (.int .i64 n_Code41) ∧
 wrOk w31 ⟨b13, 0, none⟩ 10 ∧ ∀ w42 : World, w42 = stW w31 ⟨b13, 0, none⟩ 0 [.int .i64 n_Ip32, .int .i64 n_Handler33, s_Stack34.val, s_Back35.val, s_Mem36.val, .string t_Out37, .string t_In38, .int .i64 n_Read39, .int .i64 n_Status40, .int .i64 n_Code41] →
 ∃ r_Ip43 : Int, ∃ r_Handler44 : Int, ∃ r_Stack45 : Sl, ∃ r_Back46 : Sl, ∃ r_Mem47 : Sl, ∃ r_Out48 : ByteArray, ∃ r_In49 : ByteArray, ∃ r_Read50 : Int, ∃ r_Status51 : Int, ∃ r_Code52 : Int, w42.cell? ⟨b13, 0, none⟩ = some (.int .i64 r_Ip43) ∧ w42.cell? ⟨b13, 1, none⟩ = some (.int .i64 r_Handler44) ∧ w42.cell? ⟨b13, 2, none⟩ = some (r_Stack45.val) ∧ w42.cell? ⟨b13, 3, none⟩ = some (r_Back46.val) ∧ w42.cell? ⟨b13, 4, none⟩ = some (r_Mem47.val) ∧ w42.cell? ⟨b13, 5, none⟩ = some (.string r_Out48) ∧ w42.cell? ⟨b13, 6, none⟩ = some (.string r_In49) ∧ w42.cell? ⟨b13, 7, none⟩ = some (.int .i64 r_Read50) ∧ w42.cell? ⟨b13, 8, none⟩ = some (.int .i64 r_Status51) ∧ w42.cell? ⟨b13, 9, none⟩ = some (.int .i64 r_Code52) ∧
 K (.agg #[.int .i64 r_Ip43, .int .i64 r_Handler44, r_Stack45.val, r_Back46.val, r_Mem47.val, .string r_Out48, .string r_In49, .int .i64 r_Read50, .int .i64 r_Status51, .int .i64 r_Code52]) w42
def inner_Copy_an : An := ⟨[], [(1, (10, .st 0 (.st 1 (.st 3 (.st 4 (.st 6 (.st 7 (.ef 2 (.st 9 (.ef 5 (.ef 8 .done))))))))), 1))], []⟩
theorem inner_Copy_lift {s__Ip1 : Int} {s__Handler2 : Int} {s__Stack3 : Sl} {s__Back4 : Sl} {s__Mem5 : Sl} {s__Out6 : ByteArray} {s__In7 : ByteArray} {s__Read8 : Int} {s__Status9 : Int} {s__Code10 : Int} {w : World} {K : Value → World → Prop} (h : inner_Copy_sh s__Ip1 s__Handler2 s__Stack3 s__Back4 s__Mem5 s__Out6 s__In7 s__Read8 s__Status9 s__Code10 w K) : Calls Try.prog fn_inner_Copy #[.agg #[.int .i64 s__Ip1, .int .i64 s__Handler2, s__Stack3.val, s__Back4.val, s__Mem5.val, .string s__Out6, .string s__In7, .int .i64 s__Read8, .int .i64 s__Status9, .int .i64 s__Code10]] w fun e w' => ∃ v, e = .returned v ∧ K v w' :=
   lift_calls (A := inner_Copy_an) (c := bodyOf Try.f116) (args := [.agg #[.int .i64 s__Ip1, .int .i64 s__Handler2, s__Stack3.val, s__Back4.val, s__Mem5.val, .string s__Out6, .string s__In7, .int .i64 s__Read8, .int .i64 s__Status9, .int .i64 s__Code10]]) orc orc_wide Try.func116 (by kernel_rfl) (by kernel_rfl) (Eq.mp (by kernel_rfl : inner_Copy_sh s__Ip1 s__Handler2 s__Stack3 s__Back4 s__Mem5 s__Out6 s__In7 s__Read8 s__Status9 s__Code10 w K = wpc orc Try.f116.ntmps inner_Copy_an (bodyOf Try.f116) (argl 0 [.agg #[.int .i64 s__Ip1, .int .i64 s__Handler2, s__Stack3.val, s__Back4.val, s__Mem5.val, .string s__Out6, .string s__In7, .int .i64 s__Read8, .int .i64 s__Status9, .int .i64 s__Code10]]) w (retQ orc Try.f116.results.toList K)) h)

end Go.Proofs.Ytblmoilneiffgaa

/- Functions of Digits, read without their frames; that each is enough. Printed by a program of mine (wip/lift/gen.py). -/
set_option maxRecDepth 100000
namespace Go.Proofs.Ytblmoilneiffgaa
open Go.RowKit

-- holloway/digits.Put
def digits_Put_j1 (base2 : Int) (n8 : Int) (out9 : Sl) (I1 : Int → Sl → World → Prop) (μ1 : Int → Sl → World → Nat) (w7 : World) (v_1 : Int) (b13 : Bool) (w12 : World) (K : Value → World → Prop) : Prop :=
 brB b13
 ((IntKind.wrap .u64 base2) ≠ 0 ∧ 0 ≤ (Int.tmod n8 (IntKind.wrap .u64 base2)) ∧ (Int.tmod n8 (IntKind.wrap .u64 base2)) < ((bs [48, 49, 50, 51, 52, 53, 54, 55, 56, 57, 65, 66, 67, 68, 69, 70, 71, 72, 73, 74, 75, 76, 77, 78, 79, 80, 81, 82, 83, 84, 85, 86, 87, 88, 89, 90]).size : Int) ∧
 ∀ (b14 : Nat) (w15 : World), b14 = w12.heap.size → w15 = World.alloc w12 (.cells #[.int .u8 (sb (bs [48, 49, 50, 51, 52, 53, 54, 55, 56, 57, 65, 66, 67, 68, 69, 70, 71, 72, 73, 74, 75, 76, 77, 78, 79, 80, 81, 82, 83, 84, 85, 86, 87, 88, 89, 90]) (Int.tmod n8 (IntKind.wrap .u64 base2)))] T_uint8) →
 ∃ s16 : Sl, ∃ w17 : World, (Builtin.append_ #[T_sl_uint8, T_sl_uint8] T_sl_uint8 #[.slice (some ⟨b14, 0, none⟩) 1 1, out9.val]).run Try.prog w15 = .ok (s16.val) w17 ∧
 (IntKind.wrap .u64 base2) ≠ 0 ∧ I1 (IntKind.wrap .u64 (Int.tdiv n8 (IntKind.wrap .u64 base2))) s16 w17 ∧ μ1 (IntKind.wrap .u64 (Int.tdiv n8 (IntKind.wrap .u64 base2))) s16 w17 < μ1 n8 out9 w7)
 (brB (decide (v_1 < (0 : Int)))
 (∃ t18 : ByteArray, ∃ w19 : World, (convert T_sl_uint8 T_string (out9.val)).run Try.prog w12 = .ok (.string t18) w19 ∧
 (((bs [45])).size : Int) + ((t18).size : Int) ≤ 9223372036854775807 ∧ K (.string ((bs [45]) ++ t18)) w19)
 (∃ t20 : ByteArray, ∃ w21 : World, (convert T_sl_uint8 T_string (out9.val)).run Try.prog w12 = .ok (.string t20) w21 ∧
 K (.string t20) w21))
def digits_Put_sh (v_1 : Int) (base2 : Int) (w : World) (K : Value → World → Prop) : Prop :=
 Calls Try.prog fn_digits_Right #[.int .i64 base2] w fun e3 w4 => ∃ b5 : Bool, e3 = .returned (.bool b5) ∧
 brB (!b5)
 (K (.string (bs [])) w4)
 (∃ J6 : Int → World → Prop, (∀ (n22 : Int) (w6 : World), J6 n22 w6 →
 ∃ (I1 : Int → Sl → World → Prop) (μ1 : Int → Sl → World → Nat), I1 n22 (⟨none, 0, 0⟩ : Sl) w6 ∧ ∀ (n8 : Int) (out9 : Sl) (w7 : World), I1 n8 out9 w7 →
 brB (decide (n8 > (0 : Int)))
 (digits_Put_j1 base2 n8 out9 I1 (μ1) w7 v_1 true w7 K)
 (digits_Put_j1 base2 n8 out9 I1 (μ1) w7 v_1 ((out9.len : Int) == (0 : Int)) w7 K)) ∧
 brB (decide (v_1 < (0 : Int)))
 (J6 (IntKind.wrap .u64 (0 - (IntKind.wrap .u64 v_1))) w4)
 (J6 (IntKind.wrap .u64 v_1) w4))
def digits_Put_an : An := ⟨[(7, [(5, .int .u64), (6, .sl)])], [], [(6, [(5, .int .u64)])]⟩
theorem digits_Put_lift {v_1 : Int} {base2 : Int} {w : World} {K : Value → World → Prop} (h : digits_Put_sh v_1 base2 w K) : Calls Try.prog fn_digits_Put #[.int .i64 v_1, .int .i64 base2] w fun e w' => ∃ v, e = .returned v ∧ K v w' :=
   lift_calls (A := digits_Put_an) (c := bodyOf Try.f173) (args := [.int .i64 v_1, .int .i64 base2]) orc orc_wide Try.func173 (by kernel_rfl) (by kernel_rfl) (Eq.mp (by kernel_rfl : digits_Put_sh v_1 base2 w K = wpc orc Try.f173.ntmps digits_Put_an (bodyOf Try.f173) (argl 0 [.int .i64 v_1, .int .i64 base2]) w (retQ orc Try.f173.results.toList K)) h)

-- holloway/digits.Right
def digits_Right_sh (base1 : Int) (w : World) (K : Value → World → Prop) : Prop :=
 brB (decide (base1 ≥ (2 : Int)))
 (K (.bool (decide (base1 ≤ (36 : Int)))) w)
 (K (.bool false) w)
def digits_Right_an : An := ⟨[], [], []⟩
theorem digits_Right_lift {base1 : Int} {w : World} {K : Value → World → Prop} (h : digits_Right_sh base1 w K) : Calls Try.prog fn_digits_Right #[.int .i64 base1] w fun e w' => ∃ v, e = .returned v ∧ K v w' :=
   lift_calls (A := digits_Right_an) (c := bodyOf Try.f175) (args := [.int .i64 base1]) orc orc_wide Try.func175 (by kernel_rfl) (by kernel_rfl) (Eq.mp (by kernel_rfl : digits_Right_sh base1 w K = wpc orc Try.f175.ntmps digits_Right_an (bodyOf Try.f175) (argl 0 [.int .i64 base1]) w (retQ orc Try.f175.results.toList K)) h)

end Go.Proofs.Ytblmoilneiffgaa

/- Functions of Hollowayref1, read without their frames; that each is enough. Printed by a program of mine (wip/lift/gen.py). -/
set_option maxRecDepth 100000
namespace Go.Proofs.Ytblmoilneiffgaa
open Go.RowKit

-- holloway/hollowayref1.IsTwo
-- holloway/hollowayref1.IsOne
-- holloway/hollowayref1.Two
-- holloway/hollowayref1.One
-- holloway/hollowayref1.Put
-- holloway/hollowayref1.Floor
-- holloway/hollowayref1.Flag
end Go.Proofs.Ytblmoilneiffgaa

/- Functions of Hollowayref9, read without their frames; that each is enough. Printed by a program of mine (wip/lift/gen.py). -/
set_option maxRecDepth 100000
namespace Go.Proofs.Ytblmoilneiffgaa
open Go.RowKit

-- holloway/hollowayref9.Right
-- holloway/hollowayref9.Boot
end Go.Proofs.Ytblmoilneiffgaa

/- Functions of Hollowaylaw9, read without their frames; that each is enough. Printed by a program of mine (wip/lift/gen.py). -/
set_option maxRecDepth 100000
namespace Go.Proofs.Ytblmoilneiffgaa
open Go.RowKit

-- holloway/hollowaylaw9.Light
end Go.Proofs.Ytblmoilneiffgaa

/- Functions of Hollowaylaw14, read without their frames; that each is enough. Printed by a program of mine (wip/lift/gen.py). -/
set_option maxRecDepth 100000
namespace Go.Proofs.Ytblmoilneiffgaa
open Go.RowKit

-- holloway/hollowaylaw14.Light
end Go.Proofs.Ytblmoilneiffgaa
