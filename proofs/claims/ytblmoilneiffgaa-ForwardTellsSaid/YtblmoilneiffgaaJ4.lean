/- The lifted texts of small packages. -/
import Derived.Test.YtblmoilneiffgaaProg
import Derived.Test.YtblmoilneiffgaaJ1
import Derived.Test.YtblmoilneiffgaaJ2

/- What the lift is told of the program: types and functions, each fact proved. Printed by a program of mine (wip/lift/gen.py). -/
set_option maxRecDepth 100000
namespace Go.Proofs.Ytblmoilneiffgaa
open Go.RowKit

@[reducible] def T_x : TypeId := 0
@[reducible] def T_int : TypeId := 3
@[reducible] def T_bool : TypeId := 4
@[reducible] def T_sl_api_Ins : TypeId := 22
@[reducible] def T_sl_api_Out : TypeId := 23
@[reducible] def T_sl_int : TypeId := 24
@[reducible] def T_api_Trace : TypeId := 26
@[reducible] def T_api_Out : TypeId := 39
@[reducible] def T_api_Ins : TypeId := 43
@[reducible] def T_sl_sl_string : TypeId := 50
@[reducible] def T_sl_sl_int : TypeId := 51
@[reducible] def T_sl_sl_api_Word : TypeId := 52
@[reducible] def T_sl_sl_api_Seen : TypeId := 53
@[reducible] def T_sl_sl_api_Ins : TypeId := 54
@[reducible] def T_sl_sl_api_Out : TypeId := 55
@[reducible] def T_hollowaybook_Book : TypeId := 57
@[reducible] def T_fold_Map : TypeId := 82
@[reducible] def T_map_int_int : TypeId := 109
@[reducible] def T_map_2_int_bool : TypeId := 110
@[reducible] def T_forward_known : TypeId := 112
@[reducible] def T_prune_need : TypeId := 119
@[reducible] def T_eval_engine : TypeId := 132
@[reducible] def T_sl_string : TypeId := 144
@[reducible] def T_sl_api_Word : TypeId := 146
@[reducible] def T_sl_api_Seen : TypeId := 148
@[reducible] def T_2_int : TypeId := 159
@[reducible] def fn_hollowaylaw18_ForwardTells : FuncId := 9
@[reducible] def fn_hollowaylaw14_Light : FuncId := 16
@[reducible] def fn_hollowayref15_Right : FuncId := 18
@[reducible] def fn_hollowaybook_SameInts : FuncId := 24
@[reducible] def fn_hollowaybook_LentTrace : FuncId := 26
@[reducible] def fn_hollowaybook_SameTrace : FuncId := 28
@[reducible] def fn_hollowaybook_StaysTrace : FuncId := 29
@[reducible] def fn_hollowaybook_Book_Trace : FuncId := 30
@[reducible] def fn_hollowaybook_Book_Apart : FuncId := 33
@[reducible] def fn_hollowaylaw18_alive : FuncId := 35
@[reducible] def fn_forward_Do : FuncId := 36
@[reducible] def fn_hollowaylaw18_left : FuncId := 37
@[reducible] def fn_forward_Left : FuncId := 38
@[reducible] def fn_hollowayref15_within : FuncId := 47
@[reducible] def fn_hollowayref1_IsTwo : FuncId := 48
@[reducible] def fn_hollowayref1_IsOne : FuncId := 49
@[reducible] def fn_hollowayref15_named : FuncId := 50
@[reducible] def fn_hollowayref15_Uses : FuncId := 51
@[reducible] def fn_hollowayref15_Outs : FuncId := 52
@[reducible] def fn_hollowayref15_out : FuncId := 53
@[reducible] def fn_hollowaybook_LentCodes : FuncId := 56
@[reducible] def fn_hollowaybook_LentExits : FuncId := 57
@[reducible] def fn_hollowaybook_LentInts : FuncId := 58
@[reducible] def fn_ir_Right : FuncId := 59
@[reducible] def fn_fold_Map_Ins : FuncId := 60
@[reducible] def fn_fold_Map_Outs : FuncId := 63
@[reducible] def fn_slices_Clone_sl_int_int : FuncId := 64
@[reducible] def fn_hollowaybook_SameCodes : FuncId := 65
@[reducible] def fn_hollowaybook_SameExits : FuncId := 66
@[reducible] def fn_hollowaybook_StaysCodes : FuncId := 67
@[reducible] def fn_hollowaybook_StaysExits : FuncId := 68
@[reducible] def fn_hollowaybook_StaysInts : FuncId := 69
@[reducible] def fn_hollowaybook_Book_Codes : FuncId := 70
@[reducible] def fn_hollowaybook_Book_Exits : FuncId := 71
@[reducible] def fn_hollowaybook_Book_Ints : FuncId := 72
@[reducible] def fn_hollowayref1_Two : FuncId := 74
@[reducible] def fn_hollowaybook_Book_stillTexts : FuncId := 75
@[reducible] def fn_hollowaybook_Book_stillInts : FuncId := 76
@[reducible] def fn_hollowaybook_Book_stillWords : FuncId := 77
@[reducible] def fn_hollowaybook_Book_stillSeens : FuncId := 78
@[reducible] def fn_hollowaybook_Book_stillCodes : FuncId := 79
@[reducible] def fn_hollowaybook_Book_stillExits : FuncId := 80
@[reducible] def fn_hollowaybook_Book_putExits : FuncId := 81
@[reducible] def fn_hollowaybook_Book_putTexts : FuncId := 82
@[reducible] def fn_hollowaybook_Book_putInts : FuncId := 83
@[reducible] def fn_hollowaybook_Book_putWords : FuncId := 84
@[reducible] def fn_hollowaybook_Book_putSeens : FuncId := 85
@[reducible] def fn_hollowaybook_Book_putCodes : FuncId := 86
@[reducible] def fn_hollowaybook_Book_growTexts : FuncId := 87
@[reducible] def fn_hollowaybook_Book_growInts : FuncId := 88
@[reducible] def fn_hollowaybook_Book_growWords : FuncId := 89
@[reducible] def fn_hollowaybook_Book_growSeens : FuncId := 90
@[reducible] def fn_hollowaybook_Book_growCodes : FuncId := 91
@[reducible] def fn_hollowaybook_Book_growExits : FuncId := 92
@[reducible] def fn_hollowaybook_markedTexts : FuncId := 93
@[reducible] def fn_hollowaybook_markedInts : FuncId := 94
@[reducible] def fn_hollowaybook_markedWords : FuncId := 95
@[reducible] def fn_hollowaybook_markedSeens : FuncId := 96
@[reducible] def fn_hollowaybook_markedCodes : FuncId := 97
@[reducible] def fn_hollowaybook_markedExits : FuncId := 98
@[reducible] def fn_forward_nothing : FuncId := 102
@[reducible] def fn_forward_known_says : FuncId := 103
@[reducible] def fn_forward_known_learn : FuncId := 104
@[reducible] def fn_fold_Map_Of : FuncId := 110
@[reducible] def fn_hollowayref15_Gives : FuncId := 115
@[reducible] def fn_hollowaybook_copyCodes : FuncId := 119
@[reducible] def fn_hollowaybook_copyExits : FuncId := 120
@[reducible] def fn_hollowaybook_copyInts : FuncId := 121
@[reducible] def fn_ir_head : FuncId := 122
@[reducible] def fn_ir_cells : FuncId := 123
@[reducible] def fn_ir_named : FuncId := 124
@[reducible] def fn_ir_out : FuncId := 125
@[reducible] def fn_ir_single : FuncId := 126
@[reducible] def fn_ir_places : FuncId := 127
@[reducible] def fn_ir_Uses : FuncId := 128
@[reducible] def fn_ir_Outs : FuncId := 129
@[reducible] def fn_cell_One : FuncId := 131
@[reducible] def fn_cell_Two : FuncId := 132
@[reducible] def fn_fold_Map_All : FuncId := 133
@[reducible] def fn_hollowayref1_Floor : FuncId := 134
@[reducible] def fn_hollowayref1_Flag : FuncId := 135
@[reducible] def fn_hollowaybook_SameTexts : FuncId := 136
@[reducible] def fn_hollowaybook_SameWords : FuncId := 137
@[reducible] def fn_hollowaybook_SameSeens : FuncId := 138
@[reducible] def fn_hollowaybook_markExits : FuncId := 139
@[reducible] def fn_hollowaybook_markTexts : FuncId := 140
@[reducible] def fn_hollowaybook_markInts : FuncId := 141
@[reducible] def fn_hollowaybook_markWords : FuncId := 142
@[reducible] def fn_hollowaybook_markSeens : FuncId := 143
@[reducible] def fn_hollowaybook_markCodes : FuncId := 144
@[reducible] def fn_forward_pair : FuncId := 145
@[reducible] def fn_ir_Gives : FuncId := 151
@[reducible] def fn_ir_between : FuncId := 162
@[reducible] def fn_ir_two : FuncId := 163
@[reducible] def fn_ir_one : FuncId := 164
def orc_ts : List (Nat × Ti) := [(3, ⟨.int .i64, false, [.int .i64]⟩),
  (4, ⟨.bool, false, [.bool]⟩),
  (5, ⟨.int .u8, false, [.int .u8]⟩),
  (9, ⟨.str, false, [.str]⟩),
  (22, ⟨.sl 43, false, [.sl]⟩),
  (23, ⟨.sl 39, false, [.sl]⟩),
  (24, ⟨.sl 3, false, [.sl]⟩),
  (26, ⟨.st [(0, 3), (1, 3), (2, 3), (3, 3), (4, 3), (5, 22), (6, 23), (7, 3), (8, 24)], true, [.int .i64, .int .i64, .int .i64, .int .i64, .int .i64, .sl, .sl, .int .i64, .sl]⟩),
  (28, ⟨.st [(0, 3), (1, 3), (2, 24), (3, 24), (4, 24), (5, 9), (6, 9), (7, 3), (8, 3), (9, 3)], true, [.int .i64, .int .i64, .sl, .sl, .sl, .str, .str, .int .i64, .int .i64, .int .i64]⟩),
  (34, ⟨.st [(0, 3), (1, 3), (2, 4)], true, [.int .i64, .int .i64, .bool]⟩),
  (39, ⟨.st [(0, 3), (1, 3), (2, 24), (3, 24)], true, [.int .i64, .int .i64, .sl, .sl]⟩),
  (43, ⟨.st [(0, 3), (1, 3), (2, 3), (3, 3), (4, 3)], true, [.int .i64, .int .i64, .int .i64, .int .i64, .int .i64]⟩),
  (44, ⟨.sl 4, false, [.sl]⟩),
  (45, ⟨.sl 5, false, [.sl]⟩),
  (50, ⟨.sl 144, false, [.sl]⟩),
  (51, ⟨.sl 24, false, [.sl]⟩),
  (52, ⟨.sl 146, false, [.sl]⟩),
  (53, ⟨.sl 148, false, [.sl]⟩),
  (54, ⟨.sl 22, false, [.sl]⟩),
  (55, ⟨.sl 23, false, [.sl]⟩),
  (57, ⟨.st [(0, 50), (1, 50), (2, 51), (3, 51), (4, 52), (5, 52), (6, 53), (7, 53), (8, 54), (9, 54), (10, 55), (11, 55)], true, [.sl, .sl, .sl, .sl, .sl, .sl, .sl, .sl, .sl, .sl, .sl, .sl]⟩),
  (63, ⟨.int .u64, false, [.int .u64]⟩),
  (65, ⟨.ptr, false, [.ptr]⟩),
  (82, ⟨.sl 3, false, [.sl]⟩),
  (109, ⟨.other, false, [.mp]⟩),
  (110, ⟨.other, false, [.mp]⟩),
  (112, ⟨.st [(0, 109), (1, 110), (2, 110)], true, [.mp, .mp, .mp]⟩),
  (119, ⟨.st [(0, 26), (9, 44), (10, 44)], true, [.int .i64, .int .i64, .int .i64, .int .i64, .int .i64, .sl, .sl, .int .i64, .sl, .sl, .sl]⟩),
  (127, ⟨.st [(0, 26), (9, 24), (10, 3)], true, [.int .i64, .int .i64, .int .i64, .int .i64, .int .i64, .sl, .sl, .int .i64, .sl, .sl, .int .i64]⟩),
  (132, ⟨.st [(0, 26), (9, 28), (19, 24), (20, 24), (21, 24), (22, 3)], true, [.int .i64, .int .i64, .int .i64, .int .i64, .int .i64, .sl, .sl, .int .i64, .sl, .int .i64, .int .i64, .sl, .sl, .sl, .str, .str, .int .i64, .int .i64, .int .i64, .sl, .sl, .sl, .int .i64]⟩),
  (141, ⟨.int .u64, false, [.int .u64]⟩),
  (144, ⟨.sl 9, false, [.sl]⟩),
  (146, ⟨.sl 154, false, [.sl]⟩),
  (148, ⟨.sl 157, false, [.sl]⟩),
  (154, ⟨.st [(0, 9), (1, 3), (2, 3), (3, 4)], true, [.str, .int .i64, .int .i64, .bool]⟩),
  (157, ⟨.st [(0, 3), (1, 3), (2, 3), (3, 3)], true, [.int .i64, .int .i64, .int .i64, .int .i64]⟩),
  (159, ⟨.arr 2 3, true, [.int .i64, .int .i64]⟩),
  (170, ⟨.other, false, [.val]⟩)]
theorem orc_tok : AllTi Try.prog orc_ts := ⟨⟨⟨_, Try.runUnderlying3, rfl⟩, Try.isAgg3, Try.sizeOf3⟩,
  ⟨⟨_, Try.runUnderlying4, rfl⟩, Try.isAgg4, Try.sizeOf4⟩,
  ⟨⟨_, Try.runUnderlying5, rfl⟩, Try.isAgg5, Try.sizeOf5⟩,
  ⟨⟨_, Try.runUnderlying9, rfl⟩, Try.isAgg9, Try.sizeOf9⟩,
  ⟨⟨_, Try.runUnderlying22, rfl⟩, Try.isAgg22, Try.sizeOf22⟩,
  ⟨⟨_, Try.runUnderlying23, rfl⟩, Try.isAgg23, Try.sizeOf23⟩,
  ⟨⟨_, Try.runUnderlying24, rfl⟩, Try.isAgg24, Try.sizeOf24⟩,
  ⟨⟨_, Try.runUnderlying26, ⟨_, rfl, rfl⟩⟩, Try.isAgg26, Try.sizeOf26⟩,
  ⟨⟨_, Try.runUnderlying28, ⟨_, rfl, rfl⟩⟩, Try.isAgg28, Try.sizeOf28⟩,
  ⟨⟨_, Try.runUnderlying34, ⟨_, rfl, rfl⟩⟩, Try.isAgg34, Try.sizeOf34⟩,
  ⟨⟨_, Try.runUnderlying39, ⟨_, rfl, rfl⟩⟩, Try.isAgg39, Try.sizeOf39⟩,
  ⟨⟨_, Try.runUnderlying43, ⟨_, rfl, rfl⟩⟩, Try.isAgg43, Try.sizeOf43⟩,
  ⟨⟨_, Try.runUnderlying44, rfl⟩, Try.isAgg44, Try.sizeOf44⟩,
  ⟨⟨_, Try.runUnderlying45, rfl⟩, Try.isAgg45, Try.sizeOf45⟩,
  ⟨⟨_, Try.runUnderlying50, rfl⟩, Try.isAgg50, Try.sizeOf50⟩,
  ⟨⟨_, Try.runUnderlying51, rfl⟩, Try.isAgg51, Try.sizeOf51⟩,
  ⟨⟨_, Try.runUnderlying52, rfl⟩, Try.isAgg52, Try.sizeOf52⟩,
  ⟨⟨_, Try.runUnderlying53, rfl⟩, Try.isAgg53, Try.sizeOf53⟩,
  ⟨⟨_, Try.runUnderlying54, rfl⟩, Try.isAgg54, Try.sizeOf54⟩,
  ⟨⟨_, Try.runUnderlying55, rfl⟩, Try.isAgg55, Try.sizeOf55⟩,
  ⟨⟨_, Try.runUnderlying57, ⟨_, rfl, rfl⟩⟩, Try.isAgg57, Try.sizeOf57⟩,
  ⟨⟨_, Try.runUnderlying63, rfl⟩, Try.isAgg63, Try.sizeOf63⟩,
  ⟨⟨_, Try.runUnderlying65, ⟨_, rfl⟩⟩, Try.isAgg65, Try.sizeOf65⟩,
  ⟨⟨_, Try.runUnderlying82, rfl⟩, Try.isAgg82, Try.sizeOf82⟩,
  ⟨⟨_, Try.runUnderlying109, trivial⟩, Try.isAgg109, Try.sizeOf109⟩,
  ⟨⟨_, Try.runUnderlying110, trivial⟩, Try.isAgg110, Try.sizeOf110⟩,
  ⟨⟨_, Try.runUnderlying112, ⟨_, rfl, rfl⟩⟩, Try.isAgg112, Try.sizeOf112⟩,
  ⟨⟨_, Try.runUnderlying119, ⟨_, rfl, rfl⟩⟩, Try.isAgg119, Try.sizeOf119⟩,
  ⟨⟨_, Try.runUnderlying127, ⟨_, rfl, rfl⟩⟩, Try.isAgg127, Try.sizeOf127⟩,
  ⟨⟨_, Try.runUnderlying132, ⟨_, rfl, rfl⟩⟩, Try.isAgg132, Try.sizeOf132⟩,
  ⟨⟨_, Try.runUnderlying141, rfl⟩, Try.isAgg141, Try.sizeOf141⟩,
  ⟨⟨_, Try.runUnderlying144, rfl⟩, Try.isAgg144, Try.sizeOf144⟩,
  ⟨⟨_, Try.runUnderlying146, rfl⟩, Try.isAgg146, Try.sizeOf146⟩,
  ⟨⟨_, Try.runUnderlying148, rfl⟩, Try.isAgg148, Try.sizeOf148⟩,
  ⟨⟨_, Try.runUnderlying154, ⟨_, rfl, rfl⟩⟩, Try.isAgg154, Try.sizeOf154⟩,
  ⟨⟨_, Try.runUnderlying157, ⟨_, rfl, rfl⟩⟩, Try.isAgg157, Try.sizeOf157⟩,
  ⟨⟨_, Try.runUnderlying159, rfl⟩, Try.isAgg159, Try.sizeOf159⟩,
  ⟨⟨_, Try.runUnderlying170, trivial⟩, Try.isAgg170, Try.sizeOf170⟩, trivial⟩
def orc_sg : List (Nat × List (Bool × List Kd)) := [(3, [(false, [.bool])]),
  (4, [(false, [.bool])]),
  (5, [(false, [.bool])]),
  (6, [(false, [.bool])]),
  (7, [(false, [.bool])]),
  (8, [(false, [.bool])]),
  (9, [(false, [.bool])]),
  (10, [(false, [.bool])]),
  (11, [(false, [.bool])]),
  (12, [(false, [.bool])]),
  (13, [(false, [.bool])]),
  (14, [(false, [.bool])]),
  (15, [(false, [.bool])]),
  (16, [(false, [.bool])]),
  (17, [(false, [.bool])]),
  (18, [(false, [.bool])]),
  (19, [(false, [.bool])]),
  (20, [(false, [.bool])]),
  (21, [(true, [.int .i64, .int .i64, .sl, .sl, .sl, .str, .str, .int .i64, .int .i64, .int .i64]), (true, [.int .i64, .int .i64, .bool])]),
  (22, [(false, [.bool])]),
  (23, [(false, [.bool])]),
  (24, [(false, [.bool])]),
  (25, [(false, [.bool])]),
  (26, [(true, [.int .i64, .int .i64, .int .i64, .int .i64, .int .i64, .sl, .sl, .int .i64, .sl])]),
  (27, [(true, [.int .i64, .int .i64, .int .i64, .int .i64, .int .i64, .sl, .sl, .int .i64, .sl])]),
  (28, [(false, [.bool])]),
  (29, [(false, [.bool])]),
  (30, []),
  (31, [(false, [.int .i64])]),
  (32, [(false, [.int .i64])]),
  (33, [(false, [.bool])]),
  (34, [(true, [.int .i64, .int .i64, .sl, .sl, .sl, .str, .str, .int .i64, .int .i64, .int .i64]), (false, [.int .i64]), (false, [.bool])]),
  (35, [(false, [.bool])]),
  (36, [(true, [.int .i64, .int .i64, .int .i64, .int .i64, .int .i64, .sl, .sl, .int .i64, .sl])]),
  (37, [(false, [.int .i64])]),
  (38, [(false, [.int .i64])]),
  (39, [(false, [.bool])]),
  (40, [(true, [.int .i64, .int .i64, .int .i64, .int .i64, .int .i64, .sl, .sl, .int .i64, .sl])]),
  (41, [(false, [.bool])]),
  (42, [(false, [.ptr]), (false, [.bool])]),
  (43, [(true, [.int .i64, .int .i64, .sl, .sl, .sl, .str, .str, .int .i64, .int .i64, .int .i64]), (true, [.int .i64, .int .i64, .bool])]),
  (44, [(false, [.int .i64])]),
  (45, [(false, [.int .i64])]),
  (46, [(false, [.bool])]),
  (47, [(false, [.bool])]),
  (48, [(false, [.bool])]),
  (49, [(false, [.bool])]),
  (50, [(false, [.bool])]),
  (51, [(false, [.sl])]),
  (52, [(false, [.sl])]),
  (53, [(false, [.bool])]),
  (54, [(true, [.int .i64, .int .i64, .sl, .sl, .sl, .str, .str, .int .i64, .int .i64, .int .i64])]),
  (55, [(true, [.int .i64, .int .i64, .sl, .sl, .sl, .str, .str, .int .i64, .int .i64, .int .i64]), (true, [.int .i64, .int .i64, .bool]), (false, [.int .i64])]),
  (56, [(false, [.sl])]),
  (57, [(false, [.sl])]),
  (58, [(false, [.sl])]),
  (59, [(false, [.bool])]),
  (60, [(true, [.int .i64, .int .i64, .int .i64, .int .i64, .int .i64])]),
  (61, [(false, [.bool])]),
  (62, [(false, [.int .i64]), (false, [.bool])]),
  (63, [(false, [.sl])]),
  (64, [(false, [.sl])]),
  (65, [(false, [.bool])]),
  (66, [(false, [.bool])]),
  (67, [(false, [.bool])]),
  (68, [(false, [.bool])]),
  (69, [(false, [.bool])]),
  (70, []),
  (71, []),
  (72, []),
  (73, [(false, [.bool])]),
  (74, [(false, [.int .i64]), (false, [.bool])]),
  (75, [(false, [.bool])]),
  (76, [(false, [.bool])]),
  (77, [(false, [.bool])]),
  (78, [(false, [.bool])]),
  (79, [(false, [.bool])]),
  (80, [(false, [.bool])]),
  (81, []),
  (82, []),
  (83, []),
  (84, []),
  (85, []),
  (86, []),
  (87, [(false, [.sl])]),
  (88, [(false, [.sl])]),
  (89, [(false, [.sl])]),
  (90, [(false, [.sl])]),
  (91, [(false, [.sl])]),
  (92, [(false, [.sl])]),
  (93, [(false, [.bool])]),
  (94, [(false, [.bool])]),
  (95, [(false, [.bool])]),
  (96, [(false, [.bool])]),
  (97, [(false, [.bool])]),
  (98, [(false, [.bool])]),
  (99, [(false, [.int .i64]), (false, [.bool])]),
  (100, [(true, [.int .i64, .int .i64, .sl, .sl, .sl, .str, .str, .int .i64, .int .i64, .int .i64])]),
  (101, [(false, [.str])]),
  (102, [(true, [.mp, .mp, .mp])]),
  (103, [(false, [.int .i64]), (false, [.bool])]),
  (104, []),
  (105, [(false, [.int .i64])]),
  (106, [(false, [.ptr])]),
  (107, [(false, [.bool])]),
  (108, []),
  (109, [(true, [.int .i64, .int .i64, .int .i64, .int .i64, .int .i64])]),
  (110, [(false, [.int .i64])]),
  (111, [(false, [.int .i64])]),
  (112, [(true, [.int .i64, .int .i64, .int .i64, .int .i64, .int .i64, .sl, .sl, .int .i64, .sl])]),
  (113, [(false, [.sl]), (false, [.int .i64])]),
  (114, [(true, [.int .i64, .int .i64, .sl, .sl, .sl, .str, .str, .int .i64, .int .i64, .int .i64]), (true, [.int .i64, .int .i64, .bool]), (false, [.int .i64])]),
  (115, [(false, [.bool])]),
  (116, [(true, [.int .i64, .int .i64, .sl, .sl, .sl, .str, .str, .int .i64, .int .i64, .int .i64])]),
  (117, [(false, [.int .i64])]),
  (118, [(true, [.int .i64, .int .i64, .sl, .sl, .sl, .str, .str, .int .i64, .int .i64, .int .i64]), (true, [.int .i64, .int .i64, .bool]), (false, [.int .i64])]),
  (119, [(false, [.sl])]),
  (120, [(false, [.sl])]),
  (121, [(false, [.sl])]),
  (122, [(false, [.bool])]),
  (123, [(false, [.bool])]),
  (124, [(false, [.bool])]),
  (125, [(false, [.bool])]),
  (126, [(false, [.bool])]),
  (127, [(false, [.bool])]),
  (128, [(false, [.sl])]),
  (129, [(false, [.sl])]),
  (130, [(false, [.sl]), (false, [.bool])]),
  (131, [(false, [.int .i64]), (false, [.bool])]),
  (132, [(false, [.int .i64]), (false, [.bool])]),
  (133, [(false, [.sl])]),
  (134, [(false, [.int .i64]), (false, [.int .i64])]),
  (135, [(false, [.int .i64])]),
  (136, [(false, [.bool])]),
  (137, [(false, [.bool])]),
  (138, [(false, [.bool])]),
  (139, [(false, [.sl])]),
  (140, [(false, [.sl])]),
  (141, [(false, [.sl])]),
  (142, [(false, [.sl])]),
  (143, [(false, [.sl])]),
  (144, [(false, [.sl])]),
  (145, [(true, [.int .i64, .int .i64])]),
  (146, []),
  (147, []),
  (148, [(false, [.sl])]),
  (149, [(false, [.sl])]),
  (150, [(false, [.sl])]),
  (151, [(false, [.bool])]),
  (152, [(false, [.int .i64])]),
  (153, [(false, [.bool])]),
  (154, [(false, [.int .i64])]),
  (155, [(false, [.int .i64])]),
  (156, [(false, [.int .i64])]),
  (157, [(false, [.int .i64])]),
  (158, [(false, [.int .i64])]),
  (159, [(false, [.int .i64])]),
  (160, [(false, [.int .i64])]),
  (161, [(false, [.sl])]),
  (162, [(false, [.bool])]),
  (163, [(false, [.bool])]),
  (164, [(false, [.bool])]),
  (165, [(false, [.int .i64])]),
  (166, [(false, [.int .i64]), (false, [.int .i64]), (false, [.bool])]),
  (167, [(false, [.int .i64])]),
  (168, [(false, [.int .i64])]),
  (169, [(false, [.str])]),
  (170, []),
  (171, []),
  (172, [(false, [.bool])]),
  (173, [(false, [.str])]),
  (174, [(false, [.int .i64])]),
  (175, [(false, [.bool])])]
theorem orc_sok : AllSg Try.prog orc_sg := ⟨Try.call3,
  Try.call4,
  Try.call5,
  Try.call6,
  Try.call7,
  Try.call8,
  Try.call9,
  Try.call10,
  Try.call11,
  Try.call12,
  Try.call13,
  Try.call14,
  Try.call15,
  Try.call16,
  Try.call17,
  Try.call18,
  Try.call19,
  Try.call20,
  Try.call21,
  Try.call22,
  Try.call23,
  Try.call24,
  Try.call25,
  Try.call26,
  Try.call27,
  Try.call28,
  Try.call29,
  Try.call30,
  Try.call31,
  Try.call32,
  Try.call33,
  Try.call34,
  Try.call35,
  Try.call36,
  Try.call37,
  Try.call38,
  Try.call39,
  Try.call40,
  Try.call41,
  Try.call42,
  Try.call43,
  Try.call44,
  Try.call45,
  Try.call46,
  Try.call47,
  Try.call48,
  Try.call49,
  Try.call50,
  Try.call51,
  Try.call52,
  Try.call53,
  Try.call54,
  Try.call55,
  Try.call56,
  Try.call57,
  Try.call58,
  Try.call59,
  Try.call60,
  Try.call61,
  Try.call62,
  Try.call63,
  Try.call64,
  Try.call65,
  Try.call66,
  Try.call67,
  Try.call68,
  Try.call69,
  Try.call70,
  Try.call71,
  Try.call72,
  Try.call73,
  Try.call74,
  Try.call75,
  Try.call76,
  Try.call77,
  Try.call78,
  Try.call79,
  Try.call80,
  Try.call81,
  Try.call82,
  Try.call83,
  Try.call84,
  Try.call85,
  Try.call86,
  Try.call87,
  Try.call88,
  Try.call89,
  Try.call90,
  Try.call91,
  Try.call92,
  Try.call93,
  Try.call94,
  Try.call95,
  Try.call96,
  Try.call97,
  Try.call98,
  Try.call99,
  Try.call100,
  Try.call101,
  Try.call102,
  Try.call103,
  Try.call104,
  Try.call105,
  Try.call106,
  Try.call107,
  Try.call108,
  Try.call109,
  Try.call110,
  Try.call111,
  Try.call112,
  Try.call113,
  Try.call114,
  Try.call115,
  Try.call116,
  Try.call117,
  Try.call118,
  Try.call119,
  Try.call120,
  Try.call121,
  Try.call122,
  Try.call123,
  Try.call124,
  Try.call125,
  Try.call126,
  Try.call127,
  Try.call128,
  Try.call129,
  Try.call130,
  Try.call131,
  Try.call132,
  Try.call133,
  Try.call134,
  Try.call135,
  Try.call136,
  Try.call137,
  Try.call138,
  Try.call139,
  Try.call140,
  Try.call141,
  Try.call142,
  Try.call143,
  Try.call144,
  Try.call145,
  Try.call146,
  Try.call147,
  Try.call148,
  Try.call149,
  Try.call150,
  Try.call151,
  Try.call152,
  Try.call153,
  Try.call154,
  Try.call155,
  Try.call156,
  Try.call157,
  Try.call158,
  Try.call159,
  Try.call160,
  Try.call161,
  Try.call162,
  Try.call163,
  Try.call164,
  Try.call165,
  Try.call166,
  Try.call167,
  Try.call168,
  Try.call169,
  Try.call170,
  Try.call171,
  Try.call172,
  Try.call173,
  Try.call174,
  Try.call175, trivial⟩
def orc : Orc Try.prog := ⟨orc_ts, allTi_of orc_tok, orc_sg, allSg_of orc_sok⟩
theorem orc_wide : Try.prog.follows .mixedOrders = true := by kernel_rfl
end Go.Proofs.Ytblmoilneiffgaa

/- Functions of Slices, read without their frames; that each is enough. Printed by a program of mine (wip/lift/gen.py). -/
set_option maxRecDepth 100000
namespace Go.Proofs.Ytblmoilneiffgaa
open Go.RowKit

-- slices.Clone[[]int,int]
def slices_Clone_sl_int_int_sh (s_1 : Sl) (w : World) (K : Value → World → Prop) : Prop :=
 brB (Option.isNone s_1.ptr)
 (K (.slice none 0 0) w)
 (∀ (b2 : Nat) (w3 : World), b2 = w.heap.size → w3 = World.alloc w (.cells #[] T_int) →
 ∃ s4 : Sl, ∃ w5 : World, (Builtin.append_ #[T_sl_int, T_sl_int] T_sl_int #[.slice (some ⟨b2, 0, none⟩) 0 0, s_1.val]).run Try.prog w3 = .ok (s4.val) w5 ∧
 K (s4.val) w5)
def slices_Clone_sl_int_int_an : An := ⟨[], [], []⟩
theorem slices_Clone_sl_int_int_lift {s_1 : Sl} {w : World} {K : Value → World → Prop} (h : slices_Clone_sl_int_int_sh s_1 w K) : Calls Try.prog fn_slices_Clone_sl_int_int #[s_1.val] w fun e w' => ∃ v, e = .returned v ∧ K v w' :=
   lift_calls (A := slices_Clone_sl_int_int_an) (c := bodyOf Try.f64) (args := [s_1.val]) orc orc_wide Try.func64 (by kernel_rfl) (by kernel_rfl) (Eq.mp (by kernel_rfl : slices_Clone_sl_int_int_sh s_1 w K = wpc orc Try.f64.ntmps slices_Clone_sl_int_int_an (bodyOf Try.f64) (argl 0 [s_1.val]) w (retQ orc Try.f64.results.toList K)) h)

-- slices.Clone[[]holloway/api.Ins,holloway/api.Ins]
-- slices.Clone[[]holloway/api.Out,holloway/api.Out]
-- slices.IndexFunc[[]int,int]
-- slices.Contains[[]int,int]
-- slices.Index[[]int,int]
-- slices.IndexFunc[[]int,int]@@1=holloway/slots.allot$1
end Go.Proofs.Ytblmoilneiffgaa

/- Numbers as elements of lists; slices.Clone. -/
set_option maxRecDepth 100000
namespace Go.Proofs.Ytblmoilneiffgaa
open Go.RowKit

def intE : Enc Int := ⟨T_int, 1, 8, fun n => [.int .i64 n], by intro x; rfl, by intro x u hu; simp at hu; subst hu; rfl, by decide⟩
theorem intOk : EncOk Try.prog intE T_sl_int := EncOk.of (z := .int .i64 0) (by kernel_rfl) (by kernel_rfl) (by kernel_rfl)
/-! ### slices.Clone -/
theorem Rd.none {α : Type} {E : Enc α} {w : World} {s : Sl} {xs : List α} (h : Rd E w s xs) (hp : s.ptr = none) : xs = [] ∧ s.cap = 0 := by
  obtain ⟨ao, cap, he, _, _, h5, _⟩ := h
  have hq : s.ptr = ao ∧ s.cap = cap := by cases s; simp [Sl.val] at he; exact ⟨he.1, he.2.2⟩
  have := h5 (hq.1.symm.trans hp)
  exact ⟨List.eq_nil_of_length_eq_zero this.1, hq.2.trans this.2⟩
theorem clone_core {α : Type} {P : Program} {E : Enc α} {T : TypeId} (ok : EncOk P E T) (hby : E.bytes ≤ 1000) {w : World} {s : Sl} {xs : List α} (h : Rd E w s xs) (hsm : xs.length ≤ 1000000000) {K : Value → World → Prop}
    (k : ∀ (s' : Sl) (w' : World), Ow E w' s' xs → Chg No w w' → (∀ k, s'.blk = some k → w.heap.size ≤ k) → (s.ptr = none → s' = nilS) → K s'.val w') :
    brB (Option.isNone s.ptr) (K (.slice none 0 0) w) (∀ (b2 : Nat) (w3 : World), b2 = w.heap.size → w3 = World.alloc w (.cells #[] E.t) →
      ∃ s4 : Sl, ∃ w5 : World, (Builtin.append_ #[T, T] T #[.slice (some ⟨b2, 0, none⟩) 0 0, s.val]).run P w3 = .ok (s4.val) w5 ∧ K (s4.val) w5) := by
  refine brB_of (fun hp => ?_) (fun hp => ?_)
  · have hp : s.ptr = Option.none := by cases h : s.ptr with
      | none => rfl
      | some a => rw [h] at hp; cases hp
    obtain ⟨rfl, _⟩ := h.none hp
    exact k nilS w (Ow.nil E w) (Chg.refl _ _) (fun k hk => by cases hk) (fun _ => rfl)
  · intro b2 w3 hb hw
    have hne : s.ptr ≠ Option.none := fun e => by rw [e] at hp; cases hp
    have hc : Chg No w w3 := by rw [hw]; exact Chg.alloc _ _ _
    have hlit : Ow E w3 ⟨some ⟨b2, 0, Option.none⟩, 0, 0⟩ [] := by
      rw [hw, hb]; exact Ow.lit w [] [] rfl (Nat.zero_le _)
    have hs3 : w.heap.size < w3.heap.size := by rw [hw]; simp
    refine app_ok ok rfl rfl hlit (h.no hc) (by
      have : (xs.length) * E.bytes ≤ 1000000000 * 1000 := Nat.mul_le_mul hsm hby
      simp only [List.length_nil, Nat.zero_add]; omega) (by simp only [List.length_nil, Nat.zero_add]; unfold maxLen; omega) ?_
    intro s' w5 h5 hc5 hbk
    refine k s' w5 (by simpa using h5) (hc.trans hc5 (fun _ _ h => h) (fun j hj he => ?_)) (fun j hj => ?_) (fun e => absurd e hne)
    · have : some b2 = some j := he
      cases this; omega
    · rcases hbk with hk | hk
      · have : (⟨some ⟨b2, 0, Option.none⟩, 0, 0⟩ : Sl).blk = some b2 := rfl
        rw [hk, this] at hj; cases hj; omega
      · rw [hk] at hj; cases hj; omega
theorem clone_ints {w : World} {s : Sl} {xs : List Int} (h : Rd intE w s xs) (hsm : xs.length ≤ 1000000000) : Calls Try.prog fn_slices_Clone_sl_int_int #[s.val] w fun e w' => ∃ s' : Sl, e = .returned s'.val ∧ Ow intE w' s' xs ∧ Chg No w w' ∧ (∀ k, s'.blk = some k → w.heap.size ≤ k) ∧ (s.ptr = none → s' = nilS) := by
  refine (slices_Clone_sl_int_int_lift (K := fun v w' => ∃ s' : Sl, v = s'.val ∧ Ow intE w' s' xs ∧ Chg No w w' ∧ (∀ k, s'.blk = some k → w.heap.size ≤ k) ∧ (s.ptr = none → s' = nilS)) ?_).mono (by rintro e w' ⟨v, rfl, s', rfl, h⟩; exact ⟨s', rfl, h⟩)
  unfold slices_Clone_sl_int_int_sh
  exact clone_core (K := fun v w' => ∃ s' : Sl, v = s'.val ∧ Ow intE w' s' xs ∧ Chg No w w' ∧ (∀ k, s'.blk = some k → w.heap.size ≤ k) ∧ (s.ptr = none → s' = nilS)) intOk (by decide) h hsm fun s' w' h1 h2 h3 h4 => ⟨s', rfl, h1, h2, h3, h4⟩
end Go.Proofs.Ytblmoilneiffgaa

/- Functions of Inner, read without their frames; that each is enough. Printed by a program of mine (wip/lift/gen.py). -/
set_option maxRecDepth 100000
namespace Go.Proofs.Ytblmoilneiffgaa
open Go.RowKit

-- holloway/inner.Copy
end Go.Proofs.Ytblmoilneiffgaa

/- Functions of Digits, read without their frames; that each is enough. Printed by a program of mine (wip/lift/gen.py). -/
set_option maxRecDepth 100000
namespace Go.Proofs.Ytblmoilneiffgaa
open Go.RowKit

-- holloway/digits.Put
-- holloway/digits.Right
end Go.Proofs.Ytblmoilneiffgaa

/- Functions of Hollowayref1, read without their frames; that each is enough. Printed by a program of mine (wip/lift/gen.py). -/
set_option maxRecDepth 100000
namespace Go.Proofs.Ytblmoilneiffgaa
open Go.RowKit

-- holloway/hollowayref1.IsTwo
def hollowayref1_IsTwo_sh (op1 : Int) (w : World) (K : Value → World → Prop) : Prop :=
 brB (decide (op1 ≥ (11 : Int)))
 (brB (decide (op1 ≤ (15 : Int)))
 (K (.bool true) w)
 (brB (decide (op1 ≥ (17 : Int)))
 (brB (decide (op1 ≤ (19 : Int)))
 (K (.bool true) w)
 (brB (decide (op1 ≥ (21 : Int)))
 (brB (decide (op1 ≤ (25 : Int)))
 (K (.bool true) w)
 (brB (op1 == (28 : Int))
 (K (.bool true) w)
 (K (.bool (op1 == (29 : Int))) w)))
 (brB (op1 == (28 : Int))
 (K (.bool true) w)
 (K (.bool (op1 == (29 : Int))) w))))
 (brB (decide (op1 ≥ (21 : Int)))
 (brB (decide (op1 ≤ (25 : Int)))
 (K (.bool true) w)
 (brB (op1 == (28 : Int))
 (K (.bool true) w)
 (K (.bool (op1 == (29 : Int))) w)))
 (brB (op1 == (28 : Int))
 (K (.bool true) w)
 (K (.bool (op1 == (29 : Int))) w)))))
 (brB (decide (op1 ≥ (17 : Int)))
 (brB (decide (op1 ≤ (19 : Int)))
 (K (.bool true) w)
 (brB (decide (op1 ≥ (21 : Int)))
 (brB (decide (op1 ≤ (25 : Int)))
 (K (.bool true) w)
 (brB (op1 == (28 : Int))
 (K (.bool true) w)
 (K (.bool (op1 == (29 : Int))) w)))
 (brB (op1 == (28 : Int))
 (K (.bool true) w)
 (K (.bool (op1 == (29 : Int))) w))))
 (brB (decide (op1 ≥ (21 : Int)))
 (brB (decide (op1 ≤ (25 : Int)))
 (K (.bool true) w)
 (brB (op1 == (28 : Int))
 (K (.bool true) w)
 (K (.bool (op1 == (29 : Int))) w)))
 (brB (op1 == (28 : Int))
 (K (.bool true) w)
 (K (.bool (op1 == (29 : Int))) w))))
def hollowayref1_IsTwo_an : An := ⟨[], [], []⟩
theorem hollowayref1_IsTwo_lift {op1 : Int} {w : World} {K : Value → World → Prop} (h : hollowayref1_IsTwo_sh op1 w K) : Calls Try.prog fn_hollowayref1_IsTwo #[.int .i64 op1] w fun e w' => ∃ v, e = .returned v ∧ K v w' :=
   lift_calls (A := hollowayref1_IsTwo_an) (c := bodyOf Try.f48) (args := [.int .i64 op1]) orc orc_wide Try.func48 (by kernel_rfl) (by kernel_rfl) (Eq.mp (by kernel_rfl : hollowayref1_IsTwo_sh op1 w K = wpc orc Try.f48.ntmps hollowayref1_IsTwo_an (bodyOf Try.f48) (argl 0 [.int .i64 op1]) w (retQ orc Try.f48.results.toList K)) h)

-- holloway/hollowayref1.IsOne
def hollowayref1_IsOne_sh (op1 : Int) (w : World) (K : Value → World → Prop) : Prop :=
 brB (op1 == (16 : Int))
 (K (.bool true) w)
 (brB (op1 == (20 : Int))
 (K (.bool true) w)
 (brB (op1 == (26 : Int))
 (K (.bool true) w)
 (K (.bool (op1 == (27 : Int))) w)))
def hollowayref1_IsOne_an : An := ⟨[], [], []⟩
theorem hollowayref1_IsOne_lift {op1 : Int} {w : World} {K : Value → World → Prop} (h : hollowayref1_IsOne_sh op1 w K) : Calls Try.prog fn_hollowayref1_IsOne #[.int .i64 op1] w fun e w' => ∃ v, e = .returned v ∧ K v w' :=
   lift_calls (A := hollowayref1_IsOne_an) (c := bodyOf Try.f49) (args := [.int .i64 op1]) orc orc_wide Try.func49 (by kernel_rfl) (by kernel_rfl) (Eq.mp (by kernel_rfl : hollowayref1_IsOne_sh op1 w K = wpc orc Try.f49.ntmps hollowayref1_IsOne_an (bodyOf Try.f49) (argl 0 [.int .i64 op1]) w (retQ orc Try.f49.results.toList K)) h)

-- holloway/hollowayref1.Two
def hollowayref1_Two_sh (op1 : Int) (a_2 : Int) (b_3 : Int) (w : World) (K : Value → World → Prop) : Prop :=
 Calls Try.prog fn_hollowayref1_IsTwo #[.int .i64 op1] w fun e4 w5 => ∃ b6 : Bool, e4 = .returned (.bool b6) ∧
 brB (!b6)
 (K (.tuple #[.int .i64 (0 : Int), .bool false]) w5)
 (brB (op1 == (11 : Int))
 (K (.tuple #[.int .i64 (wr (a_2 + b_3)), .bool true]) w5)
 (brB (op1 == (12 : Int))
 (K (.tuple #[.int .i64 (wr (a_2 - b_3)), .bool true]) w5)
 (brB (op1 == (13 : Int))
 (K (.tuple #[.int .i64 (wr (a_2 * b_3)), .bool true]) w5)
 (∃ J13 : Bool → World → Prop, (∀ (b8 : Bool) (w7 : World), J13 b8 w7 →
 brB b8
 (brB (b_3 == (0 : Int))
 (K (.tuple #[.int .i64 (0 : Int), .bool false]) w7)
 (Calls Try.prog fn_hollowayref1_Floor #[.int .i64 a_2, .int .i64 b_3] w7 fun e9 w10 => ∃ n11 : Int, ∃ n12 : Int, e9 = .returned (.tuple #[.int .i64 n11, .int .i64 n12]) ∧
 brB (op1 == (14 : Int))
 (K (.tuple #[.int .i64 n11, .bool true]) w10)
 (K (.tuple #[.int .i64 n12, .bool true]) w10)))
 (brB (op1 == (17 : Int))
 (K (.tuple #[.int .i64 (iand .i64 a_2 b_3), .bool true]) w7)
 (brB (op1 == (18 : Int))
 (K (.tuple #[.int .i64 (ior .i64 a_2 b_3), .bool true]) w7)
 (brB (op1 == (19 : Int))
 (K (.tuple #[.int .i64 (ixor .i64 a_2 b_3), .bool true]) w7)
 (∃ J29 : Bool → World → Prop, (∀ (b14 : Bool) (w13 : World), J29 b14 w13 →
 brB b14
 (∃ J32 : Bool → World → Prop, (∀ (b16 : Bool) (w15 : World), J32 b16 w15 →
 brB b16
 (K (.tuple #[.int .i64 (0 : Int), .bool true]) w15)
 (∃ (I1 : Int → Int → World → Prop) (μ1 : Int → Int → World → Nat), I1 (IntKind.wrap .u64 a_2) (0 : Int) w15 ∧ ∀ (x19 : Int) (k18 : Int) (w17 : World), I1 x19 k18 w17 →
 brB (decide (k18 < b_3))
 (∃ J39 : Int → World → Prop, (∀ (x30 : Int) (w20 : World), J39 x30 w20 →
 I1 x30 (wr (k18 + (1 : Int))) w20 ∧ μ1 x30 (wr (k18 + (1 : Int))) w20 < μ1 x19 k18 w17) ∧
 brB (op1 == (21 : Int))
 (J39 (IntKind.wrap .u64 (x19 * (2 : Int))) w17)
 ((2 : Int) ≠ 0 ∧ J39 (IntKind.wrap .u64 (Int.tdiv x19 (2 : Int))) w17))
 (K (.tuple #[.int .i64 (wr x19), .bool true]) w17))) ∧
 brB (decide (b_3 < (0 : Int)))
 (J32 true w13)
 (J32 (decide (b_3 > (63 : Int))) w13))
 (brB (op1 == (23 : Int))
 (Calls Try.prog fn_hollowayref1_Flag #[.bool (a_2 == b_3)] w13 fun e21 w22 => ∃ n23 : Int, e21 = .returned (.int .i64 n23) ∧
 K (.tuple #[.int .i64 n23, .bool true]) w22)
 (brB (op1 == (24 : Int))
 (Calls Try.prog fn_hollowayref1_Flag #[.bool (decide (a_2 < b_3))] w13 fun e24 w25 => ∃ n26 : Int, e24 = .returned (.int .i64 n26) ∧
 K (.tuple #[.int .i64 n26, .bool true]) w25)
 (brB (op1 == (25 : Int))
 (Calls Try.prog fn_hollowayref1_Flag #[.bool (decide ((IntKind.wrap .u64 a_2) < (IntKind.wrap .u64 b_3)))] w13 fun e27 w28 => ∃ n29 : Int, e27 = .returned (.int .i64 n29) ∧
 K (.tuple #[.int .i64 n29, .bool true]) w28)
 (brB (op1 == (28 : Int))
 (K (.tuple #[.int .i64 (imin a_2 b_3), .bool true]) w13)
 (K (.tuple #[.int .i64 (imax a_2 b_3), .bool true]) w13)))))) ∧
 brB (op1 == (21 : Int))
 (J29 (op1 == (21 : Int)) w7)
 (J29 (op1 == (22 : Int)) w7)))))) ∧
 brB (op1 == (14 : Int))
 (J13 (op1 == (14 : Int)) w5)
 (J13 (op1 == (15 : Int)) w5)))))
def hollowayref1_Two_an : An := ⟨[(30, [(10, .int .u64), (11, .int .i64)])], [], [(27, [(69, .bool)]), (31, [(10, .int .u64)]), (26, [(61, .bool)]), (12, [(31, .bool)])]⟩
theorem hollowayref1_Two_lift {op1 : Int} {a_2 : Int} {b_3 : Int} {w : World} {K : Value → World → Prop} (h : hollowayref1_Two_sh op1 a_2 b_3 w K) : Calls Try.prog fn_hollowayref1_Two #[.int .i64 op1, .int .i64 a_2, .int .i64 b_3] w fun e w' => ∃ v, e = .returned v ∧ K v w' :=
   lift_calls (A := hollowayref1_Two_an) (c := bodyOf Try.f74) (args := [.int .i64 op1, .int .i64 a_2, .int .i64 b_3]) orc orc_wide Try.func74 (by kernel_rfl) (by kernel_rfl) (Eq.mp (by kernel_rfl : hollowayref1_Two_sh op1 a_2 b_3 w K = wpc orc Try.f74.ntmps hollowayref1_Two_an (bodyOf Try.f74) (argl 0 [.int .i64 op1, .int .i64 a_2, .int .i64 b_3]) w (retQ orc Try.f74.results.toList K)) h)

-- holloway/hollowayref1.One
-- holloway/hollowayref1.Put
-- holloway/hollowayref1.Floor
def hollowayref1_Floor_sh (a_1 : Int) (b_2 : Int) (w : World) (K : Value → World → Prop) : Prop :=
 b_2 ≠ 0 ∧ ∃ J5 : Bool → World → Prop, (∀ (b4 : Bool) (w3 : World), J5 b4 w3 →
 brB b4
 (K (.tuple #[.int .i64 (wr ((wr (Int.tdiv a_1 b_2)) - (1 : Int))), .int .i64 (wr ((wr (a_1 - (wr ((wr (Int.tdiv a_1 b_2)) * b_2)))) + b_2))]) w3)
 (K (.tuple #[.int .i64 (wr (Int.tdiv a_1 b_2)), .int .i64 (wr (a_1 - (wr ((wr (Int.tdiv a_1 b_2)) * b_2))))]) w3)) ∧
 brB ((wr (a_1 - (wr ((wr (Int.tdiv a_1 b_2)) * b_2)))) != (0 : Int))
 (J5 (!((decide ((wr (a_1 - (wr ((wr (Int.tdiv a_1 b_2)) * b_2)))) < (0 : Int))) == (decide (b_2 < (0 : Int))))) w)
 (J5 false w)
def hollowayref1_Floor_an : An := ⟨[], [], [(4, [(24, .bool)])]⟩
theorem hollowayref1_Floor_lift {a_1 : Int} {b_2 : Int} {w : World} {K : Value → World → Prop} (h : hollowayref1_Floor_sh a_1 b_2 w K) : Calls Try.prog fn_hollowayref1_Floor #[.int .i64 a_1, .int .i64 b_2] w fun e w' => ∃ v, e = .returned v ∧ K v w' :=
   lift_calls (A := hollowayref1_Floor_an) (c := bodyOf Try.f134) (args := [.int .i64 a_1, .int .i64 b_2]) orc orc_wide Try.func134 (by kernel_rfl) (by kernel_rfl) (Eq.mp (by kernel_rfl : hollowayref1_Floor_sh a_1 b_2 w K = wpc orc Try.f134.ntmps hollowayref1_Floor_an (bodyOf Try.f134) (argl 0 [.int .i64 a_1, .int .i64 b_2]) w (retQ orc Try.f134.results.toList K)) h)

-- holloway/hollowayref1.Flag
def hollowayref1_Flag_sh (is1 : Bool) (w : World) (K : Value → World → Prop) : Prop :=
 brB is1
 (K (.int .i64 (-1 : Int)) w)
 (K (.int .i64 (0 : Int)) w)
def hollowayref1_Flag_an : An := ⟨[], [], []⟩
theorem hollowayref1_Flag_lift {is1 : Bool} {w : World} {K : Value → World → Prop} (h : hollowayref1_Flag_sh is1 w K) : Calls Try.prog fn_hollowayref1_Flag #[.bool is1] w fun e w' => ∃ v, e = .returned v ∧ K v w' :=
   lift_calls (A := hollowayref1_Flag_an) (c := bodyOf Try.f135) (args := [.bool is1]) orc orc_wide Try.func135 (by kernel_rfl) (by kernel_rfl) (Eq.mp (by kernel_rfl : hollowayref1_Flag_sh is1 w K = wpc orc Try.f135.ntmps hollowayref1_Flag_an (bodyOf Try.f135) (argl 0 [.bool is1]) w (retQ orc Try.f135.results.toList K)) h)

end Go.Proofs.Ytblmoilneiffgaa

/- Functions of Hollowayref9, read without their frames; that each is enough. Printed by a program of mine (wip/lift/gen.py). -/
set_option maxRecDepth 100000
namespace Go.Proofs.Ytblmoilneiffgaa
open Go.RowKit

-- holloway/hollowayref9.Right
-- holloway/hollowayref9.Boot
end Go.Proofs.Ytblmoilneiffgaa

/- Functions of Hollowaylaw9, read without their frames; that each is enough. Printed by a program of mine (wip/lift/gen.py). -/
set_option maxRecDepth 100000
namespace Go.Proofs.Ytblmoilneiffgaa
open Go.RowKit

-- holloway/hollowaylaw9.Light
end Go.Proofs.Ytblmoilneiffgaa

/- Functions of Hollowaylaw14, read without their frames; that each is enough. Printed by a program of mine (wip/lift/gen.py). -/
set_option maxRecDepth 100000
namespace Go.Proofs.Ytblmoilneiffgaa
open Go.RowKit

-- holloway/hollowaylaw14.Light
def hollowaylaw14_Light_j1 (I1 : Int → World → Prop) (i13 : Int) (μ1 : Int → World → Nat) (w12 : World) (b10 : Nat) (b18 : Bool) (w17 : World) (K : Value → World → Prop) : Prop :=
 brB b18
 (∃ J7 : Bool → World → Prop, (∀ (b26 : Bool) (w25 : World), J7 b26 w25 →
 brB b26
 (K (.bool false) w25)
 (I1 (wr (i13 + (1 : Int))) w25 ∧ μ1 (wr (i13 + (1 : Int))) w25 < μ1 i13 w12)) ∧
 ∃ s19 : Sl, w17.cell? ⟨b10, 6, none⟩ = some (s19.val) ∧
 ∃ a20 : Addr, s19.ptr = some a20 ∧ 0 ≤ i13 ∧ i13 < (s19.len : Int) ∧
 ∃ s21 : Sl, w17.cell? (Addr.add (Addr.add a20 (Int.toNat i13 * 4)) 2) = some (s21.val) ∧
 brB (decide ((s21.len : Int) > (60 : Int)))
 (J7 true w17)
 (∃ s22 : Sl, w17.cell? ⟨b10, 6, none⟩ = some (s22.val) ∧
 ∃ a23 : Addr, s22.ptr = some a23 ∧ 0 ≤ i13 ∧ i13 < (s22.len : Int) ∧
 ∃ s24 : Sl, w17.cell? (Addr.add (Addr.add a23 (Int.toNat i13 * 4)) 3) = some (s24.val) ∧
 J7 (decide ((s24.len : Int) > (60 : Int))) w17))
 (∃ s27 : Sl, w17.cell? ⟨b10, 5, none⟩ = some (s27.val) ∧
 brB (decide ((s27.len : Int) ≤ (120 : Int)))
 (∃ s28 : Sl, w17.cell? ⟨b10, 6, none⟩ = some (s28.val) ∧
 brB (decide ((s28.len : Int) ≤ (60 : Int)))
 (∃ s29 : Sl, w17.cell? ⟨b10, 8, none⟩ = some (s29.val) ∧
 K (.bool (decide ((s29.len : Int) ≤ (100 : Int)))) w17)
 (K (.bool false) w17))
 (K (.bool false) w17))
def hollowaylaw14_Light_sh (t__Start1 : Int) (t__Slots2 : Int) (t__Backs3 : Int) (t__Grow4 : Int) (t__GrowBack5 : Int) (t__Ins6 : Sl) (t__Outs7 : Sl) (t__Last8 : Int) (t__Cells9 : Sl) (w : World) (K : Value → World → Prop) : Prop :=
 ∀ (b10 : Nat) (w11 : World), b10 = w.heap.size → w11 = World.alloc w (.cells #[.int .i64 t__Start1, .int .i64 t__Slots2, .int .i64 t__Backs3, .int .i64 t__Grow4, .int .i64 t__GrowBack5, t__Ins6.val, t__Outs7.val, .int .i64 t__Last8, t__Cells9.val] T_api_Trace) →
 ∃ (I1 : Int → World → Prop) (μ1 : Int → World → Nat), I1 (0 : Int) w11 ∧ ∀ (i13 : Int) (w12 : World), I1 i13 w12 →
 ∃ s14 : Sl, w12.cell? ⟨b10, 6, none⟩ = some (s14.val) ∧
 brB (decide (i13 < (s14.len : Int)))
 (hollowaylaw14_Light_j1 I1 i13 (μ1) w12 b10 (decide (i13 < (100 : Int))) w12 K)
 (hollowaylaw14_Light_j1 I1 i13 (μ1) w12 b10 false w12 K)
def hollowaylaw14_Light_an : An := ⟨[(2, [(3, .int .i64)])], [], [(5, [(32, .bool)])]⟩
theorem hollowaylaw14_Light_lift {t__Start1 : Int} {t__Slots2 : Int} {t__Backs3 : Int} {t__Grow4 : Int} {t__GrowBack5 : Int} {t__Ins6 : Sl} {t__Outs7 : Sl} {t__Last8 : Int} {t__Cells9 : Sl} {w : World} {K : Value → World → Prop} (h : hollowaylaw14_Light_sh t__Start1 t__Slots2 t__Backs3 t__Grow4 t__GrowBack5 t__Ins6 t__Outs7 t__Last8 t__Cells9 w K) : Calls Try.prog fn_hollowaylaw14_Light #[.agg #[.int .i64 t__Start1, .int .i64 t__Slots2, .int .i64 t__Backs3, .int .i64 t__Grow4, .int .i64 t__GrowBack5, t__Ins6.val, t__Outs7.val, .int .i64 t__Last8, t__Cells9.val]] w fun e w' => ∃ v, e = .returned v ∧ K v w' :=
   lift_calls (A := hollowaylaw14_Light_an) (c := bodyOf Try.f16) (args := [.agg #[.int .i64 t__Start1, .int .i64 t__Slots2, .int .i64 t__Backs3, .int .i64 t__Grow4, .int .i64 t__GrowBack5, t__Ins6.val, t__Outs7.val, .int .i64 t__Last8, t__Cells9.val]]) orc orc_wide Try.func16 (by kernel_rfl) (by kernel_rfl) (Eq.mp (by kernel_rfl : hollowaylaw14_Light_sh t__Start1 t__Slots2 t__Backs3 t__Grow4 t__GrowBack5 t__Ins6 t__Outs7 t__Last8 t__Cells9 w K = wpc orc Try.f16.ntmps hollowaylaw14_Light_an (bodyOf Try.f16) (argl 0 [.agg #[.int .i64 t__Start1, .int .i64 t__Slots2, .int .i64 t__Backs3, .int .i64 t__Grow4, .int .i64 t__GrowBack5, t__Ins6.val, t__Outs7.val, .int .i64 t__Last8, t__Cells9.val]]) w (retQ orc Try.f16.results.toList K)) h)

end Go.Proofs.Ytblmoilneiffgaa
