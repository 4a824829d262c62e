/- What the lift is told of the program: types and functions, each fact proved. Printed by a program of mine (wip/lift/gen.py). -/
import Derived.Test.YtblmoilneiffgaaProg
import Derived.Test.YtblmoilneiffgaaLiftH
set_option maxRecDepth 100000
namespace Go.Proofs.Ytblmoilneiffgaa
open Go.RowKit

@[reducible] def T_x : TypeId := 0
@[reducible] def T_int : TypeId := 3
@[reducible] def T_bool : TypeId := 4
@[reducible] def T_uint8 : TypeId := 5
@[reducible] def T_string : TypeId := 9
@[reducible] def T_sl_api_Ins : TypeId := 22
@[reducible] def T_sl_api_Out : TypeId := 23
@[reducible] def T_sl_int : TypeId := 24
@[reducible] def T_api_Trace : TypeId := 26
@[reducible] def T_api_State : TypeId := 28
@[reducible] def T_eval_Done : TypeId := 34
@[reducible] def T_api_Out : TypeId := 39
@[reducible] def T_api_Ins : TypeId := 43
@[reducible] def T_sl_bool : TypeId := 44
@[reducible] def T_sl_uint8 : TypeId := 45
@[reducible] def T_sl_sl_string : TypeId := 50
@[reducible] def T_sl_sl_int : TypeId := 51
@[reducible] def T_sl_sl_api_Word : TypeId := 52
@[reducible] def T_sl_sl_api_Seen : TypeId := 53
@[reducible] def T_sl_sl_api_Ins : TypeId := 54
@[reducible] def T_sl_sl_api_Out : TypeId := 55
@[reducible] def T_hollowaybook_Book : TypeId := 57
@[reducible] def T_uint : TypeId := 63
@[reducible] def T_p_slots_Code : TypeId := 65
@[reducible] def T_fold_Map : TypeId := 82
@[reducible] def T_map_int_int : TypeId := 109
@[reducible] def T_map_2_int_bool : TypeId := 110
@[reducible] def T_forward_known : TypeId := 112
@[reducible] def T_prune_need : TypeId := 119
@[reducible] def T_slots_Code : TypeId := 127
@[reducible] def T_eval_engine : TypeId := 132
@[reducible] def T_uint64 : TypeId := 141
@[reducible] def T_sl_string : TypeId := 144
@[reducible] def T_sl_api_Word : TypeId := 146
@[reducible] def T_sl_api_Seen : TypeId := 148
@[reducible] def T_api_Word : TypeId := 154
@[reducible] def T_api_Seen : TypeId := 157
@[reducible] def T_2_int : TypeId := 159
@[reducible] def T_func_int_sl_int : TypeId := 170
@[reducible] def fn_hollowaylaw15_EvalWatched : FuncId := 3
@[reducible] def fn_hollowaylaw15_EvalEmpty : FuncId := 4
@[reducible] def fn_hollowaylaw15_EvalGuards : FuncId := 5
@[reducible] def fn_hollowaylaw17_FoldHolds : FuncId := 7
@[reducible] def fn_hollowaylaw17_FoldConsts : FuncId := 8
@[reducible] def fn_hollowaylaw18_ForwardHolds : FuncId := 10
@[reducible] def fn_hollowaylaw18_ForwardLoads : FuncId := 11
@[reducible] def fn_hollowaylaw19_PruneHolds : FuncId := 12
@[reducible] def fn_hollowaylaw20_SlotsFew : FuncId := 14
@[reducible] def fn_hollowaylaw20_SlotsMany : FuncId := 15
@[reducible] def fn_hollowaylaw14_Light : FuncId := 16
@[reducible] def fn_hollowaylaw9_Light : FuncId := 17
@[reducible] def fn_hollowayref15_Right : FuncId := 18
@[reducible] def fn_hollowaylaw15_alive : FuncId := 19
@[reducible] def fn_hollowayref15_May : FuncId := 20
@[reducible] def fn_eval_Run : FuncId := 21
@[reducible] def fn_hollowaybook_SameState : FuncId := 22
@[reducible] def fn_eval_May : FuncId := 23
@[reducible] def fn_hollowaybook_SameInts : FuncId := 24
@[reducible] def fn_hollowaylaw17_alive : FuncId := 25
@[reducible] def fn_hollowaybook_LentTrace : FuncId := 26
@[reducible] def fn_fold_Do : FuncId := 27
@[reducible] def fn_hollowaybook_SameTrace : FuncId := 28
@[reducible] def fn_hollowaybook_StaysTrace : FuncId := 29
@[reducible] def fn_hollowaybook_Book_Trace : FuncId := 30
@[reducible] def fn_hollowaylaw17_left : FuncId := 31
@[reducible] def fn_fold_Left : FuncId := 32
@[reducible] def fn_hollowaybook_Book_Apart : FuncId := 33
@[reducible] def fn_hollowayref15_Run : FuncId := 34
@[reducible] def fn_hollowaylaw18_alive : FuncId := 35
@[reducible] def fn_forward_Do : FuncId := 36
@[reducible] def fn_hollowaylaw18_left : FuncId := 37
@[reducible] def fn_forward_Left : FuncId := 38
@[reducible] def fn_hollowaylaw19_alive : FuncId := 39
@[reducible] def fn_prune_Do : FuncId := 40
@[reducible] def fn_hollowaylaw20_alive : FuncId := 41
@[reducible] def fn_slots_Make : FuncId := 42
@[reducible] def fn_slots_Code_Run : FuncId := 43
@[reducible] def fn_slots_Least : FuncId := 44
@[reducible] def fn_slots_Code_Registers : FuncId := 45
@[reducible] def fn_hollowayref9_Right : FuncId := 46
@[reducible] def fn_hollowayref15_within : FuncId := 47
@[reducible] def fn_hollowayref1_IsTwo : FuncId := 48
@[reducible] def fn_hollowayref1_IsOne : FuncId := 49
@[reducible] def fn_hollowayref15_named : FuncId := 50
@[reducible] def fn_hollowayref15_Uses : FuncId := 51
@[reducible] def fn_hollowayref15_Outs : FuncId := 52
@[reducible] def fn_hollowayref15_out : FuncId := 53
@[reducible] def fn_hollowayref9_Boot : FuncId := 54
@[reducible] def fn_eval_Through : FuncId := 55
@[reducible] def fn_hollowaybook_LentCodes : FuncId := 56
@[reducible] def fn_hollowaybook_LentExits : FuncId := 57
@[reducible] def fn_hollowaybook_LentInts : FuncId := 58
@[reducible] def fn_ir_Right : FuncId := 59
@[reducible] def fn_fold_Map_Ins : FuncId := 60
@[reducible] def fn_fold_holds : FuncId := 61
@[reducible] def fn_fold_reckoned : FuncId := 62
@[reducible] def fn_fold_Map_Outs : FuncId := 63
@[reducible] def fn_slices_Clone_sl_int_int : FuncId := 64
@[reducible] def fn_hollowaybook_SameCodes : FuncId := 65
@[reducible] def fn_hollowaybook_SameExits : FuncId := 66
@[reducible] def fn_hollowaybook_StaysCodes : FuncId := 67
@[reducible] def fn_hollowaybook_StaysExits : FuncId := 68
@[reducible] def fn_hollowaybook_StaysInts : FuncId := 69
@[reducible] def fn_hollowaybook_Book_Codes : FuncId := 70
@[reducible] def fn_hollowaybook_Book_Exits : FuncId := 71
@[reducible] def fn_hollowaybook_Book_Ints : FuncId := 72
@[reducible] def fn_hollowaylaw17_constant : FuncId := 73
@[reducible] def fn_hollowayref1_Two : FuncId := 74
@[reducible] def fn_hollowaybook_Book_stillTexts : FuncId := 75
@[reducible] def fn_hollowaybook_Book_stillInts : FuncId := 76
@[reducible] def fn_hollowaybook_Book_stillWords : FuncId := 77
@[reducible] def fn_hollowaybook_Book_stillSeens : FuncId := 78
@[reducible] def fn_hollowaybook_Book_stillCodes : FuncId := 79
@[reducible] def fn_hollowaybook_Book_stillExits : FuncId := 80
@[reducible] def fn_hollowaybook_Book_putExits : FuncId := 81
@[reducible] def fn_hollowaybook_Book_putTexts : FuncId := 82
@[reducible] def fn_hollowaybook_Book_putInts : FuncId := 83
@[reducible] def fn_hollowaybook_Book_putWords : FuncId := 84
@[reducible] def fn_hollowaybook_Book_putSeens : FuncId := 85
@[reducible] def fn_hollowaybook_Book_putCodes : FuncId := 86
@[reducible] def fn_hollowaybook_Book_growTexts : FuncId := 87
@[reducible] def fn_hollowaybook_Book_growInts : FuncId := 88
@[reducible] def fn_hollowaybook_Book_growWords : FuncId := 89
@[reducible] def fn_hollowaybook_Book_growSeens : FuncId := 90
@[reducible] def fn_hollowaybook_Book_growCodes : FuncId := 91
@[reducible] def fn_hollowaybook_Book_growExits : FuncId := 92
@[reducible] def fn_hollowaybook_markedTexts : FuncId := 93
@[reducible] def fn_hollowaybook_markedInts : FuncId := 94
@[reducible] def fn_hollowaybook_markedWords : FuncId := 95
@[reducible] def fn_hollowaybook_markedSeens : FuncId := 96
@[reducible] def fn_hollowaybook_markedCodes : FuncId := 97
@[reducible] def fn_hollowaybook_markedExits : FuncId := 98
@[reducible] def fn_hollowayref1_One : FuncId := 99
@[reducible] def fn_hollowayref15_leave : FuncId := 100
@[reducible] def fn_hollowayref1_Put : FuncId := 101
@[reducible] def fn_forward_nothing : FuncId := 102
@[reducible] def fn_forward_known_says : FuncId := 103
@[reducible] def fn_forward_known_learn : FuncId := 104
@[reducible] def fn_prune_Left : FuncId := 105
@[reducible] def fn_prune_begin : FuncId := 106
@[reducible] def fn_prune_pure : FuncId := 107
@[reducible] def fn_prune_need_all : FuncId := 108
@[reducible] def fn_prune_renamed : FuncId := 109
@[reducible] def fn_fold_Map_Of : FuncId := 110
@[reducible] def fn_slots_Code_Len : FuncId := 111
@[reducible] def fn_slots_own : FuncId := 112
@[reducible] def fn_slots_allot : FuncId := 113
@[reducible] def fn_slots_Code_Through : FuncId := 114
@[reducible] def fn_hollowayref15_Gives : FuncId := 115
@[reducible] def fn_inner_Copy : FuncId := 116
@[reducible] def fn_eval_engine_ins : FuncId := 117
@[reducible] def fn_eval_engine_leave : FuncId := 118
@[reducible] def fn_hollowaybook_copyCodes : FuncId := 119
@[reducible] def fn_hollowaybook_copyExits : FuncId := 120
@[reducible] def fn_hollowaybook_copyInts : FuncId := 121
@[reducible] def fn_ir_head : FuncId := 122
@[reducible] def fn_ir_cells : FuncId := 123
@[reducible] def fn_ir_named : FuncId := 124
@[reducible] def fn_ir_out : FuncId := 125
@[reducible] def fn_ir_single : FuncId := 126
@[reducible] def fn_ir_places : FuncId := 127
@[reducible] def fn_ir_Uses : FuncId := 128
@[reducible] def fn_ir_Outs : FuncId := 129
@[reducible] def fn_fold_numbers : FuncId := 130
@[reducible] def fn_cell_One : FuncId := 131
@[reducible] def fn_cell_Two : FuncId := 132
@[reducible] def fn_fold_Map_All : FuncId := 133
@[reducible] def fn_hollowayref1_Floor : FuncId := 134
@[reducible] def fn_hollowayref1_Flag : FuncId := 135
@[reducible] def fn_hollowaybook_SameTexts : FuncId := 136
@[reducible] def fn_hollowaybook_SameWords : FuncId := 137
@[reducible] def fn_hollowaybook_SameSeens : FuncId := 138
@[reducible] def fn_hollowaybook_markExits : FuncId := 139
@[reducible] def fn_hollowaybook_markTexts : FuncId := 140
@[reducible] def fn_hollowaybook_markInts : FuncId := 141
@[reducible] def fn_hollowaybook_markWords : FuncId := 142
@[reducible] def fn_hollowaybook_markSeens : FuncId := 143
@[reducible] def fn_hollowaybook_markCodes : FuncId := 144
@[reducible] def fn_forward_pair : FuncId := 145
@[reducible] def fn_prune_need_exit : FuncId := 146
@[reducible] def fn_prune_need_places : FuncId := 147
@[reducible] def fn_slices_Clone_sl_api_Ins_api_Ins : FuncId := 148
@[reducible] def fn_slices_Clone_sl_api_Out_api_Out : FuncId := 149
@[reducible] def fn_slots_lives : FuncId := 150
@[reducible] def fn_ir_Gives : FuncId := 151
@[reducible] def fn_slices_IndexFunc_sl_int_int : FuncId := 152
@[reducible] def fn_slots_allot_1 : FuncId := 153
@[reducible] def fn_eval_engine_set : FuncId := 154
@[reducible] def fn_eval_engine_calc : FuncId := 155
@[reducible] def fn_eval_engine_memory : FuncId := 156
@[reducible] def fn_eval_must : FuncId := 157
@[reducible] def fn_eval_engine_value : FuncId := 158
@[reducible] def fn_eval_engine_say : FuncId := 159
@[reducible] def fn_eval_engine_ask : FuncId := 160
@[reducible] def fn_eval_engine_values : FuncId := 161
@[reducible] def fn_ir_between : FuncId := 162
@[reducible] def fn_ir_two : FuncId := 163
@[reducible] def fn_ir_one : FuncId := 164
@[reducible] def fn_cell_Flag : FuncId := 165
@[reducible] def fn_cell_Floor : FuncId := 166
@[reducible] def fn_cell_shift : FuncId := 167
@[reducible] def fn_cell_compare : FuncId := 168
@[reducible] def fn_hollowaybook_name : FuncId := 169
@[reducible] def fn_slots_lives_1 : FuncId := 170
@[reducible] def fn_slices_Contains_sl_int_int : FuncId := 172
@[reducible] def fn_digits_Put : FuncId := 173
@[reducible] def fn_slices_Index_sl_int_int : FuncId := 174
@[reducible] def fn_digits_Right : FuncId := 175
def orc_ts : List (Nat × Ti) := [(3, ⟨.int .i64, false, [.int .i64]⟩),
  (4, ⟨.bool, false, [.bool]⟩),
  (5, ⟨.int .u8, false, [.int .u8]⟩),
  (9, ⟨.str, false, [.str]⟩),
  (22, ⟨.sl 43, false, [.sl]⟩),
  (23, ⟨.sl 39, false, [.sl]⟩),
  (24, ⟨.sl 3, false, [.sl]⟩),
  (26, ⟨.st [(0, 3), (1, 3), (2, 3), (3, 3), (4, 3), (5, 22), (6, 23), (7, 3), (8, 24)], true, [.int .i64, .int .i64, .int .i64, .int .i64, .int .i64, .sl, .sl, .int .i64, .sl]⟩),
  (28, ⟨.st [(0, 3), (1, 3), (2, 24), (3, 24), (4, 24), (5, 9), (6, 9), (7, 3), (8, 3), (9, 3)], true, [.int .i64, .int .i64, .sl, .sl, .sl, .str, .str, .int .i64, .int .i64, .int .i64]⟩),
  (34, ⟨.st [(0, 3), (1, 3), (2, 4)], true, [.int .i64, .int .i64, .bool]⟩),
  (39, ⟨.st [(0, 3), (1, 3), (2, 24), (3, 24)], true, [.int .i64, .int .i64, .sl, .sl]⟩),
  (43, ⟨.st [(0, 3), (1, 3), (2, 3), (3, 3), (4, 3)], true, [.int .i64, .int .i64, .int .i64, .int .i64, .int .i64]⟩),
  (44, ⟨.sl 4, false, [.sl]⟩),
  (45, ⟨.sl 5, false, [.sl]⟩),
  (50, ⟨.sl 144, false, [.sl]⟩),
  (51, ⟨.sl 24, false, [.sl]⟩),
  (52, ⟨.sl 146, false, [.sl]⟩),
  (53, ⟨.sl 148, false, [.sl]⟩),
  (54, ⟨.sl 22, false, [.sl]⟩),
  (55, ⟨.sl 23, false, [.sl]⟩),
  (57, ⟨.st [(0, 50), (1, 50), (2, 51), (3, 51), (4, 52), (5, 52), (6, 53), (7, 53), (8, 54), (9, 54), (10, 55), (11, 55)], true, [.sl, .sl, .sl, .sl, .sl, .sl, .sl, .sl, .sl, .sl, .sl, .sl]⟩),
  (63, ⟨.int .u64, false, [.int .u64]⟩),
  (65, ⟨.ptr, false, [.ptr]⟩),
  (82, ⟨.sl 3, false, [.sl]⟩),
  (109, ⟨.other, false, [.mp]⟩),
  (110, ⟨.other, false, [.mp]⟩),
  (112, ⟨.st [(0, 109), (1, 110), (2, 110)], true, [.mp, .mp, .mp]⟩),
  (119, ⟨.st [(0, 26), (9, 44), (10, 44)], true, [.int .i64, .int .i64, .int .i64, .int .i64, .int .i64, .sl, .sl, .int .i64, .sl, .sl, .sl]⟩),
  (127, ⟨.st [(0, 26), (9, 24), (10, 3)], true, [.int .i64, .int .i64, .int .i64, .int .i64, .int .i64, .sl, .sl, .int .i64, .sl, .sl, .int .i64]⟩),
  (132, ⟨.st [(0, 26), (9, 28), (19, 24), (20, 24), (21, 24), (22, 3)], true, [.int .i64, .int .i64, .int .i64, .int .i64, .int .i64, .sl, .sl, .int .i64, .sl, .int .i64, .int .i64, .sl, .sl, .sl, .str, .str, .int .i64, .int .i64, .int .i64, .sl, .sl, .sl, .int .i64]⟩),
  (141, ⟨.int .u64, false, [.int .u64]⟩),
  (144, ⟨.sl 9, false, [.sl]⟩),
  (146, ⟨.sl 154, false, [.sl]⟩),
  (148, ⟨.sl 157, false, [.sl]⟩),
  (154, ⟨.st [(0, 9), (1, 3), (2, 3), (3, 4)], true, [.str, .int .i64, .int .i64, .bool]⟩),
  (157, ⟨.st [(0, 3), (1, 3), (2, 3), (3, 3)], true, [.int .i64, .int .i64, .int .i64, .int .i64]⟩),
  (159, ⟨.arr 2 3, true, [.int .i64, .int .i64]⟩),
  (170, ⟨.other, false, [.val]⟩)]
theorem orc_tok : AllTi Try.prog orc_ts := ⟨⟨⟨_, Try.runUnderlying3, rfl⟩, Try.isAgg3, Try.sizeOf3⟩,
  ⟨⟨_, Try.runUnderlying4, rfl⟩, Try.isAgg4, Try.sizeOf4⟩,
  ⟨⟨_, Try.runUnderlying5, rfl⟩, Try.isAgg5, Try.sizeOf5⟩,
  ⟨⟨_, Try.runUnderlying9, rfl⟩, Try.isAgg9, Try.sizeOf9⟩,
  ⟨⟨_, Try.runUnderlying22, rfl⟩, Try.isAgg22, Try.sizeOf22⟩,
  ⟨⟨_, Try.runUnderlying23, rfl⟩, Try.isAgg23, Try.sizeOf23⟩,
  ⟨⟨_, Try.runUnderlying24, rfl⟩, Try.isAgg24, Try.sizeOf24⟩,
  ⟨⟨_, Try.runUnderlying26, ⟨_, rfl, rfl⟩⟩, Try.isAgg26, Try.sizeOf26⟩,
  ⟨⟨_, Try.runUnderlying28, ⟨_, rfl, rfl⟩⟩, Try.isAgg28, Try.sizeOf28⟩,
  ⟨⟨_, Try.runUnderlying34, ⟨_, rfl, rfl⟩⟩, Try.isAgg34, Try.sizeOf34⟩,
  ⟨⟨_, Try.runUnderlying39, ⟨_, rfl, rfl⟩⟩, Try.isAgg39, Try.sizeOf39⟩,
  ⟨⟨_, Try.runUnderlying43, ⟨_, rfl, rfl⟩⟩, Try.isAgg43, Try.sizeOf43⟩,
  ⟨⟨_, Try.runUnderlying44, rfl⟩, Try.isAgg44, Try.sizeOf44⟩,
  ⟨⟨_, Try.runUnderlying45, rfl⟩, Try.isAgg45, Try.sizeOf45⟩,
  ⟨⟨_, Try.runUnderlying50, rfl⟩, Try.isAgg50, Try.sizeOf50⟩,
  ⟨⟨_, Try.runUnderlying51, rfl⟩, Try.isAgg51, Try.sizeOf51⟩,
  ⟨⟨_, Try.runUnderlying52, rfl⟩, Try.isAgg52, Try.sizeOf52⟩,
  ⟨⟨_, Try.runUnderlying53, rfl⟩, Try.isAgg53, Try.sizeOf53⟩,
  ⟨⟨_, Try.runUnderlying54, rfl⟩, Try.isAgg54, Try.sizeOf54⟩,
  ⟨⟨_, Try.runUnderlying55, rfl⟩, Try.isAgg55, Try.sizeOf55⟩,
  ⟨⟨_, Try.runUnderlying57, ⟨_, rfl, rfl⟩⟩, Try.isAgg57, Try.sizeOf57⟩,
  ⟨⟨_, Try.runUnderlying63, rfl⟩, Try.isAgg63, Try.sizeOf63⟩,
  ⟨⟨_, Try.runUnderlying65, ⟨_, rfl⟩⟩, Try.isAgg65, Try.sizeOf65⟩,
  ⟨⟨_, Try.runUnderlying82, rfl⟩, Try.isAgg82, Try.sizeOf82⟩,
  ⟨⟨_, Try.runUnderlying109, trivial⟩, Try.isAgg109, Try.sizeOf109⟩,
  ⟨⟨_, Try.runUnderlying110, trivial⟩, Try.isAgg110, Try.sizeOf110⟩,
  ⟨⟨_, Try.runUnderlying112, ⟨_, rfl, rfl⟩⟩, Try.isAgg112, Try.sizeOf112⟩,
  ⟨⟨_, Try.runUnderlying119, ⟨_, rfl, rfl⟩⟩, Try.isAgg119, Try.sizeOf119⟩,
  ⟨⟨_, Try.runUnderlying127, ⟨_, rfl, rfl⟩⟩, Try.isAgg127, Try.sizeOf127⟩,
  ⟨⟨_, Try.runUnderlying132, ⟨_, rfl, rfl⟩⟩, Try.isAgg132, Try.sizeOf132⟩,
  ⟨⟨_, Try.runUnderlying141, rfl⟩, Try.isAgg141, Try.sizeOf141⟩,
  ⟨⟨_, Try.runUnderlying144, rfl⟩, Try.isAgg144, Try.sizeOf144⟩,
  ⟨⟨_, Try.runUnderlying146, rfl⟩, Try.isAgg146, Try.sizeOf146⟩,
  ⟨⟨_, Try.runUnderlying148, rfl⟩, Try.isAgg148, Try.sizeOf148⟩,
  ⟨⟨_, Try.runUnderlying154, ⟨_, rfl, rfl⟩⟩, Try.isAgg154, Try.sizeOf154⟩,
  ⟨⟨_, Try.runUnderlying157, ⟨_, rfl, rfl⟩⟩, Try.isAgg157, Try.sizeOf157⟩,
  ⟨⟨_, Try.runUnderlying159, rfl⟩, Try.isAgg159, Try.sizeOf159⟩,
  ⟨⟨_, Try.runUnderlying170, trivial⟩, Try.isAgg170, Try.sizeOf170⟩, trivial⟩
def orc_sg : List (Nat × List (Bool × List Kd)) := [(3, [(false, [.bool])]),
  (4, [(false, [.bool])]),
  (5, [(false, [.bool])]),
  (7, [(false, [.bool])]),
  (8, [(false, [.bool])]),
  (10, [(false, [.bool])]),
  (11, [(false, [.bool])]),
  (12, [(false, [.bool])]),
  (14, [(false, [.bool])]),
  (15, [(false, [.bool])]),
  (16, [(false, [.bool])]),
  (17, [(false, [.bool])]),
  (18, [(false, [.bool])]),
  (19, [(false, [.bool])]),
  (20, [(false, [.bool])]),
  (21, [(true, [.int .i64, .int .i64, .sl, .sl, .sl, .str, .str, .int .i64, .int .i64, .int .i64]), (true, [.int .i64, .int .i64, .bool])]),
  (22, [(false, [.bool])]),
  (23, [(false, [.bool])]),
  (24, [(false, [.bool])]),
  (25, [(false, [.bool])]),
  (26, [(true, [.int .i64, .int .i64, .int .i64, .int .i64, .int .i64, .sl, .sl, .int .i64, .sl])]),
  (27, [(true, [.int .i64, .int .i64, .int .i64, .int .i64, .int .i64, .sl, .sl, .int .i64, .sl])]),
  (28, [(false, [.bool])]),
  (29, [(false, [.bool])]),
  (30, []),
  (31, [(false, [.int .i64])]),
  (32, [(false, [.int .i64])]),
  (33, [(false, [.bool])]),
  (34, [(true, [.int .i64, .int .i64, .sl, .sl, .sl, .str, .str, .int .i64, .int .i64, .int .i64]), (false, [.int .i64]), (false, [.bool])]),
  (35, [(false, [.bool])]),
  (36, [(true, [.int .i64, .int .i64, .int .i64, .int .i64, .int .i64, .sl, .sl, .int .i64, .sl])]),
  (37, [(false, [.int .i64])]),
  (38, [(false, [.int .i64])]),
  (39, [(false, [.bool])]),
  (40, [(true, [.int .i64, .int .i64, .int .i64, .int .i64, .int .i64, .sl, .sl, .int .i64, .sl])]),
  (41, [(false, [.bool])]),
  (42, [(false, [.ptr]), (false, [.bool])]),
  (43, [(true, [.int .i64, .int .i64, .sl, .sl, .sl, .str, .str, .int .i64, .int .i64, .int .i64]), (true, [.int .i64, .int .i64, .bool])]),
  (44, [(false, [.int .i64])]),
  (45, [(false, [.int .i64])]),
  (46, [(false, [.bool])]),
  (47, [(false, [.bool])]),
  (48, [(false, [.bool])]),
  (49, [(false, [.bool])]),
  (50, [(false, [.bool])]),
  (51, [(false, [.sl])]),
  (52, [(false, [.sl])]),
  (53, [(false, [.bool])]),
  (54, [(true, [.int .i64, .int .i64, .sl, .sl, .sl, .str, .str, .int .i64, .int .i64, .int .i64])]),
  (55, [(true, [.int .i64, .int .i64, .sl, .sl, .sl, .str, .str, .int .i64, .int .i64, .int .i64]), (true, [.int .i64, .int .i64, .bool]), (false, [.int .i64])]),
  (56, [(false, [.sl])]),
  (57, [(false, [.sl])]),
  (58, [(false, [.sl])]),
  (59, [(false, [.bool])]),
  (60, [(true, [.int .i64, .int .i64, .int .i64, .int .i64, .int .i64])]),
  (61, [(false, [.bool])]),
  (62, [(false, [.int .i64]), (false, [.bool])]),
  (63, [(false, [.sl])]),
  (64, [(false, [.sl])]),
  (65, [(false, [.bool])]),
  (66, [(false, [.bool])]),
  (67, [(false, [.bool])]),
  (68, [(false, [.bool])]),
  (69, [(false, [.bool])]),
  (70, []),
  (71, []),
  (72, []),
  (73, [(false, [.bool])]),
  (74, [(false, [.int .i64]), (false, [.bool])]),
  (75, [(false, [.bool])]),
  (76, [(false, [.bool])]),
  (77, [(false, [.bool])]),
  (78, [(false, [.bool])]),
  (79, [(false, [.bool])]),
  (80, [(false, [.bool])]),
  (81, []),
  (82, []),
  (83, []),
  (84, []),
  (85, []),
  (86, []),
  (87, [(false, [.sl])]),
  (88, [(false, [.sl])]),
  (89, [(false, [.sl])]),
  (90, [(false, [.sl])]),
  (91, [(false, [.sl])]),
  (92, [(false, [.sl])]),
  (93, [(false, [.bool])]),
  (94, [(false, [.bool])]),
  (95, [(false, [.bool])]),
  (96, [(false, [.bool])]),
  (97, [(false, [.bool])]),
  (98, [(false, [.bool])]),
  (99, [(false, [.int .i64]), (false, [.bool])]),
  (100, [(true, [.int .i64, .int .i64, .sl, .sl, .sl, .str, .str, .int .i64, .int .i64, .int .i64])]),
  (101, [(false, [.str])]),
  (102, [(true, [.mp, .mp, .mp])]),
  (103, [(false, [.int .i64]), (false, [.bool])]),
  (104, []),
  (105, [(false, [.int .i64])]),
  (106, [(false, [.ptr])]),
  (107, [(false, [.bool])]),
  (108, []),
  (109, [(true, [.int .i64, .int .i64, .int .i64, .int .i64, .int .i64])]),
  (110, [(false, [.int .i64])]),
  (111, [(false, [.int .i64])]),
  (112, [(true, [.int .i64, .int .i64, .int .i64, .int .i64, .int .i64, .sl, .sl, .int .i64, .sl])]),
  (113, [(false, [.sl]), (false, [.int .i64])]),
  (114, [(true, [.int .i64, .int .i64, .sl, .sl, .sl, .str, .str, .int .i64, .int .i64, .int .i64]), (true, [.int .i64, .int .i64, .bool]), (false, [.int .i64])]),
  (115, [(false, [.bool])]),
  (116, [(true, [.int .i64, .int .i64, .sl, .sl, .sl, .str, .str, .int .i64, .int .i64, .int .i64])]),
  (117, [(false, [.int .i64])]),
  (118, [(true, [.int .i64, .int .i64, .sl, .sl, .sl, .str, .str, .int .i64, .int .i64, .int .i64]), (true, [.int .i64, .int .i64, .bool]), (false, [.int .i64])]),
  (119, [(false, [.sl])]),
  (120, [(false, [.sl])]),
  (121, [(false, [.sl])]),
  (122, [(false, [.bool])]),
  (123, [(false, [.bool])]),
  (124, [(false, [.bool])]),
  (125, [(false, [.bool])]),
  (126, [(false, [.bool])]),
  (127, [(false, [.bool])]),
  (128, [(false, [.sl])]),
  (129, [(false, [.sl])]),
  (130, [(false, [.sl]), (false, [.bool])]),
  (131, [(false, [.int .i64]), (false, [.bool])]),
  (132, [(false, [.int .i64]), (false, [.bool])]),
  (133, [(false, [.sl])]),
  (134, [(false, [.int .i64]), (false, [.int .i64])]),
  (135, [(false, [.int .i64])]),
  (136, [(false, [.bool])]),
  (137, [(false, [.bool])]),
  (138, [(false, [.bool])]),
  (139, [(false, [.sl])]),
  (140, [(false, [.sl])]),
  (141, [(false, [.sl])]),
  (142, [(false, [.sl])]),
  (143, [(false, [.sl])]),
  (144, [(false, [.sl])]),
  (145, [(true, [.int .i64, .int .i64])]),
  (146, []),
  (147, []),
  (148, [(false, [.sl])]),
  (149, [(false, [.sl])]),
  (150, [(false, [.sl])]),
  (151, [(false, [.bool])]),
  (152, [(false, [.int .i64])]),
  (153, [(false, [.bool])]),
  (154, [(false, [.int .i64])]),
  (155, [(false, [.int .i64])]),
  (156, [(false, [.int .i64])]),
  (157, [(false, [.int .i64])]),
  (158, [(false, [.int .i64])]),
  (159, [(false, [.int .i64])]),
  (160, [(false, [.int .i64])]),
  (161, [(false, [.sl])]),
  (162, [(false, [.bool])]),
  (163, [(false, [.bool])]),
  (164, [(false, [.bool])]),
  (165, [(false, [.int .i64])]),
  (166, [(false, [.int .i64]), (false, [.int .i64]), (false, [.bool])]),
  (167, [(false, [.int .i64])]),
  (168, [(false, [.int .i64])]),
  (169, [(false, [.str])]),
  (170, []),
  (172, [(false, [.bool])]),
  (173, [(false, [.str])]),
  (174, [(false, [.int .i64])]),
  (175, [(false, [.bool])])]
theorem orc_sok : AllSg Try.prog orc_sg := ⟨Try.call3,
  Try.call4,
  Try.call5,
  Try.call7,
  Try.call8,
  Try.call10,
  Try.call11,
  Try.call12,
  Try.call14,
  Try.call15,
  Try.call16,
  Try.call17,
  Try.call18,
  Try.call19,
  Try.call20,
  Try.call21,
  Try.call22,
  Try.call23,
  Try.call24,
  Try.call25,
  Try.call26,
  Try.call27,
  Try.call28,
  Try.call29,
  Try.call30,
  Try.call31,
  Try.call32,
  Try.call33,
  Try.call34,
  Try.call35,
  Try.call36,
  Try.call37,
  Try.call38,
  Try.call39,
  Try.call40,
  Try.call41,
  Try.call42,
  Try.call43,
  Try.call44,
  Try.call45,
  Try.call46,
  Try.call47,
  Try.call48,
  Try.call49,
  Try.call50,
  Try.call51,
  Try.call52,
  Try.call53,
  Try.call54,
  Try.call55,
  Try.call56,
  Try.call57,
  Try.call58,
  Try.call59,
  Try.call60,
  Try.call61,
  Try.call62,
  Try.call63,
  Try.call64,
  Try.call65,
  Try.call66,
  Try.call67,
  Try.call68,
  Try.call69,
  Try.call70,
  Try.call71,
  Try.call72,
  Try.call73,
  Try.call74,
  Try.call75,
  Try.call76,
  Try.call77,
  Try.call78,
  Try.call79,
  Try.call80,
  Try.call81,
  Try.call82,
  Try.call83,
  Try.call84,
  Try.call85,
  Try.call86,
  Try.call87,
  Try.call88,
  Try.call89,
  Try.call90,
  Try.call91,
  Try.call92,
  Try.call93,
  Try.call94,
  Try.call95,
  Try.call96,
  Try.call97,
  Try.call98,
  Try.call99,
  Try.call100,
  Try.call101,
  Try.call102,
  Try.call103,
  Try.call104,
  Try.call105,
  Try.call106,
  Try.call107,
  Try.call108,
  Try.call109,
  Try.call110,
  Try.call111,
  Try.call112,
  Try.call113,
  Try.call114,
  Try.call115,
  Try.call116,
  Try.call117,
  Try.call118,
  Try.call119,
  Try.call120,
  Try.call121,
  Try.call122,
  Try.call123,
  Try.call124,
  Try.call125,
  Try.call126,
  Try.call127,
  Try.call128,
  Try.call129,
  Try.call130,
  Try.call131,
  Try.call132,
  Try.call133,
  Try.call134,
  Try.call135,
  Try.call136,
  Try.call137,
  Try.call138,
  Try.call139,
  Try.call140,
  Try.call141,
  Try.call142,
  Try.call143,
  Try.call144,
  Try.call145,
  Try.call146,
  Try.call147,
  Try.call148,
  Try.call149,
  Try.call150,
  Try.call151,
  Try.call152,
  Try.call153,
  Try.call154,
  Try.call155,
  Try.call156,
  Try.call157,
  Try.call158,
  Try.call159,
  Try.call160,
  Try.call161,
  Try.call162,
  Try.call163,
  Try.call164,
  Try.call165,
  Try.call166,
  Try.call167,
  Try.call168,
  Try.call169,
  Try.call170,
  Try.call172,
  Try.call173,
  Try.call174,
  Try.call175, trivial⟩
def orc : Orc Try.prog := ⟨orc_ts, allTi_of orc_tok, orc_sg, allSg_of orc_sok⟩
theorem orc_wide : Try.prog.follows .mixedOrders = true := by kernel_rfl
end Go.Proofs.Ytblmoilneiffgaa
