/- The lifted texts of small packages. -/
import Derived.Test.YtblmoilneiffgaaGreatProg
import Derived.Test.YtblmoilneiffgaaGreatJ1
import Derived.Test.YtblmoilneiffgaaGreatJ2

/- What the lift is told of the program: types and functions, each fact proved. Printed by a program of mine (wip/lift/gen.py). -/
set_option maxRecDepth 100000
namespace Go.Proofs.YtblmoilneiffgaaGreat
open Go.RowKit

@[reducible] def T_int : TypeId := 3
@[reducible] def T_uint8 : TypeId := 5
@[reducible] def T_string : TypeId := 9
@[reducible] def T_sl_api_Ins : TypeId := 22
@[reducible] def T_sl_api_Out : TypeId := 23
@[reducible] def T_sl_int : TypeId := 24
@[reducible] def T_api_Trace : TypeId := 26
@[reducible] def T_api_State : TypeId := 28
@[reducible] def T_api_Out : TypeId := 39
@[reducible] def T_sl_sl_string : TypeId := 41
@[reducible] def T_sl_sl_int : TypeId := 42
@[reducible] def T_sl_sl_api_Word : TypeId := 43
@[reducible] def T_sl_sl_api_Seen : TypeId := 44
@[reducible] def T_sl_sl_api_Ins : TypeId := 45
@[reducible] def T_sl_sl_api_Out : TypeId := 46
@[reducible] def T_hollowaybook_Book : TypeId := 48
@[reducible] def T_eval_Done : TypeId := 50
@[reducible] def T_api_Ins : TypeId := 68
@[reducible] def T_sl_uint8 : TypeId := 80
@[reducible] def T_slots_Code : TypeId := 115
@[reducible] def T_eval_engine : TypeId := 123
@[reducible] def T_sl_string : TypeId := 127
@[reducible] def T_sl_api_Word : TypeId := 129
@[reducible] def T_sl_api_Seen : TypeId := 131
@[reducible] def T_func_int_sl_int : TypeId := 152
@[reducible] def fn_hollowaylaw20_SlotsRun : FuncId := 5
@[reducible] def fn_hollowaylaw14_Light : FuncId := 6
@[reducible] def fn_hollowaylaw9_Light : FuncId := 7
@[reducible] def fn_hollowayref15_Right : FuncId := 8
@[reducible] def fn_hollowaybook_LentTrace : FuncId := 10
@[reducible] def fn_hollowaybook_LentState : FuncId := 11
@[reducible] def fn_hollowaybook_LentInts : FuncId := 12
@[reducible] def fn_hollowayref15_May : FuncId := 13
@[reducible] def fn_hollowayref15_Run : FuncId := 14
@[reducible] def fn_hollowaybook_Book_State : FuncId := 16
@[reducible] def fn_hollowaybook_SameState : FuncId := 17
@[reducible] def fn_eval_May : FuncId := 18
@[reducible] def fn_hollowaybook_StaysTrace : FuncId := 19
@[reducible] def fn_hollowaybook_StaysState : FuncId := 20
@[reducible] def fn_hollowaybook_StaysInts : FuncId := 21
@[reducible] def fn_hollowaybook_Book_Apart : FuncId := 22
@[reducible] def fn_hollowaybook_Book_Trace : FuncId := 26
@[reducible] def fn_hollowaybook_SameInts : FuncId := 27
@[reducible] def fn_hollowaylaw20_alive : FuncId := 30
@[reducible] def fn_slots_Make : FuncId := 31
@[reducible] def fn_slots_Least : FuncId := 32
@[reducible] def fn_hollowayref15_Least : FuncId := 33
@[reducible] def fn_slots_Code_Len : FuncId := 34
@[reducible] def fn_slots_Code_Registers : FuncId := 35
@[reducible] def fn_slots_Code_Run : FuncId := 36
@[reducible] def fn_hollowayref9_Right : FuncId := 37
@[reducible] def fn_hollowayref15_within : FuncId := 38
@[reducible] def fn_hollowayref1_IsTwo : FuncId := 39
@[reducible] def fn_hollowayref1_IsOne : FuncId := 40
@[reducible] def fn_hollowayref15_named : FuncId := 41
@[reducible] def fn_hollowayref15_Uses : FuncId := 42
@[reducible] def fn_hollowayref15_Outs : FuncId := 43
@[reducible] def fn_hollowayref15_out : FuncId := 44
@[reducible] def fn_hollowaybook_LentCodes : FuncId := 46
@[reducible] def fn_hollowaybook_LentExits : FuncId := 47
@[reducible] def fn_hollowaybook_copyInts : FuncId := 48
@[reducible] def fn_hollowayref1_Two : FuncId := 49
@[reducible] def fn_hollowayref1_One : FuncId := 50
@[reducible] def fn_hollowayref15_leave : FuncId := 51
@[reducible] def fn_hollowayref1_Put : FuncId := 52
@[reducible] def fn_eval_Through : FuncId := 53
@[reducible] def fn_hollowaybook_Book_Ints : FuncId := 54
@[reducible] def fn_hollowaybook_StaysCodes : FuncId := 55
@[reducible] def fn_hollowaybook_StaysExits : FuncId := 56
@[reducible] def fn_hollowaybook_Book_stillTexts : FuncId := 57
@[reducible] def fn_hollowaybook_Book_stillInts : FuncId := 58
@[reducible] def fn_hollowaybook_Book_stillWords : FuncId := 59
@[reducible] def fn_hollowaybook_Book_stillSeens : FuncId := 60
@[reducible] def fn_hollowaybook_Book_stillCodes : FuncId := 61
@[reducible] def fn_hollowaybook_Book_stillExits : FuncId := 62
@[reducible] def fn_hollowaybook_Book_putExits : FuncId := 63
@[reducible] def fn_hollowaybook_Book_putTexts : FuncId := 64
@[reducible] def fn_hollowaybook_Book_putInts : FuncId := 65
@[reducible] def fn_hollowaybook_Book_putWords : FuncId := 66
@[reducible] def fn_hollowaybook_Book_putSeens : FuncId := 67
@[reducible] def fn_hollowaybook_Book_putCodes : FuncId := 68
@[reducible] def fn_hollowaybook_Book_growTexts : FuncId := 69
@[reducible] def fn_hollowaybook_Book_growInts : FuncId := 70
@[reducible] def fn_hollowaybook_Book_growWords : FuncId := 71
@[reducible] def fn_hollowaybook_Book_growSeens : FuncId := 72
@[reducible] def fn_hollowaybook_Book_growCodes : FuncId := 73
@[reducible] def fn_hollowaybook_Book_growExits : FuncId := 74
@[reducible] def fn_hollowaybook_markedTexts : FuncId := 75
@[reducible] def fn_hollowaybook_markedInts : FuncId := 76
@[reducible] def fn_hollowaybook_markedWords : FuncId := 77
@[reducible] def fn_hollowaybook_markedSeens : FuncId := 78
@[reducible] def fn_hollowaybook_markedCodes : FuncId := 79
@[reducible] def fn_hollowaybook_markedExits : FuncId := 80
@[reducible] def fn_ir_Right : FuncId := 81
@[reducible] def fn_slices_Clone_sl_int_int : FuncId := 89
@[reducible] def fn_hollowaybook_SameCodes : FuncId := 90
@[reducible] def fn_hollowaybook_SameExits : FuncId := 91
@[reducible] def fn_hollowaybook_Book_Codes : FuncId := 92
@[reducible] def fn_hollowaybook_Book_Exits : FuncId := 93
@[reducible] def fn_slots_own : FuncId := 94
@[reducible] def fn_slots_allot : FuncId := 95
@[reducible] def fn_hollowayref15_Gives : FuncId := 96
@[reducible] def fn_slots_Code_Through : FuncId := 97
@[reducible] def fn_hollowaybook_copyCodes : FuncId := 98
@[reducible] def fn_hollowaybook_copyExits : FuncId := 99
@[reducible] def fn_hollowayref1_Floor : FuncId := 100
@[reducible] def fn_hollowayref1_Flag : FuncId := 101
@[reducible] def fn_inner_Copy : FuncId := 102
@[reducible] def fn_eval_engine_ins : FuncId := 103
@[reducible] def fn_eval_engine_leave : FuncId := 104
@[reducible] def fn_hollowaybook_SameTexts : FuncId := 105
@[reducible] def fn_hollowaybook_SameWords : FuncId := 106
@[reducible] def fn_hollowaybook_SameSeens : FuncId := 107
@[reducible] def fn_hollowaybook_markExits : FuncId := 108
@[reducible] def fn_hollowaybook_markTexts : FuncId := 109
@[reducible] def fn_hollowaybook_markInts : FuncId := 110
@[reducible] def fn_hollowaybook_markWords : FuncId := 111
@[reducible] def fn_hollowaybook_markSeens : FuncId := 112
@[reducible] def fn_hollowaybook_markCodes : FuncId := 113
@[reducible] def fn_ir_head : FuncId := 114
@[reducible] def fn_ir_cells : FuncId := 115
@[reducible] def fn_ir_named : FuncId := 116
@[reducible] def fn_ir_out : FuncId := 117
@[reducible] def fn_ir_single : FuncId := 118
@[reducible] def fn_ir_places : FuncId := 119
@[reducible] def fn_ir_Uses : FuncId := 120
@[reducible] def fn_ir_Outs : FuncId := 121
@[reducible] def fn_slices_Clone_sl_api_Ins_api_Ins : FuncId := 125
@[reducible] def fn_slices_Clone_sl_api_Out_api_Out : FuncId := 126
@[reducible] def fn_slots_lives : FuncId := 127
@[reducible] def fn_ir_Gives : FuncId := 128
@[reducible] def fn_slices_IndexFunc_sl_int_int : FuncId := 129
@[reducible] def fn_slots_allot_1 : FuncId := 130
@[reducible] def fn_eval_engine_set : FuncId := 131
@[reducible] def fn_eval_engine_calc : FuncId := 132
@[reducible] def fn_eval_engine_memory : FuncId := 133
@[reducible] def fn_eval_must : FuncId := 134
@[reducible] def fn_eval_engine_value : FuncId := 135
@[reducible] def fn_eval_engine_say : FuncId := 136
@[reducible] def fn_eval_engine_ask : FuncId := 137
@[reducible] def fn_eval_engine_values : FuncId := 138
@[reducible] def fn_ir_between : FuncId := 140
@[reducible] def fn_ir_two : FuncId := 141
@[reducible] def fn_ir_one : FuncId := 142
@[reducible] def fn_slots_lives_1 : FuncId := 143
@[reducible] def fn_slots_lives_2 : FuncId := 144
@[reducible] def fn_cell_One : FuncId := 145
@[reducible] def fn_cell_Two : FuncId := 146
@[reducible] def fn_slices_Contains_sl_int_int : FuncId := 147
@[reducible] def fn_digits_Put : FuncId := 148
@[reducible] def fn_slices_Index_sl_int_int : FuncId := 153
@[reducible] def fn_digits_Right : FuncId := 154
def orc_ts : List (Nat × Ti) := [(3, ⟨.int .i64, false, [.int .i64]⟩),
  (4, ⟨.bool, false, [.bool]⟩),
  (5, ⟨.int .u8, false, [.int .u8]⟩),
  (9, ⟨.str, false, [.str]⟩),
  (22, ⟨.sl 68, false, [.sl]⟩),
  (23, ⟨.sl 39, false, [.sl]⟩),
  (24, ⟨.sl 3, false, [.sl]⟩),
  (26, ⟨.st [(0, 3), (1, 3), (2, 3), (3, 3), (4, 3), (5, 22), (6, 23), (7, 3), (8, 24)], true, [.int .i64, .int .i64, .int .i64, .int .i64, .int .i64, .sl, .sl, .int .i64, .sl]⟩),
  (28, ⟨.st [(0, 3), (1, 3), (2, 24), (3, 24), (4, 24), (5, 9), (6, 9), (7, 3), (8, 3), (9, 3)], true, [.int .i64, .int .i64, .sl, .sl, .sl, .str, .str, .int .i64, .int .i64, .int .i64]⟩),
  (39, ⟨.st [(0, 3), (1, 3), (2, 24), (3, 24)], true, [.int .i64, .int .i64, .sl, .sl]⟩),
  (41, ⟨.sl 127, false, [.sl]⟩),
  (42, ⟨.sl 24, false, [.sl]⟩),
  (43, ⟨.sl 129, false, [.sl]⟩),
  (44, ⟨.sl 131, false, [.sl]⟩),
  (45, ⟨.sl 22, false, [.sl]⟩),
  (46, ⟨.sl 23, false, [.sl]⟩),
  (48, ⟨.st [(0, 41), (1, 41), (2, 42), (3, 42), (4, 43), (5, 43), (6, 44), (7, 44), (8, 45), (9, 45), (10, 46), (11, 46)], true, [.sl, .sl, .sl, .sl, .sl, .sl, .sl, .sl, .sl, .sl, .sl, .sl]⟩),
  (50, ⟨.st [(0, 3), (1, 3), (2, 4)], true, [.int .i64, .int .i64, .bool]⟩),
  (60, ⟨.ptr, false, [.ptr]⟩),
  (68, ⟨.st [(0, 3), (1, 3), (2, 3), (3, 3), (4, 3)], true, [.int .i64, .int .i64, .int .i64, .int .i64, .int .i64]⟩),
  (80, ⟨.sl 5, false, [.sl]⟩),
  (101, ⟨.sl 4, false, [.sl]⟩),
  (103, ⟨.st [(0, 26), (9, 101), (10, 101)], true, [.int .i64, .int .i64, .int .i64, .int .i64, .int .i64, .sl, .sl, .int .i64, .sl, .sl, .sl]⟩),
  (106, ⟨.sl 3, false, [.sl]⟩),
  (115, ⟨.st [(0, 26), (9, 24), (10, 3)], true, [.int .i64, .int .i64, .int .i64, .int .i64, .int .i64, .sl, .sl, .int .i64, .sl, .sl, .int .i64]⟩),
  (119, ⟨.int .u64, false, [.int .u64]⟩),
  (123, ⟨.st [(0, 26), (9, 28), (19, 24), (20, 24), (21, 24), (22, 3)], true, [.int .i64, .int .i64, .int .i64, .int .i64, .int .i64, .sl, .sl, .int .i64, .sl, .int .i64, .int .i64, .sl, .sl, .sl, .str, .str, .int .i64, .int .i64, .int .i64, .sl, .sl, .sl, .int .i64]⟩),
  (127, ⟨.sl 9, false, [.sl]⟩),
  (129, ⟨.sl 137, false, [.sl]⟩),
  (131, ⟨.sl 140, false, [.sl]⟩),
  (137, ⟨.st [(0, 9), (1, 3), (2, 3), (3, 4)], true, [.str, .int .i64, .int .i64, .bool]⟩),
  (140, ⟨.st [(0, 3), (1, 3), (2, 3), (3, 3)], true, [.int .i64, .int .i64, .int .i64, .int .i64]⟩),
  (152, ⟨.other, false, [.val]⟩),
  (159, ⟨.int .u64, false, [.int .u64]⟩)]
theorem orc_tok : AllTi Tryz.prog orc_ts := ⟨⟨⟨_, Tryz.runUnderlying3, rfl⟩, Tryz.isAgg3, Tryz.sizeOf3⟩,
  ⟨⟨_, Tryz.runUnderlying4, rfl⟩, Tryz.isAgg4, Tryz.sizeOf4⟩,
  ⟨⟨_, Tryz.runUnderlying5, rfl⟩, Tryz.isAgg5, Tryz.sizeOf5⟩,
  ⟨⟨_, Tryz.runUnderlying9, rfl⟩, Tryz.isAgg9, Tryz.sizeOf9⟩,
  ⟨⟨_, Tryz.runUnderlying22, rfl⟩, Tryz.isAgg22, Tryz.sizeOf22⟩,
  ⟨⟨_, Tryz.runUnderlying23, rfl⟩, Tryz.isAgg23, Tryz.sizeOf23⟩,
  ⟨⟨_, Tryz.runUnderlying24, rfl⟩, Tryz.isAgg24, Tryz.sizeOf24⟩,
  ⟨⟨_, Tryz.runUnderlying26, ⟨_, rfl, rfl⟩⟩, Tryz.isAgg26, Tryz.sizeOf26⟩,
  ⟨⟨_, Tryz.runUnderlying28, ⟨_, rfl, rfl⟩⟩, Tryz.isAgg28, Tryz.sizeOf28⟩,
  ⟨⟨_, Tryz.runUnderlying39, ⟨_, rfl, rfl⟩⟩, Tryz.isAgg39, Tryz.sizeOf39⟩,
  ⟨⟨_, Tryz.runUnderlying41, rfl⟩, Tryz.isAgg41, Tryz.sizeOf41⟩,
  ⟨⟨_, Tryz.runUnderlying42, rfl⟩, Tryz.isAgg42, Tryz.sizeOf42⟩,
  ⟨⟨_, Tryz.runUnderlying43, rfl⟩, Tryz.isAgg43, Tryz.sizeOf43⟩,
  ⟨⟨_, Tryz.runUnderlying44, rfl⟩, Tryz.isAgg44, Tryz.sizeOf44⟩,
  ⟨⟨_, Tryz.runUnderlying45, rfl⟩, Tryz.isAgg45, Tryz.sizeOf45⟩,
  ⟨⟨_, Tryz.runUnderlying46, rfl⟩, Tryz.isAgg46, Tryz.sizeOf46⟩,
  ⟨⟨_, Tryz.runUnderlying48, ⟨_, rfl, rfl⟩⟩, Tryz.isAgg48, Tryz.sizeOf48⟩,
  ⟨⟨_, Tryz.runUnderlying50, ⟨_, rfl, rfl⟩⟩, Tryz.isAgg50, Tryz.sizeOf50⟩,
  ⟨⟨_, Tryz.runUnderlying60, ⟨_, rfl⟩⟩, Tryz.isAgg60, Tryz.sizeOf60⟩,
  ⟨⟨_, Tryz.runUnderlying68, ⟨_, rfl, rfl⟩⟩, Tryz.isAgg68, Tryz.sizeOf68⟩,
  ⟨⟨_, Tryz.runUnderlying80, rfl⟩, Tryz.isAgg80, Tryz.sizeOf80⟩,
  ⟨⟨_, Tryz.runUnderlying101, rfl⟩, Tryz.isAgg101, Tryz.sizeOf101⟩,
  ⟨⟨_, Tryz.runUnderlying103, ⟨_, rfl, rfl⟩⟩, Tryz.isAgg103, Tryz.sizeOf103⟩,
  ⟨⟨_, Tryz.runUnderlying106, rfl⟩, Tryz.isAgg106, Tryz.sizeOf106⟩,
  ⟨⟨_, Tryz.runUnderlying115, ⟨_, rfl, rfl⟩⟩, Tryz.isAgg115, Tryz.sizeOf115⟩,
  ⟨⟨_, Tryz.runUnderlying119, rfl⟩, Tryz.isAgg119, Tryz.sizeOf119⟩,
  ⟨⟨_, Tryz.runUnderlying123, ⟨_, rfl, rfl⟩⟩, Tryz.isAgg123, Tryz.sizeOf123⟩,
  ⟨⟨_, Tryz.runUnderlying127, rfl⟩, Tryz.isAgg127, Tryz.sizeOf127⟩,
  ⟨⟨_, Tryz.runUnderlying129, rfl⟩, Tryz.isAgg129, Tryz.sizeOf129⟩,
  ⟨⟨_, Tryz.runUnderlying131, rfl⟩, Tryz.isAgg131, Tryz.sizeOf131⟩,
  ⟨⟨_, Tryz.runUnderlying137, ⟨_, rfl, rfl⟩⟩, Tryz.isAgg137, Tryz.sizeOf137⟩,
  ⟨⟨_, Tryz.runUnderlying140, ⟨_, rfl, rfl⟩⟩, Tryz.isAgg140, Tryz.sizeOf140⟩,
  ⟨⟨_, Tryz.runUnderlying152, trivial⟩, Tryz.isAgg152, Tryz.sizeOf152⟩,
  ⟨⟨_, Tryz.runUnderlying159, rfl⟩, Tryz.isAgg159, Tryz.sizeOf159⟩, trivial⟩
def orc_sg : List (Nat × List (Bool × List Kd)) := [(3, [(false, [.bool])]),
  (4, [(false, [.bool])]),
  (5, [(false, [.bool])]),
  (6, [(false, [.bool])]),
  (7, [(false, [.bool])]),
  (8, [(false, [.bool])]),
  (9, [(false, [.bool])]),
  (10, [(true, [.int .i64, .int .i64, .int .i64, .int .i64, .int .i64, .sl, .sl, .int .i64, .sl])]),
  (11, [(true, [.int .i64, .int .i64, .sl, .sl, .sl, .str, .str, .int .i64, .int .i64, .int .i64])]),
  (12, [(false, [.sl])]),
  (13, [(false, [.bool])]),
  (14, [(true, [.int .i64, .int .i64, .sl, .sl, .sl, .str, .str, .int .i64, .int .i64, .int .i64]), (false, [.int .i64]), (false, [.bool])]),
  (15, [(true, [.int .i64, .int .i64, .sl, .sl, .sl, .str, .str, .int .i64, .int .i64, .int .i64]), (true, [.int .i64, .int .i64, .bool])]),
  (16, []),
  (17, [(false, [.bool])]),
  (18, [(false, [.bool])]),
  (19, [(false, [.bool])]),
  (20, [(false, [.bool])]),
  (21, [(false, [.bool])]),
  (22, [(false, [.bool])]),
  (23, [(false, [.bool])]),
  (24, [(true, [.int .i64, .int .i64, .int .i64, .int .i64, .int .i64, .sl, .sl, .int .i64, .sl])]),
  (25, [(false, [.bool])]),
  (26, []),
  (27, [(false, [.bool])]),
  (28, [(false, [.int .i64])]),
  (29, [(false, [.int .i64])]),
  (30, [(false, [.bool])]),
  (31, [(false, [.ptr]), (false, [.bool])]),
  (32, [(false, [.int .i64])]),
  (33, [(false, [.int .i64])]),
  (34, [(false, [.int .i64])]),
  (35, [(false, [.int .i64])]),
  (36, [(true, [.int .i64, .int .i64, .sl, .sl, .sl, .str, .str, .int .i64, .int .i64, .int .i64]), (true, [.int .i64, .int .i64, .bool])]),
  (37, [(false, [.bool])]),
  (38, [(false, [.bool])]),
  (39, [(false, [.bool])]),
  (40, [(false, [.bool])]),
  (41, [(false, [.bool])]),
  (42, [(false, [.sl])]),
  (43, [(false, [.sl])]),
  (44, [(false, [.bool])]),
  (45, [(true, [.int .i64, .int .i64, .sl, .sl, .sl, .str, .str, .int .i64, .int .i64, .int .i64])]),
  (46, [(false, [.sl])]),
  (47, [(false, [.sl])]),
  (48, [(false, [.sl])]),
  (49, [(false, [.int .i64]), (false, [.bool])]),
  (50, [(false, [.int .i64]), (false, [.bool])]),
  (51, [(true, [.int .i64, .int .i64, .sl, .sl, .sl, .str, .str, .int .i64, .int .i64, .int .i64])]),
  (52, [(false, [.str])]),
  (53, [(true, [.int .i64, .int .i64, .sl, .sl, .sl, .str, .str, .int .i64, .int .i64, .int .i64]), (true, [.int .i64, .int .i64, .bool]), (false, [.int .i64])]),
  (54, []),
  (55, [(false, [.bool])]),
  (56, [(false, [.bool])]),
  (57, [(false, [.bool])]),
  (58, [(false, [.bool])]),
  (59, [(false, [.bool])]),
  (60, [(false, [.bool])]),
  (61, [(false, [.bool])]),
  (62, [(false, [.bool])]),
  (63, []),
  (64, []),
  (65, []),
  (66, []),
  (67, []),
  (68, []),
  (69, [(false, [.sl])]),
  (70, [(false, [.sl])]),
  (71, [(false, [.sl])]),
  (72, [(false, [.sl])]),
  (73, [(false, [.sl])]),
  (74, [(false, [.sl])]),
  (75, [(false, [.bool])]),
  (76, [(false, [.bool])]),
  (77, [(false, [.bool])]),
  (78, [(false, [.bool])]),
  (79, [(false, [.bool])]),
  (80, [(false, [.bool])]),
  (81, [(false, [.bool])]),
  (82, [(false, [.ptr])]),
  (83, [(false, [.bool])]),
  (84, []),
  (85, [(true, [.int .i64, .int .i64, .int .i64, .int .i64, .int .i64])]),
  (86, [(true, [.int .i64, .int .i64, .int .i64, .int .i64, .int .i64])]),
  (87, [(false, [.sl])]),
  (88, [(false, [.int .i64])]),
  (89, [(false, [.sl])]),
  (90, [(false, [.bool])]),
  (91, [(false, [.bool])]),
  (92, []),
  (93, []),
  (94, [(true, [.int .i64, .int .i64, .int .i64, .int .i64, .int .i64, .sl, .sl, .int .i64, .sl])]),
  (95, [(false, [.sl]), (false, [.int .i64])]),
  (96, [(false, [.bool])]),
  (97, [(true, [.int .i64, .int .i64, .sl, .sl, .sl, .str, .str, .int .i64, .int .i64, .int .i64]), (true, [.int .i64, .int .i64, .bool]), (false, [.int .i64])]),
  (98, [(false, [.sl])]),
  (99, [(false, [.sl])]),
  (100, [(false, [.int .i64]), (false, [.int .i64])]),
  (101, [(false, [.int .i64])]),
  (102, [(true, [.int .i64, .int .i64, .sl, .sl, .sl, .str, .str, .int .i64, .int .i64, .int .i64])]),
  (103, [(false, [.int .i64])]),
  (104, [(true, [.int .i64, .int .i64, .sl, .sl, .sl, .str, .str, .int .i64, .int .i64, .int .i64]), (true, [.int .i64, .int .i64, .bool]), (false, [.int .i64])]),
  (105, [(false, [.bool])]),
  (106, [(false, [.bool])]),
  (107, [(false, [.bool])]),
  (108, [(false, [.sl])]),
  (109, [(false, [.sl])]),
  (110, [(false, [.sl])]),
  (111, [(false, [.sl])]),
  (112, [(false, [.sl])]),
  (113, [(false, [.sl])]),
  (114, [(false, [.bool])]),
  (115, [(false, [.bool])]),
  (116, [(false, [.bool])]),
  (117, [(false, [.bool])]),
  (118, [(false, [.bool])]),
  (119, [(false, [.bool])]),
  (120, [(false, [.sl])]),
  (121, [(false, [.sl])]),
  (122, []),
  (123, []),
  (124, [(false, [.sl])]),
  (125, [(false, [.sl])]),
  (126, [(false, [.sl])]),
  (127, [(false, [.sl])]),
  (128, [(false, [.bool])]),
  (129, [(false, [.int .i64])]),
  (130, [(false, [.bool])]),
  (131, [(false, [.int .i64])]),
  (132, [(false, [.int .i64])]),
  (133, [(false, [.int .i64])]),
  (134, [(false, [.int .i64])]),
  (135, [(false, [.int .i64])]),
  (136, [(false, [.int .i64])]),
  (137, [(false, [.int .i64])]),
  (138, [(false, [.sl])]),
  (139, [(false, [.str])]),
  (140, [(false, [.bool])]),
  (141, [(false, [.bool])]),
  (142, [(false, [.bool])]),
  (143, []),
  (144, []),
  (145, [(false, [.int .i64]), (false, [.bool])]),
  (146, [(false, [.int .i64]), (false, [.bool])]),
  (147, [(false, [.bool])]),
  (148, [(false, [.str])]),
  (149, [(false, [.int .i64])]),
  (150, [(false, [.int .i64]), (false, [.int .i64]), (false, [.bool])]),
  (151, [(false, [.int .i64])]),
  (152, [(false, [.int .i64])]),
  (153, [(false, [.int .i64])]),
  (154, [(false, [.bool])])]
theorem orc_sok : AllSg Tryz.prog orc_sg := ⟨Tryz.call3,
  Tryz.call4,
  Tryz.call5,
  Tryz.call6,
  Tryz.call7,
  Tryz.call8,
  Tryz.call9,
  Tryz.call10,
  Tryz.call11,
  Tryz.call12,
  Tryz.call13,
  Tryz.call14,
  Tryz.call15,
  Tryz.call16,
  Tryz.call17,
  Tryz.call18,
  Tryz.call19,
  Tryz.call20,
  Tryz.call21,
  Tryz.call22,
  Tryz.call23,
  Tryz.call24,
  Tryz.call25,
  Tryz.call26,
  Tryz.call27,
  Tryz.call28,
  Tryz.call29,
  Tryz.call30,
  Tryz.call31,
  Tryz.call32,
  Tryz.call33,
  Tryz.call34,
  Tryz.call35,
  Tryz.call36,
  Tryz.call37,
  Tryz.call38,
  Tryz.call39,
  Tryz.call40,
  Tryz.call41,
  Tryz.call42,
  Tryz.call43,
  Tryz.call44,
  Tryz.call45,
  Tryz.call46,
  Tryz.call47,
  Tryz.call48,
  Tryz.call49,
  Tryz.call50,
  Tryz.call51,
  Tryz.call52,
  Tryz.call53,
  Tryz.call54,
  Tryz.call55,
  Tryz.call56,
  Tryz.call57,
  Tryz.call58,
  Tryz.call59,
  Tryz.call60,
  Tryz.call61,
  Tryz.call62,
  Tryz.call63,
  Tryz.call64,
  Tryz.call65,
  Tryz.call66,
  Tryz.call67,
  Tryz.call68,
  Tryz.call69,
  Tryz.call70,
  Tryz.call71,
  Tryz.call72,
  Tryz.call73,
  Tryz.call74,
  Tryz.call75,
  Tryz.call76,
  Tryz.call77,
  Tryz.call78,
  Tryz.call79,
  Tryz.call80,
  Tryz.call81,
  Tryz.call82,
  Tryz.call83,
  Tryz.call84,
  Tryz.call85,
  Tryz.call86,
  Tryz.call87,
  Tryz.call88,
  Tryz.call89,
  Tryz.call90,
  Tryz.call91,
  Tryz.call92,
  Tryz.call93,
  Tryz.call94,
  Tryz.call95,
  Tryz.call96,
  Tryz.call97,
  Tryz.call98,
  Tryz.call99,
  Tryz.call100,
  Tryz.call101,
  Tryz.call102,
  Tryz.call103,
  Tryz.call104,
  Tryz.call105,
  Tryz.call106,
  Tryz.call107,
  Tryz.call108,
  Tryz.call109,
  Tryz.call110,
  Tryz.call111,
  Tryz.call112,
  Tryz.call113,
  Tryz.call114,
  Tryz.call115,
  Tryz.call116,
  Tryz.call117,
  Tryz.call118,
  Tryz.call119,
  Tryz.call120,
  Tryz.call121,
  Tryz.call122,
  Tryz.call123,
  Tryz.call124,
  Tryz.call125,
  Tryz.call126,
  Tryz.call127,
  Tryz.call128,
  Tryz.call129,
  Tryz.call130,
  Tryz.call131,
  Tryz.call132,
  Tryz.call133,
  Tryz.call134,
  Tryz.call135,
  Tryz.call136,
  Tryz.call137,
  Tryz.call138,
  Tryz.call139,
  Tryz.call140,
  Tryz.call141,
  Tryz.call142,
  Tryz.call143,
  Tryz.call144,
  Tryz.call145,
  Tryz.call146,
  Tryz.call147,
  Tryz.call148,
  Tryz.call149,
  Tryz.call150,
  Tryz.call151,
  Tryz.call152,
  Tryz.call153,
  Tryz.call154, trivial⟩
def orc : Orc Tryz.prog := ⟨orc_ts, allTi_of orc_tok, orc_sg, allSg_of orc_sok⟩
theorem orc_wide : Tryz.prog.follows .mixedOrders = true := by kernel_rfl
end Go.Proofs.YtblmoilneiffgaaGreat

/- Functions of Slices, read without their frames; that each is enough. Printed by a program of mine (wip/lift/gen.py). -/
set_option maxRecDepth 100000
namespace Go.Proofs.YtblmoilneiffgaaGreat
open Go.RowKit

def slices_Clone_sl_int_int_sh (s_1 : Sl) (w : World) (K : Value → World → Prop) : Prop :=
 brB (Option.isNone s_1.ptr)
 (K (.slice none 0 0) w)
 (∀ (b2 : Nat) (w3 : World), b2 = w.heap.size → w3 = World.alloc w (.cells #[] T_int) →
 ∃ s4 : Sl, ∃ w5 : World, (Builtin.append_ #[T_sl_int, T_sl_int] T_sl_int #[.slice (some ⟨b2, 0, none⟩) 0 0, s_1.val]).run Tryz.prog w3 = .ok (s4.val) w5 ∧
 K (s4.val) w5)
def slices_Clone_sl_int_int_an : An := ⟨[], [], []⟩
theorem slices_Clone_sl_int_int_lift {s_1 : Sl} {w : World} {K : Value → World → Prop} (h : slices_Clone_sl_int_int_sh s_1 w K) : Calls Tryz.prog fn_slices_Clone_sl_int_int #[s_1.val] w fun e w' => ∃ v, e = .returned v ∧ K v w' :=
   lift_calls (A := slices_Clone_sl_int_int_an) (c := bodyOf Tryz.f89) (args := [s_1.val]) orc orc_wide Tryz.func89 (by kernel_rfl) (by kernel_rfl) (Eq.mp (by kernel_rfl : slices_Clone_sl_int_int_sh s_1 w K = wpc orc Tryz.f89.ntmps slices_Clone_sl_int_int_an (bodyOf Tryz.f89) (argl 0 [s_1.val]) w (retQ orc Tryz.f89.results.toList K)) h)

def slices_Clone_sl_api_Ins_api_Ins_sh (s_1 : Sl) (w : World) (K : Value → World → Prop) : Prop :=
 brB (Option.isNone s_1.ptr)
 (K (.slice none 0 0) w)
 (∀ (b2 : Nat) (w3 : World), b2 = w.heap.size → w3 = World.alloc w (.cells #[] T_api_Ins) →
 ∃ s4 : Sl, ∃ w5 : World, (Builtin.append_ #[T_sl_api_Ins, T_sl_api_Ins] T_sl_api_Ins #[.slice (some ⟨b2, 0, none⟩) 0 0, s_1.val]).run Tryz.prog w3 = .ok (s4.val) w5 ∧
 K (s4.val) w5)
def slices_Clone_sl_api_Ins_api_Ins_an : An := ⟨[], [], []⟩
theorem slices_Clone_sl_api_Ins_api_Ins_lift {s_1 : Sl} {w : World} {K : Value → World → Prop} (h : slices_Clone_sl_api_Ins_api_Ins_sh s_1 w K) : Calls Tryz.prog fn_slices_Clone_sl_api_Ins_api_Ins #[s_1.val] w fun e w' => ∃ v, e = .returned v ∧ K v w' :=
   lift_calls (A := slices_Clone_sl_api_Ins_api_Ins_an) (c := bodyOf Tryz.f125) (args := [s_1.val]) orc orc_wide Tryz.func125 (by kernel_rfl) (by kernel_rfl) (Eq.mp (by kernel_rfl : slices_Clone_sl_api_Ins_api_Ins_sh s_1 w K = wpc orc Tryz.f125.ntmps slices_Clone_sl_api_Ins_api_Ins_an (bodyOf Tryz.f125) (argl 0 [s_1.val]) w (retQ orc Tryz.f125.results.toList K)) h)

def slices_Clone_sl_api_Out_api_Out_sh (s_1 : Sl) (w : World) (K : Value → World → Prop) : Prop :=
 brB (Option.isNone s_1.ptr)
 (K (.slice none 0 0) w)
 (∀ (b2 : Nat) (w3 : World), b2 = w.heap.size → w3 = World.alloc w (.cells #[] T_api_Out) →
 ∃ s4 : Sl, ∃ w5 : World, (Builtin.append_ #[T_sl_api_Out, T_sl_api_Out] T_sl_api_Out #[.slice (some ⟨b2, 0, none⟩) 0 0, s_1.val]).run Tryz.prog w3 = .ok (s4.val) w5 ∧
 K (s4.val) w5)
def slices_Clone_sl_api_Out_api_Out_an : An := ⟨[], [], []⟩
theorem slices_Clone_sl_api_Out_api_Out_lift {s_1 : Sl} {w : World} {K : Value → World → Prop} (h : slices_Clone_sl_api_Out_api_Out_sh s_1 w K) : Calls Tryz.prog fn_slices_Clone_sl_api_Out_api_Out #[s_1.val] w fun e w' => ∃ v, e = .returned v ∧ K v w' :=
   lift_calls (A := slices_Clone_sl_api_Out_api_Out_an) (c := bodyOf Tryz.f126) (args := [s_1.val]) orc orc_wide Tryz.func126 (by kernel_rfl) (by kernel_rfl) (Eq.mp (by kernel_rfl : slices_Clone_sl_api_Out_api_Out_sh s_1 w K = wpc orc Tryz.f126.ntmps slices_Clone_sl_api_Out_api_Out_an (bodyOf Tryz.f126) (argl 0 [s_1.val]) w (retQ orc Tryz.f126.results.toList K)) h)

def slices_Contains_sl_int_int_sh (s_1 : Sl) (v_2 : Int) (w : World) (K : Value → World → Prop) : Prop :=
 Calls Tryz.prog fn_slices_Index_sl_int_int #[s_1.val, .int .i64 v_2] w fun e3 w4 => ∃ n5 : Int, e3 = .returned (.int .i64 n5) ∧
 K (.bool (decide (n5 ≥ (0 : Int)))) w4
def slices_Contains_sl_int_int_an : An := ⟨[], [], []⟩
theorem slices_Contains_sl_int_int_lift {s_1 : Sl} {v_2 : Int} {w : World} {K : Value → World → Prop} (h : slices_Contains_sl_int_int_sh s_1 v_2 w K) : Calls Tryz.prog fn_slices_Contains_sl_int_int #[s_1.val, .int .i64 v_2] w fun e w' => ∃ v, e = .returned v ∧ K v w' :=
   lift_calls (A := slices_Contains_sl_int_int_an) (c := bodyOf Tryz.f147) (args := [s_1.val, .int .i64 v_2]) orc orc_wide Tryz.func147 (by kernel_rfl) (by kernel_rfl) (Eq.mp (by kernel_rfl : slices_Contains_sl_int_int_sh s_1 v_2 w K = wpc orc Tryz.f147.ntmps slices_Contains_sl_int_int_an (bodyOf Tryz.f147) (argl 0 [s_1.val, .int .i64 v_2]) w (retQ orc Tryz.f147.results.toList K)) h)

def slices_Index_sl_int_int_sh (s_1 : Sl) (v_2 : Int) (w : World) (K : Value → World → Prop) : Prop :=
 ∃ (I1 : Int → World → Prop) (μ1 : Int → World → Nat), I1 (0 : Int) w ∧ ∀ (n4 : Int) (w3 : World), I1 n4 w3 →
 brB (decide (n4 < (s_1.len : Int)))
 (∃ a5 : Addr, s_1.ptr = some a5 ∧ 0 ≤ n4 ∧ n4 < (s_1.len : Int) ∧
 ∃ n6 : Int, w3.cell? (Addr.add a5 (Int.toNat n4 * 1)) = some (.int .i64 n6) ∧
 brB (v_2 == n6)
 (K (.int .i64 n4) w3)
 (I1 (wr (n4 + (1 : Int))) w3 ∧ μ1 (wr (n4 + (1 : Int))) w3 < μ1 n4 w3))
 (K (.int .i64 (-1 : Int)) w3)
def slices_Index_sl_int_int_an : An := ⟨[(2, [(8, .int .i64)])], [], []⟩
theorem slices_Index_sl_int_int_lift {s_1 : Sl} {v_2 : Int} {w : World} {K : Value → World → Prop} (h : slices_Index_sl_int_int_sh s_1 v_2 w K) : Calls Tryz.prog fn_slices_Index_sl_int_int #[s_1.val, .int .i64 v_2] w fun e w' => ∃ v, e = .returned v ∧ K v w' :=
   lift_calls (A := slices_Index_sl_int_int_an) (c := bodyOf Tryz.f153) (args := [s_1.val, .int .i64 v_2]) orc orc_wide Tryz.func153 (by kernel_rfl) (by kernel_rfl) (Eq.mp (by kernel_rfl : slices_Index_sl_int_int_sh s_1 v_2 w K = wpc orc Tryz.f153.ntmps slices_Index_sl_int_int_an (bodyOf Tryz.f153) (argl 0 [s_1.val, .int .i64 v_2]) w (retQ orc Tryz.f153.results.toList K)) h)

def slices_IndexFunc_sl_int_int_at_slots_allot_1_sh (s_1 : Sl) (c2 : Nat) (w : World) (K : Value → World → Prop) : Prop :=
 ∃ (I1 : Int → World → Prop) (μ1 : Int → World → Nat), I1 (0 : Int) w ∧ ∀ (n4 : Int) (w3 : World), I1 n4 w3 →
 brB (decide (n4 < (s_1.len : Int)))
 (∃ a5 : Addr, s_1.ptr = some a5 ∧ 0 ≤ n4 ∧ n4 < (s_1.len : Int) ∧
 ∃ n6 : Int, w3.cell? (Addr.add a5 (Int.toNat n4 * 1)) = some (.int .i64 n6) ∧
 ∃ (g7 : FuncId) (fs8 cs9 : Array Value), (.func (.func fn_slots_allot_1) #[] #[.pointer (some ⟨c2, 0, none⟩)] : Value) = .func (.func g7) fs8 cs9 ∧ (∀ args w, (callFunc g7 args).run Tryz.prog w = .ok (.enter g7 args) w) ∧
 Calls Tryz.prog g7 ((fs8.toList ++ [(.int .i64 n6 : Value)]) ++ cs9.toList).toArray w3 fun e10 w11 => ∃ b12 : Bool, e10 = .returned (.bool b12) ∧
 brB b12
 (K (.int .i64 n4) w11)
 (I1 (wr (n4 + (1 : Int))) w11 ∧ μ1 (wr (n4 + (1 : Int))) w11 < μ1 n4 w3))
 (K (.int .i64 (-1 : Int)) w3)
def slices_IndexFunc_sl_int_int_at_slots_allot_1_an : An := ⟨[(2, [(8, .int .i64)])], [], []⟩
theorem slices_IndexFunc_sl_int_int_at_slots_allot_1_lift {s_1 : Sl} {c2 : Nat} {w : World} {K : Value → World → Prop} (h : slices_IndexFunc_sl_int_int_at_slots_allot_1_sh s_1 c2 w K) : Calls Tryz.prog fn_slices_IndexFunc_sl_int_int #[s_1.val, .func (.func fn_slots_allot_1) #[] #[.pointer (some ⟨c2, 0, none⟩)]] w fun e w' => ∃ v, e = .returned v ∧ K v w' :=
   lift_calls (A := slices_IndexFunc_sl_int_int_at_slots_allot_1_an) (c := bodyOf Tryz.f129) (args := [s_1.val, .func (.func fn_slots_allot_1) #[] #[.pointer (some ⟨c2, 0, none⟩)]]) orc orc_wide Tryz.func129 (by kernel_rfl) (by kernel_rfl) (Eq.mp (by kernel_rfl : slices_IndexFunc_sl_int_int_at_slots_allot_1_sh s_1 c2 w K = wpc orc Tryz.f129.ntmps slices_IndexFunc_sl_int_int_at_slots_allot_1_an (bodyOf Tryz.f129) (argl 0 [s_1.val, .func (.func fn_slots_allot_1) #[] #[.pointer (some ⟨c2, 0, none⟩)]]) w (retQ orc Tryz.f129.results.toList K)) h)

end Go.Proofs.YtblmoilneiffgaaGreat

/- Numbers as elements of lists; slices.Clone. -/
set_option maxRecDepth 100000
namespace Go.Proofs.YtblmoilneiffgaaGreat
open Go.RowKit

def intE : Enc Int := ⟨T_int, 1, 8, fun n => [.int .i64 n], by intro x; rfl, by intro x u hu; simp at hu; subst hu; rfl, by decide⟩
theorem intOk : EncOk Tryz.prog intE T_sl_int := EncOk.of (z := .int .i64 0) (by kernel_rfl) (by kernel_rfl) (by kernel_rfl)
/-! ### slices.Clone -/
theorem Rd.none {α : Type} {E : Enc α} {w : World} {s : Sl} {xs : List α} (h : Rd E w s xs) (hp : s.ptr = none) : xs = [] ∧ s.cap = 0 := by
  obtain ⟨ao, cap, he, _, _, h5, _⟩ := h
  have hq : s.ptr = ao ∧ s.cap = cap := by cases s; simp [Sl.val] at he; exact ⟨he.1, he.2.2⟩
  have := h5 (hq.1.symm.trans hp)
  exact ⟨List.eq_nil_of_length_eq_zero this.1, hq.2.trans this.2⟩
theorem clone_core {α : Type} {P : Program} {E : Enc α} {T : TypeId} (ok : EncOk P E T) (hby : E.bytes ≤ 1000) {w : World} {s : Sl} {xs : List α} (h : Rd E w s xs) (hsm : xs.length ≤ 1000000000) {K : Value → World → Prop}
    (k : ∀ (s' : Sl) (w' : World), Ow E w' s' xs → Chg No w w' → (∀ k, s'.blk = some k → w.heap.size ≤ k) → (s.ptr = none → s' = nilS) → K s'.val w') :
    brB (Option.isNone s.ptr) (K (.slice none 0 0) w) (∀ (b2 : Nat) (w3 : World), b2 = w.heap.size → w3 = World.alloc w (.cells #[] E.t) →
      ∃ s4 : Sl, ∃ w5 : World, (Builtin.append_ #[T, T] T #[.slice (some ⟨b2, 0, none⟩) 0 0, s.val]).run P w3 = .ok (s4.val) w5 ∧ K (s4.val) w5) := by
  refine brB_of (fun hp => ?_) (fun hp => ?_)
  · have hp : s.ptr = Option.none := by cases h : s.ptr with
      | none => rfl
      | some a => rw [h] at hp; cases hp
    obtain ⟨rfl, _⟩ := h.none hp
    exact k nilS w (Ow.nil E w) (Chg.refl _ _) (fun k hk => by cases hk) (fun _ => rfl)
  · intro b2 w3 hb hw
    have hne : s.ptr ≠ Option.none := fun e => by rw [e] at hp; cases hp
    have hc : Chg No w w3 := by rw [hw]; exact Chg.alloc _ _ _
    have hlit : Ow E w3 ⟨some ⟨b2, 0, Option.none⟩, 0, 0⟩ [] := by
      rw [hw, hb]; exact Ow.lit w [] [] rfl (Nat.zero_le _)
    have hs3 : w.heap.size < w3.heap.size := by rw [hw]; simp
    refine app_ok ok rfl rfl hlit (h.no hc) (by
      have : (xs.length) * E.bytes ≤ 1000000000 * 1000 := Nat.mul_le_mul hsm hby
      simp only [List.length_nil, Nat.zero_add]; omega) (by simp only [List.length_nil, Nat.zero_add]; unfold maxLen; omega) ?_
    intro s' w5 h5 hc5 hbk
    refine k s' w5 (by simpa using h5) (hc.trans hc5 (fun _ _ h => h) (fun j hj he => ?_)) (fun j hj => ?_) (fun e => absurd e hne)
    · have : some b2 = some j := he
      cases this; omega
    · rcases hbk with hk | hk
      · have : (⟨some ⟨b2, 0, Option.none⟩, 0, 0⟩ : Sl).blk = some b2 := rfl
        rw [hk, this] at hj; cases hj; omega
      · rw [hk] at hj; cases hj; omega
theorem clone_ints {w : World} {s : Sl} {xs : List Int} (h : Rd intE w s xs) (hsm : xs.length ≤ 1000000000) : Calls Tryz.prog fn_slices_Clone_sl_int_int #[s.val] w fun e w' => ∃ s' : Sl, e = .returned s'.val ∧ Ow intE w' s' xs ∧ Chg No w w' ∧ (∀ k, s'.blk = some k → w.heap.size ≤ k) ∧ (s.ptr = none → s' = nilS) := by
  refine (slices_Clone_sl_int_int_lift (K := fun v w' => ∃ s' : Sl, v = s'.val ∧ Ow intE w' s' xs ∧ Chg No w w' ∧ (∀ k, s'.blk = some k → w.heap.size ≤ k) ∧ (s.ptr = none → s' = nilS)) ?_).mono (by rintro e w' ⟨v, rfl, s', rfl, h⟩; exact ⟨s', rfl, h⟩)
  unfold slices_Clone_sl_int_int_sh
  exact clone_core (K := fun v w' => ∃ s' : Sl, v = s'.val ∧ Ow intE w' s' xs ∧ Chg No w w' ∧ (∀ k, s'.blk = some k → w.heap.size ≤ k) ∧ (s.ptr = none → s' = nilS)) intOk (by decide) h hsm fun s' w' h1 h2 h3 h4 => ⟨s', rfl, h1, h2, h3, h4⟩
end Go.Proofs.YtblmoilneiffgaaGreat

/- Functions of Inner, read without their frames; that each is enough. Printed by a program of mine (wip/lift/gen.py). -/
set_option maxRecDepth 100000
namespace Go.Proofs.YtblmoilneiffgaaGreat
open Go.RowKit

def inner_Copy_sh (s1 : Int) (s2 : Int) (s3 : Sl) (s4 : Sl) (s5 : Sl) (s6 : ByteArray) (s7 : ByteArray) (s8 : Int) (s9 : Int) (s10 : Int) (w : World) (K : Value → World → Prop) : Prop :=
 ∀ (b11 : Nat) (w12 : World), b11 = w.heap.size → w12 = World.alloc w (.cells #[.int .i64 s1, .int .i64 s2, s3.val, s4.val, s5.val, .string s6, .string s7, .int .i64 s8, .int .i64 s9, .int .i64 s10] T_api_State) →
 ∀ (b13 : Nat) (w14 : World), b13 = w12.heap.size → w14 = World.alloc w12 (.cells #[.int .i64 (0 : Int), .int .i64 (0 : Int), .slice none 0 0, .slice none 0 0, .slice none 0 0, .string (bs []), .string (bs []), .int .i64 (0 : Int), .int .i64 (0 : Int), .int .i64 (0 : Int)] T_api_State) →
 ∀ w15 : World, w15 = World.drew w14 →
 ∃ S16 : World → Prop, S16 w15 ∧
 ∃ s17 : Sl, held S16 ⟨b11, 2, none⟩ (s17.val) ∧
 ∃ s18 : Sl, held S16 ⟨b11, 3, none⟩ (s18.val) ∧
 ∃ s19 : Sl, held S16 ⟨b11, 4, none⟩ (s19.val) ∧
 Calls Tryz.prog fn_slices_Clone_sl_int_int #[s17.val] w15 fun e20 w21 => ∃ s22 : Sl, e20 = .returned (s22.val) ∧
 S16 w21 ∧
 Calls Tryz.prog fn_slices_Clone_sl_int_int #[s18.val] w21 fun e23 w24 => ∃ s25 : Sl, e23 = .returned (s25.val) ∧
 S16 w24 ∧
 Calls Tryz.prog fn_slices_Clone_sl_int_int #[s19.val] w24 fun e26 w27 => ∃ s28 : Sl, e26 = .returned (s28.val) ∧
 S16 w27 ∧
 wrOk w27 ⟨b11, 2, none⟩ 1 ∧ ∀ w29 : World, w29 = stW w27 ⟨b11, 2, none⟩ 0 [s22.val] →
 wrOk w29 ⟨b11, 3, none⟩ 1 ∧ ∀ w30 : World, w30 = stW w29 ⟨b11, 3, none⟩ 0 [s25.val] →
 wrOk w30 ⟨b11, 4, none⟩ 1 ∧ ∀ w31 : World, w31 = stW w30 ⟨b11, 4, none⟩ 0 [s28.val] →
 ∃ n32 n33 : Int, ∃ s34 s35 s36 : Sl, ∃ t37 t38 : ByteArray, ∃ n39 n40 n41 : Int, w31.cell? ⟨b11, 0, none⟩ = some (.int .i64 n32) ∧ w31.cell? ⟨b11, 1, none⟩ = some (.int .i64 n33) ∧ w31.cell? ⟨b11, 2, none⟩ = some (s34.val) ∧ w31.cell? ⟨b11, 3, none⟩ = some (s35.val) ∧ w31.cell? ⟨b11, 4, none⟩ = some (s36.val) ∧ w31.cell? ⟨b11, 5, none⟩ = some (.string t37) ∧ w31.cell? ⟨b11, 6, none⟩ = some (.string t38) ∧ w31.cell? ⟨b11, 7, none⟩ = some (.int .i64 n39) ∧ w31.cell? ⟨b11, 8, none⟩ = some (.int .i64 n40) ∧ w31.cell? ⟨b11, 9, none⟩ = some (.int .i64 n41) ∧
 wrOk w31 ⟨b13, 0, none⟩ 10 ∧ ∀ w42 : World, w42 = stW w31 ⟨b13, 0, none⟩ 0 [.int .i64 n32, .int .i64 n33, s34.val, s35.val, s36.val, .string t37, .string t38, .int .i64 n39, .int .i64 n40, .int .i64 n41] →
 ∃ r43 r44 : Int, ∃ r45 r46 r47 : Sl, ∃ r48 r49 : ByteArray, ∃ r50 r51 r52 : Int, w42.cell? ⟨b13, 0, none⟩ = some (.int .i64 r43) ∧ w42.cell? ⟨b13, 1, none⟩ = some (.int .i64 r44) ∧ w42.cell? ⟨b13, 2, none⟩ = some (r45.val) ∧ w42.cell? ⟨b13, 3, none⟩ = some (r46.val) ∧ w42.cell? ⟨b13, 4, none⟩ = some (r47.val) ∧ w42.cell? ⟨b13, 5, none⟩ = some (.string r48) ∧ w42.cell? ⟨b13, 6, none⟩ = some (.string r49) ∧ w42.cell? ⟨b13, 7, none⟩ = some (.int .i64 r50) ∧ w42.cell? ⟨b13, 8, none⟩ = some (.int .i64 r51) ∧ w42.cell? ⟨b13, 9, none⟩ = some (.int .i64 r52) ∧
 K (.agg #[.int .i64 r43, .int .i64 r44, r45.val, r46.val, r47.val, .string r48, .string r49, .int .i64 r50, .int .i64 r51, .int .i64 r52]) w42
def inner_Copy_an : An := ⟨[], [(1, (10, .st 0 (.st 1 (.st 3 (.st 4 (.st 6 (.st 7 (.ef 2 (.st 9 (.ef 5 (.ef 8 .done))))))))), 1))], []⟩
theorem inner_Copy_lift {s1 : Int} {s2 : Int} {s3 : Sl} {s4 : Sl} {s5 : Sl} {s6 : ByteArray} {s7 : ByteArray} {s8 : Int} {s9 : Int} {s10 : Int} {w : World} {K : Value → World → Prop} (h : inner_Copy_sh s1 s2 s3 s4 s5 s6 s7 s8 s9 s10 w K) : Calls Tryz.prog fn_inner_Copy #[.agg #[.int .i64 s1, .int .i64 s2, s3.val, s4.val, s5.val, .string s6, .string s7, .int .i64 s8, .int .i64 s9, .int .i64 s10]] w fun e w' => ∃ v, e = .returned v ∧ K v w' :=
   lift_calls (A := inner_Copy_an) (c := bodyOf Tryz.f102) (args := [.agg #[.int .i64 s1, .int .i64 s2, s3.val, s4.val, s5.val, .string s6, .string s7, .int .i64 s8, .int .i64 s9, .int .i64 s10]]) orc orc_wide Tryz.func102 (by kernel_rfl) (by kernel_rfl) (Eq.mp (by kernel_rfl : inner_Copy_sh s1 s2 s3 s4 s5 s6 s7 s8 s9 s10 w K = wpc orc Tryz.f102.ntmps inner_Copy_an (bodyOf Tryz.f102) (argl 0 [.agg #[.int .i64 s1, .int .i64 s2, s3.val, s4.val, s5.val, .string s6, .string s7, .int .i64 s8, .int .i64 s9, .int .i64 s10]]) w (retQ orc Tryz.f102.results.toList K)) h)

end Go.Proofs.YtblmoilneiffgaaGreat

/- Functions of Digits, read without their frames; that each is enough. Printed by a program of mine (wip/lift/gen.py). -/
set_option maxRecDepth 100000
namespace Go.Proofs.YtblmoilneiffgaaGreat
open Go.RowKit

def digits_Put_j1 (base2 : Int) (n8 : Int) (out9 : Sl) (I1 : Int → Sl → World → Prop) (μ1 : Int → Sl → World → Nat) (w7 : World) (v_1 : Int) (b13 : Bool) (w12 : World) (K : Value → World → Prop) : Prop :=
 brB b13
 ((IntKind.wrap .u64 base2) ≠ 0 ∧ 0 ≤ (Int.tmod n8 (IntKind.wrap .u64 base2)) ∧ (Int.tmod n8 (IntKind.wrap .u64 base2)) < ((bs [48, 49, 50, 51, 52, 53, 54, 55, 56, 57, 65, 66, 67, 68, 69, 70, 71, 72, 73, 74, 75, 76, 77, 78, 79, 80, 81, 82, 83, 84, 85, 86, 87, 88, 89, 90]).size : Int) ∧
 ∀ (b14 : Nat) (w15 : World), b14 = w12.heap.size → w15 = World.alloc w12 (.cells #[.int .u8 (sb (bs [48, 49, 50, 51, 52, 53, 54, 55, 56, 57, 65, 66, 67, 68, 69, 70, 71, 72, 73, 74, 75, 76, 77, 78, 79, 80, 81, 82, 83, 84, 85, 86, 87, 88, 89, 90]) (Int.tmod n8 (IntKind.wrap .u64 base2)))] T_uint8) →
 ∃ s16 : Sl, ∃ w17 : World, (Builtin.append_ #[T_sl_uint8, T_sl_uint8] T_sl_uint8 #[.slice (some ⟨b14, 0, none⟩) 1 1, out9.val]).run Tryz.prog w15 = .ok (s16.val) w17 ∧
 (IntKind.wrap .u64 base2) ≠ 0 ∧ I1 (IntKind.wrap .u64 (Int.tdiv n8 (IntKind.wrap .u64 base2))) s16 w17 ∧ μ1 (IntKind.wrap .u64 (Int.tdiv n8 (IntKind.wrap .u64 base2))) s16 w17 < μ1 n8 out9 w7)
 (brB (decide (v_1 < (0 : Int)))
 (∃ t18 : ByteArray, ∃ w19 : World, (convert T_sl_uint8 T_string (out9.val)).run Tryz.prog w12 = .ok (.string t18) w19 ∧
 (((bs [45])).size : Int) + ((t18).size : Int) ≤ 9223372036854775807 ∧ K (.string ((bs [45]) ++ t18)) w19)
 (∃ t20 : ByteArray, ∃ w21 : World, (convert T_sl_uint8 T_string (out9.val)).run Tryz.prog w12 = .ok (.string t20) w21 ∧
 K (.string t20) w21))
def digits_Put_sh (v_1 : Int) (base2 : Int) (w : World) (K : Value → World → Prop) : Prop :=
 Calls Tryz.prog fn_digits_Right #[.int .i64 base2] w fun e3 w4 => ∃ b5 : Bool, e3 = .returned (.bool b5) ∧
 brB (!b5)
 (K (.string (bs [])) w4)
 (∃ J6 : Int → World → Prop, (∀ (n22 : Int) (w6 : World), J6 n22 w6 →
 ∃ (I1 : Int → Sl → World → Prop) (μ1 : Int → Sl → World → Nat), I1 n22 (⟨none, 0, 0⟩ : Sl) w6 ∧ ∀ (n8 : Int) (out9 : Sl) (w7 : World), I1 n8 out9 w7 →
 brB (decide (n8 > (0 : Int)))
 (digits_Put_j1 base2 n8 out9 I1 (μ1) w7 v_1 true w7 K)
 (digits_Put_j1 base2 n8 out9 I1 (μ1) w7 v_1 ((out9.len : Int) == (0 : Int)) w7 K)) ∧
 brB (decide (v_1 < (0 : Int)))
 (J6 (IntKind.wrap .u64 (0 - (IntKind.wrap .u64 v_1))) w4)
 (J6 (IntKind.wrap .u64 v_1) w4))
def digits_Put_an : An := ⟨[(7, [(5, .int .u64), (6, .sl)])], [], [(6, [(5, .int .u64)])]⟩
theorem digits_Put_lift {v_1 : Int} {base2 : Int} {w : World} {K : Value → World → Prop} (h : digits_Put_sh v_1 base2 w K) : Calls Tryz.prog fn_digits_Put #[.int .i64 v_1, .int .i64 base2] w fun e w' => ∃ v, e = .returned v ∧ K v w' :=
   lift_calls (A := digits_Put_an) (c := bodyOf Tryz.f148) (args := [.int .i64 v_1, .int .i64 base2]) orc orc_wide Tryz.func148 (by kernel_rfl) (by kernel_rfl) (Eq.mp (by kernel_rfl : digits_Put_sh v_1 base2 w K = wpc orc Tryz.f148.ntmps digits_Put_an (bodyOf Tryz.f148) (argl 0 [.int .i64 v_1, .int .i64 base2]) w (retQ orc Tryz.f148.results.toList K)) h)

def digits_Right_sh (base1 : Int) (w : World) (K : Value → World → Prop) : Prop :=
 brB (decide (base1 ≥ (2 : Int)))
 (K (.bool (decide (base1 ≤ (36 : Int)))) w)
 (K (.bool false) w)
def digits_Right_an : An := ⟨[], [], []⟩
theorem digits_Right_lift {base1 : Int} {w : World} {K : Value → World → Prop} (h : digits_Right_sh base1 w K) : Calls Tryz.prog fn_digits_Right #[.int .i64 base1] w fun e w' => ∃ v, e = .returned v ∧ K v w' :=
   lift_calls (A := digits_Right_an) (c := bodyOf Tryz.f154) (args := [.int .i64 base1]) orc orc_wide Tryz.func154 (by kernel_rfl) (by kernel_rfl) (Eq.mp (by kernel_rfl : digits_Right_sh base1 w K = wpc orc Tryz.f154.ntmps digits_Right_an (bodyOf Tryz.f154) (argl 0 [.int .i64 base1]) w (retQ orc Tryz.f154.results.toList K)) h)

end Go.Proofs.YtblmoilneiffgaaGreat

/- Functions of Hollowayref1, read without their frames; that each is enough. Printed by a program of mine (wip/lift/gen.py). -/
set_option maxRecDepth 100000
namespace Go.Proofs.YtblmoilneiffgaaGreat
open Go.RowKit

def hollowayref1_IsTwo_sh (op1 : Int) (w : World) (K : Value → World → Prop) : Prop :=
 brB (decide (op1 ≥ (11 : Int)))
 (brB (decide (op1 ≤ (15 : Int)))
 (K (.bool true) w)
 (brB (decide (op1 ≥ (17 : Int)))
 (brB (decide (op1 ≤ (19 : Int)))
 (K (.bool true) w)
 (brB (decide (op1 ≥ (21 : Int)))
 (brB (decide (op1 ≤ (25 : Int)))
 (K (.bool true) w)
 (brB (op1 == (28 : Int))
 (K (.bool true) w)
 (K (.bool (op1 == (29 : Int))) w)))
 (brB (op1 == (28 : Int))
 (K (.bool true) w)
 (K (.bool (op1 == (29 : Int))) w))))
 (brB (decide (op1 ≥ (21 : Int)))
 (brB (decide (op1 ≤ (25 : Int)))
 (K (.bool true) w)
 (brB (op1 == (28 : Int))
 (K (.bool true) w)
 (K (.bool (op1 == (29 : Int))) w)))
 (brB (op1 == (28 : Int))
 (K (.bool true) w)
 (K (.bool (op1 == (29 : Int))) w)))))
 (brB (decide (op1 ≥ (17 : Int)))
 (brB (decide (op1 ≤ (19 : Int)))
 (K (.bool true) w)
 (brB (decide (op1 ≥ (21 : Int)))
 (brB (decide (op1 ≤ (25 : Int)))
 (K (.bool true) w)
 (brB (op1 == (28 : Int))
 (K (.bool true) w)
 (K (.bool (op1 == (29 : Int))) w)))
 (brB (op1 == (28 : Int))
 (K (.bool true) w)
 (K (.bool (op1 == (29 : Int))) w))))
 (brB (decide (op1 ≥ (21 : Int)))
 (brB (decide (op1 ≤ (25 : Int)))
 (K (.bool true) w)
 (brB (op1 == (28 : Int))
 (K (.bool true) w)
 (K (.bool (op1 == (29 : Int))) w)))
 (brB (op1 == (28 : Int))
 (K (.bool true) w)
 (K (.bool (op1 == (29 : Int))) w))))
def hollowayref1_IsTwo_an : An := ⟨[], [], []⟩
theorem hollowayref1_IsTwo_lift {op1 : Int} {w : World} {K : Value → World → Prop} (h : hollowayref1_IsTwo_sh op1 w K) : Calls Tryz.prog fn_hollowayref1_IsTwo #[.int .i64 op1] w fun e w' => ∃ v, e = .returned v ∧ K v w' :=
   lift_calls (A := hollowayref1_IsTwo_an) (c := bodyOf Tryz.f39) (args := [.int .i64 op1]) orc orc_wide Tryz.func39 (by kernel_rfl) (by kernel_rfl) (Eq.mp (by kernel_rfl : hollowayref1_IsTwo_sh op1 w K = wpc orc Tryz.f39.ntmps hollowayref1_IsTwo_an (bodyOf Tryz.f39) (argl 0 [.int .i64 op1]) w (retQ orc Tryz.f39.results.toList K)) h)

def hollowayref1_IsOne_sh (op1 : Int) (w : World) (K : Value → World → Prop) : Prop :=
 brB (op1 == (16 : Int))
 (K (.bool true) w)
 (brB (op1 == (20 : Int))
 (K (.bool true) w)
 (brB (op1 == (26 : Int))
 (K (.bool true) w)
 (K (.bool (op1 == (27 : Int))) w)))
def hollowayref1_IsOne_an : An := ⟨[], [], []⟩
theorem hollowayref1_IsOne_lift {op1 : Int} {w : World} {K : Value → World → Prop} (h : hollowayref1_IsOne_sh op1 w K) : Calls Tryz.prog fn_hollowayref1_IsOne #[.int .i64 op1] w fun e w' => ∃ v, e = .returned v ∧ K v w' :=
   lift_calls (A := hollowayref1_IsOne_an) (c := bodyOf Tryz.f40) (args := [.int .i64 op1]) orc orc_wide Tryz.func40 (by kernel_rfl) (by kernel_rfl) (Eq.mp (by kernel_rfl : hollowayref1_IsOne_sh op1 w K = wpc orc Tryz.f40.ntmps hollowayref1_IsOne_an (bodyOf Tryz.f40) (argl 0 [.int .i64 op1]) w (retQ orc Tryz.f40.results.toList K)) h)

def hollowayref1_Two_sh (op1 : Int) (a_2 : Int) (b_3 : Int) (w : World) (K : Value → World → Prop) : Prop :=
 Calls Tryz.prog fn_hollowayref1_IsTwo #[.int .i64 op1] w fun e4 w5 => ∃ b6 : Bool, e4 = .returned (.bool b6) ∧
 brB (!b6)
 (K (.tuple #[.int .i64 (0 : Int), .bool false]) w5)
 (brB (op1 == (11 : Int))
 (K (.tuple #[.int .i64 (wr (a_2 + b_3)), .bool true]) w5)
 (brB (op1 == (12 : Int))
 (K (.tuple #[.int .i64 (wr (a_2 - b_3)), .bool true]) w5)
 (brB (op1 == (13 : Int))
 (K (.tuple #[.int .i64 (wr (a_2 * b_3)), .bool true]) w5)
 (∃ J13 : Bool → World → Prop, (∀ (b8 : Bool) (w7 : World), J13 b8 w7 →
 brB b8
 (brB (b_3 == (0 : Int))
 (K (.tuple #[.int .i64 (0 : Int), .bool false]) w7)
 (Calls Tryz.prog fn_hollowayref1_Floor #[.int .i64 a_2, .int .i64 b_3] w7 fun e9 w10 => ∃ n11 n12 : Int, e9 = .returned (.tuple #[.int .i64 n11, .int .i64 n12]) ∧
 brB (op1 == (14 : Int))
 (K (.tuple #[.int .i64 n11, .bool true]) w10)
 (K (.tuple #[.int .i64 n12, .bool true]) w10)))
 (brB (op1 == (17 : Int))
 (K (.tuple #[.int .i64 (iand .i64 a_2 b_3), .bool true]) w7)
 (brB (op1 == (18 : Int))
 (K (.tuple #[.int .i64 (ior .i64 a_2 b_3), .bool true]) w7)
 (brB (op1 == (19 : Int))
 (K (.tuple #[.int .i64 (ixor .i64 a_2 b_3), .bool true]) w7)
 (∃ J29 : Bool → World → Prop, (∀ (b14 : Bool) (w13 : World), J29 b14 w13 →
 brB b14
 (∃ J32 : Bool → World → Prop, (∀ (b16 : Bool) (w15 : World), J32 b16 w15 →
 brB b16
 (K (.tuple #[.int .i64 (0 : Int), .bool true]) w15)
 (∃ (I1 : Int → Int → World → Prop) (μ1 : Int → Int → World → Nat), I1 (IntKind.wrap .u64 a_2) (0 : Int) w15 ∧ ∀ (x19 : Int) (k18 : Int) (w17 : World), I1 x19 k18 w17 →
 brB (decide (k18 < b_3))
 (∃ J39 : Int → World → Prop, (∀ (x30 : Int) (w20 : World), J39 x30 w20 →
 I1 x30 (wr (k18 + (1 : Int))) w20 ∧ μ1 x30 (wr (k18 + (1 : Int))) w20 < μ1 x19 k18 w17) ∧
 brB (op1 == (21 : Int))
 (J39 (IntKind.wrap .u64 (x19 * (2 : Int))) w17)
 ((2 : Int) ≠ 0 ∧ J39 (IntKind.wrap .u64 (Int.tdiv x19 (2 : Int))) w17))
 (K (.tuple #[.int .i64 (wr x19), .bool true]) w17))) ∧
 brB (decide (b_3 < (0 : Int)))
 (J32 true w13)
 (J32 (decide (b_3 > (63 : Int))) w13))
 (brB (op1 == (23 : Int))
 (Calls Tryz.prog fn_hollowayref1_Flag #[.bool (a_2 == b_3)] w13 fun e21 w22 => ∃ n23 : Int, e21 = .returned (.int .i64 n23) ∧
 K (.tuple #[.int .i64 n23, .bool true]) w22)
 (brB (op1 == (24 : Int))
 (Calls Tryz.prog fn_hollowayref1_Flag #[.bool (decide (a_2 < b_3))] w13 fun e24 w25 => ∃ n26 : Int, e24 = .returned (.int .i64 n26) ∧
 K (.tuple #[.int .i64 n26, .bool true]) w25)
 (brB (op1 == (25 : Int))
 (Calls Tryz.prog fn_hollowayref1_Flag #[.bool (decide ((IntKind.wrap .u64 a_2) < (IntKind.wrap .u64 b_3)))] w13 fun e27 w28 => ∃ n29 : Int, e27 = .returned (.int .i64 n29) ∧
 K (.tuple #[.int .i64 n29, .bool true]) w28)
 (brB (op1 == (28 : Int))
 (K (.tuple #[.int .i64 (imin a_2 b_3), .bool true]) w13)
 (K (.tuple #[.int .i64 (imax a_2 b_3), .bool true]) w13)))))) ∧
 brB (op1 == (21 : Int))
 (J29 (op1 == (21 : Int)) w7)
 (J29 (op1 == (22 : Int)) w7)))))) ∧
 brB (op1 == (14 : Int))
 (J13 (op1 == (14 : Int)) w5)
 (J13 (op1 == (15 : Int)) w5)))))
def hollowayref1_Two_an : An := ⟨[(30, [(10, .int .u64), (11, .int .i64)])], [], [(27, [(69, .bool)]), (31, [(10, .int .u64)]), (26, [(61, .bool)]), (12, [(31, .bool)])]⟩
theorem hollowayref1_Two_lift {op1 : Int} {a_2 : Int} {b_3 : Int} {w : World} {K : Value → World → Prop} (h : hollowayref1_Two_sh op1 a_2 b_3 w K) : Calls Tryz.prog fn_hollowayref1_Two #[.int .i64 op1, .int .i64 a_2, .int .i64 b_3] w fun e w' => ∃ v, e = .returned v ∧ K v w' :=
   lift_calls (A := hollowayref1_Two_an) (c := bodyOf Tryz.f49) (args := [.int .i64 op1, .int .i64 a_2, .int .i64 b_3]) orc orc_wide Tryz.func49 (by kernel_rfl) (by kernel_rfl) (Eq.mp (by kernel_rfl : hollowayref1_Two_sh op1 a_2 b_3 w K = wpc orc Tryz.f49.ntmps hollowayref1_Two_an (bodyOf Tryz.f49) (argl 0 [.int .i64 op1, .int .i64 a_2, .int .i64 b_3]) w (retQ orc Tryz.f49.results.toList K)) h)

def hollowayref1_One_sh (op1 : Int) (a_2 : Int) (w : World) (K : Value → World → Prop) : Prop :=
 brB (op1 == (16 : Int))
 (K (.tuple #[.int .i64 (wr (0 - a_2)), .bool true]) w)
 (brB (op1 == (20 : Int))
 (K (.tuple #[.int .i64 (wr ((-1 : Int) - a_2)), .bool true]) w)
 (brB (op1 == (26 : Int))
 (Calls Tryz.prog fn_hollowayref1_Flag #[.bool (a_2 == (0 : Int))] w fun e3 w4 => ∃ n5 : Int, e3 = .returned (.int .i64 n5) ∧
 K (.tuple #[.int .i64 n5, .bool true]) w4)
 (brB (op1 == (27 : Int))
 (Calls Tryz.prog fn_hollowayref1_Flag #[.bool (decide (a_2 < (0 : Int)))] w fun e6 w7 => ∃ n8 : Int, e6 = .returned (.int .i64 n8) ∧
 K (.tuple #[.int .i64 n8, .bool true]) w7)
 (K (.tuple #[.int .i64 (0 : Int), .bool false]) w))))
def hollowayref1_One_an : An := ⟨[], [], []⟩
theorem hollowayref1_One_lift {op1 : Int} {a_2 : Int} {w : World} {K : Value → World → Prop} (h : hollowayref1_One_sh op1 a_2 w K) : Calls Tryz.prog fn_hollowayref1_One #[.int .i64 op1, .int .i64 a_2] w fun e w' => ∃ v, e = .returned v ∧ K v w' :=
   lift_calls (A := hollowayref1_One_an) (c := bodyOf Tryz.f50) (args := [.int .i64 op1, .int .i64 a_2]) orc orc_wide Tryz.func50 (by kernel_rfl) (by kernel_rfl) (Eq.mp (by kernel_rfl : hollowayref1_One_sh op1 a_2 w K = wpc orc Tryz.f50.ntmps hollowayref1_One_an (bodyOf Tryz.f50) (argl 0 [.int .i64 op1, .int .i64 a_2]) w (retQ orc Tryz.f50.results.toList K)) h)

def hollowayref1_Put_j1 (base2 : Int) (u7 : Int) (s8 : ByteArray) (I1 : Int → ByteArray → World → Prop) (μ1 : Int → ByteArray → World → Nat) (w6 : World) (v_1 : Int) (b12 : Bool) (w11 : World) (K : Value → World → Prop) : Prop :=
 brB b12
 ((IntKind.wrap .u64 base2) ≠ 0 ∧ 0 ≤ (wr (Int.tmod u7 (IntKind.wrap .u64 base2))) ∧ (wr (Int.tmod u7 (IntKind.wrap .u64 base2))) ≤ (wr ((wr (Int.tmod u7 (IntKind.wrap .u64 base2))) + (1 : Int))) ∧ (wr ((wr (Int.tmod u7 (IntKind.wrap .u64 base2))) + (1 : Int))) ≤ ((bs [48, 49, 50, 51, 52, 53, 54, 55, 56, 57, 65, 66, 67, 68, 69, 70, 71, 72, 73, 74, 75, 76, 77, 78, 79, 80, 81, 82, 83, 84, 85, 86, 87, 88, 89, 90]).size : Int) ∧ 
 (((ByteArray.extract (bs [48, 49, 50, 51, 52, 53, 54, 55, 56, 57, 65, 66, 67, 68, 69, 70, 71, 72, 73, 74, 75, 76, 77, 78, 79, 80, 81, 82, 83, 84, 85, 86, 87, 88, 89, 90]) (Int.toNat (wr (Int.tmod u7 (IntKind.wrap .u64 base2)))) (Int.toNat (wr ((wr (Int.tmod u7 (IntKind.wrap .u64 base2))) + (1 : Int)))))).size : Int) + ((s8).size : Int) ≤ 9223372036854775807 ∧ (IntKind.wrap .u64 base2) ≠ 0 ∧ I1 (IntKind.wrap .u64 (Int.tdiv u7 (IntKind.wrap .u64 base2))) ((ByteArray.extract (bs [48, 49, 50, 51, 52, 53, 54, 55, 56, 57, 65, 66, 67, 68, 69, 70, 71, 72, 73, 74, 75, 76, 77, 78, 79, 80, 81, 82, 83, 84, 85, 86, 87, 88, 89, 90]) (Int.toNat (wr (Int.tmod u7 (IntKind.wrap .u64 base2)))) (Int.toNat (wr ((wr (Int.tmod u7 (IntKind.wrap .u64 base2))) + (1 : Int))))) ++ s8) w11 ∧ μ1 (IntKind.wrap .u64 (Int.tdiv u7 (IntKind.wrap .u64 base2))) ((ByteArray.extract (bs [48, 49, 50, 51, 52, 53, 54, 55, 56, 57, 65, 66, 67, 68, 69, 70, 71, 72, 73, 74, 75, 76, 77, 78, 79, 80, 81, 82, 83, 84, 85, 86, 87, 88, 89, 90]) (Int.toNat (wr (Int.tmod u7 (IntKind.wrap .u64 base2)))) (Int.toNat (wr ((wr (Int.tmod u7 (IntKind.wrap .u64 base2))) + (1 : Int))))) ++ s8) w11 < μ1 u7 s8 w6)
 (brB (decide (v_1 < (0 : Int)))
 ((((bs [45])).size : Int) + ((s8).size : Int) ≤ 9223372036854775807 ∧ K (.string ((bs [45]) ++ s8)) w11)
 (K (.string s8) w11))
def hollowayref1_Put_sh (v_1 : Int) (base2 : Int) (w : World) (K : Value → World → Prop) : Prop :=
 ∃ J3 : Bool → World → Prop, (∀ (b4 : Bool) (w3 : World), J3 b4 w3 →
 brB b4
 (K (.string (bs [])) w3)
 (∃ J6 : Int → World → Prop, (∀ (u13 : Int) (w5 : World), J6 u13 w5 →
 ∃ (I1 : Int → ByteArray → World → Prop) (μ1 : Int → ByteArray → World → Nat), I1 u13 (bs []) w5 ∧ ∀ (u7 : Int) (s8 : ByteArray) (w6 : World), I1 u7 s8 w6 →
 brB (decide (u7 > (0 : Int)))
 (hollowayref1_Put_j1 base2 u7 s8 I1 (μ1) w6 v_1 true w6 K)
 (hollowayref1_Put_j1 base2 u7 s8 I1 (μ1) w6 v_1 (s8.toList == (bs []).toList) w6 K)) ∧
 brB (decide (v_1 < (0 : Int)))
 (J6 (IntKind.wrap .u64 (0 - (IntKind.wrap .u64 v_1))) w3)
 (J6 (IntKind.wrap .u64 v_1) w3))) ∧
 brB (decide (base2 < (2 : Int)))
 (J3 true w)
 (J3 (decide (base2 > (36 : Int))) w)
def hollowayref1_Put_an : An := ⟨[(7, [(5, .int .u64), (6, .str)])], [], [(2, [(13, .bool)]), (6, [(5, .int .u64)])]⟩
theorem hollowayref1_Put_lift {v_1 : Int} {base2 : Int} {w : World} {K : Value → World → Prop} (h : hollowayref1_Put_sh v_1 base2 w K) : Calls Tryz.prog fn_hollowayref1_Put #[.int .i64 v_1, .int .i64 base2] w fun e w' => ∃ v, e = .returned v ∧ K v w' :=
   lift_calls (A := hollowayref1_Put_an) (c := bodyOf Tryz.f52) (args := [.int .i64 v_1, .int .i64 base2]) orc orc_wide Tryz.func52 (by kernel_rfl) (by kernel_rfl) (Eq.mp (by kernel_rfl : hollowayref1_Put_sh v_1 base2 w K = wpc orc Tryz.f52.ntmps hollowayref1_Put_an (bodyOf Tryz.f52) (argl 0 [.int .i64 v_1, .int .i64 base2]) w (retQ orc Tryz.f52.results.toList K)) h)

def hollowayref1_Floor_sh (a_1 : Int) (b_2 : Int) (w : World) (K : Value → World → Prop) : Prop :=
 b_2 ≠ 0 ∧ ∃ J5 : Bool → World → Prop, (∀ (b4 : Bool) (w3 : World), J5 b4 w3 →
 brB b4
 (K (.tuple #[.int .i64 (wr ((wr (Int.tdiv a_1 b_2)) - (1 : Int))), .int .i64 (wr ((wr (a_1 - (wr ((wr (Int.tdiv a_1 b_2)) * b_2)))) + b_2))]) w3)
 (K (.tuple #[.int .i64 (wr (Int.tdiv a_1 b_2)), .int .i64 (wr (a_1 - (wr ((wr (Int.tdiv a_1 b_2)) * b_2))))]) w3)) ∧
 brB ((wr (a_1 - (wr ((wr (Int.tdiv a_1 b_2)) * b_2)))) != (0 : Int))
 (J5 (!((decide ((wr (a_1 - (wr ((wr (Int.tdiv a_1 b_2)) * b_2)))) < (0 : Int))) == (decide (b_2 < (0 : Int))))) w)
 (J5 false w)
def hollowayref1_Floor_an : An := ⟨[], [], [(4, [(24, .bool)])]⟩
theorem hollowayref1_Floor_lift {a_1 : Int} {b_2 : Int} {w : World} {K : Value → World → Prop} (h : hollowayref1_Floor_sh a_1 b_2 w K) : Calls Tryz.prog fn_hollowayref1_Floor #[.int .i64 a_1, .int .i64 b_2] w fun e w' => ∃ v, e = .returned v ∧ K v w' :=
   lift_calls (A := hollowayref1_Floor_an) (c := bodyOf Tryz.f100) (args := [.int .i64 a_1, .int .i64 b_2]) orc orc_wide Tryz.func100 (by kernel_rfl) (by kernel_rfl) (Eq.mp (by kernel_rfl : hollowayref1_Floor_sh a_1 b_2 w K = wpc orc Tryz.f100.ntmps hollowayref1_Floor_an (bodyOf Tryz.f100) (argl 0 [.int .i64 a_1, .int .i64 b_2]) w (retQ orc Tryz.f100.results.toList K)) h)

def hollowayref1_Flag_sh (is1 : Bool) (w : World) (K : Value → World → Prop) : Prop :=
 brB is1
 (K (.int .i64 (-1 : Int)) w)
 (K (.int .i64 (0 : Int)) w)
def hollowayref1_Flag_an : An := ⟨[], [], []⟩
theorem hollowayref1_Flag_lift {is1 : Bool} {w : World} {K : Value → World → Prop} (h : hollowayref1_Flag_sh is1 w K) : Calls Tryz.prog fn_hollowayref1_Flag #[.bool is1] w fun e w' => ∃ v, e = .returned v ∧ K v w' :=
   lift_calls (A := hollowayref1_Flag_an) (c := bodyOf Tryz.f101) (args := [.bool is1]) orc orc_wide Tryz.func101 (by kernel_rfl) (by kernel_rfl) (Eq.mp (by kernel_rfl : hollowayref1_Flag_sh is1 w K = wpc orc Tryz.f101.ntmps hollowayref1_Flag_an (bodyOf Tryz.f101) (argl 0 [.bool is1]) w (retQ orc Tryz.f101.results.toList K)) h)

end Go.Proofs.YtblmoilneiffgaaGreat

/- Functions of Hollowayref9, read without their frames; that each is enough. Printed by a program of mine (wip/lift/gen.py). -/
set_option maxRecDepth 100000
namespace Go.Proofs.YtblmoilneiffgaaGreat
open Go.RowKit

def hollowayref9_Right_sh (s1 : Int) (s2 : Int) (s3 : Sl) (s4 : Sl) (s5 : Sl) (s6 : ByteArray) (s7 : ByteArray) (s8 : Int) (s9 : Int) (s10 : Int) (w : World) (K : Value → World → Prop) : Prop :=
 ∀ (b11 : Nat) (w12 : World), b11 = w.heap.size → w12 = World.alloc w (.cells #[.int .i64 s1, .int .i64 s2, s3.val, s4.val, s5.val, .string s6, .string s7, .int .i64 s8, .int .i64 s9, .int .i64 s10] T_api_State) →
 ∃ s13 : Sl, w12.cell? ⟨b11, 2, none⟩ = some (s13.val) ∧
 brB (decide ((s13.len : Int) ≤ (48 : Int)))
 (∃ s14 : Sl, w12.cell? ⟨b11, 3, none⟩ = some (s14.val) ∧
 brB (decide ((s14.len : Int) ≤ (48 : Int)))
 (∃ s15 : Sl, w12.cell? ⟨b11, 4, none⟩ = some (s15.val) ∧
 brB (decide ((s15.len : Int) ≤ (3000 : Int)))
 (∃ t16 : ByteArray, w12.cell? ⟨b11, 5, none⟩ = some (.string t16) ∧
 brB (decide ((t16.size : Int) ≤ (2000 : Int)))
 (∃ n17 : Int, w12.cell? ⟨b11, 7, none⟩ = some (.int .i64 n17) ∧
 brB (decide (n17 ≥ (0 : Int)))
 (∃ n18 : Int, w12.cell? ⟨b11, 7, none⟩ = some (.int .i64 n18) ∧
 ∃ t19 : ByteArray, w12.cell? ⟨b11, 6, none⟩ = some (.string t19) ∧
 brB (decide (n18 ≤ (t19.size : Int)))
 (∃ n20 : Int, w12.cell? ⟨b11, 8, none⟩ = some (.int .i64 n20) ∧
 brB (decide (n20 ≥ (0 : Int)))
 (∃ n21 : Int, w12.cell? ⟨b11, 8, none⟩ = some (.int .i64 n21) ∧
 K (.bool (decide (n21 ≤ (2 : Int)))) w12)
 (K (.bool false) w12))
 (K (.bool false) w12))
 (K (.bool false) w12))
 (K (.bool false) w12))
 (K (.bool false) w12))
 (K (.bool false) w12))
 (K (.bool false) w12)
def hollowayref9_Right_an : An := ⟨[], [], []⟩
theorem hollowayref9_Right_lift {s1 : Int} {s2 : Int} {s3 : Sl} {s4 : Sl} {s5 : Sl} {s6 : ByteArray} {s7 : ByteArray} {s8 : Int} {s9 : Int} {s10 : Int} {w : World} {K : Value → World → Prop} (h : hollowayref9_Right_sh s1 s2 s3 s4 s5 s6 s7 s8 s9 s10 w K) : Calls Tryz.prog fn_hollowayref9_Right #[.agg #[.int .i64 s1, .int .i64 s2, s3.val, s4.val, s5.val, .string s6, .string s7, .int .i64 s8, .int .i64 s9, .int .i64 s10]] w fun e w' => ∃ v, e = .returned v ∧ K v w' :=
   lift_calls (A := hollowayref9_Right_an) (c := bodyOf Tryz.f37) (args := [.agg #[.int .i64 s1, .int .i64 s2, s3.val, s4.val, s5.val, .string s6, .string s7, .int .i64 s8, .int .i64 s9, .int .i64 s10]]) orc orc_wide Tryz.func37 (by kernel_rfl) (by kernel_rfl) (Eq.mp (by kernel_rfl : hollowayref9_Right_sh s1 s2 s3 s4 s5 s6 s7 s8 s9 s10 w K = wpc orc Tryz.f37.ntmps hollowayref9_Right_an (bodyOf Tryz.f37) (argl 0 [.agg #[.int .i64 s1, .int .i64 s2, s3.val, s4.val, s5.val, .string s6, .string s7, .int .i64 s8, .int .i64 s9, .int .i64 s10]]) w (retQ orc Tryz.f37.results.toList K)) h)

end Go.Proofs.YtblmoilneiffgaaGreat

/- Functions of Hollowaylaw9, read without their frames; that each is enough. Printed by a program of mine (wip/lift/gen.py). -/
set_option maxRecDepth 100000
namespace Go.Proofs.YtblmoilneiffgaaGreat
open Go.RowKit

def hollowaylaw9_Light_sh (s1 : Int) (s2 : Int) (s3 : Sl) (s4 : Sl) (s5 : Sl) (s6 : ByteArray) (s7 : ByteArray) (s8 : Int) (s9 : Int) (s10 : Int) (w : World) (K : Value → World → Prop) : Prop :=
 ∀ (b11 : Nat) (w12 : World), b11 = w.heap.size → w12 = World.alloc w (.cells #[.int .i64 s1, .int .i64 s2, s3.val, s4.val, s5.val, .string s6, .string s7, .int .i64 s8, .int .i64 s9, .int .i64 s10] T_api_State) →
 ∃ s13 : Sl, w12.cell? ⟨b11, 4, none⟩ = some (s13.val) ∧
 brB (decide ((s13.len : Int) ≤ (700 : Int)))
 (∃ t14 : ByteArray, w12.cell? ⟨b11, 6, none⟩ = some (.string t14) ∧
 brB (decide ((t14.size : Int) ≤ (300 : Int)))
 (∃ n15 n16 : Int, ∃ s17 s18 s19 : Sl, ∃ t20 t21 : ByteArray, ∃ n22 n23 n24 : Int, w12.cell? ⟨b11, 0, none⟩ = some (.int .i64 n15) ∧ w12.cell? ⟨b11, 1, none⟩ = some (.int .i64 n16) ∧ w12.cell? ⟨b11, 2, none⟩ = some (s17.val) ∧ w12.cell? ⟨b11, 3, none⟩ = some (s18.val) ∧ w12.cell? ⟨b11, 4, none⟩ = some (s19.val) ∧ w12.cell? ⟨b11, 5, none⟩ = some (.string t20) ∧ w12.cell? ⟨b11, 6, none⟩ = some (.string t21) ∧ w12.cell? ⟨b11, 7, none⟩ = some (.int .i64 n22) ∧ w12.cell? ⟨b11, 8, none⟩ = some (.int .i64 n23) ∧ w12.cell? ⟨b11, 9, none⟩ = some (.int .i64 n24) ∧
 Calls Tryz.prog fn_hollowayref9_Right #[.agg #[.int .i64 n15, .int .i64 n16, s17.val, s18.val, s19.val, .string t20, .string t21, .int .i64 n22, .int .i64 n23, .int .i64 n24]] w12 fun e25 w26 => ∃ b27 : Bool, e25 = .returned (.bool b27) ∧
 K (.bool b27) w26)
 (K (.bool false) w12))
 (K (.bool false) w12)
def hollowaylaw9_Light_an : An := ⟨[], [], []⟩
theorem hollowaylaw9_Light_lift {s1 : Int} {s2 : Int} {s3 : Sl} {s4 : Sl} {s5 : Sl} {s6 : ByteArray} {s7 : ByteArray} {s8 : Int} {s9 : Int} {s10 : Int} {w : World} {K : Value → World → Prop} (h : hollowaylaw9_Light_sh s1 s2 s3 s4 s5 s6 s7 s8 s9 s10 w K) : Calls Tryz.prog fn_hollowaylaw9_Light #[.agg #[.int .i64 s1, .int .i64 s2, s3.val, s4.val, s5.val, .string s6, .string s7, .int .i64 s8, .int .i64 s9, .int .i64 s10]] w fun e w' => ∃ v, e = .returned v ∧ K v w' :=
   lift_calls (A := hollowaylaw9_Light_an) (c := bodyOf Tryz.f7) (args := [.agg #[.int .i64 s1, .int .i64 s2, s3.val, s4.val, s5.val, .string s6, .string s7, .int .i64 s8, .int .i64 s9, .int .i64 s10]]) orc orc_wide Tryz.func7 (by kernel_rfl) (by kernel_rfl) (Eq.mp (by kernel_rfl : hollowaylaw9_Light_sh s1 s2 s3 s4 s5 s6 s7 s8 s9 s10 w K = wpc orc Tryz.f7.ntmps hollowaylaw9_Light_an (bodyOf Tryz.f7) (argl 0 [.agg #[.int .i64 s1, .int .i64 s2, s3.val, s4.val, s5.val, .string s6, .string s7, .int .i64 s8, .int .i64 s9, .int .i64 s10]]) w (retQ orc Tryz.f7.results.toList K)) h)

end Go.Proofs.YtblmoilneiffgaaGreat

/- Functions of Hollowaylaw14, read without their frames; that each is enough. Printed by a program of mine (wip/lift/gen.py). -/
set_option maxRecDepth 100000
namespace Go.Proofs.YtblmoilneiffgaaGreat
open Go.RowKit

def hollowaylaw14_Light_j1 (I1 : Int → World → Prop) (i13 : Int) (μ1 : Int → World → Nat) (w12 : World) (b10 : Nat) (b18 : Bool) (w17 : World) (K : Value → World → Prop) : Prop :=
 brB b18
 (∃ J7 : Bool → World → Prop, (∀ (b26 : Bool) (w25 : World), J7 b26 w25 →
 brB b26
 (K (.bool false) w25)
 (I1 (wr (i13 + (1 : Int))) w25 ∧ μ1 (wr (i13 + (1 : Int))) w25 < μ1 i13 w12)) ∧
 ∃ s19 : Sl, w17.cell? ⟨b10, 6, none⟩ = some (s19.val) ∧
 ∃ a20 : Addr, s19.ptr = some a20 ∧ 0 ≤ i13 ∧ i13 < (s19.len : Int) ∧
 ∃ s21 : Sl, w17.cell? (Addr.add (Addr.add a20 (Int.toNat i13 * 4)) 2) = some (s21.val) ∧
 brB (decide ((s21.len : Int) > (60 : Int)))
 (J7 true w17)
 (∃ s22 : Sl, w17.cell? ⟨b10, 6, none⟩ = some (s22.val) ∧
 ∃ a23 : Addr, s22.ptr = some a23 ∧ 0 ≤ i13 ∧ i13 < (s22.len : Int) ∧
 ∃ s24 : Sl, w17.cell? (Addr.add (Addr.add a23 (Int.toNat i13 * 4)) 3) = some (s24.val) ∧
 J7 (decide ((s24.len : Int) > (60 : Int))) w17))
 (∃ s27 : Sl, w17.cell? ⟨b10, 5, none⟩ = some (s27.val) ∧
 brB (decide ((s27.len : Int) ≤ (120 : Int)))
 (∃ s28 : Sl, w17.cell? ⟨b10, 6, none⟩ = some (s28.val) ∧
 brB (decide ((s28.len : Int) ≤ (60 : Int)))
 (∃ s29 : Sl, w17.cell? ⟨b10, 8, none⟩ = some (s29.val) ∧
 K (.bool (decide ((s29.len : Int) ≤ (100 : Int)))) w17)
 (K (.bool false) w17))
 (K (.bool false) w17))
def hollowaylaw14_Light_sh (t1 : Int) (t2 : Int) (t3 : Int) (t4 : Int) (t5 : Int) (t6 : Sl) (t7 : Sl) (t8 : Int) (t9 : Sl) (w : World) (K : Value → World → Prop) : Prop :=
 ∀ (b10 : Nat) (w11 : World), b10 = w.heap.size → w11 = World.alloc w (.cells #[.int .i64 t1, .int .i64 t2, .int .i64 t3, .int .i64 t4, .int .i64 t5, t6.val, t7.val, .int .i64 t8, t9.val] T_api_Trace) →
 ∃ (I1 : Int → World → Prop) (μ1 : Int → World → Nat), I1 (0 : Int) w11 ∧ ∀ (i13 : Int) (w12 : World), I1 i13 w12 →
 ∃ s14 : Sl, w12.cell? ⟨b10, 6, none⟩ = some (s14.val) ∧
 brB (decide (i13 < (s14.len : Int)))
 (hollowaylaw14_Light_j1 I1 i13 (μ1) w12 b10 (decide (i13 < (100 : Int))) w12 K)
 (hollowaylaw14_Light_j1 I1 i13 (μ1) w12 b10 false w12 K)
def hollowaylaw14_Light_an : An := ⟨[(2, [(3, .int .i64)])], [], [(5, [(32, .bool)])]⟩
theorem hollowaylaw14_Light_lift {t1 : Int} {t2 : Int} {t3 : Int} {t4 : Int} {t5 : Int} {t6 : Sl} {t7 : Sl} {t8 : Int} {t9 : Sl} {w : World} {K : Value → World → Prop} (h : hollowaylaw14_Light_sh t1 t2 t3 t4 t5 t6 t7 t8 t9 w K) : Calls Tryz.prog fn_hollowaylaw14_Light #[.agg #[.int .i64 t1, .int .i64 t2, .int .i64 t3, .int .i64 t4, .int .i64 t5, t6.val, t7.val, .int .i64 t8, t9.val]] w fun e w' => ∃ v, e = .returned v ∧ K v w' :=
   lift_calls (A := hollowaylaw14_Light_an) (c := bodyOf Tryz.f6) (args := [.agg #[.int .i64 t1, .int .i64 t2, .int .i64 t3, .int .i64 t4, .int .i64 t5, t6.val, t7.val, .int .i64 t8, t9.val]]) orc orc_wide Tryz.func6 (by kernel_rfl) (by kernel_rfl) (Eq.mp (by kernel_rfl : hollowaylaw14_Light_sh t1 t2 t3 t4 t5 t6 t7 t8 t9 w K = wpc orc Tryz.f6.ntmps hollowaylaw14_Light_an (bodyOf Tryz.f6) (argl 0 [.agg #[.int .i64 t1, .int .i64 t2, .int .i64 t3, .int .i64 t4, .int .i64 t5, t6.val, t7.val, .int .i64 t8, t9.val]]) w (retQ orc Tryz.f6.results.toList K)) h)

end Go.Proofs.YtblmoilneiffgaaGreat
