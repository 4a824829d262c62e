/- What the lift is told of the program: types and functions, each fact proved. Printed by a program of mine (wip/lift/gen.py). -/
import Derived.Test.YtijoigpggphajaaProg
import Derived.Test.YtijoigpggphajaaLiftH
set_option maxRecDepth 100000
namespace Go.Proofs.Ytijoigpggphajaa
open Go.RowKit

@[reducible] def T_x : TypeId := 0
@[reducible] def T_int : TypeId := 3
@[reducible] def T_bool : TypeId := 4
@[reducible] def T_uint8 : TypeId := 5
@[reducible] def T_string : TypeId := 9
@[reducible] def T_sl_int : TypeId := 22
@[reducible] def T_p_cache_Cache : TypeId := 24
@[reducible] def T_sl_api_Ins : TypeId := 27
@[reducible] def T_sl_api_Out : TypeId := 28
@[reducible] def T_api_Trace : TypeId := 30
@[reducible] def T_sl_hollowaylaw21_Op : TypeId := 41
@[reducible] def T_sl_sl_string : TypeId := 43
@[reducible] def T_sl_sl_int : TypeId := 44
@[reducible] def T_sl_sl_api_Word : TypeId := 45
@[reducible] def T_sl_sl_api_Seen : TypeId := 46
@[reducible] def T_sl_sl_api_Ins : TypeId := 47
@[reducible] def T_sl_sl_api_Out : TypeId := 48
@[reducible] def T_hollowaybook_Book : TypeId := 50
@[reducible] def T_hollowaylaw21_Op : TypeId := 52
@[reducible] def T_api_Ins : TypeId := 54
@[reducible] def T_sl_uint8 : TypeId := 60
@[reducible] def T_p_words_Words : TypeId := 70
@[reducible] def T_api_Word : TypeId := 74
@[reducible] def T_sl_hollowaylaw7_Op : TypeId := 77
@[reducible] def T_sl_api_Word : TypeId := 78
@[reducible] def T_hollowaylaw7_Op : TypeId := 81
@[reducible] def T_sl_api_Trace : TypeId := 86
@[reducible] def T_cache_Cache : TypeId := 88
@[reducible] def T_api_Out : TypeId := 93
@[reducible] def T_op_row : TypeId := 112
@[reducible] def T_48_op_row : TypeId := 115
@[reducible] def T_sl_string : TypeId := 117
@[reducible] def T_words_Words : TypeId := 119
@[reducible] def T_sl_api_Seen : TypeId := 128
@[reducible] def T_api_Seen : TypeId := 135
@[reducible] def T_p_uint8 : TypeId := 138
@[reducible] def fn_hollowaylaw21_CacheSmall : FuncId := 3
@[reducible] def fn_hollowaylaw21_CacheUses : FuncId := 4
@[reducible] def fn_hollowaylaw21_CachePlays : FuncId := 5
@[reducible] def fn_hollowaylaw6_OpNames : FuncId := 6
@[reducible] def fn_hollowaylaw6_OpTells : FuncId := 7
@[reducible] def fn_hollowaylaw6_OpBalance : FuncId := 8
@[reducible] def fn_hollowaylaw7_WordsCase : FuncId := 9
@[reducible] def fn_hollowaylaw7_WordsMany : FuncId := 10
@[reducible] def fn_hollowaylaw7_WordsPlay : FuncId := 11
@[reducible] def fn_hollowaylaw21_alive : FuncId := 12
@[reducible] def fn_cache_New : FuncId := 13
@[reducible] def fn_cache_Cache_Put : FuncId := 14
@[reducible] def fn_hollowaylaw21_trace : FuncId := 15
@[reducible] def fn_cache_Cache_Len : FuncId := 16
@[reducible] def fn_cache_Cache_Has : FuncId := 17
@[reducible] def fn_cache_Cache_Starts : FuncId := 18
@[reducible] def fn_cache_Cache_Get : FuncId := 19
@[reducible] def fn_cache_Cache_Eldest : FuncId := 20
@[reducible] def fn_hollowaybook_Book_Ints : FuncId := 21
@[reducible] def fn_hollowaybook_SameInts : FuncId := 22
@[reducible] def fn_hollowaybook_SameTrace : FuncId := 23
@[reducible] def fn_hollowaybook_Book_Trace : FuncId := 24
@[reducible] def fn_cache_Cache_Drop : FuncId := 25
@[reducible] def fn_hollowaybook_Book_Apart : FuncId := 26
@[reducible] def fn_op_Right : FuncId := 27
@[reducible] def fn_hollowaylaw6_alive : FuncId := 28
@[reducible] def fn_op_Name : FuncId := 29
@[reducible] def fn_op_Of : FuncId := 30
@[reducible] def fn_op_Takes : FuncId := 31
@[reducible] def fn_op_Gives : FuncId := 32
@[reducible] def fn_hollowayref1_Moves : FuncId := 33
@[reducible] def fn_hollowayref1_Same : FuncId := 34
@[reducible] def fn_hollowayref1_Name : FuncId := 35
@[reducible] def fn_hollowayref1_Op : FuncId := 36
@[reducible] def fn_op_Arg : FuncId := 37
@[reducible] def fn_hollowayref1_Arg : FuncId := 38
@[reducible] def fn_op_Plain : FuncId := 39
@[reducible] def fn_hollowayref1_Plain : FuncId := 40
@[reducible] def fn_words_Right : FuncId := 41
@[reducible] def fn_hollowaylaw7_alive : FuncId := 42
@[reducible] def fn_words_New : FuncId := 43
@[reducible] def fn_words_Words_Add : FuncId := 44
@[reducible] def fn_words_Words_Find : FuncId := 45
@[reducible] def fn_words_Same : FuncId := 46
@[reducible] def fn_hollowayref1_Word : FuncId := 47
@[reducible] def fn_words_Words_Len : FuncId := 48
@[reducible] def fn_words_Words_Cut : FuncId := 49
@[reducible] def fn_hollowayref1_Words : FuncId := 50
@[reducible] def fn_words_Words_Immediate : FuncId := 51
@[reducible] def fn_words_Words_Copy : FuncId := 52
@[reducible] def fn_words_Words_All : FuncId := 53
@[reducible] def fn_hollowaybook_Book_Words : FuncId := 54
@[reducible] def fn_hollowayref1_Find : FuncId := 55
@[reducible] def fn_hollowaybook_SameWords : FuncId := 56
@[reducible] def fn_cache_Cache_place : FuncId := 57
@[reducible] def fn_slices_Delete_sl_api_Trace_api_Trace : FuncId := 58
@[reducible] def fn_cache_own : FuncId := 59
@[reducible] def fn_hollowaybook_copyInts : FuncId := 60
@[reducible] def fn_hollowaybook_SameCodes : FuncId := 61
@[reducible] def fn_hollowaybook_SameExits : FuncId := 62
@[reducible] def fn_hollowaybook_Book_Codes : FuncId := 63
@[reducible] def fn_hollowaybook_Book_Exits : FuncId := 64
@[reducible] def fn_hollowaybook_Book_stillTexts : FuncId := 65
@[reducible] def fn_hollowaybook_Book_stillInts : FuncId := 66
@[reducible] def fn_hollowaybook_Book_stillWords : FuncId := 67
@[reducible] def fn_hollowaybook_Book_stillSeens : FuncId := 68
@[reducible] def fn_hollowaybook_Book_stillCodes : FuncId := 69
@[reducible] def fn_hollowaybook_Book_stillExits : FuncId := 70
@[reducible] def fn_hollowaybook_Book_putExits : FuncId := 71
@[reducible] def fn_hollowaybook_Book_putTexts : FuncId := 72
@[reducible] def fn_hollowaybook_Book_putInts : FuncId := 73
@[reducible] def fn_hollowaybook_Book_putWords : FuncId := 74
@[reducible] def fn_hollowaybook_Book_putSeens : FuncId := 75
@[reducible] def fn_hollowaybook_Book_putCodes : FuncId := 76
@[reducible] def fn_hollowaybook_Book_growTexts : FuncId := 77
@[reducible] def fn_hollowaybook_Book_growInts : FuncId := 78
@[reducible] def fn_hollowaybook_Book_growWords : FuncId := 79
@[reducible] def fn_hollowaybook_Book_growSeens : FuncId := 80
@[reducible] def fn_hollowaybook_Book_growCodes : FuncId := 81
@[reducible] def fn_hollowaybook_Book_growExits : FuncId := 82
@[reducible] def fn_hollowaybook_markedTexts : FuncId := 83
@[reducible] def fn_hollowaybook_markedInts : FuncId := 84
@[reducible] def fn_hollowaybook_markedWords : FuncId := 85
@[reducible] def fn_hollowaybook_markedSeens : FuncId := 86
@[reducible] def fn_hollowaybook_markedCodes : FuncId := 87
@[reducible] def fn_hollowaybook_markedExits : FuncId := 88
@[reducible] def fn_op_of : FuncId := 89
@[reducible] def fn_strings_Clone : FuncId := 90
@[reducible] def fn_op_table : FuncId := 91
@[reducible] def fn_op_same : FuncId := 92
@[reducible] def fn_hollowayref1_IsTwo : FuncId := 93
@[reducible] def fn_hollowayref1_IsOne : FuncId := 94
@[reducible] def fn_hollowayref1_great : FuncId := 95
@[reducible] def fn_words_first : FuncId := 96
@[reducible] def fn_words_great : FuncId := 97
@[reducible] def fn_slices_Clone_sl_api_Word_api_Word : FuncId := 98
@[reducible] def fn_hollowaybook_copyWords : FuncId := 99
@[reducible] def fn_slices_IndexFunc_sl_api_Trace_api_Trace : FuncId := 100
@[reducible] def fn_cache_Cache_place_1 : FuncId := 101
@[reducible] def fn_slices_Clone_sl_api_Ins_api_Ins : FuncId := 102
@[reducible] def fn_slices_Clone_sl_api_Out_api_Out : FuncId := 103
@[reducible] def fn_slices_Clone_sl_int_int : FuncId := 104
@[reducible] def fn_hollowaybook_copyCodes : FuncId := 105
@[reducible] def fn_hollowaybook_copyExits : FuncId := 106
@[reducible] def fn_hollowaybook_SameTexts : FuncId := 107
@[reducible] def fn_hollowaybook_SameSeens : FuncId := 108
@[reducible] def fn_hollowaybook_markExits : FuncId := 109
@[reducible] def fn_hollowaybook_markTexts : FuncId := 110
@[reducible] def fn_hollowaybook_markInts : FuncId := 111
@[reducible] def fn_hollowaybook_markWords : FuncId := 112
@[reducible] def fn_hollowaybook_markSeens : FuncId := 113
@[reducible] def fn_hollowaybook_markCodes : FuncId := 114
@[reducible] def fn_internal_stringslite_Clone : FuncId := 115
@[reducible] def fn_hollowaybook_name : FuncId := 116
def orc_ts : List (Nat × Ti) := [(3, ⟨.int .i64, false, [.int .i64]⟩),
  (4, ⟨.bool, false, [.bool]⟩),
  (5, ⟨.int .u8, false, [.int .u8]⟩),
  (9, ⟨.str, false, [.str]⟩),
  (22, ⟨.sl 3, false, [.sl]⟩),
  (24, ⟨.ptr, false, [.ptr]⟩),
  (27, ⟨.sl 54, false, [.sl]⟩),
  (28, ⟨.sl 93, false, [.sl]⟩),
  (30, ⟨.st [(0, 3), (1, 3), (2, 3), (3, 3), (4, 3), (5, 27), (6, 28), (7, 3), (8, 22)], true, [.int .i64, .int .i64, .int .i64, .int .i64, .int .i64, .sl, .sl, .int .i64, .sl]⟩),
  (41, ⟨.sl 52, false, [.sl]⟩),
  (43, ⟨.sl 117, false, [.sl]⟩),
  (44, ⟨.sl 22, false, [.sl]⟩),
  (45, ⟨.sl 78, false, [.sl]⟩),
  (46, ⟨.sl 128, false, [.sl]⟩),
  (47, ⟨.sl 27, false, [.sl]⟩),
  (48, ⟨.sl 28, false, [.sl]⟩),
  (50, ⟨.st [(0, 43), (1, 43), (2, 44), (3, 44), (4, 45), (5, 45), (6, 46), (7, 46), (8, 47), (9, 47), (10, 48), (11, 48)], true, [.sl, .sl, .sl, .sl, .sl, .sl, .sl, .sl, .sl, .sl, .sl, .sl]⟩),
  (52, ⟨.st [(0, 3), (1, 3), (2, 3)], true, [.int .i64, .int .i64, .int .i64]⟩),
  (54, ⟨.st [(0, 3), (1, 3), (2, 3), (3, 3), (4, 3)], true, [.int .i64, .int .i64, .int .i64, .int .i64, .int .i64]⟩),
  (60, ⟨.sl 5, false, [.sl]⟩),
  (70, ⟨.ptr, false, [.ptr]⟩),
  (74, ⟨.st [(0, 9), (1, 3), (2, 3), (3, 4)], true, [.str, .int .i64, .int .i64, .bool]⟩),
  (77, ⟨.sl 81, false, [.sl]⟩),
  (78, ⟨.sl 74, false, [.sl]⟩),
  (81, ⟨.st [(0, 3), (1, 3), (2, 74)], true, [.int .i64, .int .i64, .str, .int .i64, .int .i64, .bool]⟩),
  (86, ⟨.sl 30, false, [.sl]⟩),
  (88, ⟨.st [(0, 3), (1, 86)], true, [.int .i64, .sl]⟩),
  (93, ⟨.st [(0, 3), (1, 3), (2, 22), (3, 22)], true, [.int .i64, .int .i64, .sl, .sl]⟩),
  (112, ⟨.st [(0, 9), (1, 3), (2, 3), (3, 3), (4, 3)], true, [.str, .int .i64, .int .i64, .int .i64, .int .i64]⟩),
  (115, ⟨.arr 48 112, true, [.str, .int .i64, .int .i64, .int .i64, .int .i64, .str, .int .i64, .int .i64, .int .i64, .int .i64, .str, .int .i64, .int .i64, .int .i64, .int .i64, .str, .int .i64, .int .i64, .int .i64, .int .i64, .str, .int .i64, .int .i64, .int .i64, .int .i64, .str, .int .i64, .int .i64, .int .i64, .int .i64, .str, .int .i64, .int .i64, .int .i64, .int .i64, .str, .int .i64, .int .i64, .int .i64, .int .i64, .str, .int .i64, .int .i64, .int .i64, .int .i64, .str, .int .i64, .int .i64, .int .i64, .int .i64, .str, .int .i64, .int .i64, .int .i64, .int .i64, .str, .int .i64, .int .i64, .int .i64, .int .i64, .str, .int .i64, .int .i64, .int .i64, .int .i64, .str, .int .i64, .int .i64, .int .i64, .int .i64, .str, .int .i64, .int .i64, .int .i64, .int .i64, .str, .int .i64, .int .i64, .int .i64, .int .i64, .str, .int .i64, .int .i64, .int .i64, .int .i64, .str, .int .i64, .int .i64, .int .i64, .int .i64, .str, .int .i64, .int .i64, .int .i64, .int .i64, .str, .int .i64, .int .i64, .int .i64, .int .i64, .str, .int .i64, .int .i64, .int .i64, .int .i64, .str, .int .i64, .int .i64, .int .i64, .int .i64, .str, .int .i64, .int .i64, .int .i64, .int .i64, .str, .int .i64, .int .i64, .int .i64, .int .i64, .str, .int .i64, .int .i64, .int .i64, .int .i64, .str, .int .i64, .int .i64, .int .i64, .int .i64, .str, .int .i64, .int .i64, .int .i64, .int .i64, .str, .int .i64, .int .i64, .int .i64, .int .i64, .str, .int .i64, .int .i64, .int .i64, .int .i64, .str, .int .i64, .int .i64, .int .i64, .int .i64, .str, .int .i64, .int .i64, .int .i64, .int .i64, .str, .int .i64, .int .i64, .int .i64, .int .i64, .str, .int .i64, .int .i64, .int .i64, .int .i64, .str, .int .i64, .int .i64, .int .i64, .int .i64, .str, .int .i64, .int .i64, .int .i64, .int .i64, .str, .int .i64, .int .i64, .int .i64, .int .i64, .str, .int .i64, .int .i64, .int .i64, .int .i64, .str, .int .i64, .int .i64, .int .i64, .int .i64, .str, .int .i64, .int .i64, .int .i64, .int .i64, .str, .int .i64, .int .i64, .int .i64, .int .i64, .str, .int .i64, .int .i64, .int .i64, .int .i64, .str, .int .i64, .int .i64, .int .i64, .int .i64, .str, .int .i64, .int .i64, .int .i64, .int .i64, .str, .int .i64, .int .i64, .int .i64, .int .i64, .str, .int .i64, .int .i64, .int .i64, .int .i64, .str, .int .i64, .int .i64, .int .i64, .int .i64, .str, .int .i64, .int .i64, .int .i64, .int .i64, .str, .int .i64, .int .i64, .int .i64, .int .i64]⟩),
  (117, ⟨.sl 9, false, [.sl]⟩),
  (119, ⟨.st [(0, 78)], true, [.sl]⟩),
  (128, ⟨.sl 135, false, [.sl]⟩),
  (135, ⟨.st [(0, 3), (1, 3), (2, 3), (3, 3)], true, [.int .i64, .int .i64, .int .i64, .int .i64]⟩),
  (138, ⟨.ptr, false, [.ptr]⟩)]
theorem orc_tok : AllTi Try.prog orc_ts := ⟨⟨⟨_, Try.runUnderlying3, rfl⟩, Try.isAgg3, Try.sizeOf3⟩,
  ⟨⟨_, Try.runUnderlying4, rfl⟩, Try.isAgg4, Try.sizeOf4⟩,
  ⟨⟨_, Try.runUnderlying5, rfl⟩, Try.isAgg5, Try.sizeOf5⟩,
  ⟨⟨_, Try.runUnderlying9, rfl⟩, Try.isAgg9, Try.sizeOf9⟩,
  ⟨⟨_, Try.runUnderlying22, rfl⟩, Try.isAgg22, Try.sizeOf22⟩,
  ⟨⟨_, Try.runUnderlying24, ⟨_, rfl⟩⟩, Try.isAgg24, Try.sizeOf24⟩,
  ⟨⟨_, Try.runUnderlying27, rfl⟩, Try.isAgg27, Try.sizeOf27⟩,
  ⟨⟨_, Try.runUnderlying28, rfl⟩, Try.isAgg28, Try.sizeOf28⟩,
  ⟨⟨_, Try.runUnderlying30, ⟨_, rfl, rfl⟩⟩, Try.isAgg30, Try.sizeOf30⟩,
  ⟨⟨_, Try.runUnderlying41, rfl⟩, Try.isAgg41, Try.sizeOf41⟩,
  ⟨⟨_, Try.runUnderlying43, rfl⟩, Try.isAgg43, Try.sizeOf43⟩,
  ⟨⟨_, Try.runUnderlying44, rfl⟩, Try.isAgg44, Try.sizeOf44⟩,
  ⟨⟨_, Try.runUnderlying45, rfl⟩, Try.isAgg45, Try.sizeOf45⟩,
  ⟨⟨_, Try.runUnderlying46, rfl⟩, Try.isAgg46, Try.sizeOf46⟩,
  ⟨⟨_, Try.runUnderlying47, rfl⟩, Try.isAgg47, Try.sizeOf47⟩,
  ⟨⟨_, Try.runUnderlying48, rfl⟩, Try.isAgg48, Try.sizeOf48⟩,
  ⟨⟨_, Try.runUnderlying50, ⟨_, rfl, rfl⟩⟩, Try.isAgg50, Try.sizeOf50⟩,
  ⟨⟨_, Try.runUnderlying52, ⟨_, rfl, rfl⟩⟩, Try.isAgg52, Try.sizeOf52⟩,
  ⟨⟨_, Try.runUnderlying54, ⟨_, rfl, rfl⟩⟩, Try.isAgg54, Try.sizeOf54⟩,
  ⟨⟨_, Try.runUnderlying60, rfl⟩, Try.isAgg60, Try.sizeOf60⟩,
  ⟨⟨_, Try.runUnderlying70, ⟨_, rfl⟩⟩, Try.isAgg70, Try.sizeOf70⟩,
  ⟨⟨_, Try.runUnderlying74, ⟨_, rfl, rfl⟩⟩, Try.isAgg74, Try.sizeOf74⟩,
  ⟨⟨_, Try.runUnderlying77, rfl⟩, Try.isAgg77, Try.sizeOf77⟩,
  ⟨⟨_, Try.runUnderlying78, rfl⟩, Try.isAgg78, Try.sizeOf78⟩,
  ⟨⟨_, Try.runUnderlying81, ⟨_, rfl, rfl⟩⟩, Try.isAgg81, Try.sizeOf81⟩,
  ⟨⟨_, Try.runUnderlying86, rfl⟩, Try.isAgg86, Try.sizeOf86⟩,
  ⟨⟨_, Try.runUnderlying88, ⟨_, rfl, rfl⟩⟩, Try.isAgg88, Try.sizeOf88⟩,
  ⟨⟨_, Try.runUnderlying93, ⟨_, rfl, rfl⟩⟩, Try.isAgg93, Try.sizeOf93⟩,
  ⟨⟨_, Try.runUnderlying112, ⟨_, rfl, rfl⟩⟩, Try.isAgg112, Try.sizeOf112⟩,
  ⟨⟨_, Try.runUnderlying115, rfl⟩, Try.isAgg115, Try.sizeOf115⟩,
  ⟨⟨_, Try.runUnderlying117, rfl⟩, Try.isAgg117, Try.sizeOf117⟩,
  ⟨⟨_, Try.runUnderlying119, ⟨_, rfl, rfl⟩⟩, Try.isAgg119, Try.sizeOf119⟩,
  ⟨⟨_, Try.runUnderlying128, rfl⟩, Try.isAgg128, Try.sizeOf128⟩,
  ⟨⟨_, Try.runUnderlying135, ⟨_, rfl, rfl⟩⟩, Try.isAgg135, Try.sizeOf135⟩,
  ⟨⟨_, Try.runUnderlying138, ⟨_, rfl⟩⟩, Try.isAgg138, Try.sizeOf138⟩, trivial⟩
def orc_sg : List (Nat × List (Bool × List Kd)) := [(3, [(false, [.bool])]),
  (4, [(false, [.bool])]),
  (5, [(false, [.bool])]),
  (6, [(false, [.bool])]),
  (7, [(false, [.bool])]),
  (8, [(false, [.bool])]),
  (9, [(false, [.bool])]),
  (10, [(false, [.bool])]),
  (11, [(false, [.bool])]),
  (12, [(false, [.bool])]),
  (13, [(false, [.ptr])]),
  (14, [(false, [.sl])]),
  (15, [(true, [.int .i64, .int .i64, .int .i64, .int .i64, .int .i64, .sl, .sl, .int .i64, .sl])]),
  (16, [(false, [.int .i64])]),
  (17, [(false, [.bool])]),
  (18, [(false, [.sl])]),
  (19, [(true, [.int .i64, .int .i64, .int .i64, .int .i64, .int .i64, .sl, .sl, .int .i64, .sl]), (false, [.bool])]),
  (20, [(false, [.int .i64]), (false, [.bool])]),
  (21, []),
  (22, [(false, [.bool])]),
  (23, [(false, [.bool])]),
  (24, []),
  (25, [(false, [.bool])]),
  (26, [(false, [.bool])]),
  (27, [(false, [.bool])]),
  (28, [(false, [.bool])]),
  (29, [(false, [.str])]),
  (30, [(false, [.int .i64]), (false, [.bool])]),
  (31, [(false, [.int .i64]), (false, [.int .i64])]),
  (32, [(false, [.int .i64]), (false, [.int .i64])]),
  (33, [(false, [.int .i64]), (false, [.int .i64]), (false, [.int .i64]), (false, [.int .i64])]),
  (34, [(false, [.bool])]),
  (35, [(false, [.str])]),
  (36, [(false, [.bool])]),
  (37, [(false, [.bool])]),
  (38, [(false, [.bool])]),
  (39, [(false, [.bool])]),
  (40, [(false, [.bool])]),
  (41, [(false, [.bool])]),
  (42, [(false, [.bool])]),
  (43, [(false, [.ptr])]),
  (44, [(false, [.int .i64])]),
  (45, [(true, [.str, .int .i64, .int .i64, .bool]), (false, [.bool])]),
  (46, [(false, [.bool])]),
  (47, [(false, [.bool])]),
  (48, [(false, [.int .i64])]),
  (49, [(false, [.bool])]),
  (50, [(false, [.sl])]),
  (51, [(false, [.bool])]),
  (52, [(false, [.ptr])]),
  (53, [(false, [.sl])]),
  (54, []),
  (55, [(false, [.int .i64])]),
  (56, [(false, [.bool])]),
  (57, [(false, [.int .i64])]),
  (58, [(false, [.sl])]),
  (59, [(true, [.int .i64, .int .i64, .int .i64, .int .i64, .int .i64, .sl, .sl, .int .i64, .sl])]),
  (60, [(false, [.sl])]),
  (61, [(false, [.bool])]),
  (62, [(false, [.bool])]),
  (63, []),
  (64, []),
  (65, [(false, [.bool])]),
  (66, [(false, [.bool])]),
  (67, [(false, [.bool])]),
  (68, [(false, [.bool])]),
  (69, [(false, [.bool])]),
  (70, [(false, [.bool])]),
  (71, []),
  (72, []),
  (73, []),
  (74, []),
  (75, []),
  (76, []),
  (77, [(false, [.sl])]),
  (78, [(false, [.sl])]),
  (79, [(false, [.sl])]),
  (80, [(false, [.sl])]),
  (81, [(false, [.sl])]),
  (82, [(false, [.sl])]),
  (83, [(false, [.bool])]),
  (84, [(false, [.bool])]),
  (85, [(false, [.bool])]),
  (86, [(false, [.bool])]),
  (87, [(false, [.bool])]),
  (88, [(false, [.bool])]),
  (89, [(true, [.str, .int .i64, .int .i64, .int .i64, .int .i64])]),
  (90, [(false, [.str])]),
  (91, [(false, [.val])]),
  (92, [(false, [.bool])]),
  (93, [(false, [.bool])]),
  (94, [(false, [.bool])]),
  (95, [(false, [.str])]),
  (96, [(false, [.bool])]),
  (97, [(false, [.int .u8])]),
  (98, [(false, [.sl])]),
  (99, [(false, [.sl])]),
  (100, [(false, [.int .i64])]),
  (101, [(false, [.bool])]),
  (102, [(false, [.sl])]),
  (103, [(false, [.sl])]),
  (104, [(false, [.sl])]),
  (105, [(false, [.sl])]),
  (106, [(false, [.sl])]),
  (107, [(false, [.bool])]),
  (108, [(false, [.bool])]),
  (109, [(false, [.sl])]),
  (110, [(false, [.sl])]),
  (111, [(false, [.sl])]),
  (112, [(false, [.sl])]),
  (113, [(false, [.sl])]),
  (114, [(false, [.sl])]),
  (115, [(false, [.str])]),
  (116, [(false, [.str])])]
theorem orc_sok : AllSg Try.prog orc_sg := ⟨Try.call3,
  Try.call4,
  Try.call5,
  Try.call6,
  Try.call7,
  Try.call8,
  Try.call9,
  Try.call10,
  Try.call11,
  Try.call12,
  Try.call13,
  Try.call14,
  Try.call15,
  Try.call16,
  Try.call17,
  Try.call18,
  Try.call19,
  Try.call20,
  Try.call21,
  Try.call22,
  Try.call23,
  Try.call24,
  Try.call25,
  Try.call26,
  Try.call27,
  Try.call28,
  Try.call29,
  Try.call30,
  Try.call31,
  Try.call32,
  Try.call33,
  Try.call34,
  Try.call35,
  Try.call36,
  Try.call37,
  Try.call38,
  Try.call39,
  Try.call40,
  Try.call41,
  Try.call42,
  Try.call43,
  Try.call44,
  Try.call45,
  Try.call46,
  Try.call47,
  Try.call48,
  Try.call49,
  Try.call50,
  Try.call51,
  Try.call52,
  Try.call53,
  Try.call54,
  Try.call55,
  Try.call56,
  Try.call57,
  Try.call58,
  Try.call59,
  Try.call60,
  Try.call61,
  Try.call62,
  Try.call63,
  Try.call64,
  Try.call65,
  Try.call66,
  Try.call67,
  Try.call68,
  Try.call69,
  Try.call70,
  Try.call71,
  Try.call72,
  Try.call73,
  Try.call74,
  Try.call75,
  Try.call76,
  Try.call77,
  Try.call78,
  Try.call79,
  Try.call80,
  Try.call81,
  Try.call82,
  Try.call83,
  Try.call84,
  Try.call85,
  Try.call86,
  Try.call87,
  Try.call88,
  Try.call89,
  Try.call90,
  Try.call91,
  Try.call92,
  Try.call93,
  Try.call94,
  Try.call95,
  Try.call96,
  Try.call97,
  Try.call98,
  Try.call99,
  Try.call100,
  Try.call101,
  Try.call102,
  Try.call103,
  Try.call104,
  Try.call105,
  Try.call106,
  Try.call107,
  Try.call108,
  Try.call109,
  Try.call110,
  Try.call111,
  Try.call112,
  Try.call113,
  Try.call114,
  Try.call115,
  Try.call116, trivial⟩
def orc : Orc Try.prog := ⟨orc_ts, allTi_of orc_tok, orc_sg, allSg_of orc_sok⟩
theorem orc_wide : Try.prog.follows .mixedOrders = true := by kernel_rfl
end Go.Proofs.Ytijoigpggphajaa
