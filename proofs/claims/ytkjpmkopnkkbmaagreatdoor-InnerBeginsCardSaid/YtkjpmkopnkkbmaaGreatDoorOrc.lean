/- What the lift is told of the program: types and functions, each fact proved. Printed by a program of mine (wip/lift/gen.py). -/
import Derived.Test.YtkjpmkopnkkbmaaGreatDoorProg
import Derived.Test.YtkjpmkopnkkbmaaGreatDoorLiftH
set_option maxRecDepth 100000
namespace Go.Proofs.YtkjpmkopnkkbmaaGreatDoor
open Go.RowKit

@[reducible] def T_x : TypeId := 0
@[reducible] def T_int : TypeId := 3
@[reducible] def T_bool : TypeId := 4
@[reducible] def T_uint8 : TypeId := 5
@[reducible] def T_string : TypeId := 9
@[reducible] def T_interface : TypeId := 20
@[reducible] def T_sl_int : TypeId := 22
@[reducible] def T_api_State : TypeId := 24
@[reducible] def T_sl_sl_string : TypeId := 27
@[reducible] def T_sl_sl_int : TypeId := 28
@[reducible] def T_sl_sl_api_Word : TypeId := 29
@[reducible] def T_sl_sl_api_Seen : TypeId := 30
@[reducible] def T_sl_sl_api_Ins : TypeId := 31
@[reducible] def T_sl_sl_api_Out : TypeId := 32
@[reducible] def T_hollowaybook_Book : TypeId := 34
@[reducible] def T_sl_api_Seen : TypeId := 45
@[reducible] def T_api_Recording : TypeId := 47
@[reducible] def T_api_Seen : TypeId := 52
@[reducible] def T_sl_uint8 : TypeId := 82
@[reducible] def T_inner_machine : TypeId := 86
@[reducible] def T_sl_bool : TypeId := 91
@[reducible] def T_sl_string : TypeId := 94
@[reducible] def T_sl_api_Word : TypeId := 96
@[reducible] def T_sl_api_Ins : TypeId := 98
@[reducible] def T_sl_api_Out : TypeId := 100
@[reducible] def T_api_Out : TypeId := 103
@[reducible] def T_api_Word : TypeId := 108
@[reducible] def T_api_Ins : TypeId := 112
@[reducible] def T_uint64 : TypeId := 115
@[reducible] def T_error : TypeId := 118
@[reducible] def T_uint : TypeId := 124
@[reducible] def T_fault_fault : TypeId := 133
@[reducible] def T_uint32 : TypeId := 143
@[reducible] def T_p_fault_seen : TypeId := 150
@[reducible] def T_fault_seen : TypeId := 152
@[reducible] def T_op_row : TypeId := 154
@[reducible] def T_p_fault_fault : TypeId := 156
@[reducible] def T_p_p_fault_fault : TypeId := 158
@[reducible] def T_slices_xorshift : TypeId := 159
@[reducible] def T_48_op_row : TypeId := 165
@[reducible] def T_p_error : TypeId := 224
@[reducible] def fn_hollowaylaw9_InnerBegins : FuncId := 3
@[reducible] def fn_hollowaylaw13_RecordStays : FuncId := 5
@[reducible] def fn_hollowaylaw13_RecordCells : FuncId := 6
@[reducible] def fn_hollowaylaw13_RecordTells : FuncId := 7
@[reducible] def fn_hollowaylaw9_alive : FuncId := 8
@[reducible] def fn_inner_Boot : FuncId := 9
@[reducible] def fn_hollowaybook_Book_State : FuncId := 10
@[reducible] def fn_hollowaybook_SameState : FuncId := 11
@[reducible] def fn_hollowayref9_Boot : FuncId := 12
@[reducible] def fn_inner_Right : FuncId := 13
@[reducible] def fn_hollowayref9_Right : FuncId := 14
@[reducible] def fn_inner_Copy : FuncId := 15
@[reducible] def fn_hollowaybook_LentState : FuncId := 16
@[reducible] def fn_inner_Enter : FuncId := 17
@[reducible] def fn_inner_Fault : FuncId := 18
@[reducible] def fn_hollowayref9_Enter : FuncId := 19
@[reducible] def fn_hollowayref9_Fault : FuncId := 20
@[reducible] def fn_hollowaybook_StaysState : FuncId := 21
@[reducible] def fn_hollowaybook_Book_Apart : FuncId := 22
@[reducible] def fn_hollowaylaw9_Light : FuncId := 23
@[reducible] def fn_inner_Step : FuncId := 24
@[reducible] def fn_hollowayref9_Step : FuncId := 25
@[reducible] def fn_inner_Run : FuncId := 26
@[reducible] def fn_hollowayref9_Run : FuncId := 27
@[reducible] def fn_hollowaylaw13_alive : FuncId := 28
@[reducible] def fn_record_Loop : FuncId := 29
@[reducible] def fn_record_Cells : FuncId := 30
@[reducible] def fn_hollowayref9_Copy : FuncId := 31
@[reducible] def fn_hollowaybook_SameSeens : FuncId := 32
@[reducible] def fn_hollowaybook_Book_Seens : FuncId := 33
@[reducible] def fn_hollowayref9_Record : FuncId := 34
@[reducible] def fn_hollowaylaw13_same : FuncId := 35
@[reducible] def fn_record_Right : FuncId := 36
@[reducible] def fn_hollowaybook_Book_Ints : FuncId := 37
@[reducible] def fn_record_After : FuncId := 38
@[reducible] def fn_hollowaybook_SameInts : FuncId := 39
@[reducible] def fn_hollowayref9_Cells : FuncId := 40
@[reducible] def fn_inner_Boot_1 : FuncId := 41
@[reducible] def fn_slices_Clone_sl_int_int : FuncId := 42
@[reducible] def fn_hollowaybook_LentInts : FuncId := 43
@[reducible] def fn_inner_faulty : FuncId := 44
@[reducible] def fn_hollowaybook_StaysInts : FuncId := 45
@[reducible] def fn_hollowaybook_Book_stillTexts : FuncId := 46
@[reducible] def fn_hollowaybook_Book_stillInts : FuncId := 47
@[reducible] def fn_hollowaybook_Book_stillWords : FuncId := 48
@[reducible] def fn_hollowaybook_Book_stillSeens : FuncId := 49
@[reducible] def fn_hollowaybook_Book_stillCodes : FuncId := 50
@[reducible] def fn_hollowaybook_Book_stillExits : FuncId := 51
@[reducible] def fn_hollowaybook_Book_putExits : FuncId := 52
@[reducible] def fn_hollowaybook_Book_putTexts : FuncId := 53
@[reducible] def fn_hollowaybook_Book_putInts : FuncId := 54
@[reducible] def fn_hollowaybook_Book_putWords : FuncId := 55
@[reducible] def fn_hollowaybook_Book_putSeens : FuncId := 56
@[reducible] def fn_hollowaybook_Book_putCodes : FuncId := 57
@[reducible] def fn_hollowaybook_Book_growTexts : FuncId := 58
@[reducible] def fn_hollowaybook_Book_growInts : FuncId := 59
@[reducible] def fn_hollowaybook_Book_growWords : FuncId := 60
@[reducible] def fn_hollowaybook_Book_growSeens : FuncId := 61
@[reducible] def fn_hollowaybook_Book_growCodes : FuncId := 62
@[reducible] def fn_hollowaybook_Book_growExits : FuncId := 63
@[reducible] def fn_hollowaybook_markedTexts : FuncId := 64
@[reducible] def fn_hollowaybook_markedInts : FuncId := 65
@[reducible] def fn_hollowaybook_markedWords : FuncId := 66
@[reducible] def fn_hollowaybook_markedSeens : FuncId := 67
@[reducible] def fn_hollowaybook_markedCodes : FuncId := 68
@[reducible] def fn_hollowaybook_markedExits : FuncId := 69
@[reducible] def fn_hollowayref1_Op : FuncId := 70
@[reducible] def fn_hollowayref1_Arg : FuncId := 71
@[reducible] def fn_hollowayref1_Moves : FuncId := 72
@[reducible] def fn_hollowayref1_IsTwo : FuncId := 73
@[reducible] def fn_hollowayref1_Two : FuncId := 74
@[reducible] def fn_hollowayref1_IsOne : FuncId := 75
@[reducible] def fn_hollowayref1_One : FuncId := 76
@[reducible] def fn_hollowayref1_Crosses : FuncId := 77
@[reducible] def fn_hollowayref1_Put : FuncId := 78
@[reducible] def fn_inner_machine_advance : FuncId := 79
@[reducible] def fn_record_next : FuncId := 80
@[reducible] def fn_record_arg : FuncId := 81
@[reducible] def fn_slices_Sort_sl_int_int : FuncId := 82
@[reducible] def fn_slices_Compact_sl_int_int : FuncId := 83
@[reducible] def fn_hollowaybook_copySeens : FuncId := 84
@[reducible] def fn_hollowayref1_Plain : FuncId := 85
@[reducible] def fn_hollowayref9_faults : FuncId := 86
@[reducible] def fn_record_single : FuncId := 87
@[reducible] def fn_hollowaybook_copyInts : FuncId := 88
@[reducible] def fn_inner_caught : FuncId := 89
@[reducible] def fn_hollowaybook_SameTexts : FuncId := 90
@[reducible] def fn_hollowaybook_SameWords : FuncId := 91
@[reducible] def fn_hollowaybook_SameCodes : FuncId := 92
@[reducible] def fn_hollowaybook_SameExits : FuncId := 93
@[reducible] def fn_hollowaybook_markExits : FuncId := 94
@[reducible] def fn_hollowaybook_markTexts : FuncId := 95
@[reducible] def fn_hollowaybook_markInts : FuncId := 96
@[reducible] def fn_hollowaybook_markWords : FuncId := 97
@[reducible] def fn_hollowaybook_markSeens : FuncId := 98
@[reducible] def fn_hollowaybook_markCodes : FuncId := 99
@[reducible] def fn_hollowayref1_Floor : FuncId := 100
@[reducible] def fn_hollowayref1_Flag : FuncId := 101
@[reducible] def fn_inner_machine_step : FuncId := 102
@[reducible] def fn_fault_Code : FuncId := 103
@[reducible] def fn_record_load : FuncId := 104
@[reducible] def fn_record_plain : FuncId := 105
@[reducible] def fn_record_place : FuncId := 106
@[reducible] def fn_op_Arg : FuncId := 107
@[reducible] def fn_slices_pdqsortOrdered_int : FuncId := 108
@[reducible] def fn_math_bits_Len : FuncId := 109
@[reducible] def fn_hollowaybook_name : FuncId := 110
@[reducible] def fn_inner_machine_load : FuncId := 111
@[reducible] def fn_inner_machine_call : FuncId := 112
@[reducible] def fn_op_Right : FuncId := 113
@[reducible] def fn_inner_machine_fails : FuncId := 114
@[reducible] def fn_inner_room : FuncId := 115
@[reducible] def fn_inner_machine_do : FuncId := 116
@[reducible] def fn_fault_Wrap : FuncId := 117
@[reducible] def fn_op_Name : FuncId := 118
@[reducible] def fn_fault_inner : FuncId := 119
@[reducible] def fn_op_Plain : FuncId := 120
@[reducible] def fn_slices_insertionSortOrdered_int : FuncId := 121
@[reducible] def fn_cmp_Less_int : FuncId := 127
@[reducible] def fn_math_bits_Len32 : FuncId := 130
@[reducible] def fn_math_bits_Len64 : FuncId := 131
@[reducible] def fn_inner_machine_back : FuncId := 132
@[reducible] def fn_fault_New : FuncId := 133
@[reducible] def fn_op_Takes : FuncId := 134
@[reducible] def fn_op_Gives : FuncId := 135
@[reducible] def fn_inner_machine_push : FuncId := 136
@[reducible] def fn_inner_machine_pop : FuncId := 137
@[reducible] def fn_inner_machine_popBack : FuncId := 138
@[reducible] def fn_inner_machine_shuffle : FuncId := 139
@[reducible] def fn_inner_machine_memory : FuncId := 140
@[reducible] def fn_inner_machine_backs : FuncId := 141
@[reducible] def fn_inner_machine_loop : FuncId := 142
@[reducible] def fn_inner_machine_say : FuncId := 143
@[reducible] def fn_inner_machine_key : FuncId := 144
@[reducible] def fn_inner_machine_flow : FuncId := 145
@[reducible] def fn_inner_machine_reckon : FuncId := 146
@[reducible] def fn_op_of : FuncId := 147
@[reducible] def fn_errors_As : FuncId := 148
@[reducible] def fn_slices_nextPowerOfTwo : FuncId := 150
@[reducible] def fn_slices_xorshift_Next : FuncId := 151
@[reducible] def fn_cmp_isNaN_int : FuncId := 154
@[reducible] def fn_inner_machine_swapped : FuncId := 155
@[reducible] def fn_cell_Crosses : FuncId := 156
@[reducible] def fn_digits_Put : FuncId := 157
@[reducible] def fn_inner_machine_endCatch : FuncId := 158
@[reducible] def fn_cell_One : FuncId := 159
@[reducible] def fn_cell_Two : FuncId := 160
@[reducible] def fn_op_table : FuncId := 161
@[reducible] def fn_digits_Right : FuncId := 167
@[reducible] def fn_cell_Flag : FuncId := 168
@[reducible] def fn_cell_Floor : FuncId := 169
@[reducible] def fn_cell_shift : FuncId := 170
@[reducible] def fn_cell_compare : FuncId := 171
@[reducible] def fn_internal_reflectlite_TypeOf : FuncId := 172
@[reducible] def fn_fault_seen_Unwrap : FuncId := 193
def orc_ts : List (Nat × Ti) := [(3, ⟨.int .i64, false, [.int .i64]⟩),
  (4, ⟨.bool, false, [.bool]⟩),
  (5, ⟨.int .u8, false, [.int .u8]⟩),
  (9, ⟨.str, false, [.str]⟩),
  (20, ⟨.other, false, [.val]⟩),
  (22, ⟨.sl 3, false, [.sl]⟩),
  (24, ⟨.st [(0, 3), (1, 3), (2, 22), (3, 22), (4, 22), (5, 9), (6, 9), (7, 3), (8, 3), (9, 3)], true, [.int .i64, .int .i64, .sl, .sl, .sl, .str, .str, .int .i64, .int .i64, .int .i64]⟩),
  (27, ⟨.sl 94, false, [.sl]⟩),
  (28, ⟨.sl 22, false, [.sl]⟩),
  (29, ⟨.sl 96, false, [.sl]⟩),
  (30, ⟨.sl 45, false, [.sl]⟩),
  (31, ⟨.sl 98, false, [.sl]⟩),
  (32, ⟨.sl 100, false, [.sl]⟩),
  (34, ⟨.st [(0, 27), (1, 27), (2, 28), (3, 28), (4, 29), (5, 29), (6, 30), (7, 30), (8, 31), (9, 31), (10, 32), (11, 32)], true, [.sl, .sl, .sl, .sl, .sl, .sl, .sl, .sl, .sl, .sl, .sl, .sl]⟩),
  (45, ⟨.sl 52, false, [.sl]⟩),
  (47, ⟨.st [(0, 3), (1, 3), (2, 4), (3, 45)], true, [.int .i64, .int .i64, .bool, .sl]⟩),
  (52, ⟨.st [(0, 3), (1, 3), (2, 3), (3, 3)], true, [.int .i64, .int .i64, .int .i64, .int .i64]⟩),
  (82, ⟨.sl 5, false, [.sl]⟩),
  (86, ⟨.st [(0, 24), (10, 4)], true, [.int .i64, .int .i64, .sl, .sl, .sl, .str, .str, .int .i64, .int .i64, .int .i64, .bool]⟩),
  (91, ⟨.sl 4, false, [.sl]⟩),
  (94, ⟨.sl 9, false, [.sl]⟩),
  (96, ⟨.sl 108, false, [.sl]⟩),
  (98, ⟨.sl 112, false, [.sl]⟩),
  (100, ⟨.sl 103, false, [.sl]⟩),
  (103, ⟨.st [(0, 3), (1, 3), (2, 22), (3, 22)], true, [.int .i64, .int .i64, .sl, .sl]⟩),
  (108, ⟨.st [(0, 9), (1, 3), (2, 3), (3, 4)], true, [.str, .int .i64, .int .i64, .bool]⟩),
  (112, ⟨.st [(0, 3), (1, 3), (2, 3), (3, 3), (4, 3)], true, [.int .i64, .int .i64, .int .i64, .int .i64, .int .i64]⟩),
  (115, ⟨.int .u64, false, [.int .u64]⟩),
  (118, ⟨.other, false, [.val]⟩),
  (124, ⟨.int .u64, false, [.int .u64]⟩),
  (133, ⟨.st [(0, 3), (1, 3)], true, [.int .i64, .int .i64]⟩),
  (143, ⟨.int .u32, false, [.int .u32]⟩),
  (150, ⟨.ptr, false, [.ptr]⟩),
  (152, ⟨.st [(0, 9), (1, 118)], true, [.str, .val]⟩),
  (154, ⟨.st [(0, 9), (1, 3), (2, 3), (3, 3), (4, 3)], true, [.str, .int .i64, .int .i64, .int .i64, .int .i64]⟩),
  (156, ⟨.ptr, false, [.ptr]⟩),
  (158, ⟨.ptr, false, [.ptr]⟩),
  (159, ⟨.int .u64, false, [.int .u64]⟩),
  (165, ⟨.arr 48 154, true, [.str, .int .i64, .int .i64, .int .i64, .int .i64, .str, .int .i64, .int .i64, .int .i64, .int .i64, .str, .int .i64, .int .i64, .int .i64, .int .i64, .str, .int .i64, .int .i64, .int .i64, .int .i64, .str, .int .i64, .int .i64, .int .i64, .int .i64, .str, .int .i64, .int .i64, .int .i64, .int .i64, .str, .int .i64, .int .i64, .int .i64, .int .i64, .str, .int .i64, .int .i64, .int .i64, .int .i64, .str, .int .i64, .int .i64, .int .i64, .int .i64, .str, .int .i64, .int .i64, .int .i64, .int .i64, .str, .int .i64, .int .i64, .int .i64, .int .i64, .str, .int .i64, .int .i64, .int .i64, .int .i64, .str, .int .i64, .int .i64, .int .i64, .int .i64, .str, .int .i64, .int .i64, .int .i64, .int .i64, .str, .int .i64, .int .i64, .int .i64, .int .i64, .str, .int .i64, .int .i64, .int .i64, .int .i64, .str, .int .i64, .int .i64, .int .i64, .int .i64, .str, .int .i64, .int .i64, .int .i64, .int .i64, .str, .int .i64, .int .i64, .int .i64, .int .i64, .str, .int .i64, .int .i64, .int .i64, .int .i64, .str, .int .i64, .int .i64, .int .i64, .int .i64, .str, .int .i64, .int .i64, .int .i64, .int .i64, .str, .int .i64, .int .i64, .int .i64, .int .i64, .str, .int .i64, .int .i64, .int .i64, .int .i64, .str, .int .i64, .int .i64, .int .i64, .int .i64, .str, .int .i64, .int .i64, .int .i64, .int .i64, .str, .int .i64, .int .i64, .int .i64, .int .i64, .str, .int .i64, .int .i64, .int .i64, .int .i64, .str, .int .i64, .int .i64, .int .i64, .int .i64, .str, .int .i64, .int .i64, .int .i64, .int .i64, .str, .int .i64, .int .i64, .int .i64, .int .i64, .str, .int .i64, .int .i64, .int .i64, .int .i64, .str, .int .i64, .int .i64, .int .i64, .int .i64, .str, .int .i64, .int .i64, .int .i64, .int .i64, .str, .int .i64, .int .i64, .int .i64, .int .i64, .str, .int .i64, .int .i64, .int .i64, .int .i64, .str, .int .i64, .int .i64, .int .i64, .int .i64, .str, .int .i64, .int .i64, .int .i64, .int .i64, .str, .int .i64, .int .i64, .int .i64, .int .i64, .str, .int .i64, .int .i64, .int .i64, .int .i64, .str, .int .i64, .int .i64, .int .i64, .int .i64, .str, .int .i64, .int .i64, .int .i64, .int .i64, .str, .int .i64, .int .i64, .int .i64, .int .i64, .str, .int .i64, .int .i64, .int .i64, .int .i64, .str, .int .i64, .int .i64, .int .i64, .int .i64, .str, .int .i64, .int .i64, .int .i64, .int .i64, .str, .int .i64, .int .i64, .int .i64, .int .i64, .str, .int .i64, .int .i64, .int .i64, .int .i64]⟩),
  (224, ⟨.ptr, false, [.ptr]⟩)]
theorem orc_tok : AllTi Tryz.prog orc_ts := ⟨⟨⟨_, Tryz.runUnderlying3, rfl⟩, Tryz.isAgg3, Tryz.sizeOf3⟩,
  ⟨⟨_, Tryz.runUnderlying4, rfl⟩, Tryz.isAgg4, Tryz.sizeOf4⟩,
  ⟨⟨_, Tryz.runUnderlying5, rfl⟩, Tryz.isAgg5, Tryz.sizeOf5⟩,
  ⟨⟨_, Tryz.runUnderlying9, rfl⟩, Tryz.isAgg9, Tryz.sizeOf9⟩,
  ⟨⟨_, Tryz.runUnderlying20, trivial⟩, Tryz.isAgg20, Tryz.sizeOf20⟩,
  ⟨⟨_, Tryz.runUnderlying22, rfl⟩, Tryz.isAgg22, Tryz.sizeOf22⟩,
  ⟨⟨_, Tryz.runUnderlying24, ⟨_, rfl, rfl⟩⟩, Tryz.isAgg24, Tryz.sizeOf24⟩,
  ⟨⟨_, Tryz.runUnderlying27, rfl⟩, Tryz.isAgg27, Tryz.sizeOf27⟩,
  ⟨⟨_, Tryz.runUnderlying28, rfl⟩, Tryz.isAgg28, Tryz.sizeOf28⟩,
  ⟨⟨_, Tryz.runUnderlying29, rfl⟩, Tryz.isAgg29, Tryz.sizeOf29⟩,
  ⟨⟨_, Tryz.runUnderlying30, rfl⟩, Tryz.isAgg30, Tryz.sizeOf30⟩,
  ⟨⟨_, Tryz.runUnderlying31, rfl⟩, Tryz.isAgg31, Tryz.sizeOf31⟩,
  ⟨⟨_, Tryz.runUnderlying32, rfl⟩, Tryz.isAgg32, Tryz.sizeOf32⟩,
  ⟨⟨_, Tryz.runUnderlying34, ⟨_, rfl, rfl⟩⟩, Tryz.isAgg34, Tryz.sizeOf34⟩,
  ⟨⟨_, Tryz.runUnderlying45, rfl⟩, Tryz.isAgg45, Tryz.sizeOf45⟩,
  ⟨⟨_, Tryz.runUnderlying47, ⟨_, rfl, rfl⟩⟩, Tryz.isAgg47, Tryz.sizeOf47⟩,
  ⟨⟨_, Tryz.runUnderlying52, ⟨_, rfl, rfl⟩⟩, Tryz.isAgg52, Tryz.sizeOf52⟩,
  ⟨⟨_, Tryz.runUnderlying82, rfl⟩, Tryz.isAgg82, Tryz.sizeOf82⟩,
  ⟨⟨_, Tryz.runUnderlying86, ⟨_, rfl, rfl⟩⟩, Tryz.isAgg86, Tryz.sizeOf86⟩,
  ⟨⟨_, Tryz.runUnderlying91, rfl⟩, Tryz.isAgg91, Tryz.sizeOf91⟩,
  ⟨⟨_, Tryz.runUnderlying94, rfl⟩, Tryz.isAgg94, Tryz.sizeOf94⟩,
  ⟨⟨_, Tryz.runUnderlying96, rfl⟩, Tryz.isAgg96, Tryz.sizeOf96⟩,
  ⟨⟨_, Tryz.runUnderlying98, rfl⟩, Tryz.isAgg98, Tryz.sizeOf98⟩,
  ⟨⟨_, Tryz.runUnderlying100, rfl⟩, Tryz.isAgg100, Tryz.sizeOf100⟩,
  ⟨⟨_, Tryz.runUnderlying103, ⟨_, rfl, rfl⟩⟩, Tryz.isAgg103, Tryz.sizeOf103⟩,
  ⟨⟨_, Tryz.runUnderlying108, ⟨_, rfl, rfl⟩⟩, Tryz.isAgg108, Tryz.sizeOf108⟩,
  ⟨⟨_, Tryz.runUnderlying112, ⟨_, rfl, rfl⟩⟩, Tryz.isAgg112, Tryz.sizeOf112⟩,
  ⟨⟨_, Tryz.runUnderlying115, rfl⟩, Tryz.isAgg115, Tryz.sizeOf115⟩,
  ⟨⟨_, Tryz.runUnderlying118, trivial⟩, Tryz.isAgg118, Tryz.sizeOf118⟩,
  ⟨⟨_, Tryz.runUnderlying124, rfl⟩, Tryz.isAgg124, Tryz.sizeOf124⟩,
  ⟨⟨_, Tryz.runUnderlying133, ⟨_, rfl, rfl⟩⟩, Tryz.isAgg133, Tryz.sizeOf133⟩,
  ⟨⟨_, Tryz.runUnderlying143, rfl⟩, Tryz.isAgg143, Tryz.sizeOf143⟩,
  ⟨⟨_, Tryz.runUnderlying150, ⟨_, rfl⟩⟩, Tryz.isAgg150, Tryz.sizeOf150⟩,
  ⟨⟨_, Tryz.runUnderlying152, ⟨_, rfl, rfl⟩⟩, Tryz.isAgg152, Tryz.sizeOf152⟩,
  ⟨⟨_, Tryz.runUnderlying154, ⟨_, rfl, rfl⟩⟩, Tryz.isAgg154, Tryz.sizeOf154⟩,
  ⟨⟨_, Tryz.runUnderlying156, ⟨_, rfl⟩⟩, Tryz.isAgg156, Tryz.sizeOf156⟩,
  ⟨⟨_, Tryz.runUnderlying158, ⟨_, rfl⟩⟩, Tryz.isAgg158, Tryz.sizeOf158⟩,
  ⟨⟨_, Tryz.runUnderlying159, rfl⟩, Tryz.isAgg159, Tryz.sizeOf159⟩,
  ⟨⟨_, Tryz.runUnderlying165, rfl⟩, Tryz.isAgg165, Tryz.sizeOf165⟩,
  ⟨⟨_, Tryz.runUnderlying224, ⟨_, rfl⟩⟩, Tryz.isAgg224, Tryz.sizeOf224⟩, trivial⟩
def orc_sg : List (Nat × List (Bool × List Kd)) := [(3, [(false, [.bool])]),
  (5, [(false, [.bool])]),
  (6, [(false, [.bool])]),
  (7, [(false, [.bool])]),
  (8, [(false, [.bool])]),
  (9, [(true, [.int .i64, .int .i64, .sl, .sl, .sl, .str, .str, .int .i64, .int .i64, .int .i64])]),
  (10, []),
  (11, [(false, [.bool])]),
  (12, [(true, [.int .i64, .int .i64, .sl, .sl, .sl, .str, .str, .int .i64, .int .i64, .int .i64])]),
  (13, [(false, [.bool])]),
  (14, [(false, [.bool])]),
  (15, [(true, [.int .i64, .int .i64, .sl, .sl, .sl, .str, .str, .int .i64, .int .i64, .int .i64])]),
  (16, [(true, [.int .i64, .int .i64, .sl, .sl, .sl, .str, .str, .int .i64, .int .i64, .int .i64])]),
  (17, [(true, [.int .i64, .int .i64, .sl, .sl, .sl, .str, .str, .int .i64, .int .i64, .int .i64])]),
  (18, [(true, [.int .i64, .int .i64, .sl, .sl, .sl, .str, .str, .int .i64, .int .i64, .int .i64])]),
  (19, [(true, [.int .i64, .int .i64, .sl, .sl, .sl, .str, .str, .int .i64, .int .i64, .int .i64])]),
  (20, [(true, [.int .i64, .int .i64, .sl, .sl, .sl, .str, .str, .int .i64, .int .i64, .int .i64])]),
  (21, [(false, [.bool])]),
  (22, [(false, [.bool])]),
  (23, [(false, [.bool])]),
  (24, [(true, [.int .i64, .int .i64, .sl, .sl, .sl, .str, .str, .int .i64, .int .i64, .int .i64])]),
  (25, [(true, [.int .i64, .int .i64, .sl, .sl, .sl, .str, .str, .int .i64, .int .i64, .int .i64])]),
  (26, [(true, [.int .i64, .int .i64, .sl, .sl, .sl, .str, .str, .int .i64, .int .i64, .int .i64]), (false, [.int .i64])]),
  (27, [(true, [.int .i64, .int .i64, .sl, .sl, .sl, .str, .str, .int .i64, .int .i64, .int .i64]), (false, [.int .i64])]),
  (28, [(false, [.bool])]),
  (29, [(true, [.int .i64, .int .i64, .bool, .sl])]),
  (30, [(false, [.sl])]),
  (31, [(true, [.int .i64, .int .i64, .sl, .sl, .sl, .str, .str, .int .i64, .int .i64, .int .i64])]),
  (32, [(false, [.bool])]),
  (33, []),
  (34, [(true, [.int .i64, .int .i64, .bool, .sl])]),
  (35, [(false, [.bool])]),
  (36, [(false, [.bool])]),
  (37, []),
  (38, [(true, [.int .i64, .int .i64, .sl, .sl, .sl, .str, .str, .int .i64, .int .i64, .int .i64])]),
  (39, [(false, [.bool])]),
  (40, [(false, [.sl])]),
  (41, []),
  (42, [(false, [.sl])]),
  (43, [(false, [.sl])]),
  (44, [(true, [.int .i64, .int .i64, .sl, .sl, .sl, .str, .str, .int .i64, .int .i64, .int .i64])]),
  (45, [(false, [.bool])]),
  (46, [(false, [.bool])]),
  (47, [(false, [.bool])]),
  (48, [(false, [.bool])]),
  (49, [(false, [.bool])]),
  (50, [(false, [.bool])]),
  (51, [(false, [.bool])]),
  (52, []),
  (53, []),
  (54, []),
  (55, []),
  (56, []),
  (57, []),
  (58, [(false, [.sl])]),
  (59, [(false, [.sl])]),
  (60, [(false, [.sl])]),
  (61, [(false, [.sl])]),
  (62, [(false, [.sl])]),
  (63, [(false, [.sl])]),
  (64, [(false, [.bool])]),
  (65, [(false, [.bool])]),
  (66, [(false, [.bool])]),
  (67, [(false, [.bool])]),
  (68, [(false, [.bool])]),
  (69, [(false, [.bool])]),
  (70, [(false, [.bool])]),
  (71, [(false, [.bool])]),
  (72, [(false, [.int .i64]), (false, [.int .i64]), (false, [.int .i64]), (false, [.int .i64])]),
  (73, [(false, [.bool])]),
  (74, [(false, [.int .i64]), (false, [.bool])]),
  (75, [(false, [.bool])]),
  (76, [(false, [.int .i64]), (false, [.bool])]),
  (77, [(false, [.bool])]),
  (78, [(false, [.str])]),
  (79, []),
  (80, [(true, [.int .i64, .int .i64, .int .i64, .int .i64]), (true, [.int .i64, .int .i64, .sl, .sl, .sl, .str, .str, .int .i64, .int .i64, .int .i64]), (false, [.bool])]),
  (81, [(false, [.bool])]),
  (82, []),
  (83, [(false, [.sl])]),
  (84, [(false, [.sl])]),
  (85, [(false, [.bool])]),
  (86, [(false, [.bool])]),
  (87, [(false, [.bool])]),
  (88, [(false, [.sl])]),
  (89, [(false, [.int .i64]), (false, [.bool])]),
  (90, [(false, [.bool])]),
  (91, [(false, [.bool])]),
  (92, [(false, [.bool])]),
  (93, [(false, [.bool])]),
  (94, [(false, [.sl])]),
  (95, [(false, [.sl])]),
  (96, [(false, [.sl])]),
  (97, [(false, [.sl])]),
  (98, [(false, [.sl])]),
  (99, [(false, [.sl])]),
  (100, [(false, [.int .i64]), (false, [.int .i64])]),
  (101, [(false, [.int .i64])]),
  (102, [(false, [.val])]),
  (103, [(false, [.int .i64])]),
  (104, [(false, [.int .i64]), (false, [.bool])]),
  (105, [(false, [.bool])]),
  (106, [(false, [.bool])]),
  (107, [(false, [.bool])]),
  (108, []),
  (109, [(false, [.int .i64])]),
  (110, [(false, [.str])]),
  (111, [(false, [.int .i64]), (false, [.val])]),
  (112, [(false, [.val])]),
  (113, [(false, [.bool])]),
  (114, [(false, [.val])]),
  (115, [(false, [.int .i64])]),
  (116, [(false, [.val])]),
  (117, [(false, [.val])]),
  (118, [(false, [.str])]),
  (119, [(true, [.int .i64, .int .i64])]),
  (120, [(false, [.bool])]),
  (121, []),
  (127, [(false, [.bool])]),
  (130, [(false, [.int .i64])]),
  (131, [(false, [.int .i64])]),
  (132, []),
  (133, [(false, [.val])]),
  (134, [(false, [.int .i64]), (false, [.int .i64])]),
  (135, [(false, [.int .i64]), (false, [.int .i64])]),
  (136, []),
  (137, [(false, [.int .i64])]),
  (138, [(false, [.int .i64])]),
  (139, []),
  (140, [(false, [.val])]),
  (141, []),
  (142, []),
  (143, [(false, [.val])]),
  (144, []),
  (145, [(false, [.val])]),
  (146, [(false, [.val])]),
  (147, [(true, [.str, .int .i64, .int .i64, .int .i64, .int .i64])]),
  (148, [(false, [.bool])]),
  (150, [(false, [.int .u64])]),
  (151, [(false, [.int .u64])]),
  (154, [(false, [.bool])]),
  (155, [(false, [.int .i64])]),
  (156, [(false, [.bool])]),
  (157, [(false, [.str])]),
  (158, [(false, [.val])]),
  (159, [(false, [.int .i64]), (false, [.bool])]),
  (160, [(false, [.int .i64]), (false, [.bool])]),
  (161, [(false, [.val])]),
  (167, [(false, [.bool])]),
  (168, [(false, [.int .i64])]),
  (169, [(false, [.int .i64]), (false, [.int .i64]), (false, [.bool])]),
  (170, [(false, [.int .i64])]),
  (171, [(false, [.int .i64])]),
  (193, [(false, [.val])])]
theorem orc_sok : AllSg Tryz.prog orc_sg := ⟨Tryz.call3,
  Tryz.call5,
  Tryz.call6,
  Tryz.call7,
  Tryz.call8,
  Tryz.call9,
  Tryz.call10,
  Tryz.call11,
  Tryz.call12,
  Tryz.call13,
  Tryz.call14,
  Tryz.call15,
  Tryz.call16,
  Tryz.call17,
  Tryz.call18,
  Tryz.call19,
  Tryz.call20,
  Tryz.call21,
  Tryz.call22,
  Tryz.call23,
  Tryz.call24,
  Tryz.call25,
  Tryz.call26,
  Tryz.call27,
  Tryz.call28,
  Tryz.call29,
  Tryz.call30,
  Tryz.call31,
  Tryz.call32,
  Tryz.call33,
  Tryz.call34,
  Tryz.call35,
  Tryz.call36,
  Tryz.call37,
  Tryz.call38,
  Tryz.call39,
  Tryz.call40,
  Tryz.call41,
  Tryz.call42,
  Tryz.call43,
  Tryz.call44,
  Tryz.call45,
  Tryz.call46,
  Tryz.call47,
  Tryz.call48,
  Tryz.call49,
  Tryz.call50,
  Tryz.call51,
  Tryz.call52,
  Tryz.call53,
  Tryz.call54,
  Tryz.call55,
  Tryz.call56,
  Tryz.call57,
  Tryz.call58,
  Tryz.call59,
  Tryz.call60,
  Tryz.call61,
  Tryz.call62,
  Tryz.call63,
  Tryz.call64,
  Tryz.call65,
  Tryz.call66,
  Tryz.call67,
  Tryz.call68,
  Tryz.call69,
  Tryz.call70,
  Tryz.call71,
  Tryz.call72,
  Tryz.call73,
  Tryz.call74,
  Tryz.call75,
  Tryz.call76,
  Tryz.call77,
  Tryz.call78,
  Tryz.call79,
  Tryz.call80,
  Tryz.call81,
  Tryz.call82,
  Tryz.call83,
  Tryz.call84,
  Tryz.call85,
  Tryz.call86,
  Tryz.call87,
  Tryz.call88,
  Tryz.call89,
  Tryz.call90,
  Tryz.call91,
  Tryz.call92,
  Tryz.call93,
  Tryz.call94,
  Tryz.call95,
  Tryz.call96,
  Tryz.call97,
  Tryz.call98,
  Tryz.call99,
  Tryz.call100,
  Tryz.call101,
  Tryz.call102,
  Tryz.call103,
  Tryz.call104,
  Tryz.call105,
  Tryz.call106,
  Tryz.call107,
  Tryz.call108,
  Tryz.call109,
  Tryz.call110,
  Tryz.call111,
  Tryz.call112,
  Tryz.call113,
  Tryz.call114,
  Tryz.call115,
  Tryz.call116,
  Tryz.call117,
  Tryz.call118,
  Tryz.call119,
  Tryz.call120,
  Tryz.call121,
  Tryz.call127,
  Tryz.call130,
  Tryz.call131,
  Tryz.call132,
  Tryz.call133,
  Tryz.call134,
  Tryz.call135,
  Tryz.call136,
  Tryz.call137,
  Tryz.call138,
  Tryz.call139,
  Tryz.call140,
  Tryz.call141,
  Tryz.call142,
  Tryz.call143,
  Tryz.call144,
  Tryz.call145,
  Tryz.call146,
  Tryz.call147,
  Tryz.call148,
  Tryz.call150,
  Tryz.call151,
  Tryz.call154,
  Tryz.call155,
  Tryz.call156,
  Tryz.call157,
  Tryz.call158,
  Tryz.call159,
  Tryz.call160,
  Tryz.call161,
  Tryz.call167,
  Tryz.call168,
  Tryz.call169,
  Tryz.call170,
  Tryz.call171,
  Tryz.call193, trivial⟩
def orc : Orc Tryz.prog := ⟨orc_ts, allTi_of orc_tok, orc_sg, allSg_of orc_sok⟩
theorem orc_wide : Tryz.prog.follows .mixedOrders = true := by kernel_rfl
end Go.Proofs.YtkjpmkopnkkbmaaGreatDoor
