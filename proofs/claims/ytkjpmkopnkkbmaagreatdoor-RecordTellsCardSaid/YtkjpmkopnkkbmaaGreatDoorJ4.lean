/- The lifted texts of small packages. -/
import Derived.Test.YtkjpmkopnkkbmaaGreatDoorProg
import Derived.Test.YtkjpmkopnkkbmaaGreatDoorJ1
import Derived.Test.YtkjpmkopnkkbmaaGreatDoorJ2

/- What the lift is told of the program: types and functions, each fact proved. Printed by a program of mine (wip/lift/gen.py). -/
set_option maxRecDepth 100000
namespace Go.Proofs.YtkjpmkopnkkbmaaGreatDoor
open Go.RowKit

@[reducible] def T_int : TypeId := 3
@[reducible] def T_bool : TypeId := 4
@[reducible] def T_uint8 : TypeId := 5
@[reducible] def T_string : TypeId := 9
@[reducible] def T_sl_int : TypeId := 22
@[reducible] def T_api_State : TypeId := 24
@[reducible] def T_sl_sl_string : TypeId := 27
@[reducible] def T_sl_sl_int : TypeId := 28
@[reducible] def T_sl_sl_api_Word : TypeId := 29
@[reducible] def T_sl_sl_api_Seen : TypeId := 30
@[reducible] def T_sl_sl_api_Ins : TypeId := 31
@[reducible] def T_sl_sl_api_Out : TypeId := 32
@[reducible] def T_hollowaybook_Book : TypeId := 34
@[reducible] def T_sl_api_Seen : TypeId := 45
@[reducible] def T_api_Recording : TypeId := 47
@[reducible] def T_api_Seen : TypeId := 52
@[reducible] def T_sl_uint8 : TypeId := 82
@[reducible] def T_inner_machine : TypeId := 86
@[reducible] def T_sl_bool : TypeId := 91
@[reducible] def T_sl_string : TypeId := 94
@[reducible] def T_sl_api_Word : TypeId := 96
@[reducible] def T_sl_api_Ins : TypeId := 98
@[reducible] def T_sl_api_Out : TypeId := 100
@[reducible] def T_error : TypeId := 118
@[reducible] def T_fault_fault : TypeId := 133
@[reducible] def T_p_fault_seen : TypeId := 150
@[reducible] def T_fault_seen : TypeId := 152
@[reducible] def T_op_row : TypeId := 154
@[reducible] def T_p_fault_fault : TypeId := 156
@[reducible] def T_p_p_fault_fault : TypeId := 158
@[reducible] def T_48_op_row : TypeId := 165
@[reducible] def fn_hollowaylaw13_RecordTells : FuncId := 7
@[reducible] def fn_hollowaybook_Book_State : FuncId := 10
@[reducible] def fn_hollowaybook_SameState : FuncId := 11
@[reducible] def fn_hollowayref9_Boot : FuncId := 12
@[reducible] def fn_hollowayref9_Right : FuncId := 14
@[reducible] def fn_inner_Copy : FuncId := 15
@[reducible] def fn_hollowaybook_LentState : FuncId := 16
@[reducible] def fn_hollowayref9_Enter : FuncId := 19
@[reducible] def fn_hollowayref9_Fault : FuncId := 20
@[reducible] def fn_hollowaybook_StaysState : FuncId := 21
@[reducible] def fn_hollowaybook_Book_Apart : FuncId := 22
@[reducible] def fn_hollowaylaw9_Light : FuncId := 23
@[reducible] def fn_inner_Step : FuncId := 24
@[reducible] def fn_hollowayref9_Step : FuncId := 25
@[reducible] def fn_inner_Run : FuncId := 26
@[reducible] def fn_hollowaylaw13_alive : FuncId := 28
@[reducible] def fn_record_Loop : FuncId := 29
@[reducible] def fn_record_Cells : FuncId := 30
@[reducible] def fn_hollowayref9_Copy : FuncId := 31
@[reducible] def fn_hollowaybook_SameSeens : FuncId := 32
@[reducible] def fn_hollowaybook_Book_Seens : FuncId := 33
@[reducible] def fn_hollowayref9_Record : FuncId := 34
@[reducible] def fn_hollowaylaw13_same : FuncId := 35
@[reducible] def fn_record_Right : FuncId := 36
@[reducible] def fn_hollowaybook_Book_Ints : FuncId := 37
@[reducible] def fn_record_After : FuncId := 38
@[reducible] def fn_hollowaybook_SameInts : FuncId := 39
@[reducible] def fn_hollowayref9_Cells : FuncId := 40
@[reducible] def fn_slices_Clone_sl_int_int : FuncId := 42
@[reducible] def fn_hollowaybook_LentInts : FuncId := 43
@[reducible] def fn_inner_faulty : FuncId := 44
@[reducible] def fn_hollowaybook_StaysInts : FuncId := 45
@[reducible] def fn_hollowaybook_Book_stillTexts : FuncId := 46
@[reducible] def fn_hollowaybook_Book_stillInts : FuncId := 47
@[reducible] def fn_hollowaybook_Book_stillWords : FuncId := 48
@[reducible] def fn_hollowaybook_Book_stillSeens : FuncId := 49
@[reducible] def fn_hollowaybook_Book_stillCodes : FuncId := 50
@[reducible] def fn_hollowaybook_Book_stillExits : FuncId := 51
@[reducible] def fn_hollowaybook_Book_putExits : FuncId := 52
@[reducible] def fn_hollowaybook_Book_putTexts : FuncId := 53
@[reducible] def fn_hollowaybook_Book_putInts : FuncId := 54
@[reducible] def fn_hollowaybook_Book_putWords : FuncId := 55
@[reducible] def fn_hollowaybook_Book_putSeens : FuncId := 56
@[reducible] def fn_hollowaybook_Book_putCodes : FuncId := 57
@[reducible] def fn_hollowaybook_Book_growTexts : FuncId := 58
@[reducible] def fn_hollowaybook_Book_growInts : FuncId := 59
@[reducible] def fn_hollowaybook_Book_growWords : FuncId := 60
@[reducible] def fn_hollowaybook_Book_growSeens : FuncId := 61
@[reducible] def fn_hollowaybook_Book_growCodes : FuncId := 62
@[reducible] def fn_hollowaybook_Book_growExits : FuncId := 63
@[reducible] def fn_hollowaybook_markedTexts : FuncId := 64
@[reducible] def fn_hollowaybook_markedInts : FuncId := 65
@[reducible] def fn_hollowaybook_markedWords : FuncId := 66
@[reducible] def fn_hollowaybook_markedSeens : FuncId := 67
@[reducible] def fn_hollowaybook_markedCodes : FuncId := 68
@[reducible] def fn_hollowaybook_markedExits : FuncId := 69
@[reducible] def fn_hollowayref1_Op : FuncId := 70
@[reducible] def fn_hollowayref1_Arg : FuncId := 71
@[reducible] def fn_hollowayref1_Moves : FuncId := 72
@[reducible] def fn_hollowayref1_IsTwo : FuncId := 73
@[reducible] def fn_hollowayref1_Two : FuncId := 74
@[reducible] def fn_hollowayref1_IsOne : FuncId := 75
@[reducible] def fn_hollowayref1_One : FuncId := 76
@[reducible] def fn_hollowayref1_Crosses : FuncId := 77
@[reducible] def fn_hollowayref1_Put : FuncId := 78
@[reducible] def fn_inner_machine_advance : FuncId := 79
@[reducible] def fn_record_next : FuncId := 80
@[reducible] def fn_record_arg : FuncId := 81
@[reducible] def fn_slices_Sort_sl_int_int : FuncId := 82
@[reducible] def fn_slices_Compact_sl_int_int : FuncId := 83
@[reducible] def fn_hollowaybook_copySeens : FuncId := 84
@[reducible] def fn_hollowayref1_Plain : FuncId := 85
@[reducible] def fn_hollowayref9_faults : FuncId := 86
@[reducible] def fn_record_single : FuncId := 87
@[reducible] def fn_hollowaybook_copyInts : FuncId := 88
@[reducible] def fn_inner_caught : FuncId := 89
@[reducible] def fn_hollowaybook_SameTexts : FuncId := 90
@[reducible] def fn_hollowaybook_SameWords : FuncId := 91
@[reducible] def fn_hollowaybook_SameCodes : FuncId := 92
@[reducible] def fn_hollowaybook_SameExits : FuncId := 93
@[reducible] def fn_hollowaybook_markExits : FuncId := 94
@[reducible] def fn_hollowaybook_markTexts : FuncId := 95
@[reducible] def fn_hollowaybook_markInts : FuncId := 96
@[reducible] def fn_hollowaybook_markWords : FuncId := 97
@[reducible] def fn_hollowaybook_markSeens : FuncId := 98
@[reducible] def fn_hollowaybook_markCodes : FuncId := 99
@[reducible] def fn_hollowayref1_Floor : FuncId := 100
@[reducible] def fn_hollowayref1_Flag : FuncId := 101
@[reducible] def fn_inner_machine_step : FuncId := 102
@[reducible] def fn_fault_Code : FuncId := 103
@[reducible] def fn_record_load : FuncId := 104
@[reducible] def fn_record_plain : FuncId := 105
@[reducible] def fn_record_place : FuncId := 106
@[reducible] def fn_op_Arg : FuncId := 107
@[reducible] def fn_inner_machine_load : FuncId := 111
@[reducible] def fn_inner_machine_call : FuncId := 112
@[reducible] def fn_op_Right : FuncId := 113
@[reducible] def fn_inner_machine_fails : FuncId := 114
@[reducible] def fn_inner_room : FuncId := 115
@[reducible] def fn_inner_machine_do : FuncId := 116
@[reducible] def fn_fault_Wrap : FuncId := 117
@[reducible] def fn_op_Name : FuncId := 118
@[reducible] def fn_fault_inner : FuncId := 119
@[reducible] def fn_op_Plain : FuncId := 120
@[reducible] def fn_inner_machine_back : FuncId := 132
@[reducible] def fn_fault_New : FuncId := 133
@[reducible] def fn_op_Takes : FuncId := 134
@[reducible] def fn_op_Gives : FuncId := 135
@[reducible] def fn_inner_machine_push : FuncId := 136
@[reducible] def fn_inner_machine_pop : FuncId := 137
@[reducible] def fn_inner_machine_popBack : FuncId := 138
@[reducible] def fn_inner_machine_shuffle : FuncId := 139
@[reducible] def fn_inner_machine_memory : FuncId := 140
@[reducible] def fn_inner_machine_backs : FuncId := 141
@[reducible] def fn_inner_machine_loop : FuncId := 142
@[reducible] def fn_inner_machine_say : FuncId := 143
@[reducible] def fn_inner_machine_key : FuncId := 144
@[reducible] def fn_inner_machine_flow : FuncId := 145
@[reducible] def fn_inner_machine_reckon : FuncId := 146
@[reducible] def fn_op_of : FuncId := 147
@[reducible] def fn_errors_As : FuncId := 148
@[reducible] def fn_inner_machine_swapped : FuncId := 155
@[reducible] def fn_cell_Crosses : FuncId := 156
@[reducible] def fn_digits_Put : FuncId := 157
@[reducible] def fn_inner_machine_endCatch : FuncId := 158
@[reducible] def fn_cell_One : FuncId := 159
@[reducible] def fn_cell_Two : FuncId := 160
@[reducible] def fn_op_table : FuncId := 161
@[reducible] def fn_digits_Right : FuncId := 167
@[reducible] def fn_fault_seen_Unwrap : FuncId := 193
def orc_ts : List (Nat × Ti) := [(3, ⟨.int .i64, false, [.int .i64]⟩),
  (4, ⟨.bool, false, [.bool]⟩),
  (5, ⟨.int .u8, false, [.int .u8]⟩),
  (9, ⟨.str, false, [.str]⟩),
  (20, ⟨.other, false, [.val]⟩),
  (22, ⟨.sl 3, false, [.sl]⟩),
  (24, ⟨.st [(0, 3), (1, 3), (2, 22), (3, 22), (4, 22), (5, 9), (6, 9), (7, 3), (8, 3), (9, 3)], true, [.int .i64, .int .i64, .sl, .sl, .sl, .str, .str, .int .i64, .int .i64, .int .i64]⟩),
  (27, ⟨.sl 94, false, [.sl]⟩),
  (28, ⟨.sl 22, false, [.sl]⟩),
  (29, ⟨.sl 96, false, [.sl]⟩),
  (30, ⟨.sl 45, false, [.sl]⟩),
  (31, ⟨.sl 98, false, [.sl]⟩),
  (32, ⟨.sl 100, false, [.sl]⟩),
  (34, ⟨.st [(0, 27), (1, 27), (2, 28), (3, 28), (4, 29), (5, 29), (6, 30), (7, 30), (8, 31), (9, 31), (10, 32), (11, 32)], true, [.sl, .sl, .sl, .sl, .sl, .sl, .sl, .sl, .sl, .sl, .sl, .sl]⟩),
  (45, ⟨.sl 52, false, [.sl]⟩),
  (47, ⟨.st [(0, 3), (1, 3), (2, 4), (3, 45)], true, [.int .i64, .int .i64, .bool, .sl]⟩),
  (52, ⟨.st [(0, 3), (1, 3), (2, 3), (3, 3)], true, [.int .i64, .int .i64, .int .i64, .int .i64]⟩),
  (82, ⟨.sl 5, false, [.sl]⟩),
  (86, ⟨.st [(0, 24), (10, 4)], true, [.int .i64, .int .i64, .sl, .sl, .sl, .str, .str, .int .i64, .int .i64, .int .i64, .bool]⟩),
  (91, ⟨.sl 4, false, [.sl]⟩),
  (94, ⟨.sl 9, false, [.sl]⟩),
  (96, ⟨.sl 108, false, [.sl]⟩),
  (98, ⟨.sl 112, false, [.sl]⟩),
  (100, ⟨.sl 103, false, [.sl]⟩),
  (103, ⟨.st [(0, 3), (1, 3), (2, 22), (3, 22)], true, [.int .i64, .int .i64, .sl, .sl]⟩),
  (108, ⟨.st [(0, 9), (1, 3), (2, 3), (3, 4)], true, [.str, .int .i64, .int .i64, .bool]⟩),
  (112, ⟨.st [(0, 3), (1, 3), (2, 3), (3, 3), (4, 3)], true, [.int .i64, .int .i64, .int .i64, .int .i64, .int .i64]⟩),
  (115, ⟨.int .u64, false, [.int .u64]⟩),
  (118, ⟨.other, false, [.val]⟩),
  (124, ⟨.int .u64, false, [.int .u64]⟩),
  (133, ⟨.st [(0, 3), (1, 3)], true, [.int .i64, .int .i64]⟩),
  (143, ⟨.int .u32, false, [.int .u32]⟩),
  (150, ⟨.ptr, false, [.ptr]⟩),
  (152, ⟨.st [(0, 9), (1, 118)], true, [.str, .val]⟩),
  (154, ⟨.st [(0, 9), (1, 3), (2, 3), (3, 3), (4, 3)], true, [.str, .int .i64, .int .i64, .int .i64, .int .i64]⟩),
  (156, ⟨.ptr, false, [.ptr]⟩),
  (158, ⟨.ptr, false, [.ptr]⟩),
  (159, ⟨.int .u64, false, [.int .u64]⟩),
  (165, ⟨.arr 48 154, true, [.str, .int .i64, .int .i64, .int .i64, .int .i64, .str, .int .i64, .int .i64, .int .i64, .int .i64, .str, .int .i64, .int .i64, .int .i64, .int .i64, .str, .int .i64, .int .i64, .int .i64, .int .i64, .str, .int .i64, .int .i64, .int .i64, .int .i64, .str, .int .i64, .int .i64, .int .i64, .int .i64, .str, .int .i64, .int .i64, .int .i64, .int .i64, .str, .int .i64, .int .i64, .int .i64, .int .i64, .str, .int .i64, .int .i64, .int .i64, .int .i64, .str, .int .i64, .int .i64, .int .i64, .int .i64, .str, .int .i64, .int .i64, .int .i64, .int .i64, .str, .int .i64, .int .i64, .int .i64, .int .i64, .str, .int .i64, .int .i64, .int .i64, .int .i64, .str, .int .i64, .int .i64, .int .i64, .int .i64, .str, .int .i64, .int .i64, .int .i64, .int .i64, .str, .int .i64, .int .i64, .int .i64, .int .i64, .str, .int .i64, .int .i64, .int .i64, .int .i64, .str, .int .i64, .int .i64, .int .i64, .int .i64, .str, .int .i64, .int .i64, .int .i64, .int .i64, .str, .int .i64, .int .i64, .int .i64, .int .i64, .str, .int .i64, .int .i64, .int .i64, .int .i64, .str, .int .i64, .int .i64, .int .i64, .int .i64, .str, .int .i64, .int .i64, .int .i64, .int .i64, .str, .int .i64, .int .i64, .int .i64, .int .i64, .str, .int .i64, .int .i64, .int .i64, .int .i64, .str, .int .i64, .int .i64, .int .i64, .int .i64, .str, .int .i64, .int .i64, .int .i64, .int .i64, .str, .int .i64, .int .i64, .int .i64, .int .i64, .str, .int .i64, .int .i64, .int .i64, .int .i64, .str, .int .i64, .int .i64, .int .i64, .int .i64, .str, .int .i64, .int .i64, .int .i64, .int .i64, .str, .int .i64, .int .i64, .int .i64, .int .i64, .str, .int .i64, .int .i64, .int .i64, .int .i64, .str, .int .i64, .int .i64, .int .i64, .int .i64, .str, .int .i64, .int .i64, .int .i64, .int .i64, .str, .int .i64, .int .i64, .int .i64, .int .i64, .str, .int .i64, .int .i64, .int .i64, .int .i64, .str, .int .i64, .int .i64, .int .i64, .int .i64, .str, .int .i64, .int .i64, .int .i64, .int .i64, .str, .int .i64, .int .i64, .int .i64, .int .i64, .str, .int .i64, .int .i64, .int .i64, .int .i64, .str, .int .i64, .int .i64, .int .i64, .int .i64, .str, .int .i64, .int .i64, .int .i64, .int .i64, .str, .int .i64, .int .i64, .int .i64, .int .i64, .str, .int .i64, .int .i64, .int .i64, .int .i64, .str, .int .i64, .int .i64, .int .i64, .int .i64, .str, .int .i64, .int .i64, .int .i64, .int .i64, .str, .int .i64, .int .i64, .int .i64, .int .i64]⟩),
  (224, ⟨.ptr, false, [.ptr]⟩)]
theorem orc_tok : AllTi Tryz.prog orc_ts := ⟨⟨⟨_, Tryz.runUnderlying3, rfl⟩, Tryz.isAgg3, Tryz.sizeOf3⟩,
  ⟨⟨_, Tryz.runUnderlying4, rfl⟩, Tryz.isAgg4, Tryz.sizeOf4⟩,
  ⟨⟨_, Tryz.runUnderlying5, rfl⟩, Tryz.isAgg5, Tryz.sizeOf5⟩,
  ⟨⟨_, Tryz.runUnderlying9, rfl⟩, Tryz.isAgg9, Tryz.sizeOf9⟩,
  ⟨⟨_, Tryz.runUnderlying20, trivial⟩, Tryz.isAgg20, Tryz.sizeOf20⟩,
  ⟨⟨_, Tryz.runUnderlying22, rfl⟩, Tryz.isAgg22, Tryz.sizeOf22⟩,
  ⟨⟨_, Tryz.runUnderlying24, ⟨_, rfl, rfl⟩⟩, Tryz.isAgg24, Tryz.sizeOf24⟩,
  ⟨⟨_, Tryz.runUnderlying27, rfl⟩, Tryz.isAgg27, Tryz.sizeOf27⟩,
  ⟨⟨_, Tryz.runUnderlying28, rfl⟩, Tryz.isAgg28, Tryz.sizeOf28⟩,
  ⟨⟨_, Tryz.runUnderlying29, rfl⟩, Tryz.isAgg29, Tryz.sizeOf29⟩,
  ⟨⟨_, Tryz.runUnderlying30, rfl⟩, Tryz.isAgg30, Tryz.sizeOf30⟩,
  ⟨⟨_, Tryz.runUnderlying31, rfl⟩, Tryz.isAgg31, Tryz.sizeOf31⟩,
  ⟨⟨_, Tryz.runUnderlying32, rfl⟩, Tryz.isAgg32, Tryz.sizeOf32⟩,
  ⟨⟨_, Tryz.runUnderlying34, ⟨_, rfl, rfl⟩⟩, Tryz.isAgg34, Tryz.sizeOf34⟩,
  ⟨⟨_, Tryz.runUnderlying45, rfl⟩, Tryz.isAgg45, Tryz.sizeOf45⟩,
  ⟨⟨_, Tryz.runUnderlying47, ⟨_, rfl, rfl⟩⟩, Tryz.isAgg47, Tryz.sizeOf47⟩,
  ⟨⟨_, Tryz.runUnderlying52, ⟨_, rfl, rfl⟩⟩, Tryz.isAgg52, Tryz.sizeOf52⟩,
  ⟨⟨_, Tryz.runUnderlying82, rfl⟩, Tryz.isAgg82, Tryz.sizeOf82⟩,
  ⟨⟨_, Tryz.runUnderlying86, ⟨_, rfl, rfl⟩⟩, Tryz.isAgg86, Tryz.sizeOf86⟩,
  ⟨⟨_, Tryz.runUnderlying91, rfl⟩, Tryz.isAgg91, Tryz.sizeOf91⟩,
  ⟨⟨_, Tryz.runUnderlying94, rfl⟩, Tryz.isAgg94, Tryz.sizeOf94⟩,
  ⟨⟨_, Tryz.runUnderlying96, rfl⟩, Tryz.isAgg96, Tryz.sizeOf96⟩,
  ⟨⟨_, Tryz.runUnderlying98, rfl⟩, Tryz.isAgg98, Tryz.sizeOf98⟩,
  ⟨⟨_, Tryz.runUnderlying100, rfl⟩, Tryz.isAgg100, Tryz.sizeOf100⟩,
  ⟨⟨_, Tryz.runUnderlying103, ⟨_, rfl, rfl⟩⟩, Tryz.isAgg103, Tryz.sizeOf103⟩,
  ⟨⟨_, Tryz.runUnderlying108, ⟨_, rfl, rfl⟩⟩, Tryz.isAgg108, Tryz.sizeOf108⟩,
  ⟨⟨_, Tryz.runUnderlying112, ⟨_, rfl, rfl⟩⟩, Tryz.isAgg112, Tryz.sizeOf112⟩,
  ⟨⟨_, Tryz.runUnderlying115, rfl⟩, Tryz.isAgg115, Tryz.sizeOf115⟩,
  ⟨⟨_, Tryz.runUnderlying118, trivial⟩, Tryz.isAgg118, Tryz.sizeOf118⟩,
  ⟨⟨_, Tryz.runUnderlying124, rfl⟩, Tryz.isAgg124, Tryz.sizeOf124⟩,
  ⟨⟨_, Tryz.runUnderlying133, ⟨_, rfl, rfl⟩⟩, Tryz.isAgg133, Tryz.sizeOf133⟩,
  ⟨⟨_, Tryz.runUnderlying143, rfl⟩, Tryz.isAgg143, Tryz.sizeOf143⟩,
  ⟨⟨_, Tryz.runUnderlying150, ⟨_, rfl⟩⟩, Tryz.isAgg150, Tryz.sizeOf150⟩,
  ⟨⟨_, Tryz.runUnderlying152, ⟨_, rfl, rfl⟩⟩, Tryz.isAgg152, Tryz.sizeOf152⟩,
  ⟨⟨_, Tryz.runUnderlying154, ⟨_, rfl, rfl⟩⟩, Tryz.isAgg154, Tryz.sizeOf154⟩,
  ⟨⟨_, Tryz.runUnderlying156, ⟨_, rfl⟩⟩, Tryz.isAgg156, Tryz.sizeOf156⟩,
  ⟨⟨_, Tryz.runUnderlying158, ⟨_, rfl⟩⟩, Tryz.isAgg158, Tryz.sizeOf158⟩,
  ⟨⟨_, Tryz.runUnderlying159, rfl⟩, Tryz.isAgg159, Tryz.sizeOf159⟩,
  ⟨⟨_, Tryz.runUnderlying165, rfl⟩, Tryz.isAgg165, Tryz.sizeOf165⟩,
  ⟨⟨_, Tryz.runUnderlying224, ⟨_, rfl⟩⟩, Tryz.isAgg224, Tryz.sizeOf224⟩, trivial⟩
def orc_sg : List (Nat × List (Bool × List Kd)) := [(3, [(false, [.bool])]),
  (4, [(false, [.bool])]),
  (5, [(false, [.bool])]),
  (6, [(false, [.bool])]),
  (7, [(false, [.bool])]),
  (8, [(false, [.bool])]),
  (9, [(true, [.int .i64, .int .i64, .sl, .sl, .sl, .str, .str, .int .i64, .int .i64, .int .i64])]),
  (10, []),
  (11, [(false, [.bool])]),
  (12, [(true, [.int .i64, .int .i64, .sl, .sl, .sl, .str, .str, .int .i64, .int .i64, .int .i64])]),
  (13, [(false, [.bool])]),
  (14, [(false, [.bool])]),
  (15, [(true, [.int .i64, .int .i64, .sl, .sl, .sl, .str, .str, .int .i64, .int .i64, .int .i64])]),
  (16, [(true, [.int .i64, .int .i64, .sl, .sl, .sl, .str, .str, .int .i64, .int .i64, .int .i64])]),
  (17, [(true, [.int .i64, .int .i64, .sl, .sl, .sl, .str, .str, .int .i64, .int .i64, .int .i64])]),
  (18, [(true, [.int .i64, .int .i64, .sl, .sl, .sl, .str, .str, .int .i64, .int .i64, .int .i64])]),
  (19, [(true, [.int .i64, .int .i64, .sl, .sl, .sl, .str, .str, .int .i64, .int .i64, .int .i64])]),
  (20, [(true, [.int .i64, .int .i64, .sl, .sl, .sl, .str, .str, .int .i64, .int .i64, .int .i64])]),
  (21, [(false, [.bool])]),
  (22, [(false, [.bool])]),
  (23, [(false, [.bool])]),
  (24, [(true, [.int .i64, .int .i64, .sl, .sl, .sl, .str, .str, .int .i64, .int .i64, .int .i64])]),
  (25, [(true, [.int .i64, .int .i64, .sl, .sl, .sl, .str, .str, .int .i64, .int .i64, .int .i64])]),
  (26, [(true, [.int .i64, .int .i64, .sl, .sl, .sl, .str, .str, .int .i64, .int .i64, .int .i64]), (false, [.int .i64])]),
  (27, [(true, [.int .i64, .int .i64, .sl, .sl, .sl, .str, .str, .int .i64, .int .i64, .int .i64]), (false, [.int .i64])]),
  (28, [(false, [.bool])]),
  (29, [(true, [.int .i64, .int .i64, .bool, .sl])]),
  (30, [(false, [.sl])]),
  (31, [(true, [.int .i64, .int .i64, .sl, .sl, .sl, .str, .str, .int .i64, .int .i64, .int .i64])]),
  (32, [(false, [.bool])]),
  (33, []),
  (34, [(true, [.int .i64, .int .i64, .bool, .sl])]),
  (35, [(false, [.bool])]),
  (36, [(false, [.bool])]),
  (37, []),
  (38, [(true, [.int .i64, .int .i64, .sl, .sl, .sl, .str, .str, .int .i64, .int .i64, .int .i64])]),
  (39, [(false, [.bool])]),
  (40, [(false, [.sl])]),
  (41, []),
  (42, [(false, [.sl])]),
  (43, [(false, [.sl])]),
  (44, [(true, [.int .i64, .int .i64, .sl, .sl, .sl, .str, .str, .int .i64, .int .i64, .int .i64])]),
  (45, [(false, [.bool])]),
  (46, [(false, [.bool])]),
  (47, [(false, [.bool])]),
  (48, [(false, [.bool])]),
  (49, [(false, [.bool])]),
  (50, [(false, [.bool])]),
  (51, [(false, [.bool])]),
  (52, []),
  (53, []),
  (54, []),
  (55, []),
  (56, []),
  (57, []),
  (58, [(false, [.sl])]),
  (59, [(false, [.sl])]),
  (60, [(false, [.sl])]),
  (61, [(false, [.sl])]),
  (62, [(false, [.sl])]),
  (63, [(false, [.sl])]),
  (64, [(false, [.bool])]),
  (65, [(false, [.bool])]),
  (66, [(false, [.bool])]),
  (67, [(false, [.bool])]),
  (68, [(false, [.bool])]),
  (69, [(false, [.bool])]),
  (70, [(false, [.bool])]),
  (71, [(false, [.bool])]),
  (72, [(false, [.int .i64]), (false, [.int .i64]), (false, [.int .i64]), (false, [.int .i64])]),
  (73, [(false, [.bool])]),
  (74, [(false, [.int .i64]), (false, [.bool])]),
  (75, [(false, [.bool])]),
  (76, [(false, [.int .i64]), (false, [.bool])]),
  (77, [(false, [.bool])]),
  (78, [(false, [.str])]),
  (79, []),
  (80, [(true, [.int .i64, .int .i64, .int .i64, .int .i64]), (true, [.int .i64, .int .i64, .sl, .sl, .sl, .str, .str, .int .i64, .int .i64, .int .i64]), (false, [.bool])]),
  (81, [(false, [.bool])]),
  (82, []),
  (83, [(false, [.sl])]),
  (84, [(false, [.sl])]),
  (85, [(false, [.bool])]),
  (86, [(false, [.bool])]),
  (87, [(false, [.bool])]),
  (88, [(false, [.sl])]),
  (89, [(false, [.int .i64]), (false, [.bool])]),
  (90, [(false, [.bool])]),
  (91, [(false, [.bool])]),
  (92, [(false, [.bool])]),
  (93, [(false, [.bool])]),
  (94, [(false, [.sl])]),
  (95, [(false, [.sl])]),
  (96, [(false, [.sl])]),
  (97, [(false, [.sl])]),
  (98, [(false, [.sl])]),
  (99, [(false, [.sl])]),
  (100, [(false, [.int .i64]), (false, [.int .i64])]),
  (101, [(false, [.int .i64])]),
  (102, [(false, [.val])]),
  (103, [(false, [.int .i64])]),
  (104, [(false, [.int .i64]), (false, [.bool])]),
  (105, [(false, [.bool])]),
  (106, [(false, [.bool])]),
  (107, [(false, [.bool])]),
  (108, []),
  (109, [(false, [.int .i64])]),
  (110, [(false, [.str])]),
  (111, [(false, [.int .i64]), (false, [.val])]),
  (112, [(false, [.val])]),
  (113, [(false, [.bool])]),
  (114, [(false, [.val])]),
  (115, [(false, [.int .i64])]),
  (116, [(false, [.val])]),
  (117, [(false, [.val])]),
  (118, [(false, [.str])]),
  (119, [(true, [.int .i64, .int .i64])]),
  (120, [(false, [.bool])]),
  (121, []),
  (127, [(false, [.bool])]),
  (130, [(false, [.int .i64])]),
  (131, [(false, [.int .i64])]),
  (132, []),
  (133, [(false, [.val])]),
  (134, [(false, [.int .i64]), (false, [.int .i64])]),
  (135, [(false, [.int .i64]), (false, [.int .i64])]),
  (136, []),
  (137, [(false, [.int .i64])]),
  (138, [(false, [.int .i64])]),
  (139, []),
  (140, [(false, [.val])]),
  (141, []),
  (142, []),
  (143, [(false, [.val])]),
  (144, []),
  (145, [(false, [.val])]),
  (146, [(false, [.val])]),
  (147, [(true, [.str, .int .i64, .int .i64, .int .i64, .int .i64])]),
  (148, [(false, [.bool])]),
  (150, [(false, [.int .u64])]),
  (151, [(false, [.int .u64])]),
  (154, [(false, [.bool])]),
  (155, [(false, [.int .i64])]),
  (156, [(false, [.bool])]),
  (157, [(false, [.str])]),
  (158, [(false, [.val])]),
  (159, [(false, [.int .i64]), (false, [.bool])]),
  (160, [(false, [.int .i64]), (false, [.bool])]),
  (161, [(false, [.val])]),
  (167, [(false, [.bool])]),
  (168, [(false, [.int .i64])]),
  (169, [(false, [.int .i64]), (false, [.int .i64]), (false, [.bool])]),
  (170, [(false, [.int .i64])]),
  (171, [(false, [.int .i64])]),
  (193, [(false, [.val])])]
theorem orc_sok : AllSg Tryz.prog orc_sg := ⟨Tryz.call3,
  Tryz.call4,
  Tryz.call5,
  Tryz.call6,
  Tryz.call7,
  Tryz.call8,
  Tryz.call9,
  Tryz.call10,
  Tryz.call11,
  Tryz.call12,
  Tryz.call13,
  Tryz.call14,
  Tryz.call15,
  Tryz.call16,
  Tryz.call17,
  Tryz.call18,
  Tryz.call19,
  Tryz.call20,
  Tryz.call21,
  Tryz.call22,
  Tryz.call23,
  Tryz.call24,
  Tryz.call25,
  Tryz.call26,
  Tryz.call27,
  Tryz.call28,
  Tryz.call29,
  Tryz.call30,
  Tryz.call31,
  Tryz.call32,
  Tryz.call33,
  Tryz.call34,
  Tryz.call35,
  Tryz.call36,
  Tryz.call37,
  Tryz.call38,
  Tryz.call39,
  Tryz.call40,
  Tryz.call41,
  Tryz.call42,
  Tryz.call43,
  Tryz.call44,
  Tryz.call45,
  Tryz.call46,
  Tryz.call47,
  Tryz.call48,
  Tryz.call49,
  Tryz.call50,
  Tryz.call51,
  Tryz.call52,
  Tryz.call53,
  Tryz.call54,
  Tryz.call55,
  Tryz.call56,
  Tryz.call57,
  Tryz.call58,
  Tryz.call59,
  Tryz.call60,
  Tryz.call61,
  Tryz.call62,
  Tryz.call63,
  Tryz.call64,
  Tryz.call65,
  Tryz.call66,
  Tryz.call67,
  Tryz.call68,
  Tryz.call69,
  Tryz.call70,
  Tryz.call71,
  Tryz.call72,
  Tryz.call73,
  Tryz.call74,
  Tryz.call75,
  Tryz.call76,
  Tryz.call77,
  Tryz.call78,
  Tryz.call79,
  Tryz.call80,
  Tryz.call81,
  Tryz.call82,
  Tryz.call83,
  Tryz.call84,
  Tryz.call85,
  Tryz.call86,
  Tryz.call87,
  Tryz.call88,
  Tryz.call89,
  Tryz.call90,
  Tryz.call91,
  Tryz.call92,
  Tryz.call93,
  Tryz.call94,
  Tryz.call95,
  Tryz.call96,
  Tryz.call97,
  Tryz.call98,
  Tryz.call99,
  Tryz.call100,
  Tryz.call101,
  Tryz.call102,
  Tryz.call103,
  Tryz.call104,
  Tryz.call105,
  Tryz.call106,
  Tryz.call107,
  Tryz.call108,
  Tryz.call109,
  Tryz.call110,
  Tryz.call111,
  Tryz.call112,
  Tryz.call113,
  Tryz.call114,
  Tryz.call115,
  Tryz.call116,
  Tryz.call117,
  Tryz.call118,
  Tryz.call119,
  Tryz.call120,
  Tryz.call121,
  Tryz.call127,
  Tryz.call130,
  Tryz.call131,
  Tryz.call132,
  Tryz.call133,
  Tryz.call134,
  Tryz.call135,
  Tryz.call136,
  Tryz.call137,
  Tryz.call138,
  Tryz.call139,
  Tryz.call140,
  Tryz.call141,
  Tryz.call142,
  Tryz.call143,
  Tryz.call144,
  Tryz.call145,
  Tryz.call146,
  Tryz.call147,
  Tryz.call148,
  Tryz.call150,
  Tryz.call151,
  Tryz.call154,
  Tryz.call155,
  Tryz.call156,
  Tryz.call157,
  Tryz.call158,
  Tryz.call159,
  Tryz.call160,
  Tryz.call161,
  Tryz.call167,
  Tryz.call168,
  Tryz.call169,
  Tryz.call170,
  Tryz.call171,
  Tryz.call193, trivial⟩
def orc : Orc Tryz.prog := ⟨orc_ts, allTi_of orc_tok, orc_sg, allSg_of orc_sok⟩
theorem orc_wide : Tryz.prog.follows .mixedOrders = true := by kernel_rfl
end Go.Proofs.YtkjpmkopnkkbmaaGreatDoor

/- Functions of Slices, read without their frames; that each is enough. Printed by a program of mine (wip/lift/gen.py). -/
set_option maxRecDepth 100000
namespace Go.Proofs.YtkjpmkopnkkbmaaGreatDoor
open Go.RowKit

def slices_Clone_sl_int_int_sh (s_1 : Sl) (w : World) (K : Value → World → Prop) : Prop :=
 brB (Option.isNone s_1.ptr)
 (K (.slice none 0 0) w)
 (∀ (b2 : Nat) (w3 : World), b2 = w.heap.size → w3 = World.alloc w (.cells #[] T_int) →
 ∃ s4 : Sl, ∃ w5 : World, (Builtin.append_ #[T_sl_int, T_sl_int] T_sl_int #[.slice (some ⟨b2, 0, none⟩) 0 0, s_1.val]).run Tryz.prog w3 = .ok (s4.val) w5 ∧
 K (s4.val) w5)
def slices_Clone_sl_int_int_an : An := ⟨[], [], []⟩
theorem slices_Clone_sl_int_int_lift {s_1 : Sl} {w : World} {K : Value → World → Prop} (h : slices_Clone_sl_int_int_sh s_1 w K) : Calls Tryz.prog fn_slices_Clone_sl_int_int #[s_1.val] w fun e w' => ∃ v, e = .returned v ∧ K v w' :=
   lift_calls (A := slices_Clone_sl_int_int_an) (c := bodyOf Tryz.f42) (args := [s_1.val]) orc orc_wide Tryz.func42 (by kernel_rfl) (by kernel_rfl) (Eq.mp (by kernel_rfl : slices_Clone_sl_int_int_sh s_1 w K = wpc orc Tryz.f42.ntmps slices_Clone_sl_int_int_an (bodyOf Tryz.f42) (argl 0 [s_1.val]) w (retQ orc Tryz.f42.results.toList K)) h)

end Go.Proofs.YtkjpmkopnkkbmaaGreatDoor

/- Numbers as elements of lists; slices.Clone. -/
set_option maxRecDepth 100000
namespace Go.Proofs.YtkjpmkopnkkbmaaGreatDoor
open Go.RowKit

def intE : Enc Int := ⟨T_int, 1, 8, fun n => [.int .i64 n], by intro x; rfl, by intro x u hu; simp at hu; subst hu; rfl, by decide⟩
theorem intOk : EncOk Tryz.prog intE T_sl_int := EncOk.of (z := .int .i64 0) (by kernel_rfl) (by kernel_rfl) (by kernel_rfl)
/-! ### slices.Clone -/
theorem Rd.none {α : Type} {E : Enc α} {w : World} {s : Sl} {xs : List α} (h : Rd E w s xs) (hp : s.ptr = none) : xs = [] ∧ s.cap = 0 := by
  obtain ⟨ao, cap, he, _, _, h5, _⟩ := h
  have hq : s.ptr = ao ∧ s.cap = cap := by cases s; simp [Sl.val] at he; exact ⟨he.1, he.2.2⟩
  have := h5 (hq.1.symm.trans hp)
  exact ⟨List.eq_nil_of_length_eq_zero this.1, hq.2.trans this.2⟩
theorem clone_core {α : Type} {P : Program} {E : Enc α} {T : TypeId} (ok : EncOk P E T) (hby : E.bytes ≤ 1000) {w : World} {s : Sl} {xs : List α} (h : Rd E w s xs) (hsm : xs.length ≤ 1000000000) {K : Value → World → Prop}
    (k : ∀ (s' : Sl) (w' : World), Ow E w' s' xs → Chg No w w' → (∀ k, s'.blk = some k → w.heap.size ≤ k) → (s.ptr = none → s' = nilS) → K s'.val w') :
    brB (Option.isNone s.ptr) (K (.slice none 0 0) w) (∀ (b2 : Nat) (w3 : World), b2 = w.heap.size → w3 = World.alloc w (.cells #[] E.t) →
      ∃ s4 : Sl, ∃ w5 : World, (Builtin.append_ #[T, T] T #[.slice (some ⟨b2, 0, none⟩) 0 0, s.val]).run P w3 = .ok (s4.val) w5 ∧ K (s4.val) w5) := by
  refine brB_of (fun hp => ?_) (fun hp => ?_)
  · have hp : s.ptr = Option.none := by cases h : s.ptr with
      | none => rfl
      | some a => rw [h] at hp; cases hp
    obtain ⟨rfl, _⟩ := h.none hp
    exact k nilS w (Ow.nil E w) (Chg.refl _ _) (fun k hk => by cases hk) (fun _ => rfl)
  · intro b2 w3 hb hw
    have hne : s.ptr ≠ Option.none := fun e => by rw [e] at hp; cases hp
    have hc : Chg No w w3 := by rw [hw]; exact Chg.alloc _ _ _
    have hlit : Ow E w3 ⟨some ⟨b2, 0, Option.none⟩, 0, 0⟩ [] := by
      rw [hw, hb]; exact Ow.lit w [] [] rfl (Nat.zero_le _)
    have hs3 : w.heap.size < w3.heap.size := by rw [hw]; simp
    refine app_ok ok rfl rfl hlit (h.no hc) (by
      have : (xs.length) * E.bytes ≤ 1000000000 * 1000 := Nat.mul_le_mul hsm hby
      simp only [List.length_nil, Nat.zero_add]; omega) (by simp only [List.length_nil, Nat.zero_add]; unfold maxLen; omega) ?_
    intro s' w5 h5 hc5 hbk
    refine k s' w5 (by simpa using h5) (hc.trans hc5 (fun _ _ h => h) (fun j hj he => ?_)) (fun j hj => ?_) (fun e => absurd e hne)
    · have : some b2 = some j := he
      cases this; omega
    · rcases hbk with hk | hk
      · have : (⟨some ⟨b2, 0, Option.none⟩, 0, 0⟩ : Sl).blk = some b2 := rfl
        rw [hk, this] at hj; cases hj; omega
      · rw [hk] at hj; cases hj; omega
theorem clone_ints {w : World} {s : Sl} {xs : List Int} (h : Rd intE w s xs) (hsm : xs.length ≤ 1000000000) : Calls Tryz.prog fn_slices_Clone_sl_int_int #[s.val] w fun e w' => ∃ s' : Sl, e = .returned s'.val ∧ Ow intE w' s' xs ∧ Chg No w w' ∧ (∀ k, s'.blk = some k → w.heap.size ≤ k) ∧ (s.ptr = none → s' = nilS) := by
  refine (slices_Clone_sl_int_int_lift (K := fun v w' => ∃ s' : Sl, v = s'.val ∧ Ow intE w' s' xs ∧ Chg No w w' ∧ (∀ k, s'.blk = some k → w.heap.size ≤ k) ∧ (s.ptr = none → s' = nilS)) ?_).mono (by rintro e w' ⟨v, rfl, s', rfl, h⟩; exact ⟨s', rfl, h⟩)
  unfold slices_Clone_sl_int_int_sh
  exact clone_core (K := fun v w' => ∃ s' : Sl, v = s'.val ∧ Ow intE w' s' xs ∧ Chg No w w' ∧ (∀ k, s'.blk = some k → w.heap.size ≤ k) ∧ (s.ptr = none → s' = nilS)) intOk (by decide) h hsm fun s' w' h1 h2 h3 h4 => ⟨s', rfl, h1, h2, h3, h4⟩
end Go.Proofs.YtkjpmkopnkkbmaaGreatDoor

/- Functions of Inner, read without their frames; that each is enough. Printed by a program of mine (wip/lift/gen.py). -/
set_option maxRecDepth 100000
namespace Go.Proofs.YtkjpmkopnkkbmaaGreatDoor
open Go.RowKit

def inner_Copy_sh (s1 : Int) (s2 : Int) (s3 : Sl) (s4 : Sl) (s5 : Sl) (s6 : ByteArray) (s7 : ByteArray) (s8 : Int) (s9 : Int) (s10 : Int) (w : World) (K : Value → World → Prop) : Prop :=
 ∀ (b11 : Nat) (w12 : World), b11 = w.heap.size → w12 = World.alloc w (.cells #[.int .i64 s1, .int .i64 s2, s3.val, s4.val, s5.val, .string s6, .string s7, .int .i64 s8, .int .i64 s9, .int .i64 s10] T_api_State) →
 ∀ (b13 : Nat) (w14 : World), b13 = w12.heap.size → w14 = World.alloc w12 (.cells #[.int .i64 (0 : Int), .int .i64 (0 : Int), .slice none 0 0, .slice none 0 0, .slice none 0 0, .string (bs []), .string (bs []), .int .i64 (0 : Int), .int .i64 (0 : Int), .int .i64 (0 : Int)] T_api_State) →
 ∀ w15 : World, w15 = World.drew w14 →
 ∃ S16 : World → Prop, S16 w15 ∧
 ∃ s17 : Sl, held S16 ⟨b11, 2, none⟩ (s17.val) ∧
 ∃ s18 : Sl, held S16 ⟨b11, 3, none⟩ (s18.val) ∧
 ∃ s19 : Sl, held S16 ⟨b11, 4, none⟩ (s19.val) ∧
 Calls Tryz.prog fn_slices_Clone_sl_int_int #[s17.val] w15 fun e20 w21 => ∃ s22 : Sl, e20 = .returned (s22.val) ∧
 S16 w21 ∧
 Calls Tryz.prog fn_slices_Clone_sl_int_int #[s18.val] w21 fun e23 w24 => ∃ s25 : Sl, e23 = .returned (s25.val) ∧
 S16 w24 ∧
 Calls Tryz.prog fn_slices_Clone_sl_int_int #[s19.val] w24 fun e26 w27 => ∃ s28 : Sl, e26 = .returned (s28.val) ∧
 S16 w27 ∧
 wrOk w27 ⟨b11, 2, none⟩ 1 ∧ ∀ w29 : World, w29 = stW w27 ⟨b11, 2, none⟩ 0 [s22.val] →
 wrOk w29 ⟨b11, 3, none⟩ 1 ∧ ∀ w30 : World, w30 = stW w29 ⟨b11, 3, none⟩ 0 [s25.val] →
 wrOk w30 ⟨b11, 4, none⟩ 1 ∧ ∀ w31 : World, w31 = stW w30 ⟨b11, 4, none⟩ 0 [s28.val] →
 ∃ n32 n33 : Int, ∃ s34 s35 s36 : Sl, ∃ t37 t38 : ByteArray, ∃ n39 n40 n41 : Int, w31.cell? ⟨b11, 0, none⟩ = some (.int .i64 n32) ∧ w31.cell? ⟨b11, 1, none⟩ = some (.int .i64 n33) ∧ w31.cell? ⟨b11, 2, none⟩ = some (s34.val) ∧ w31.cell? ⟨b11, 3, none⟩ = some (s35.val) ∧ w31.cell? ⟨b11, 4, none⟩ = some (s36.val) ∧ w31.cell? ⟨b11, 5, none⟩ = some (.string t37) ∧ w31.cell? ⟨b11, 6, none⟩ = some (.string t38) ∧ w31.cell? ⟨b11, 7, none⟩ = some (.int .i64 n39) ∧ w31.cell? ⟨b11, 8, none⟩ = some (.int .i64 n40) ∧ w31.cell? ⟨b11, 9, none⟩ = some (.int .i64 n41) ∧
 wrOk w31 ⟨b13, 0, none⟩ 10 ∧ ∀ w42 : World, w42 = stW w31 ⟨b13, 0, none⟩ 0 [.int .i64 n32, .int .i64 n33, s34.val, s35.val, s36.val, .string t37, .string t38, .int .i64 n39, .int .i64 n40, .int .i64 n41] →
 ∃ r43 r44 : Int, ∃ r45 r46 r47 : Sl, ∃ r48 r49 : ByteArray, ∃ r50 r51 r52 : Int, w42.cell? ⟨b13, 0, none⟩ = some (.int .i64 r43) ∧ w42.cell? ⟨b13, 1, none⟩ = some (.int .i64 r44) ∧ w42.cell? ⟨b13, 2, none⟩ = some (r45.val) ∧ w42.cell? ⟨b13, 3, none⟩ = some (r46.val) ∧ w42.cell? ⟨b13, 4, none⟩ = some (r47.val) ∧ w42.cell? ⟨b13, 5, none⟩ = some (.string r48) ∧ w42.cell? ⟨b13, 6, none⟩ = some (.string r49) ∧ w42.cell? ⟨b13, 7, none⟩ = some (.int .i64 r50) ∧ w42.cell? ⟨b13, 8, none⟩ = some (.int .i64 r51) ∧ w42.cell? ⟨b13, 9, none⟩ = some (.int .i64 r52) ∧
 K (.agg #[.int .i64 r43, .int .i64 r44, r45.val, r46.val, r47.val, .string r48, .string r49, .int .i64 r50, .int .i64 r51, .int .i64 r52]) w42
def inner_Copy_an : An := ⟨[], [(1, (10, .st 0 (.st 1 (.st 3 (.st 4 (.st 6 (.st 7 (.ef 2 (.st 9 (.ef 5 (.ef 8 .done))))))))), 1))], []⟩
theorem inner_Copy_lift {s1 : Int} {s2 : Int} {s3 : Sl} {s4 : Sl} {s5 : Sl} {s6 : ByteArray} {s7 : ByteArray} {s8 : Int} {s9 : Int} {s10 : Int} {w : World} {K : Value → World → Prop} (h : inner_Copy_sh s1 s2 s3 s4 s5 s6 s7 s8 s9 s10 w K) : Calls Tryz.prog fn_inner_Copy #[.agg #[.int .i64 s1, .int .i64 s2, s3.val, s4.val, s5.val, .string s6, .string s7, .int .i64 s8, .int .i64 s9, .int .i64 s10]] w fun e w' => ∃ v, e = .returned v ∧ K v w' :=
   lift_calls (A := inner_Copy_an) (c := bodyOf Tryz.f15) (args := [.agg #[.int .i64 s1, .int .i64 s2, s3.val, s4.val, s5.val, .string s6, .string s7, .int .i64 s8, .int .i64 s9, .int .i64 s10]]) orc orc_wide Tryz.func15 (by kernel_rfl) (by kernel_rfl) (Eq.mp (by kernel_rfl : inner_Copy_sh s1 s2 s3 s4 s5 s6 s7 s8 s9 s10 w K = wpc orc Tryz.f15.ntmps inner_Copy_an (bodyOf Tryz.f15) (argl 0 [.agg #[.int .i64 s1, .int .i64 s2, s3.val, s4.val, s5.val, .string s6, .string s7, .int .i64 s8, .int .i64 s9, .int .i64 s10]]) w (retQ orc Tryz.f15.results.toList K)) h)

def inner_Step_sh (s1 : Int) (s2 : Int) (s3 : Sl) (s4 : Sl) (s5 : Sl) (s6 : ByteArray) (s7 : ByteArray) (s8 : Int) (s9 : Int) (s10 : Int) (w : World) (K : Value → World → Prop) : Prop :=
 ∀ (b11 : Nat) (w12 : World), b11 = w.heap.size → w12 = World.alloc w (.cells #[.int .i64 s1, .int .i64 s2, s3.val, s4.val, s5.val, .string s6, .string s7, .int .i64 s8, .int .i64 s9, .int .i64 s10] T_api_State) →
 ∀ (b13 : Nat) (w14 : World), b13 = w12.heap.size → w14 = World.alloc w12 (.cells #[.int .i64 (0 : Int), .int .i64 (0 : Int), .slice none 0 0, .slice none 0 0, .slice none 0 0, .string (bs []), .string (bs []), .int .i64 (0 : Int), .int .i64 (0 : Int), .int .i64 (0 : Int)] T_api_State) →
 ∃ n15 n16 : Int, ∃ s17 s18 s19 : Sl, ∃ t20 t21 : ByteArray, ∃ n22 n23 n24 : Int, w14.cell? ⟨b11, 0, none⟩ = some (.int .i64 n15) ∧ w14.cell? ⟨b11, 1, none⟩ = some (.int .i64 n16) ∧ w14.cell? ⟨b11, 2, none⟩ = some (s17.val) ∧ w14.cell? ⟨b11, 3, none⟩ = some (s18.val) ∧ w14.cell? ⟨b11, 4, none⟩ = some (s19.val) ∧ w14.cell? ⟨b11, 5, none⟩ = some (.string t20) ∧ w14.cell? ⟨b11, 6, none⟩ = some (.string t21) ∧ w14.cell? ⟨b11, 7, none⟩ = some (.int .i64 n22) ∧ w14.cell? ⟨b11, 8, none⟩ = some (.int .i64 n23) ∧ w14.cell? ⟨b11, 9, none⟩ = some (.int .i64 n24) ∧
 Calls Tryz.prog fn_inner_Run #[.agg #[.int .i64 n15, .int .i64 n16, s17.val, s18.val, s19.val, .string t20, .string t21, .int .i64 n22, .int .i64 n23, .int .i64 n24], .int .i64 (1 : Int)] w14 fun e25 w26 => ∃ n27 n28 : Int, ∃ s29 s30 s31 : Sl, ∃ t32 t33 : ByteArray, ∃ n34 n35 : Int, ∃ n36 n37 : Int, e25 = .returned (.tuple #[.agg #[.int .i64 n27, .int .i64 n28, s29.val, s30.val, s31.val, .string t32, .string t33, .int .i64 n34, .int .i64 n35, .int .i64 n36], .int .i64 n37]) ∧
 ∀ (b38 : Nat) (w39 : World), b38 = w26.heap.size → w39 = World.alloc w26 (.cells #[.int .i64 (0 : Int), .int .i64 (0 : Int), .slice none 0 0, .slice none 0 0, .slice none 0 0, .string (bs []), .string (bs []), .int .i64 (0 : Int), .int .i64 (0 : Int), .int .i64 (0 : Int)] T_api_State) →
 wrOk w39 ⟨b38, 0, none⟩ 10 ∧ ∀ w40 : World, w40 = stW w39 ⟨b38, 0, none⟩ 0 [.int .i64 n27, .int .i64 n28, s29.val, s30.val, s31.val, .string t32, .string t33, .int .i64 n34, .int .i64 n35, .int .i64 n36] →
 ∃ n41 n42 : Int, ∃ s43 s44 s45 : Sl, ∃ t46 t47 : ByteArray, ∃ n48 n49 n50 : Int, w40.cell? ⟨b38, 0, none⟩ = some (.int .i64 n41) ∧ w40.cell? ⟨b38, 1, none⟩ = some (.int .i64 n42) ∧ w40.cell? ⟨b38, 2, none⟩ = some (s43.val) ∧ w40.cell? ⟨b38, 3, none⟩ = some (s44.val) ∧ w40.cell? ⟨b38, 4, none⟩ = some (s45.val) ∧ w40.cell? ⟨b38, 5, none⟩ = some (.string t46) ∧ w40.cell? ⟨b38, 6, none⟩ = some (.string t47) ∧ w40.cell? ⟨b38, 7, none⟩ = some (.int .i64 n48) ∧ w40.cell? ⟨b38, 8, none⟩ = some (.int .i64 n49) ∧ w40.cell? ⟨b38, 9, none⟩ = some (.int .i64 n50) ∧
 wrOk w40 ⟨b13, 0, none⟩ 10 ∧ ∀ w51 : World, w51 = stW w40 ⟨b13, 0, none⟩ 0 [.int .i64 n41, .int .i64 n42, s43.val, s44.val, s45.val, .string t46, .string t47, .int .i64 n48, .int .i64 n49, .int .i64 n50] →
 ∃ r52 r53 : Int, ∃ r54 r55 r56 : Sl, ∃ r57 r58 : ByteArray, ∃ r59 r60 r61 : Int, w51.cell? ⟨b13, 0, none⟩ = some (.int .i64 r52) ∧ w51.cell? ⟨b13, 1, none⟩ = some (.int .i64 r53) ∧ w51.cell? ⟨b13, 2, none⟩ = some (r54.val) ∧ w51.cell? ⟨b13, 3, none⟩ = some (r55.val) ∧ w51.cell? ⟨b13, 4, none⟩ = some (r56.val) ∧ w51.cell? ⟨b13, 5, none⟩ = some (.string r57) ∧ w51.cell? ⟨b13, 6, none⟩ = some (.string r58) ∧ w51.cell? ⟨b13, 7, none⟩ = some (.int .i64 r59) ∧ w51.cell? ⟨b13, 8, none⟩ = some (.int .i64 r60) ∧ w51.cell? ⟨b13, 9, none⟩ = some (.int .i64 r61) ∧
 K (.agg #[.int .i64 r52, .int .i64 r53, r54.val, r55.val, r56.val, .string r57, .string r58, .int .i64 r59, .int .i64 r60, .int .i64 r61]) w51
def inner_Step_an : An := ⟨[], [], []⟩
theorem inner_Step_lift {s1 : Int} {s2 : Int} {s3 : Sl} {s4 : Sl} {s5 : Sl} {s6 : ByteArray} {s7 : ByteArray} {s8 : Int} {s9 : Int} {s10 : Int} {w : World} {K : Value → World → Prop} (h : inner_Step_sh s1 s2 s3 s4 s5 s6 s7 s8 s9 s10 w K) : Calls Tryz.prog fn_inner_Step #[.agg #[.int .i64 s1, .int .i64 s2, s3.val, s4.val, s5.val, .string s6, .string s7, .int .i64 s8, .int .i64 s9, .int .i64 s10]] w fun e w' => ∃ v, e = .returned v ∧ K v w' :=
   lift_calls (A := inner_Step_an) (c := bodyOf Tryz.f24) (args := [.agg #[.int .i64 s1, .int .i64 s2, s3.val, s4.val, s5.val, .string s6, .string s7, .int .i64 s8, .int .i64 s9, .int .i64 s10]]) orc orc_wide Tryz.func24 (by kernel_rfl) (by kernel_rfl) (Eq.mp (by kernel_rfl : inner_Step_sh s1 s2 s3 s4 s5 s6 s7 s8 s9 s10 w K = wpc orc Tryz.f24.ntmps inner_Step_an (bodyOf Tryz.f24) (argl 0 [.agg #[.int .i64 s1, .int .i64 s2, s3.val, s4.val, s5.val, .string s6, .string s7, .int .i64 s8, .int .i64 s9, .int .i64 s10]]) w (retQ orc Tryz.f24.results.toList K)) h)

def inner_Run_j1 (b38 : Nat) (I1 : Int → World → Prop) (fuel42 : Int) (μ1 : Int → World → Nat) (w40 : World) (b14 : Nat) (b46 : Bool) (w45 : World) (K : Value → World → Prop) : Prop :=
 brB b46
 (Calls Tryz.prog fn_inner_machine_advance #[.pointer (some ⟨b38, 0, none⟩)] w45 fun e47 w48 => e47 = .returned (.tuple #[]) ∧
 I1 (wr (fuel42 - (1 : Int))) w48 ∧ μ1 (wr (fuel42 - (1 : Int))) w48 < μ1 fuel42 w40)
 (∃ n49 n50 : Int, ∃ s51 s52 s53 : Sl, ∃ t54 t55 : ByteArray, ∃ n56 n57 n58 : Int, w45.cell? ⟨b38, 0, none⟩ = some (.int .i64 n49) ∧ w45.cell? ⟨b38, 1, none⟩ = some (.int .i64 n50) ∧ w45.cell? ⟨b38, 2, none⟩ = some (s51.val) ∧ w45.cell? ⟨b38, 3, none⟩ = some (s52.val) ∧ w45.cell? ⟨b38, 4, none⟩ = some (s53.val) ∧ w45.cell? ⟨b38, 5, none⟩ = some (.string t54) ∧ w45.cell? ⟨b38, 6, none⟩ = some (.string t55) ∧ w45.cell? ⟨b38, 7, none⟩ = some (.int .i64 n56) ∧ w45.cell? ⟨b38, 8, none⟩ = some (.int .i64 n57) ∧ w45.cell? ⟨b38, 9, none⟩ = some (.int .i64 n58) ∧
 wrOk w45 ⟨b14, 0, none⟩ 10 ∧ ∀ w59 : World, w59 = stW w45 ⟨b14, 0, none⟩ 0 [.int .i64 n49, .int .i64 n50, s51.val, s52.val, s53.val, .string t54, .string t55, .int .i64 n56, .int .i64 n57, .int .i64 n58] →
 ∃ r60 r61 : Int, ∃ r62 r63 r64 : Sl, ∃ r65 r66 : ByteArray, ∃ r67 r68 r69 : Int, w59.cell? ⟨b14, 0, none⟩ = some (.int .i64 r60) ∧ w59.cell? ⟨b14, 1, none⟩ = some (.int .i64 r61) ∧ w59.cell? ⟨b14, 2, none⟩ = some (r62.val) ∧ w59.cell? ⟨b14, 3, none⟩ = some (r63.val) ∧ w59.cell? ⟨b14, 4, none⟩ = some (r64.val) ∧ w59.cell? ⟨b14, 5, none⟩ = some (.string r65) ∧ w59.cell? ⟨b14, 6, none⟩ = some (.string r66) ∧ w59.cell? ⟨b14, 7, none⟩ = some (.int .i64 r67) ∧ w59.cell? ⟨b14, 8, none⟩ = some (.int .i64 r68) ∧ w59.cell? ⟨b14, 9, none⟩ = some (.int .i64 r69) ∧
 K (.tuple #[.agg #[.int .i64 r60, .int .i64 r61, r62.val, r63.val, r64.val, .string r65, .string r66, .int .i64 r67, .int .i64 r68, .int .i64 r69], .int .i64 fuel42]) w59)
def inner_Run_sh (s1 : Int) (s2 : Int) (s3 : Sl) (s4 : Sl) (s5 : Sl) (s6 : ByteArray) (s7 : ByteArray) (s8 : Int) (s9 : Int) (s10 : Int) (fuel11 : Int) (w : World) (K : Value → World → Prop) : Prop :=
 ∀ (b12 : Nat) (w13 : World), b12 = w.heap.size → w13 = World.alloc w (.cells #[.int .i64 s1, .int .i64 s2, s3.val, s4.val, s5.val, .string s6, .string s7, .int .i64 s8, .int .i64 s9, .int .i64 s10] T_api_State) →
 ∀ (b14 : Nat) (w15 : World), b14 = w13.heap.size → w15 = World.alloc w13 (.cells #[.int .i64 (0 : Int), .int .i64 (0 : Int), .slice none 0 0, .slice none 0 0, .slice none 0 0, .string (bs []), .string (bs []), .int .i64 (0 : Int), .int .i64 (0 : Int), .int .i64 (0 : Int)] T_api_State) →
 ∃ n16 n17 : Int, ∃ s18 s19 s20 : Sl, ∃ t21 t22 : ByteArray, ∃ n23 n24 n25 : Int, w15.cell? ⟨b12, 0, none⟩ = some (.int .i64 n16) ∧ w15.cell? ⟨b12, 1, none⟩ = some (.int .i64 n17) ∧ w15.cell? ⟨b12, 2, none⟩ = some (s18.val) ∧ w15.cell? ⟨b12, 3, none⟩ = some (s19.val) ∧ w15.cell? ⟨b12, 4, none⟩ = some (s20.val) ∧ w15.cell? ⟨b12, 5, none⟩ = some (.string t21) ∧ w15.cell? ⟨b12, 6, none⟩ = some (.string t22) ∧ w15.cell? ⟨b12, 7, none⟩ = some (.int .i64 n23) ∧ w15.cell? ⟨b12, 8, none⟩ = some (.int .i64 n24) ∧ w15.cell? ⟨b12, 9, none⟩ = some (.int .i64 n25) ∧
 Calls Tryz.prog fn_inner_Copy #[.agg #[.int .i64 n16, .int .i64 n17, s18.val, s19.val, s20.val, .string t21, .string t22, .int .i64 n23, .int .i64 n24, .int .i64 n25]] w15 fun e26 w27 => ∃ n28 n29 : Int, ∃ s30 s31 s32 : Sl, ∃ t33 t34 : ByteArray, ∃ n35 n36 n37 : Int, e26 = .returned (.agg #[.int .i64 n28, .int .i64 n29, s30.val, s31.val, s32.val, .string t33, .string t34, .int .i64 n35, .int .i64 n36, .int .i64 n37]) ∧
 ∀ (b38 : Nat) (w39 : World), b38 = w27.heap.size → w39 = World.alloc w27 (.cells #[.int .i64 n28, .int .i64 n29, s30.val, s31.val, s32.val, .string t33, .string t34, .int .i64 n35, .int .i64 n36, .int .i64 n37, .bool false] T_inner_machine) →
 ∃ (I1 : Int → World → Prop) (μ1 : Int → World → Nat), I1 fuel11 w39 ∧ ∀ (fuel42 : Int) (w40 : World), I1 fuel42 w40 →
 ∃ n41 : Int, w40.cell? ⟨b38, 8, none⟩ = some (.int .i64 n41) ∧
 brB (n41 == (0 : Int))
 (inner_Run_j1 b38 I1 fuel42 (μ1) w40 b14 (decide (fuel42 > (0 : Int))) w40 K)
 (inner_Run_j1 b38 I1 fuel42 (μ1) w40 b14 false w40 K)
def inner_Run_an : An := ⟨[(2, [(1, .int .i64)])], [], []⟩
theorem inner_Run_lift {s1 : Int} {s2 : Int} {s3 : Sl} {s4 : Sl} {s5 : Sl} {s6 : ByteArray} {s7 : ByteArray} {s8 : Int} {s9 : Int} {s10 : Int} {fuel11 : Int} {w : World} {K : Value → World → Prop} (h : inner_Run_sh s1 s2 s3 s4 s5 s6 s7 s8 s9 s10 fuel11 w K) : Calls Tryz.prog fn_inner_Run #[.agg #[.int .i64 s1, .int .i64 s2, s3.val, s4.val, s5.val, .string s6, .string s7, .int .i64 s8, .int .i64 s9, .int .i64 s10], .int .i64 fuel11] w fun e w' => ∃ v, e = .returned v ∧ K v w' :=
   lift_calls (A := inner_Run_an) (c := bodyOf Tryz.f26) (args := [.agg #[.int .i64 s1, .int .i64 s2, s3.val, s4.val, s5.val, .string s6, .string s7, .int .i64 s8, .int .i64 s9, .int .i64 s10], .int .i64 fuel11]) orc orc_wide Tryz.func26 (by kernel_rfl) (by kernel_rfl) (Eq.mp (by kernel_rfl : inner_Run_sh s1 s2 s3 s4 s5 s6 s7 s8 s9 s10 fuel11 w K = wpc orc Tryz.f26.ntmps inner_Run_an (bodyOf Tryz.f26) (argl 0 [.agg #[.int .i64 s1, .int .i64 s2, s3.val, s4.val, s5.val, .string s6, .string s7, .int .i64 s8, .int .i64 s9, .int .i64 s10], .int .i64 fuel11]) w (retQ orc Tryz.f26.results.toList K)) h)

def inner_faulty_sh (s1 : Int) (s2 : Int) (s3 : Sl) (s4 : Sl) (s5 : Sl) (s6 : ByteArray) (s7 : ByteArray) (s8 : Int) (s9 : Int) (s10 : Int) (code11 : Int) (w : World) (K : Value → World → Prop) : Prop :=
 ∀ (b12 : Nat) (w13 : World), b12 = w.heap.size → w13 = World.alloc w (.cells #[.int .i64 s1, .int .i64 s2, s3.val, s4.val, s5.val, .string s6, .string s7, .int .i64 s8, .int .i64 s9, .int .i64 s10] T_api_State) →
 ∀ (b14 : Nat) (w15 : World), b14 = w13.heap.size → w15 = World.alloc w13 (.cells #[.int .i64 (0 : Int), .int .i64 (0 : Int), .slice none 0 0, .slice none 0 0, .slice none 0 0, .string (bs []), .string (bs []), .int .i64 (0 : Int), .int .i64 (0 : Int), .int .i64 (0 : Int)] T_api_State) →
 ∃ n16 n17 : Int, ∃ s18 s19 s20 : Sl, ∃ t21 t22 : ByteArray, ∃ n23 n24 n25 : Int, w15.cell? ⟨b12, 0, none⟩ = some (.int .i64 n16) ∧ w15.cell? ⟨b12, 1, none⟩ = some (.int .i64 n17) ∧ w15.cell? ⟨b12, 2, none⟩ = some (s18.val) ∧ w15.cell? ⟨b12, 3, none⟩ = some (s19.val) ∧ w15.cell? ⟨b12, 4, none⟩ = some (s20.val) ∧ w15.cell? ⟨b12, 5, none⟩ = some (.string t21) ∧ w15.cell? ⟨b12, 6, none⟩ = some (.string t22) ∧ w15.cell? ⟨b12, 7, none⟩ = some (.int .i64 n23) ∧ w15.cell? ⟨b12, 8, none⟩ = some (.int .i64 n24) ∧ w15.cell? ⟨b12, 9, none⟩ = some (.int .i64 n25) ∧
 Calls Tryz.prog fn_inner_caught #[.agg #[.int .i64 n16, .int .i64 n17, s18.val, s19.val, s20.val, .string t21, .string t22, .int .i64 n23, .int .i64 n24, .int .i64 n25]] w15 fun e26 w27 => ∃ n28 : Int, ∃ b29 : Bool, e26 = .returned (.tuple #[.int .i64 n28, .bool b29]) ∧
 brB (!b29)
 (wrOk w27 ⟨b12, 8, none⟩ 1 ∧ ∀ w30 : World, w30 = stW w27 ⟨b12, 8, none⟩ 0 [.int .i64 (2 : Int)] →
 wrOk w30 ⟨b12, 9, none⟩ 1 ∧ ∀ w31 : World, w31 = stW w30 ⟨b12, 9, none⟩ 0 [.int .i64 code11] →
 ∃ n32 n33 : Int, ∃ s34 s35 s36 : Sl, ∃ t37 t38 : ByteArray, ∃ n39 n40 n41 : Int, w31.cell? ⟨b12, 0, none⟩ = some (.int .i64 n32) ∧ w31.cell? ⟨b12, 1, none⟩ = some (.int .i64 n33) ∧ w31.cell? ⟨b12, 2, none⟩ = some (s34.val) ∧ w31.cell? ⟨b12, 3, none⟩ = some (s35.val) ∧ w31.cell? ⟨b12, 4, none⟩ = some (s36.val) ∧ w31.cell? ⟨b12, 5, none⟩ = some (.string t37) ∧ w31.cell? ⟨b12, 6, none⟩ = some (.string t38) ∧ w31.cell? ⟨b12, 7, none⟩ = some (.int .i64 n39) ∧ w31.cell? ⟨b12, 8, none⟩ = some (.int .i64 n40) ∧ w31.cell? ⟨b12, 9, none⟩ = some (.int .i64 n41) ∧
 wrOk w31 ⟨b14, 0, none⟩ 10 ∧ ∀ w42 : World, w42 = stW w31 ⟨b14, 0, none⟩ 0 [.int .i64 n32, .int .i64 n33, s34.val, s35.val, s36.val, .string t37, .string t38, .int .i64 n39, .int .i64 n40, .int .i64 n41] →
 ∃ r43 r44 : Int, ∃ r45 r46 r47 : Sl, ∃ r48 r49 : ByteArray, ∃ r50 r51 r52 : Int, w42.cell? ⟨b14, 0, none⟩ = some (.int .i64 r43) ∧ w42.cell? ⟨b14, 1, none⟩ = some (.int .i64 r44) ∧ w42.cell? ⟨b14, 2, none⟩ = some (r45.val) ∧ w42.cell? ⟨b14, 3, none⟩ = some (r46.val) ∧ w42.cell? ⟨b14, 4, none⟩ = some (r47.val) ∧ w42.cell? ⟨b14, 5, none⟩ = some (.string r48) ∧ w42.cell? ⟨b14, 6, none⟩ = some (.string r49) ∧ w42.cell? ⟨b14, 7, none⟩ = some (.int .i64 r50) ∧ w42.cell? ⟨b14, 8, none⟩ = some (.int .i64 r51) ∧ w42.cell? ⟨b14, 9, none⟩ = some (.int .i64 r52) ∧
 K (.agg #[.int .i64 r43, .int .i64 r44, r45.val, r46.val, r47.val, .string r48, .string r49, .int .i64 r50, .int .i64 r51, .int .i64 r52]) w42)
 (∃ n53 : Int, w27.cell? ⟨b12, 1, none⟩ = some (.int .i64 n53) ∧
 ∀ w54 : World, w54 = World.drew w27 →
 ∃ S55 : World → Prop, S55 w54 ∧
 ∃ s56 : Sl, held S55 ⟨b12, 3, none⟩ (s56.val) ∧
 ∃ a57 : Addr, s56.ptr = some a57 ∧ 0 ≤ (wr (n53 - (3 : Int))) ∧ (wr (n53 - (3 : Int))) < (s56.len : Int) ∧
 ∃ n58 : Int, held S55 (Addr.add a57 (Int.toNat (wr (n53 - (3 : Int))) * 1)) (.int .i64 n58) ∧
 ∃ s59 : Sl, held S55 ⟨b12, 3, none⟩ (s59.val) ∧
 ∃ a60 : Addr, s59.ptr = some a60 ∧ 0 ≤ (wr ((wr (n53 - (3 : Int))) + (1 : Int))) ∧ (wr ((wr (n53 - (3 : Int))) + (1 : Int))) < (s59.len : Int) ∧
 ∃ n61 : Int, held S55 (Addr.add a60 (Int.toNat (wr ((wr (n53 - (3 : Int))) + (1 : Int))) * 1)) (.int .i64 n61) ∧
 ∃ s62 : Sl, held S55 ⟨b12, 3, none⟩ (s62.val) ∧
 0 ≤ (wr (n53 - (3 : Int))) ∧ (wr (n53 - (3 : Int))) ≤ (s62.cap : Int) ∧ 
 wrOk w54 ⟨b12, 0, none⟩ 1 ∧ ∀ w63 : World, w63 = stW w54 ⟨b12, 0, none⟩ 0 [.int .i64 n58] →
 S55 w63 ∧
 wrOk w63 ⟨b12, 1, none⟩ 1 ∧ ∀ w64 : World, w64 = stW w63 ⟨b12, 1, none⟩ 0 [.int .i64 n61] →
 S55 w64 ∧
 wrOk w64 ⟨b12, 3, none⟩ 1 ∧ ∀ w65 : World, w65 = stW w64 ⟨b12, 3, none⟩ 0 [(Sl.sub s62.ptr s62.cap 0 (Int.toNat (wr (n53 - (3 : Int)))) 1).val] →
 ∃ s66 : Sl, w65.cell? ⟨b12, 2, none⟩ = some (s66.val) ∧
 ∃ s67 : Sl, w65.cell? ⟨b12, 2, none⟩ = some (s67.val) ∧
 0 ≤ (imin n28 (s67.len : Int)) ∧ (imin n28 (s67.len : Int)) ≤ (s66.cap : Int) ∧ ∀ s68 : Sl, s68 = Sl.sub s66.ptr s66.cap 0 (Int.toNat (imin n28 (s67.len : Int))) 1 →
 Calls Tryz.prog fn_slices_Clone_sl_int_int #[s68.val] w65 fun e69 w70 => ∃ s71 : Sl, e69 = .returned (s71.val) ∧
 wrOk w70 ⟨b12, 2, none⟩ 1 ∧ ∀ w72 : World, w72 = stW w70 ⟨b12, 2, none⟩ 0 [s71.val] →
 ∃ (I1 : World → Prop) (μ1 : World → Nat), I1  w72 ∧ ∀ (w73 : World), I1  w73 →
 ∃ s74 : Sl, w73.cell? ⟨b12, 2, none⟩ = some (s74.val) ∧
 brB (decide ((s74.len : Int) < n28))
 (∃ s75 : Sl, w73.cell? ⟨b12, 2, none⟩ = some (s75.val) ∧
 ∀ (b76 : Nat) (w77 : World), b76 = w73.heap.size → w77 = World.alloc w73 (.cells #[.int .i64 (0 : Int)] T_int) →
 ∃ s78 : Sl, ∃ w79 : World, (Builtin.append_ #[T_sl_int, T_sl_int] T_sl_int #[s75.val, .slice (some ⟨b76, 0, none⟩) 1 1]).run Tryz.prog w77 = .ok (s78.val) w79 ∧
 wrOk w79 ⟨b12, 2, none⟩ 1 ∧ ∀ w80 : World, w80 = stW w79 ⟨b12, 2, none⟩ 0 [s78.val] →
 I1  w80 ∧ μ1  w80 < μ1  w73)
 (∃ s81 : Sl, w73.cell? ⟨b12, 2, none⟩ = some (s81.val) ∧
 ∀ (b82 : Nat) (w83 : World), b82 = w73.heap.size → w83 = World.alloc w73 (.cells #[.int .i64 code11] T_int) →
 ∃ s84 : Sl, ∃ w85 : World, (Builtin.append_ #[T_sl_int, T_sl_int] T_sl_int #[s81.val, .slice (some ⟨b82, 0, none⟩) 1 1]).run Tryz.prog w83 = .ok (s84.val) w85 ∧
 wrOk w85 ⟨b12, 2, none⟩ 1 ∧ ∀ w86 : World, w86 = stW w85 ⟨b12, 2, none⟩ 0 [s84.val] →
 ∃ n87 n88 : Int, ∃ s89 s90 s91 : Sl, ∃ t92 t93 : ByteArray, ∃ n94 n95 n96 : Int, w86.cell? ⟨b12, 0, none⟩ = some (.int .i64 n87) ∧ w86.cell? ⟨b12, 1, none⟩ = some (.int .i64 n88) ∧ w86.cell? ⟨b12, 2, none⟩ = some (s89.val) ∧ w86.cell? ⟨b12, 3, none⟩ = some (s90.val) ∧ w86.cell? ⟨b12, 4, none⟩ = some (s91.val) ∧ w86.cell? ⟨b12, 5, none⟩ = some (.string t92) ∧ w86.cell? ⟨b12, 6, none⟩ = some (.string t93) ∧ w86.cell? ⟨b12, 7, none⟩ = some (.int .i64 n94) ∧ w86.cell? ⟨b12, 8, none⟩ = some (.int .i64 n95) ∧ w86.cell? ⟨b12, 9, none⟩ = some (.int .i64 n96) ∧
 wrOk w86 ⟨b14, 0, none⟩ 10 ∧ ∀ w97 : World, w97 = stW w86 ⟨b14, 0, none⟩ 0 [.int .i64 n87, .int .i64 n88, s89.val, s90.val, s91.val, .string t92, .string t93, .int .i64 n94, .int .i64 n95, .int .i64 n96] →
 ∃ r98 r99 : Int, ∃ r100 r101 r102 : Sl, ∃ r103 r104 : ByteArray, ∃ r105 r106 r107 : Int, w97.cell? ⟨b14, 0, none⟩ = some (.int .i64 r98) ∧ w97.cell? ⟨b14, 1, none⟩ = some (.int .i64 r99) ∧ w97.cell? ⟨b14, 2, none⟩ = some (r100.val) ∧ w97.cell? ⟨b14, 3, none⟩ = some (r101.val) ∧ w97.cell? ⟨b14, 4, none⟩ = some (r102.val) ∧ w97.cell? ⟨b14, 5, none⟩ = some (.string r103) ∧ w97.cell? ⟨b14, 6, none⟩ = some (.string r104) ∧ w97.cell? ⟨b14, 7, none⟩ = some (.int .i64 r105) ∧ w97.cell? ⟨b14, 8, none⟩ = some (.int .i64 r106) ∧ w97.cell? ⟨b14, 9, none⟩ = some (.int .i64 r107) ∧
 K (.agg #[.int .i64 r98, .int .i64 r99, r100.val, r101.val, r102.val, .string r103, .string r104, .int .i64 r105, .int .i64 r106, .int .i64 r107]) w97))
def inner_faulty_an : An := ⟨[(8, [])], [(6, (19, .st 0 (.st 1 (.st 2 (.st 3 (.st 4 (.st 5 (.st 6 (.st 7 (.st 8 (.st 9 (.st 10 (.st 11 (.st 12 (.st 13 (.st 14 (.st 15 (.ef 16 (.st 17 (.ef 18 .done)))))))))))))))))), 1))], []⟩
theorem inner_faulty_lift {s1 : Int} {s2 : Int} {s3 : Sl} {s4 : Sl} {s5 : Sl} {s6 : ByteArray} {s7 : ByteArray} {s8 : Int} {s9 : Int} {s10 : Int} {code11 : Int} {w : World} {K : Value → World → Prop} (h : inner_faulty_sh s1 s2 s3 s4 s5 s6 s7 s8 s9 s10 code11 w K) : Calls Tryz.prog fn_inner_faulty #[.agg #[.int .i64 s1, .int .i64 s2, s3.val, s4.val, s5.val, .string s6, .string s7, .int .i64 s8, .int .i64 s9, .int .i64 s10], .int .i64 code11] w fun e w' => ∃ v, e = .returned v ∧ K v w' :=
   lift_calls (A := inner_faulty_an) (c := bodyOf Tryz.f44) (args := [.agg #[.int .i64 s1, .int .i64 s2, s3.val, s4.val, s5.val, .string s6, .string s7, .int .i64 s8, .int .i64 s9, .int .i64 s10], .int .i64 code11]) orc orc_wide Tryz.func44 (by kernel_rfl) (by kernel_rfl) (Eq.mp (by kernel_rfl : inner_faulty_sh s1 s2 s3 s4 s5 s6 s7 s8 s9 s10 code11 w K = wpc orc Tryz.f44.ntmps inner_faulty_an (bodyOf Tryz.f44) (argl 0 [.agg #[.int .i64 s1, .int .i64 s2, s3.val, s4.val, s5.val, .string s6, .string s7, .int .i64 s8, .int .i64 s9, .int .i64 s10], .int .i64 code11]) w (retQ orc Tryz.f44.results.toList K)) h)

def inner_machine_advance_sh (m_1 : Nat) (w : World) (K : Value → World → Prop) : Prop :=
 ∃ n2 n3 : Int, ∃ s4 s5 s6 : Sl, ∃ t7 t8 : ByteArray, ∃ n9 n10 n11 : Int, w.cell? ⟨m_1, 0, none⟩ = some (.int .i64 n2) ∧ w.cell? ⟨m_1, 1, none⟩ = some (.int .i64 n3) ∧ w.cell? ⟨m_1, 2, none⟩ = some (s4.val) ∧ w.cell? ⟨m_1, 3, none⟩ = some (s5.val) ∧ w.cell? ⟨m_1, 4, none⟩ = some (s6.val) ∧ w.cell? ⟨m_1, 5, none⟩ = some (.string t7) ∧ w.cell? ⟨m_1, 6, none⟩ = some (.string t8) ∧ w.cell? ⟨m_1, 7, none⟩ = some (.int .i64 n9) ∧ w.cell? ⟨m_1, 8, none⟩ = some (.int .i64 n10) ∧ w.cell? ⟨m_1, 9, none⟩ = some (.int .i64 n11) ∧
 ∀ (b12 : Nat) (w13 : World), b12 = w.heap.size → w13 = World.alloc w (.cells #[.int .i64 (0 : Int), .int .i64 (0 : Int), .slice none 0 0, .slice none 0 0, .slice none 0 0, .string (bs []), .string (bs []), .int .i64 (0 : Int), .int .i64 (0 : Int), .int .i64 (0 : Int)] T_api_State) →
 wrOk w13 ⟨b12, 0, none⟩ 10 ∧ ∀ w14 : World, w14 = stW w13 ⟨b12, 0, none⟩ 0 [.int .i64 n2, .int .i64 n3, s4.val, s5.val, s6.val, .string t7, .string t8, .int .i64 n9, .int .i64 n10, .int .i64 n11] →
 ∀ w15 : World, w15 = World.drew w14 →
 ∃ S16 : World → Prop, S16 w15 ∧
 ∃ s17 : Sl, held S16 ⟨m_1, 2, none⟩ (s17.val) ∧
 ∃ s18 : Sl, held S16 ⟨m_1, 3, none⟩ (s18.val) ∧
 Calls Tryz.prog fn_slices_Clone_sl_int_int #[s17.val] w15 fun e19 w20 => ∃ s21 : Sl, e19 = .returned (s21.val) ∧
 S16 w20 ∧
 Calls Tryz.prog fn_slices_Clone_sl_int_int #[s18.val] w20 fun e22 w23 => ∃ s24 : Sl, e22 = .returned (s24.val) ∧
 S16 w23 ∧
 wrOk w23 ⟨b12, 2, none⟩ 1 ∧ ∀ w25 : World, w25 = stW w23 ⟨b12, 2, none⟩ 0 [s21.val] →
 wrOk w25 ⟨b12, 3, none⟩ 1 ∧ ∀ w26 : World, w26 = stW w25 ⟨b12, 3, none⟩ 0 [s24.val] →
 wrOk w26 ⟨m_1, 10, none⟩ 1 ∧ ∀ w27 : World, w27 = stW w26 ⟨m_1, 10, none⟩ 0 [.bool false] →
 Calls Tryz.prog fn_inner_machine_step #[.pointer (some ⟨m_1, 0, none⟩)] w27 fun e28 w29 => ∃ v30 : Value, e28 = .returned (v30) ∧
 ∃ b31 : Bool, ∃ w32 : World, ((do eqGuard .eql T_error (.tmp 27) (.const (.nilIface)) (v30) (.nilIface); binOp .eql T_error (v30) (.nilIface) : Sem Value)).run Tryz.prog w29 = .ok (.bool b31) w32 ∧
 brB b31
 (K (.tuple #[]) w32)
 (∃ J7 : World → Prop, (∀ (w38 : World), J7  w38 →
 ∀ w39 : World, w39 = World.drew w38 →
 ∃ S40 : World → Prop, S40 w39 ∧
 ∃ n41 n42 : Int, ∃ s43 s44 s45 : Sl, ∃ t46 t47 : ByteArray, ∃ n48 n49 n50 : Int, held S40 ⟨b12, 0, none⟩ (.int .i64 n41) ∧ held S40 ⟨b12, 1, none⟩ (.int .i64 n42) ∧ held S40 ⟨b12, 2, none⟩ (s43.val) ∧ held S40 ⟨b12, 3, none⟩ (s44.val) ∧ held S40 ⟨b12, 4, none⟩ (s45.val) ∧ held S40 ⟨b12, 5, none⟩ (.string t46) ∧ held S40 ⟨b12, 6, none⟩ (.string t47) ∧ held S40 ⟨b12, 7, none⟩ (.int .i64 n48) ∧ held S40 ⟨b12, 8, none⟩ (.int .i64 n49) ∧ held S40 ⟨b12, 9, none⟩ (.int .i64 n50) ∧
 Calls Tryz.prog fn_fault_Code #[v30] w39 fun e51 w52 => ∃ n53 : Int, e51 = .returned (.int .i64 n53) ∧
 S40 w52 ∧
 Calls Tryz.prog fn_inner_faulty #[.agg #[.int .i64 n41, .int .i64 n42, s43.val, s44.val, s45.val, .string t46, .string t47, .int .i64 n48, .int .i64 n49, .int .i64 n50], .int .i64 n53] w52 fun e54 w55 => ∃ n56 n57 : Int, ∃ s58 s59 s60 : Sl, ∃ t61 t62 : ByteArray, ∃ n63 n64 n65 : Int, e54 = .returned (.agg #[.int .i64 n56, .int .i64 n57, s58.val, s59.val, s60.val, .string t61, .string t62, .int .i64 n63, .int .i64 n64, .int .i64 n65]) ∧
 S40 w55 ∧
 wrOk w55 ⟨m_1, 0, none⟩ 10 ∧ ∀ w66 : World, w66 = stW w55 ⟨m_1, 0, none⟩ 0 [.int .i64 n56, .int .i64 n57, s58.val, s59.val, s60.val, .string t61, .string t62, .int .i64 n63, .int .i64 n64, .int .i64 n65] →
 K (.tuple #[]) w66) ∧
 ∃ b33 : Bool, w32.cell? ⟨m_1, 10, none⟩ = some (.bool b33) ∧
 brB b33
 (∃ s34 : Sl, w32.cell? ⟨b12, 2, none⟩ = some (s34.val) ∧
 ∃ s35 : Sl, w32.cell? ⟨b12, 2, none⟩ = some (s35.val) ∧
 0 ≤ (wr ((s35.len : Int) - (1 : Int))) ∧ (wr ((s35.len : Int) - (1 : Int))) ≤ (s34.cap : Int) ∧ ∀ s36 : Sl, s36 = Sl.sub s34.ptr s34.cap 0 (Int.toNat (wr ((s35.len : Int) - (1 : Int)))) 1 →
 wrOk w32 ⟨b12, 2, none⟩ 1 ∧ ∀ w37 : World, w37 = stW w32 ⟨b12, 2, none⟩ 0 [s36.val] →
 J7  w37)
 (J7  w32))
def inner_machine_advance_an : An := ⟨[], [(1, (13, .st 0 (.st 1 (.st 2 (.st 3 (.st 4 (.st 6 (.st 7 (.st 8 (.st 9 (.st 10 (.ef 5 (.st 12 (.ef 11 .done)))))))))))), 1)), (7, (5, .st 0 (.st 1 (.st 2 (.ef 3 (.ef 4 .done)))), 1))], [(7, [])]⟩
theorem inner_machine_advance_lift {m_1 : Nat} {w : World} {K : Value → World → Prop} (h : inner_machine_advance_sh m_1 w K) : Calls Tryz.prog fn_inner_machine_advance #[.pointer (some ⟨m_1, 0, none⟩)] w fun e w' => ∃ v, e = .returned v ∧ K v w' :=
   lift_calls (A := inner_machine_advance_an) (c := bodyOf Tryz.f79) (args := [.pointer (some ⟨m_1, 0, none⟩)]) orc orc_wide Tryz.func79 (by kernel_rfl) (by kernel_rfl) (Eq.mp (by kernel_rfl : inner_machine_advance_sh m_1 w K = wpc orc Tryz.f79.ntmps inner_machine_advance_an (bodyOf Tryz.f79) (argl 0 [.pointer (some ⟨m_1, 0, none⟩)]) w (retQ orc Tryz.f79.results.toList K)) h)

def inner_caught_sh (s1 : Int) (s2 : Int) (s3 : Sl) (s4 : Sl) (s5 : Sl) (s6 : ByteArray) (s7 : ByteArray) (s8 : Int) (s9 : Int) (s10 : Int) (w : World) (K : Value → World → Prop) : Prop :=
 ∀ (b11 : Nat) (w12 : World), b11 = w.heap.size → w12 = World.alloc w (.cells #[.int .i64 s1, .int .i64 s2, s3.val, s4.val, s5.val, .string s6, .string s7, .int .i64 s8, .int .i64 s9, .int .i64 s10] T_api_State) →
 ∃ J3 : Bool → World → Prop, (∀ (b17 : Bool) (w16 : World), J3 b17 w16 →
 brB b17
 (K (.tuple #[.int .i64 (0 : Int), .bool false]) w16)
 (∃ s18 : Sl, w16.cell? ⟨b11, 3, none⟩ = some (s18.val) ∧
 ∃ n19 : Int, w16.cell? ⟨b11, 1, none⟩ = some (.int .i64 n19) ∧
 ∃ a20 : Addr, s18.ptr = some a20 ∧ 0 ≤ (wr (n19 - (1 : Int))) ∧ (wr (n19 - (1 : Int))) < (s18.len : Int) ∧
 ∃ n21 : Int, w16.cell? (Addr.add a20 (Int.toNat (wr (n19 - (1 : Int))) * 1)) = some (.int .i64 n21) ∧
 brB (decide (n21 ≥ (0 : Int)))
 (K (.tuple #[.int .i64 n21, .bool (decide (n21 < (48 : Int)))]) w16)
 (K (.tuple #[.int .i64 n21, .bool false]) w16))) ∧
 ∃ n13 : Int, w12.cell? ⟨b11, 1, none⟩ = some (.int .i64 n13) ∧
 brB (decide (n13 < (3 : Int)))
 (J3 true w12)
 (∃ n14 : Int, w12.cell? ⟨b11, 1, none⟩ = some (.int .i64 n14) ∧
 ∃ s15 : Sl, w12.cell? ⟨b11, 3, none⟩ = some (s15.val) ∧
 J3 (decide (n14 > (s15.len : Int))) w12)
def inner_caught_an : An := ⟨[], [], [(2, [(15, .bool)])]⟩
theorem inner_caught_lift {s1 : Int} {s2 : Int} {s3 : Sl} {s4 : Sl} {s5 : Sl} {s6 : ByteArray} {s7 : ByteArray} {s8 : Int} {s9 : Int} {s10 : Int} {w : World} {K : Value → World → Prop} (h : inner_caught_sh s1 s2 s3 s4 s5 s6 s7 s8 s9 s10 w K) : Calls Tryz.prog fn_inner_caught #[.agg #[.int .i64 s1, .int .i64 s2, s3.val, s4.val, s5.val, .string s6, .string s7, .int .i64 s8, .int .i64 s9, .int .i64 s10]] w fun e w' => ∃ v, e = .returned v ∧ K v w' :=
   lift_calls (A := inner_caught_an) (c := bodyOf Tryz.f89) (args := [.agg #[.int .i64 s1, .int .i64 s2, s3.val, s4.val, s5.val, .string s6, .string s7, .int .i64 s8, .int .i64 s9, .int .i64 s10]]) orc orc_wide Tryz.func89 (by kernel_rfl) (by kernel_rfl) (Eq.mp (by kernel_rfl : inner_caught_sh s1 s2 s3 s4 s5 s6 s7 s8 s9 s10 w K = wpc orc Tryz.f89.ntmps inner_caught_an (bodyOf Tryz.f89) (argl 0 [.agg #[.int .i64 s1, .int .i64 s2, s3.val, s4.val, s5.val, .string s6, .string s7, .int .i64 s8, .int .i64 s9, .int .i64 s10]]) w (retQ orc Tryz.f89.results.toList K)) h)

def inner_machine_step_sh (m_1 : Nat) (w : World) (K : Value → World → Prop) : Prop :=
 ∃ n2 : Int, w.cell? ⟨m_1, 0, none⟩ = some (.int .i64 n2) ∧
 Calls Tryz.prog fn_inner_machine_load #[.pointer (some ⟨m_1, 0, none⟩), .int .i64 n2] w fun e3 w4 => ∃ n5 : Int, ∃ v6 : Value, e3 = .returned (.tuple #[.int .i64 n5, v6]) ∧
 ∃ b7 : Bool, ∃ w8 : World, ((do eqGuard .neq T_error (.tmp 20) (.const (.nilIface)) (v6) (.nilIface); binOp .neq T_error (v6) (.nilIface) : Sem Value)).run Tryz.prog w4 = .ok (.bool b7) w8 ∧
 brB b7
 (K (v6) w8)
 (brB (decide (n5 ≥ (64 : Int)))
 (Calls Tryz.prog fn_inner_machine_call #[.pointer (some ⟨m_1, 0, none⟩), .int .i64 n5] w8 fun e9 w10 => ∃ v11 : Value, e9 = .returned (v11) ∧
 K (v11) w10)
 (Calls Tryz.prog fn_op_Right #[.int .i64 n5] w8 fun e12 w13 => ∃ b14 : Bool, e12 = .returned (.bool b14) ∧
 brB (!b14)
 (Calls Tryz.prog fn_inner_machine_fails #[.pointer (some ⟨m_1, 0, none⟩), .int .i64 (-13 : Int)] w13 fun e15 w16 => ∃ v17 : Value, e15 = .returned (v17) ∧
 K (v17) w16)
 (∀ w18 : World, w18 = World.drew w13 →
 ∃ n19 : Int, held (Lw w18) ⟨m_1, 0, none⟩ (.int .i64 n19) ∧
 ∃ J13 : Int → Int → World → Prop, (∀ (arg49 : Int) (next47 : Int) (w29 : World), J13 arg49 next47 w29 →
 ∃ n30 n31 : Int, ∃ s32 s33 s34 : Sl, ∃ t35 t36 : ByteArray, ∃ n37 n38 n39 : Int, w29.cell? ⟨m_1, 0, none⟩ = some (.int .i64 n30) ∧ w29.cell? ⟨m_1, 1, none⟩ = some (.int .i64 n31) ∧ w29.cell? ⟨m_1, 2, none⟩ = some (s32.val) ∧ w29.cell? ⟨m_1, 3, none⟩ = some (s33.val) ∧ w29.cell? ⟨m_1, 4, none⟩ = some (s34.val) ∧ w29.cell? ⟨m_1, 5, none⟩ = some (.string t35) ∧ w29.cell? ⟨m_1, 6, none⟩ = some (.string t36) ∧ w29.cell? ⟨m_1, 7, none⟩ = some (.int .i64 n37) ∧ w29.cell? ⟨m_1, 8, none⟩ = some (.int .i64 n38) ∧ w29.cell? ⟨m_1, 9, none⟩ = some (.int .i64 n39) ∧
 Calls Tryz.prog fn_inner_room #[.agg #[.int .i64 n30, .int .i64 n31, s32.val, s33.val, s34.val, .string t35, .string t36, .int .i64 n37, .int .i64 n38, .int .i64 n39], .int .i64 n5] w29 fun e40 w41 => ∃ n42 : Int, e40 = .returned (.int .i64 n42) ∧
 brB (n42 != (0 : Int))
 (Calls Tryz.prog fn_inner_machine_fails #[.pointer (some ⟨m_1, 0, none⟩), .int .i64 n42] w41 fun e43 w44 => ∃ v45 : Value, e43 = .returned (v45) ∧
 K (v45) w44)
 (∃ n46 : Int, w41.cell? ⟨m_1, 0, none⟩ = some (.int .i64 n46) ∧
 wrOk w41 ⟨m_1, 0, none⟩ 1 ∧ ∀ w48 : World, w48 = stW w41 ⟨m_1, 0, none⟩ 0 [.int .i64 next47] →
 Calls Tryz.prog fn_inner_machine_do #[.pointer (some ⟨m_1, 0, none⟩), .int .i64 n5, .int .i64 arg49, .int .i64 n46] w48 fun e50 w51 => ∃ v52 : Value, e50 = .returned (v52) ∧
 ∃ b53 : Bool, ∃ w54 : World, ((do eqGuard .neq T_error (.tmp 78) (.const (.nilIface)) (v52) (.nilIface); binOp .neq T_error (v52) (.nilIface) : Sem Value)).run Tryz.prog w51 = .ok (.bool b53) w54 ∧
 brB b53
 (Calls Tryz.prog fn_op_Name #[.int .i64 n5] w54 fun e55 w56 => ∃ t57 : ByteArray, e55 = .returned (.string t57) ∧
 Calls Tryz.prog fn_fault_Wrap #[v52, .string t57] w56 fun e58 w59 => ∃ v60 : Value, e58 = .returned (v60) ∧
 K (v60) w59)
 (K (.nilIface) w54))) ∧
 Calls Tryz.prog fn_op_Arg #[.int .i64 n5] w18 fun e20 w21 => ∃ b22 : Bool, e20 = .returned (.bool b22) ∧
 brB b22
 (Calls Tryz.prog fn_inner_machine_load #[.pointer (some ⟨m_1, 0, none⟩), .int .i64 (wr (n19 + (1 : Int)))] w21 fun e23 w24 => ∃ n25 : Int, ∃ v26 : Value, e23 = .returned (.tuple #[.int .i64 n25, v26]) ∧
 ∃ b27 : Bool, ∃ w28 : World, ((do eqGuard .neq T_error (.tmp 47) (.const (.nilIface)) (v26) (.nilIface); binOp .neq T_error (v26) (.nilIface) : Sem Value)).run Tryz.prog w24 = .ok (.bool b27) w28 ∧
 brB b27
 (K (v26) w28)
 (J13 n25 (wr ((wr (n19 + (1 : Int))) + (1 : Int))) w28))
 (J13 (0 : Int) (wr (n19 + (1 : Int))) w21))))
def inner_machine_step_an : An := ⟨[], [(8, (8, .st 0 (.st 1 (.st 2 (.st 3 (.st 4 (.st 5 (.st 6 (.st 7 .done))))))), 0))], [(14, [(5, .int .i64), (6, .int .i64)])]⟩
theorem inner_machine_step_lift {m_1 : Nat} {w : World} {K : Value → World → Prop} (h : inner_machine_step_sh m_1 w K) : Calls Tryz.prog fn_inner_machine_step #[.pointer (some ⟨m_1, 0, none⟩)] w fun e w' => ∃ v, e = .returned v ∧ K v w' :=
   lift_calls (A := inner_machine_step_an) (c := bodyOf Tryz.f102) (args := [.pointer (some ⟨m_1, 0, none⟩)]) orc orc_wide Tryz.func102 (by kernel_rfl) (by kernel_rfl) (Eq.mp (by kernel_rfl : inner_machine_step_sh m_1 w K = wpc orc Tryz.f102.ntmps inner_machine_step_an (bodyOf Tryz.f102) (argl 0 [.pointer (some ⟨m_1, 0, none⟩)]) w (retQ orc Tryz.f102.results.toList K)) h)

def inner_machine_load_sh (m_1 : Nat) (a_2 : Int) (w : World) (K : Value → World → Prop) : Prop :=
 ∃ J3 : Bool → World → Prop, (∀ (b5 : Bool) (w4 : World), J3 b5 w4 →
 brB b5
 (Calls Tryz.prog fn_inner_machine_fails #[.pointer (some ⟨m_1, 0, none⟩), .int .i64 (-9 : Int)] w4 fun e6 w7 => ∃ v8 : Value, e6 = .returned (v8) ∧
 Calls Tryz.prog fn_fault_Wrap #[v8, .string (bs [99, 101, 108, 108])] w7 fun e9 w10 => ∃ v11 : Value, e9 = .returned (v11) ∧
 K (.tuple #[.int .i64 (0 : Int), v11]) w10)
 (∃ s12 : Sl, w4.cell? ⟨m_1, 4, none⟩ = some (s12.val) ∧
 ∃ a13 : Addr, s12.ptr = some a13 ∧ 0 ≤ a_2 ∧ a_2 < (s12.len : Int) ∧
 ∃ n14 : Int, w4.cell? (Addr.add a13 (Int.toNat a_2 * 1)) = some (.int .i64 n14) ∧
 K (.tuple #[.int .i64 n14, .nilIface]) w4)) ∧
 brB (decide (a_2 < (0 : Int)))
 (J3 true w)
 (∃ s3 : Sl, w.cell? ⟨m_1, 4, none⟩ = some (s3.val) ∧
 J3 (decide (a_2 ≥ (s3.len : Int))) w)
def inner_machine_load_an : An := ⟨[], [], [(2, [(17, .bool)])]⟩
theorem inner_machine_load_lift {m_1 : Nat} {a_2 : Int} {w : World} {K : Value → World → Prop} (h : inner_machine_load_sh m_1 a_2 w K) : Calls Tryz.prog fn_inner_machine_load #[.pointer (some ⟨m_1, 0, none⟩), .int .i64 a_2] w fun e w' => ∃ v, e = .returned v ∧ K v w' :=
   lift_calls (A := inner_machine_load_an) (c := bodyOf Tryz.f111) (args := [.pointer (some ⟨m_1, 0, none⟩), .int .i64 a_2]) orc orc_wide Tryz.func111 (by kernel_rfl) (by kernel_rfl) (Eq.mp (by kernel_rfl : inner_machine_load_sh m_1 a_2 w K = wpc orc Tryz.f111.ntmps inner_machine_load_an (bodyOf Tryz.f111) (argl 0 [.pointer (some ⟨m_1, 0, none⟩), .int .i64 a_2]) w (retQ orc Tryz.f111.results.toList K)) h)

def inner_machine_call_sh (m_1 : Nat) (xt2 : Int) (w : World) (K : Value → World → Prop) : Prop :=
 ∃ s3 : Sl, w.cell? ⟨m_1, 3, none⟩ = some (s3.val) ∧
 brB (decide ((s3.len : Int) ≥ (48 : Int)))
 (Calls Tryz.prog fn_inner_machine_fails #[.pointer (some ⟨m_1, 0, none⟩), .int .i64 (-5 : Int)] w fun e4 w5 => ∃ v6 : Value, e4 = .returned (v6) ∧
 K (v6) w5)
 (∃ n7 : Int, w.cell? ⟨m_1, 0, none⟩ = some (.int .i64 n7) ∧
 ∀ (b8 : Nat) (w9 : World), b8 = w.heap.size → w9 = World.alloc w (.cells #[.int .i64 (wr (n7 + (1 : Int)))] T_int) →
 Calls Tryz.prog fn_inner_machine_back #[.pointer (some ⟨m_1, 0, none⟩), .slice (some ⟨b8, 0, none⟩) 1 1] w9 fun e10 w11 => e10 = .returned (.tuple #[]) ∧
 wrOk w11 ⟨m_1, 0, none⟩ 1 ∧ ∀ w12 : World, w12 = stW w11 ⟨m_1, 0, none⟩ 0 [.int .i64 xt2] →
 K (.nilIface) w12)
def inner_machine_call_an : An := ⟨[], [], []⟩
theorem inner_machine_call_lift {m_1 : Nat} {xt2 : Int} {w : World} {K : Value → World → Prop} (h : inner_machine_call_sh m_1 xt2 w K) : Calls Tryz.prog fn_inner_machine_call #[.pointer (some ⟨m_1, 0, none⟩), .int .i64 xt2] w fun e w' => ∃ v, e = .returned v ∧ K v w' :=
   lift_calls (A := inner_machine_call_an) (c := bodyOf Tryz.f112) (args := [.pointer (some ⟨m_1, 0, none⟩), .int .i64 xt2]) orc orc_wide Tryz.func112 (by kernel_rfl) (by kernel_rfl) (Eq.mp (by kernel_rfl : inner_machine_call_sh m_1 xt2 w K = wpc orc Tryz.f112.ntmps inner_machine_call_an (bodyOf Tryz.f112) (argl 0 [.pointer (some ⟨m_1, 0, none⟩), .int .i64 xt2]) w (retQ orc Tryz.f112.results.toList K)) h)

def inner_machine_fails_sh (m_1 : Nat) (code2 : Int) (w : World) (K : Value → World → Prop) : Prop :=
 ∃ n3 : Int, w.cell? ⟨m_1, 0, none⟩ = some (.int .i64 n3) ∧
 Calls Tryz.prog fn_fault_New #[.int .i64 code2, .int .i64 n3] w fun e4 w5 => ∃ v6 : Value, e4 = .returned (v6) ∧
 K (v6) w5
def inner_machine_fails_an : An := ⟨[], [], []⟩
theorem inner_machine_fails_lift {m_1 : Nat} {code2 : Int} {w : World} {K : Value → World → Prop} (h : inner_machine_fails_sh m_1 code2 w K) : Calls Tryz.prog fn_inner_machine_fails #[.pointer (some ⟨m_1, 0, none⟩), .int .i64 code2] w fun e w' => ∃ v, e = .returned v ∧ K v w' :=
   lift_calls (A := inner_machine_fails_an) (c := bodyOf Tryz.f114) (args := [.pointer (some ⟨m_1, 0, none⟩), .int .i64 code2]) orc orc_wide Tryz.func114 (by kernel_rfl) (by kernel_rfl) (Eq.mp (by kernel_rfl : inner_machine_fails_sh m_1 code2 w K = wpc orc Tryz.f114.ntmps inner_machine_fails_an (bodyOf Tryz.f114) (argl 0 [.pointer (some ⟨m_1, 0, none⟩), .int .i64 code2]) w (retQ orc Tryz.f114.results.toList K)) h)

def inner_room_sh (s1 : Int) (s2 : Int) (s3 : Sl) (s4 : Sl) (s5 : Sl) (s6 : ByteArray) (s7 : ByteArray) (s8 : Int) (s9 : Int) (s10 : Int) (o_11 : Int) (w : World) (K : Value → World → Prop) : Prop :=
 ∀ (b12 : Nat) (w13 : World), b12 = w.heap.size → w13 = World.alloc w (.cells #[.int .i64 s1, .int .i64 s2, s3.val, s4.val, s5.val, .string s6, .string s7, .int .i64 s8, .int .i64 s9, .int .i64 s10] T_api_State) →
 Calls Tryz.prog fn_op_Takes #[.int .i64 o_11] w13 fun e14 w15 => ∃ n16 n17 : Int, e14 = .returned (.tuple #[.int .i64 n16, .int .i64 n17]) ∧
 Calls Tryz.prog fn_op_Gives #[.int .i64 o_11] w15 fun e18 w19 => ∃ n20 n21 : Int, e18 = .returned (.tuple #[.int .i64 n20, .int .i64 n21]) ∧
 ∃ s22 : Sl, w19.cell? ⟨b12, 2, none⟩ = some (s22.val) ∧
 brB (decide ((s22.len : Int) < n16))
 (K (.int .i64 (-4 : Int)) w19)
 (∃ s23 : Sl, w19.cell? ⟨b12, 3, none⟩ = some (s23.val) ∧
 brB (decide ((s23.len : Int) < n17))
 (K (.int .i64 (-6 : Int)) w19)
 (∃ s24 : Sl, w19.cell? ⟨b12, 2, none⟩ = some (s24.val) ∧
 brB (decide ((wr ((wr ((s24.len : Int) - n16)) + n20)) > (48 : Int)))
 (K (.int .i64 (-3 : Int)) w19)
 (∃ s25 : Sl, w19.cell? ⟨b12, 3, none⟩ = some (s25.val) ∧
 brB (decide ((wr ((wr ((s25.len : Int) - n17)) + n21)) > (48 : Int)))
 (K (.int .i64 (-5 : Int)) w19)
 (K (.int .i64 (0 : Int)) w19))))
def inner_room_an : An := ⟨[], [], []⟩
theorem inner_room_lift {s1 : Int} {s2 : Int} {s3 : Sl} {s4 : Sl} {s5 : Sl} {s6 : ByteArray} {s7 : ByteArray} {s8 : Int} {s9 : Int} {s10 : Int} {o_11 : Int} {w : World} {K : Value → World → Prop} (h : inner_room_sh s1 s2 s3 s4 s5 s6 s7 s8 s9 s10 o_11 w K) : Calls Tryz.prog fn_inner_room #[.agg #[.int .i64 s1, .int .i64 s2, s3.val, s4.val, s5.val, .string s6, .string s7, .int .i64 s8, .int .i64 s9, .int .i64 s10], .int .i64 o_11] w fun e w' => ∃ v, e = .returned v ∧ K v w' :=
   lift_calls (A := inner_room_an) (c := bodyOf Tryz.f115) (args := [.agg #[.int .i64 s1, .int .i64 s2, s3.val, s4.val, s5.val, .string s6, .string s7, .int .i64 s8, .int .i64 s9, .int .i64 s10], .int .i64 o_11]) orc orc_wide Tryz.func115 (by kernel_rfl) (by kernel_rfl) (Eq.mp (by kernel_rfl : inner_room_sh s1 s2 s3 s4 s5 s6 s7 s8 s9 s10 o_11 w K = wpc orc Tryz.f115.ntmps inner_room_an (bodyOf Tryz.f115) (argl 0 [.agg #[.int .i64 s1, .int .i64 s2, s3.val, s4.val, s5.val, .string s6, .string s7, .int .i64 s8, .int .i64 s9, .int .i64 s10], .int .i64 o_11]) w (retQ orc Tryz.f115.results.toList K)) h)

def inner_machine_do_j1 (m_1 : Nat) (c_2 : Int) (b28 : Bool) (w27 : World) (K : Value → World → Prop) : Prop :=
 brB b28
 (Calls Tryz.prog fn_inner_machine_flow #[.pointer (some ⟨m_1, 0, none⟩), .int .i64 c_2] w27 fun e58 w59 => ∃ v60 : Value, e58 = .returned (v60) ∧
 K (v60) w59)
 (brB (c_2 == (47 : Int))
 (K (.nilIface) w27)
 (Calls Tryz.prog fn_inner_machine_reckon #[.pointer (some ⟨m_1, 0, none⟩), .int .i64 c_2] w27 fun e61 w62 => ∃ v63 : Value, e61 = .returned (v63) ∧
 K (v63) w62))
def inner_machine_do_j2 (m_1 : Nat) (c_2 : Int) (b24 : Bool) (w23 : World) (K : Value → World → Prop) : Prop :=
 brB b24
 (Calls Tryz.prog fn_inner_machine_say #[.pointer (some ⟨m_1, 0, none⟩), .int .i64 c_2] w23 fun e53 w54 => ∃ v55 : Value, e53 = .returned (v55) ∧
 K (v55) w54)
 (brB (c_2 == (43 : Int))
 (Calls Tryz.prog fn_inner_machine_key #[.pointer (some ⟨m_1, 0, none⟩)] w23 fun e56 w57 => e56 = .returned (.tuple #[]) ∧
 K (.nilIface) w57)
 (brB (c_2 == (44 : Int))
 (inner_machine_do_j1 m_1 c_2 (c_2 == (44 : Int)) w23 K)
 (brB (c_2 == (45 : Int))
 (inner_machine_do_j1 m_1 c_2 (c_2 == (45 : Int)) w23 K)
 (brB (c_2 == (46 : Int))
 (inner_machine_do_j1 m_1 c_2 (c_2 == (46 : Int)) w23 K)
 (inner_machine_do_j1 m_1 c_2 (c_2 == (1 : Int)) w23 K)))))
def inner_machine_do_j3 (m_1 : Nat) (c_2 : Int) (arg3 : Int) (b20 : Bool) (w19 : World) (K : Value → World → Prop) : Prop :=
 brB b20
 (Calls Tryz.prog fn_inner_machine_loop #[.pointer (some ⟨m_1, 0, none⟩), .int .i64 c_2, .int .i64 arg3] w19 fun e51 w52 => e51 = .returned (.tuple #[]) ∧
 K (.nilIface) w52)
 (brB (c_2 == (41 : Int))
 (inner_machine_do_j2 m_1 c_2 (c_2 == (41 : Int)) w19 K)
 (inner_machine_do_j2 m_1 c_2 (c_2 == (42 : Int)) w19 K))
def inner_machine_do_j4 (m_1 : Nat) (c_2 : Int) (arg3 : Int) (b16 : Bool) (w15 : World) (K : Value → World → Prop) : Prop :=
 brB b16
 (Calls Tryz.prog fn_inner_machine_backs #[.pointer (some ⟨m_1, 0, none⟩), .int .i64 c_2] w15 fun e49 w50 => e49 = .returned (.tuple #[]) ∧
 K (.nilIface) w50)
 (brB (c_2 == (37 : Int))
 (inner_machine_do_j3 m_1 c_2 arg3 (c_2 == (37 : Int)) w15 K)
 (inner_machine_do_j3 m_1 c_2 arg3 (c_2 == (38 : Int)) w15 K))
def inner_machine_do_j5 (m_1 : Nat) (c_2 : Int) (arg3 : Int) (b12 : Bool) (w11 : World) (K : Value → World → Prop) : Prop :=
 brB b12
 (Calls Tryz.prog fn_inner_machine_memory #[.pointer (some ⟨m_1, 0, none⟩), .int .i64 c_2] w11 fun e46 w47 => ∃ v48 : Value, e46 = .returned (v48) ∧
 K (v48) w47)
 (brB (c_2 == (33 : Int))
 (inner_machine_do_j4 m_1 c_2 arg3 (c_2 == (33 : Int)) w11 K)
 (brB (c_2 == (34 : Int))
 (inner_machine_do_j4 m_1 c_2 arg3 (c_2 == (34 : Int)) w11 K)
 (brB (c_2 == (35 : Int))
 (inner_machine_do_j4 m_1 c_2 arg3 (c_2 == (35 : Int)) w11 K)
 (brB (c_2 == (36 : Int))
 (inner_machine_do_j4 m_1 c_2 arg3 (c_2 == (36 : Int)) w11 K)
 (brB (c_2 == (39 : Int))
 (inner_machine_do_j4 m_1 c_2 arg3 (c_2 == (39 : Int)) w11 K)
 (inner_machine_do_j4 m_1 c_2 arg3 (c_2 == (40 : Int)) w11 K))))))
def inner_machine_do_j6 (m_1 : Nat) (c_2 : Int) (arg3 : Int) (b8 : Bool) (w7 : World) (K : Value → World → Prop) : Prop :=
 brB b8
 (Calls Tryz.prog fn_inner_machine_shuffle #[.pointer (some ⟨m_1, 0, none⟩), .int .i64 c_2] w7 fun e44 w45 => e44 = .returned (.tuple #[]) ∧
 K (.nilIface) w45)
 (brB (c_2 == (30 : Int))
 (inner_machine_do_j5 m_1 c_2 arg3 (c_2 == (30 : Int)) w7 K)
 (brB (c_2 == (31 : Int))
 (inner_machine_do_j5 m_1 c_2 arg3 (c_2 == (31 : Int)) w7 K)
 (inner_machine_do_j5 m_1 c_2 arg3 (c_2 == (32 : Int)) w7 K)))
def inner_machine_do_sh (m_1 : Nat) (c_2 : Int) (arg3 : Int) (was4 : Int) (w : World) (K : Value → World → Prop) : Prop :=
 ∃ J14 : World → Prop, (∀ (w38 : World), J14  w38 →
 wrOk w38 ⟨m_1, 0, none⟩ 1 ∧ ∀ w39 : World, w39 = stW w38 ⟨m_1, 0, none⟩ 0 [.int .i64 arg3] →
 K (.nilIface) w39) ∧
 brB (c_2 == (0 : Int))
 (wrOk w ⟨m_1, 0, none⟩ 1 ∧ ∀ w29 : World, w29 = stW w ⟨m_1, 0, none⟩ 0 [.int .i64 was4] →
 wrOk w29 ⟨m_1, 8, none⟩ 1 ∧ ∀ w30 : World, w30 = stW w29 ⟨m_1, 8, none⟩ 0 [.int .i64 (1 : Int)] →
 K (.nilIface) w30)
 (brB (c_2 == (2 : Int))
 (∀ (b31 : Nat) (w32 : World), b31 = w.heap.size → w32 = World.alloc w (.cells #[.int .i64 arg3] T_int) →
 Calls Tryz.prog fn_inner_machine_push #[.pointer (some ⟨m_1, 0, none⟩), .slice (some ⟨b31, 0, none⟩) 1 1] w32 fun e33 w34 => e33 = .returned (.tuple #[]) ∧
 K (.nilIface) w34)
 (brB (c_2 == (4 : Int))
 (Calls Tryz.prog fn_inner_machine_pop #[.pointer (some ⟨m_1, 0, none⟩)] w fun e35 w36 => ∃ n37 : Int, e35 = .returned (.int .i64 n37) ∧
 brB (n37 != (0 : Int))
 (K (.nilIface) w36)
 (J14  w36))
 (brB (c_2 == (3 : Int))
 (J14  w)
 (brB (c_2 == (5 : Int))
 (Calls Tryz.prog fn_inner_machine_popBack #[.pointer (some ⟨m_1, 0, none⟩)] w fun e40 w41 => ∃ n42 : Int, e40 = .returned (.int .i64 n42) ∧
 wrOk w41 ⟨m_1, 0, none⟩ 1 ∧ ∀ w43 : World, w43 = stW w41 ⟨m_1, 0, none⟩ 0 [.int .i64 n42] →
 K (.nilIface) w43)
 (brB (c_2 == (6 : Int))
 (inner_machine_do_j6 m_1 c_2 arg3 (c_2 == (6 : Int)) w K)
 (brB (c_2 == (7 : Int))
 (inner_machine_do_j6 m_1 c_2 arg3 (c_2 == (7 : Int)) w K)
 (brB (c_2 == (8 : Int))
 (inner_machine_do_j6 m_1 c_2 arg3 (c_2 == (8 : Int)) w K)
 (brB (c_2 == (9 : Int))
 (inner_machine_do_j6 m_1 c_2 arg3 (c_2 == (9 : Int)) w K)
 (inner_machine_do_j6 m_1 c_2 arg3 (c_2 == (10 : Int)) w K)))))))))
def inner_machine_do_an : An := ⟨[], [], [(35, [])]⟩
theorem inner_machine_do_lift {m_1 : Nat} {c_2 : Int} {arg3 : Int} {was4 : Int} {w : World} {K : Value → World → Prop} (h : inner_machine_do_sh m_1 c_2 arg3 was4 w K) : Calls Tryz.prog fn_inner_machine_do #[.pointer (some ⟨m_1, 0, none⟩), .int .i64 c_2, .int .i64 arg3, .int .i64 was4] w fun e w' => ∃ v, e = .returned v ∧ K v w' :=
   lift_calls (A := inner_machine_do_an) (c := bodyOf Tryz.f116) (args := [.pointer (some ⟨m_1, 0, none⟩), .int .i64 c_2, .int .i64 arg3, .int .i64 was4]) orc orc_wide Tryz.func116 (by kernel_rfl) (by kernel_rfl) (Eq.mp (by kernel_rfl : inner_machine_do_sh m_1 c_2 arg3 was4 w K = wpc orc Tryz.f116.ntmps inner_machine_do_an (bodyOf Tryz.f116) (argl 0 [.pointer (some ⟨m_1, 0, none⟩), .int .i64 c_2, .int .i64 arg3, .int .i64 was4]) w (retQ orc Tryz.f116.results.toList K)) h)

def inner_machine_back_sh (m_1 : Nat) (l_2 : Sl) (w : World) (K : Value → World → Prop) : Prop :=
 ∃ s3 : Sl, w.cell? ⟨m_1, 3, none⟩ = some (s3.val) ∧
 ∃ s4 : Sl, ∃ w5 : World, (Builtin.append_ #[T_sl_int, T_sl_int] T_sl_int #[s3.val, l_2.val]).run Tryz.prog w = .ok (s4.val) w5 ∧
 wrOk w5 ⟨m_1, 3, none⟩ 1 ∧ ∀ w6 : World, w6 = stW w5 ⟨m_1, 3, none⟩ 0 [s4.val] →
 K (.tuple #[]) w6
def inner_machine_back_an : An := ⟨[], [], []⟩
theorem inner_machine_back_lift {m_1 : Nat} {l_2 : Sl} {w : World} {K : Value → World → Prop} (h : inner_machine_back_sh m_1 l_2 w K) : Calls Tryz.prog fn_inner_machine_back #[.pointer (some ⟨m_1, 0, none⟩), l_2.val] w fun e w' => ∃ v, e = .returned v ∧ K v w' :=
   lift_calls (A := inner_machine_back_an) (c := bodyOf Tryz.f132) (args := [.pointer (some ⟨m_1, 0, none⟩), l_2.val]) orc orc_wide Tryz.func132 (by kernel_rfl) (by kernel_rfl) (Eq.mp (by kernel_rfl : inner_machine_back_sh m_1 l_2 w K = wpc orc Tryz.f132.ntmps inner_machine_back_an (bodyOf Tryz.f132) (argl 0 [.pointer (some ⟨m_1, 0, none⟩), l_2.val]) w (retQ orc Tryz.f132.results.toList K)) h)

def inner_machine_push_sh (m_1 : Nat) (l_2 : Sl) (w : World) (K : Value → World → Prop) : Prop :=
 ∃ s3 : Sl, w.cell? ⟨m_1, 2, none⟩ = some (s3.val) ∧
 ∃ s4 : Sl, ∃ w5 : World, (Builtin.append_ #[T_sl_int, T_sl_int] T_sl_int #[s3.val, l_2.val]).run Tryz.prog w = .ok (s4.val) w5 ∧
 wrOk w5 ⟨m_1, 2, none⟩ 1 ∧ ∀ w6 : World, w6 = stW w5 ⟨m_1, 2, none⟩ 0 [s4.val] →
 K (.tuple #[]) w6
def inner_machine_push_an : An := ⟨[], [], []⟩
theorem inner_machine_push_lift {m_1 : Nat} {l_2 : Sl} {w : World} {K : Value → World → Prop} (h : inner_machine_push_sh m_1 l_2 w K) : Calls Tryz.prog fn_inner_machine_push #[.pointer (some ⟨m_1, 0, none⟩), l_2.val] w fun e w' => ∃ v, e = .returned v ∧ K v w' :=
   lift_calls (A := inner_machine_push_an) (c := bodyOf Tryz.f136) (args := [.pointer (some ⟨m_1, 0, none⟩), l_2.val]) orc orc_wide Tryz.func136 (by kernel_rfl) (by kernel_rfl) (Eq.mp (by kernel_rfl : inner_machine_push_sh m_1 l_2 w K = wpc orc Tryz.f136.ntmps inner_machine_push_an (bodyOf Tryz.f136) (argl 0 [.pointer (some ⟨m_1, 0, none⟩), l_2.val]) w (retQ orc Tryz.f136.results.toList K)) h)

def inner_machine_pop_sh (m_1 : Nat) (w : World) (K : Value → World → Prop) : Prop :=
 ∃ s2 : Sl, w.cell? ⟨m_1, 2, none⟩ = some (s2.val) ∧
 ∃ s3 : Sl, w.cell? ⟨m_1, 2, none⟩ = some (s3.val) ∧
 ∃ a4 : Addr, s3.ptr = some a4 ∧ 0 ≤ (wr ((s2.len : Int) - (1 : Int))) ∧ (wr ((s2.len : Int) - (1 : Int))) < (s3.len : Int) ∧
 ∃ n5 : Int, w.cell? (Addr.add a4 (Int.toNat (wr ((s2.len : Int) - (1 : Int))) * 1)) = some (.int .i64 n5) ∧
 ∃ s6 : Sl, w.cell? ⟨m_1, 2, none⟩ = some (s6.val) ∧
 0 ≤ (wr ((s2.len : Int) - (1 : Int))) ∧ (wr ((s2.len : Int) - (1 : Int))) ≤ (s6.cap : Int) ∧ ∀ s7 : Sl, s7 = Sl.sub s6.ptr s6.cap 0 (Int.toNat (wr ((s2.len : Int) - (1 : Int)))) 1 →
 wrOk w ⟨m_1, 2, none⟩ 1 ∧ ∀ w8 : World, w8 = stW w ⟨m_1, 2, none⟩ 0 [s7.val] →
 K (.int .i64 n5) w8
def inner_machine_pop_an : An := ⟨[], [], []⟩
theorem inner_machine_pop_lift {m_1 : Nat} {w : World} {K : Value → World → Prop} (h : inner_machine_pop_sh m_1 w K) : Calls Tryz.prog fn_inner_machine_pop #[.pointer (some ⟨m_1, 0, none⟩)] w fun e w' => ∃ v, e = .returned v ∧ K v w' :=
   lift_calls (A := inner_machine_pop_an) (c := bodyOf Tryz.f137) (args := [.pointer (some ⟨m_1, 0, none⟩)]) orc orc_wide Tryz.func137 (by kernel_rfl) (by kernel_rfl) (Eq.mp (by kernel_rfl : inner_machine_pop_sh m_1 w K = wpc orc Tryz.f137.ntmps inner_machine_pop_an (bodyOf Tryz.f137) (argl 0 [.pointer (some ⟨m_1, 0, none⟩)]) w (retQ orc Tryz.f137.results.toList K)) h)

def inner_machine_popBack_sh (m_1 : Nat) (w : World) (K : Value → World → Prop) : Prop :=
 ∃ s2 : Sl, w.cell? ⟨m_1, 3, none⟩ = some (s2.val) ∧
 ∃ s3 : Sl, w.cell? ⟨m_1, 3, none⟩ = some (s3.val) ∧
 ∃ a4 : Addr, s3.ptr = some a4 ∧ 0 ≤ (wr ((s2.len : Int) - (1 : Int))) ∧ (wr ((s2.len : Int) - (1 : Int))) < (s3.len : Int) ∧
 ∃ n5 : Int, w.cell? (Addr.add a4 (Int.toNat (wr ((s2.len : Int) - (1 : Int))) * 1)) = some (.int .i64 n5) ∧
 ∃ s6 : Sl, w.cell? ⟨m_1, 3, none⟩ = some (s6.val) ∧
 0 ≤ (wr ((s2.len : Int) - (1 : Int))) ∧ (wr ((s2.len : Int) - (1 : Int))) ≤ (s6.cap : Int) ∧ ∀ s7 : Sl, s7 = Sl.sub s6.ptr s6.cap 0 (Int.toNat (wr ((s2.len : Int) - (1 : Int)))) 1 →
 wrOk w ⟨m_1, 3, none⟩ 1 ∧ ∀ w8 : World, w8 = stW w ⟨m_1, 3, none⟩ 0 [s7.val] →
 K (.int .i64 n5) w8
def inner_machine_popBack_an : An := ⟨[], [], []⟩
theorem inner_machine_popBack_lift {m_1 : Nat} {w : World} {K : Value → World → Prop} (h : inner_machine_popBack_sh m_1 w K) : Calls Tryz.prog fn_inner_machine_popBack #[.pointer (some ⟨m_1, 0, none⟩)] w fun e w' => ∃ v, e = .returned v ∧ K v w' :=
   lift_calls (A := inner_machine_popBack_an) (c := bodyOf Tryz.f138) (args := [.pointer (some ⟨m_1, 0, none⟩)]) orc orc_wide Tryz.func138 (by kernel_rfl) (by kernel_rfl) (Eq.mp (by kernel_rfl : inner_machine_popBack_sh m_1 w K = wpc orc Tryz.f138.ntmps inner_machine_popBack_an (bodyOf Tryz.f138) (argl 0 [.pointer (some ⟨m_1, 0, none⟩)]) w (retQ orc Tryz.f138.results.toList K)) h)

def inner_machine_shuffle_sh (m_1 : Nat) (c_2 : Int) (w : World) (K : Value → World → Prop) : Prop :=
 Calls Tryz.prog fn_inner_machine_pop #[.pointer (some ⟨m_1, 0, none⟩)] w fun e3 w4 => ∃ n5 : Int, e3 = .returned (.int .i64 n5) ∧
 brB (c_2 == (6 : Int))
 (∀ (b6 : Nat) (w7 : World), b6 = w4.heap.size → w7 = World.alloc w4 (.cells #[.int .i64 n5, .int .i64 n5] T_int) →
 Calls Tryz.prog fn_inner_machine_push #[.pointer (some ⟨m_1, 0, none⟩), .slice (some ⟨b6, 0, none⟩) 2 2] w7 fun e8 w9 => e8 = .returned (.tuple #[]) ∧
 K (.tuple #[]) w9)
 (brB (c_2 == (8 : Int))
 (Calls Tryz.prog fn_inner_machine_swapped #[.pointer (some ⟨m_1, 0, none⟩)] w4 fun e10 w11 => ∃ n12 : Int, e10 = .returned (.int .i64 n12) ∧
 ∀ (b13 : Nat) (w14 : World), b13 = w11.heap.size → w14 = World.alloc w11 (.cells #[.int .i64 n5, .int .i64 n12] T_int) →
 Calls Tryz.prog fn_inner_machine_push #[.pointer (some ⟨m_1, 0, none⟩), .slice (some ⟨b13, 0, none⟩) 2 2] w14 fun e15 w16 => e15 = .returned (.tuple #[]) ∧
 K (.tuple #[]) w16)
 (brB (c_2 == (9 : Int))
 (Calls Tryz.prog fn_inner_machine_pop #[.pointer (some ⟨m_1, 0, none⟩)] w4 fun e17 w18 => ∃ n19 : Int, e17 = .returned (.int .i64 n19) ∧
 ∀ (b20 : Nat) (w21 : World), b20 = w18.heap.size → w21 = World.alloc w18 (.cells #[.int .i64 n19, .int .i64 n5, .int .i64 n19] T_int) →
 Calls Tryz.prog fn_inner_machine_push #[.pointer (some ⟨m_1, 0, none⟩), .slice (some ⟨b20, 0, none⟩) 3 3] w21 fun e22 w23 => e22 = .returned (.tuple #[]) ∧
 K (.tuple #[]) w23)
 (brB (c_2 == (10 : Int))
 (Calls Tryz.prog fn_inner_machine_pop #[.pointer (some ⟨m_1, 0, none⟩)] w4 fun e24 w25 => ∃ n26 : Int, e24 = .returned (.int .i64 n26) ∧
 Calls Tryz.prog fn_inner_machine_pop #[.pointer (some ⟨m_1, 0, none⟩)] w25 fun e27 w28 => ∃ n29 : Int, e27 = .returned (.int .i64 n29) ∧
 ∀ (b30 : Nat) (w31 : World), b30 = w28.heap.size → w31 = World.alloc w28 (.cells #[.int .i64 n26, .int .i64 n5, .int .i64 n29] T_int) →
 Calls Tryz.prog fn_inner_machine_push #[.pointer (some ⟨m_1, 0, none⟩), .slice (some ⟨b30, 0, none⟩) 3 3] w31 fun e32 w33 => e32 = .returned (.tuple #[]) ∧
 K (.tuple #[]) w33)
 (K (.tuple #[]) w4))))
def inner_machine_shuffle_an : An := ⟨[], [], []⟩
theorem inner_machine_shuffle_lift {m_1 : Nat} {c_2 : Int} {w : World} {K : Value → World → Prop} (h : inner_machine_shuffle_sh m_1 c_2 w K) : Calls Tryz.prog fn_inner_machine_shuffle #[.pointer (some ⟨m_1, 0, none⟩), .int .i64 c_2] w fun e w' => ∃ v, e = .returned v ∧ K v w' :=
   lift_calls (A := inner_machine_shuffle_an) (c := bodyOf Tryz.f139) (args := [.pointer (some ⟨m_1, 0, none⟩), .int .i64 c_2]) orc orc_wide Tryz.func139 (by kernel_rfl) (by kernel_rfl) (Eq.mp (by kernel_rfl : inner_machine_shuffle_sh m_1 c_2 w K = wpc orc Tryz.f139.ntmps inner_machine_shuffle_an (bodyOf Tryz.f139) (argl 0 [.pointer (some ⟨m_1, 0, none⟩), .int .i64 c_2]) w (retQ orc Tryz.f139.results.toList K)) h)

def inner_machine_memory_sh (m_1 : Nat) (c_2 : Int) (w : World) (K : Value → World → Prop) : Prop :=
 Calls Tryz.prog fn_inner_machine_pop #[.pointer (some ⟨m_1, 0, none⟩)] w fun e3 w4 => ∃ n5 : Int, e3 = .returned (.int .i64 n5) ∧
 Calls Tryz.prog fn_inner_machine_load #[.pointer (some ⟨m_1, 0, none⟩), .int .i64 n5] w4 fun e6 w7 => ∃ n8 : Int, ∃ v9 : Value, e6 = .returned (.tuple #[.int .i64 n8, v9]) ∧
 ∃ b10 : Bool, ∃ w11 : World, ((do eqGuard .neq T_error (.tmp 16) (.const (.nilIface)) (v9) (.nilIface); binOp .neq T_error (v9) (.nilIface) : Sem Value)).run Tryz.prog w7 = .ok (.bool b10) w11 ∧
 brB b10
 (K (v9) w11)
 (∃ J9 : Int → World → Prop, (∀ (v20 : Int) (w16 : World), J9 v20 w16 →
 ∀ w17 : World, w17 = World.drew w16 →
 ∃ S18 : World → Prop, S18 w17 ∧
 ∃ s19 : Sl, held S18 ⟨m_1, 4, none⟩ (s19.val) ∧
 Calls Tryz.prog fn_inner_machine_pop #[.pointer (some ⟨m_1, 0, none⟩)] w17 fun e21 w22 => ∃ n23 : Int, e21 = .returned (.int .i64 n23) ∧
 S18 w22 ∧
 ∃ a24 : Addr, s19.ptr = some a24 ∧ 0 ≤ n5 ∧ n5 < (s19.len : Int) ∧
 wrOk w22 (Addr.add a24 (Int.toNat n5 * 1)) 1 ∧ ∀ w25 : World, w25 = stW w22 (Addr.add a24 (Int.toNat n5 * 1)) 0 [.int .i64 (wr (v20 + n23))] →
 K (.nilIface) w25) ∧
 brB (c_2 == (30 : Int))
 (∀ (b12 : Nat) (w13 : World), b12 = w11.heap.size → w13 = World.alloc w11 (.cells #[.int .i64 n8] T_int) →
 Calls Tryz.prog fn_inner_machine_push #[.pointer (some ⟨m_1, 0, none⟩), .slice (some ⟨b12, 0, none⟩) 1 1] w13 fun e14 w15 => e14 = .returned (.tuple #[]) ∧
 K (.nilIface) w15)
 (brB (c_2 == (31 : Int))
 (J9 (0 : Int) w11)
 (J9 n8 w11)))
def inner_machine_memory_an : An := ⟨[], [(11, (10, .st 0 (.st 1 (.st 2 (.st 3 (.st 4 (.st 5 (.st 6 (.st 7 (.ef 8 (.st 9 .done))))))))), 1))], [(11, [(6, .int .i64)])]⟩
theorem inner_machine_memory_lift {m_1 : Nat} {c_2 : Int} {w : World} {K : Value → World → Prop} (h : inner_machine_memory_sh m_1 c_2 w K) : Calls Tryz.prog fn_inner_machine_memory #[.pointer (some ⟨m_1, 0, none⟩), .int .i64 c_2] w fun e w' => ∃ v, e = .returned v ∧ K v w' :=
   lift_calls (A := inner_machine_memory_an) (c := bodyOf Tryz.f140) (args := [.pointer (some ⟨m_1, 0, none⟩), .int .i64 c_2]) orc orc_wide Tryz.func140 (by kernel_rfl) (by kernel_rfl) (Eq.mp (by kernel_rfl : inner_machine_memory_sh m_1 c_2 w K = wpc orc Tryz.f140.ntmps inner_machine_memory_an (bodyOf Tryz.f140) (argl 0 [.pointer (some ⟨m_1, 0, none⟩), .int .i64 c_2]) w (retQ orc Tryz.f140.results.toList K)) h)

def inner_machine_backs_sh (m_1 : Nat) (c_2 : Int) (w : World) (K : Value → World → Prop) : Prop :=
 brB (c_2 == (33 : Int))
 (Calls Tryz.prog fn_inner_machine_pop #[.pointer (some ⟨m_1, 0, none⟩)] w fun e3 w4 => ∃ n5 : Int, e3 = .returned (.int .i64 n5) ∧
 ∀ (b6 : Nat) (w7 : World), b6 = w4.heap.size → w7 = World.alloc w4 (.cells #[.int .i64 n5] T_int) →
 Calls Tryz.prog fn_inner_machine_back #[.pointer (some ⟨m_1, 0, none⟩), .slice (some ⟨b6, 0, none⟩) 1 1] w7 fun e8 w9 => e8 = .returned (.tuple #[]) ∧
 K (.tuple #[]) w9)
 (brB (c_2 == (34 : Int))
 (Calls Tryz.prog fn_inner_machine_popBack #[.pointer (some ⟨m_1, 0, none⟩)] w fun e10 w11 => ∃ n12 : Int, e10 = .returned (.int .i64 n12) ∧
 ∀ (b13 : Nat) (w14 : World), b13 = w11.heap.size → w14 = World.alloc w11 (.cells #[.int .i64 n12] T_int) →
 Calls Tryz.prog fn_inner_machine_push #[.pointer (some ⟨m_1, 0, none⟩), .slice (some ⟨b13, 0, none⟩) 1 1] w14 fun e15 w16 => e15 = .returned (.tuple #[]) ∧
 K (.tuple #[]) w16)
 (brB (c_2 == (35 : Int))
 (∀ w17 : World, w17 = World.drew w →
 ∃ S18 : World → Prop, S18 w17 ∧
 ∃ s19 : Sl, held S18 ⟨m_1, 3, none⟩ (s19.val) ∧
 ∃ s20 : Sl, held S18 ⟨m_1, 3, none⟩ (s20.val) ∧
 ∃ a21 : Addr, s19.ptr = some a21 ∧ 0 ≤ (wr ((s20.len : Int) - (1 : Int))) ∧ (wr ((s20.len : Int) - (1 : Int))) < (s19.len : Int) ∧
 ∃ n22 : Int, held S18 (Addr.add a21 (Int.toNat (wr ((s20.len : Int) - (1 : Int))) * 1)) (.int .i64 n22) ∧
 ∀ (b23 : Nat) (w24 : World), b23 = w17.heap.size → w24 = World.alloc w17 (.cells #[.int .i64 n22] T_int) →
 S18 w24 ∧
 Calls Tryz.prog fn_inner_machine_push #[.pointer (some ⟨m_1, 0, none⟩), .slice (some ⟨b23, 0, none⟩) 1 1] w24 fun e25 w26 => e25 = .returned (.tuple #[]) ∧
 K (.tuple #[]) w26)
 (brB (c_2 == (36 : Int))
 (Calls Tryz.prog fn_inner_machine_pop #[.pointer (some ⟨m_1, 0, none⟩)] w fun e27 w28 => ∃ n29 : Int, e27 = .returned (.int .i64 n29) ∧
 Calls Tryz.prog fn_inner_machine_pop #[.pointer (some ⟨m_1, 0, none⟩)] w28 fun e30 w31 => ∃ n32 : Int, e30 = .returned (.int .i64 n32) ∧
 ∀ (b33 : Nat) (w34 : World), b33 = w31.heap.size → w34 = World.alloc w31 (.cells #[.int .i64 n32, .int .i64 n29] T_int) →
 Calls Tryz.prog fn_inner_machine_back #[.pointer (some ⟨m_1, 0, none⟩), .slice (some ⟨b33, 0, none⟩) 2 2] w34 fun e35 w36 => e35 = .returned (.tuple #[]) ∧
 K (.tuple #[]) w36)
 (brB (c_2 == (39 : Int))
 (∀ w37 : World, w37 = World.drew w →
 ∃ S38 : World → Prop, S38 w37 ∧
 ∃ s39 : Sl, held S38 ⟨m_1, 3, none⟩ (s39.val) ∧
 ∃ s40 : Sl, held S38 ⟨m_1, 3, none⟩ (s40.val) ∧
 ∃ a41 : Addr, s39.ptr = some a41 ∧ 0 ≤ (wr ((s40.len : Int) - (3 : Int))) ∧ (wr ((s40.len : Int) - (3 : Int))) < (s39.len : Int) ∧
 ∃ n42 : Int, held S38 (Addr.add a41 (Int.toNat (wr ((s40.len : Int) - (3 : Int))) * 1)) (.int .i64 n42) ∧
 ∀ (b43 : Nat) (w44 : World), b43 = w37.heap.size → w44 = World.alloc w37 (.cells #[.int .i64 n42] T_int) →
 S38 w44 ∧
 Calls Tryz.prog fn_inner_machine_push #[.pointer (some ⟨m_1, 0, none⟩), .slice (some ⟨b43, 0, none⟩) 1 1] w44 fun e45 w46 => e45 = .returned (.tuple #[]) ∧
 K (.tuple #[]) w46)
 (∀ w47 : World, w47 = World.drew w →
 ∃ s48 : Sl, held (Lw w47) ⟨m_1, 3, none⟩ (s48.val) ∧
 ∃ s49 : Sl, held (Lw w47) ⟨m_1, 3, none⟩ (s49.val) ∧
 0 ≤ (wr ((s49.len : Int) - (2 : Int))) ∧ (wr ((s49.len : Int) - (2 : Int))) ≤ (s48.cap : Int) ∧ 
 wrOk w47 ⟨m_1, 3, none⟩ 1 ∧ ∀ w50 : World, w50 = stW w47 ⟨m_1, 3, none⟩ 0 [(Sl.sub s48.ptr s48.cap 0 (Int.toNat (wr ((s49.len : Int) - (2 : Int)))) 1).val] →
 K (.tuple #[]) w50)))))
def inner_machine_backs_an : An := ⟨[], [(1, (17, .st 0 (.st 1 (.st 2 (.st 3 (.st 4 (.st 5 (.st 6 (.st 7 (.st 8 (.st 9 (.st 10 (.st 11 (.st 12 (.st 13 (.st 14 (.st 15 (.st 16 .done)))))))))))))))), 0)), (7, (16, .st 0 (.st 1 (.st 2 (.st 3 (.st 4 (.st 5 (.st 6 (.st 7 (.st 8 (.st 9 (.st 10 (.st 11 (.st 12 (.st 13 (.st 14 (.ef 15 .done))))))))))))))), 1)), (12, (16, .st 0 (.st 1 (.st 2 (.st 3 (.st 4 (.st 5 (.st 6 (.st 7 (.st 8 (.st 9 (.st 10 (.st 11 (.st 12 (.st 13 (.st 14 (.ef 15 .done))))))))))))))), 1))], []⟩
theorem inner_machine_backs_lift {m_1 : Nat} {c_2 : Int} {w : World} {K : Value → World → Prop} (h : inner_machine_backs_sh m_1 c_2 w K) : Calls Tryz.prog fn_inner_machine_backs #[.pointer (some ⟨m_1, 0, none⟩), .int .i64 c_2] w fun e w' => ∃ v, e = .returned v ∧ K v w' :=
   lift_calls (A := inner_machine_backs_an) (c := bodyOf Tryz.f141) (args := [.pointer (some ⟨m_1, 0, none⟩), .int .i64 c_2]) orc orc_wide Tryz.func141 (by kernel_rfl) (by kernel_rfl) (Eq.mp (by kernel_rfl : inner_machine_backs_sh m_1 c_2 w K = wpc orc Tryz.f141.ntmps inner_machine_backs_an (bodyOf Tryz.f141) (argl 0 [.pointer (some ⟨m_1, 0, none⟩), .int .i64 c_2]) w (retQ orc Tryz.f141.results.toList K)) h)

def inner_machine_loop_sh (m_1 : Nat) (c_2 : Int) (arg3 : Int) (w : World) (K : Value → World → Prop) : Prop :=
 Calls Tryz.prog fn_inner_machine_popBack #[.pointer (some ⟨m_1, 0, none⟩)] w fun e4 w5 => ∃ n6 : Int, e4 = .returned (.int .i64 n6) ∧
 Calls Tryz.prog fn_inner_machine_popBack #[.pointer (some ⟨m_1, 0, none⟩)] w5 fun e7 w8 => ∃ n9 : Int, e7 = .returned (.int .i64 n9) ∧
 ∃ J4 : Int → Bool → World → Prop, (∀ (n18 : Int) (ends17 : Bool) (w16 : World), J4 n18 ends17 w16 →
 brB (!ends17)
 (∀ (b19 : Nat) (w20 : World), b19 = w16.heap.size → w20 = World.alloc w16 (.cells #[.int .i64 n9, .int .i64 (wr (n6 + n18))] T_int) →
 Calls Tryz.prog fn_inner_machine_back #[.pointer (some ⟨m_1, 0, none⟩), .slice (some ⟨b19, 0, none⟩) 2 2] w20 fun e21 w22 => e21 = .returned (.tuple #[]) ∧
 wrOk w22 ⟨m_1, 0, none⟩ 1 ∧ ∀ w23 : World, w23 = stW w22 ⟨m_1, 0, none⟩ 0 [.int .i64 arg3] →
 K (.tuple #[]) w23)
 (K (.tuple #[]) w16)) ∧
 brB (c_2 == (38 : Int))
 (Calls Tryz.prog fn_inner_machine_pop #[.pointer (some ⟨m_1, 0, none⟩)] w8 fun e10 w11 => ∃ n12 : Int, e10 = .returned (.int .i64 n12) ∧
 Calls Tryz.prog fn_cell_Crosses #[.int .i64 (wr (n6 - n9)), .int .i64 n12] w11 fun e13 w14 => ∃ b15 : Bool, e13 = .returned (.bool b15) ∧
 J4 n12 b15 w14)
 (J4 (1 : Int) ((wr (n6 + (1 : Int))) == n9) w8)
def inner_machine_loop_an : An := ⟨[], [], [(6, [(8, .int .i64), (9, .bool)])]⟩
theorem inner_machine_loop_lift {m_1 : Nat} {c_2 : Int} {arg3 : Int} {w : World} {K : Value → World → Prop} (h : inner_machine_loop_sh m_1 c_2 arg3 w K) : Calls Tryz.prog fn_inner_machine_loop #[.pointer (some ⟨m_1, 0, none⟩), .int .i64 c_2, .int .i64 arg3] w fun e w' => ∃ v, e = .returned v ∧ K v w' :=
   lift_calls (A := inner_machine_loop_an) (c := bodyOf Tryz.f142) (args := [.pointer (some ⟨m_1, 0, none⟩), .int .i64 c_2, .int .i64 arg3]) orc orc_wide Tryz.func142 (by kernel_rfl) (by kernel_rfl) (Eq.mp (by kernel_rfl : inner_machine_loop_sh m_1 c_2 arg3 w K = wpc orc Tryz.f142.ntmps inner_machine_loop_an (bodyOf Tryz.f142) (argl 0 [.pointer (some ⟨m_1, 0, none⟩), .int .i64 c_2, .int .i64 arg3]) w (retQ orc Tryz.f142.results.toList K)) h)

def inner_machine_say_sh (m_1 : Nat) (c_2 : Int) (w : World) (K : Value → World → Prop) : Prop :=
 Calls Tryz.prog fn_inner_machine_pop #[.pointer (some ⟨m_1, 0, none⟩)] w fun e3 w4 => ∃ n5 : Int, e3 = .returned (.int .i64 n5) ∧
 ∀ (b6 : Nat) (w7 : World), b6 = w4.heap.size → w7 = World.alloc w4 (.cells #[.int .u8 (IntKind.wrap .u8 n5)] T_uint8) →
 ∃ t8 : ByteArray, ∃ w9 : World, (convert T_sl_uint8 T_string (.slice (some ⟨b6, 0, none⟩) 1 1)).run Tryz.prog w7 = .ok (.string t8) w9 ∧
 ∃ J4 : ByteArray → World → Prop, (∀ (text15 : ByteArray) (w13 : World), J4 text15 w13 →
 ∃ t14 : ByteArray, w13.cell? ⟨m_1, 5, none⟩ = some (.string t14) ∧
 brB (decide ((wr ((t14.size : Int) + (text15.size : Int))) > (2000 : Int)))
 (Calls Tryz.prog fn_inner_machine_fails #[.pointer (some ⟨m_1, 0, none⟩), .int .i64 (-57 : Int)] w13 fun e16 w17 => ∃ v18 : Value, e16 = .returned (v18) ∧
 K (v18) w17)
 (∃ t19 : ByteArray, w13.cell? ⟨m_1, 5, none⟩ = some (.string t19) ∧
 ((t19).size : Int) + ((text15).size : Int) ≤ 9223372036854775807 ∧ wrOk w13 ⟨m_1, 5, none⟩ 1 ∧ ∀ w20 : World, w20 = stW w13 ⟨m_1, 5, none⟩ 0 [.string (t19 ++ text15)] →
 K (.nilIface) w20)) ∧
 brB (c_2 == (42 : Int))
 (Calls Tryz.prog fn_digits_Put #[.int .i64 n5, .int .i64 (10 : Int)] w9 fun e10 w11 => ∃ t12 : ByteArray, e10 = .returned (.string t12) ∧
 ((t12).size : Int) + (((bs [32])).size : Int) ≤ 9223372036854775807 ∧ J4 (t12 ++ (bs [32])) w11)
 (J4 t8 w9)
def inner_machine_say_an : An := ⟨[], [], [(5, [(6, .str)])]⟩
theorem inner_machine_say_lift {m_1 : Nat} {c_2 : Int} {w : World} {K : Value → World → Prop} (h : inner_machine_say_sh m_1 c_2 w K) : Calls Tryz.prog fn_inner_machine_say #[.pointer (some ⟨m_1, 0, none⟩), .int .i64 c_2] w fun e w' => ∃ v, e = .returned v ∧ K v w' :=
   lift_calls (A := inner_machine_say_an) (c := bodyOf Tryz.f143) (args := [.pointer (some ⟨m_1, 0, none⟩), .int .i64 c_2]) orc orc_wide Tryz.func143 (by kernel_rfl) (by kernel_rfl) (Eq.mp (by kernel_rfl : inner_machine_say_sh m_1 c_2 w K = wpc orc Tryz.f143.ntmps inner_machine_say_an (bodyOf Tryz.f143) (argl 0 [.pointer (some ⟨m_1, 0, none⟩), .int .i64 c_2]) w (retQ orc Tryz.f143.results.toList K)) h)

def inner_machine_key_sh (m_1 : Nat) (w : World) (K : Value → World → Prop) : Prop :=
 ∀ w2 : World, w2 = World.drew w →
 ∃ n3 : Int, held (Lw w2) ⟨m_1, 7, none⟩ (.int .i64 n3) ∧
 ∃ t4 : ByteArray, held (Lw w2) ⟨m_1, 6, none⟩ (.string t4) ∧
 brB (decide (n3 ≥ (t4.size : Int)))
 (∀ (b5 : Nat) (w6 : World), b5 = w2.heap.size → w6 = World.alloc w2 (.cells #[.int .i64 (-1 : Int)] T_int) →
 Calls Tryz.prog fn_inner_machine_push #[.pointer (some ⟨m_1, 0, none⟩), .slice (some ⟨b5, 0, none⟩) 1 1] w6 fun e7 w8 => e7 = .returned (.tuple #[]) ∧
 K (.tuple #[]) w8)
 (∀ w9 : World, w9 = World.drew w2 →
 ∃ S10 : World → Prop, S10 w9 ∧
 ∃ t11 : ByteArray, held S10 ⟨m_1, 6, none⟩ (.string t11) ∧
 ∃ n12 : Int, held S10 ⟨m_1, 7, none⟩ (.int .i64 n12) ∧
 0 ≤ n12 ∧ n12 < (t11.size : Int) ∧
 ∀ (b13 : Nat) (w14 : World), b13 = w9.heap.size → w14 = World.alloc w9 (.cells #[.int .i64 (wr (sb t11 n12))] T_int) →
 S10 w14 ∧
 Calls Tryz.prog fn_inner_machine_push #[.pointer (some ⟨m_1, 0, none⟩), .slice (some ⟨b13, 0, none⟩) 1 1] w14 fun e15 w16 => e15 = .returned (.tuple #[]) ∧
 ∃ n17 : Int, w16.cell? ⟨m_1, 7, none⟩ = some (.int .i64 n17) ∧
 wrOk w16 ⟨m_1, 7, none⟩ 1 ∧ ∀ w18 : World, w18 = stW w16 ⟨m_1, 7, none⟩ 0 [.int .i64 (wr (n17 + (1 : Int)))] →
 K (.tuple #[]) w18)
def inner_machine_key_an : An := ⟨[], [(0, (12, .st 0 (.st 1 (.st 2 (.st 3 (.st 4 (.st 5 (.st 6 (.st 7 (.st 8 (.st 9 (.st 10 (.st 11 .done))))))))))), 0)), (2, (14, .st 0 (.st 1 (.st 2 (.st 3 (.st 4 (.st 5 (.st 6 (.st 7 (.st 8 (.st 9 (.st 10 (.st 11 (.st 12 (.ef 13 .done))))))))))))), 1))], []⟩
theorem inner_machine_key_lift {m_1 : Nat} {w : World} {K : Value → World → Prop} (h : inner_machine_key_sh m_1 w K) : Calls Tryz.prog fn_inner_machine_key #[.pointer (some ⟨m_1, 0, none⟩)] w fun e w' => ∃ v, e = .returned v ∧ K v w' :=
   lift_calls (A := inner_machine_key_an) (c := bodyOf Tryz.f144) (args := [.pointer (some ⟨m_1, 0, none⟩)]) orc orc_wide Tryz.func144 (by kernel_rfl) (by kernel_rfl) (Eq.mp (by kernel_rfl : inner_machine_key_sh m_1 w K = wpc orc Tryz.f144.ntmps inner_machine_key_an (bodyOf Tryz.f144) (argl 0 [.pointer (some ⟨m_1, 0, none⟩)]) w (retQ orc Tryz.f144.results.toList K)) h)

def inner_machine_flow_sh (m_1 : Nat) (c_2 : Int) (w : World) (K : Value → World → Prop) : Prop :=
 brB (c_2 == (44 : Int))
 (Calls Tryz.prog fn_inner_machine_pop #[.pointer (some ⟨m_1, 0, none⟩)] w fun e3 w4 => ∃ n5 : Int, e3 = .returned (.int .i64 n5) ∧
 ∃ J7 : Bool → World → Prop, (∀ (b8 : Bool) (w7 : World), J7 b8 w7 →
 brB b8
 (Calls Tryz.prog fn_inner_machine_fails #[.pointer (some ⟨m_1, 0, none⟩), .int .i64 (-13 : Int)] w7 fun e9 w10 => ∃ v11 : Value, e9 = .returned (v11) ∧
 K (v11) w10)
 (∃ n12 : Int, w7.cell? ⟨m_1, 0, none⟩ = some (.int .i64 n12) ∧
 ∀ (b13 : Nat) (w14 : World), b13 = w7.heap.size → w14 = World.alloc w7 (.cells #[.int .i64 n12] T_int) →
 Calls Tryz.prog fn_inner_machine_back #[.pointer (some ⟨m_1, 0, none⟩), .slice (some ⟨b13, 0, none⟩) 1 1] w14 fun e15 w16 => e15 = .returned (.tuple #[]) ∧
 wrOk w16 ⟨m_1, 0, none⟩ 1 ∧ ∀ w17 : World, w17 = stW w16 ⟨m_1, 0, none⟩ 0 [.int .i64 n5] →
 K (.nilIface) w17)) ∧
 brB (decide (n5 < (64 : Int)))
 (J7 true w4)
 (∃ s6 : Sl, w4.cell? ⟨m_1, 4, none⟩ = some (s6.val) ∧
 J7 (decide (n5 ≥ (s6.len : Int))) w4))
 (brB (c_2 == (45 : Int))
 (wrOk w ⟨m_1, 10, none⟩ 1 ∧ ∀ w18 : World, w18 = stW w ⟨m_1, 10, none⟩ 0 [.bool true] →
 ∀ w19 : World, w19 = World.drew w18 →
 ∃ S20 : World → Prop, S20 w19 ∧
 ∃ n21 : Int, held S20 ⟨m_1, 0, none⟩ (.int .i64 n21) ∧
 Calls Tryz.prog fn_inner_machine_pop #[.pointer (some ⟨m_1, 0, none⟩)] w19 fun e22 w23 => ∃ n24 : Int, e22 = .returned (.int .i64 n24) ∧
 S20 w23 ∧
 Calls Tryz.prog fn_fault_New #[.int .i64 n24, .int .i64 n21] w23 fun e25 w26 => ∃ v27 : Value, e25 = .returned (v27) ∧
 K (v27) w26)
 (brB (c_2 == (46 : Int))
 (Calls Tryz.prog fn_inner_machine_pop #[.pointer (some ⟨m_1, 0, none⟩)] w fun e28 w29 => ∃ n30 : Int, e28 = .returned (.int .i64 n30) ∧
 ∀ w31 : World, w31 = World.drew w29 →
 ∃ S32 : World → Prop, S32 w31 ∧
 ∃ n33 : Int, held S32 ⟨m_1, 0, none⟩ (.int .i64 n33) ∧
 ∃ n34 : Int, held S32 ⟨m_1, 1, none⟩ (.int .i64 n34) ∧
 ∃ s35 : Sl, held S32 ⟨m_1, 2, none⟩ (s35.val) ∧
 ∀ (b36 : Nat) (w37 : World), b36 = w31.heap.size → w37 = World.alloc w31 (.cells #[.int .i64 n33, .int .i64 n34, .int .i64 (s35.len : Int)] T_int) →
 S32 w37 ∧
 Calls Tryz.prog fn_inner_machine_back #[.pointer (some ⟨m_1, 0, none⟩), .slice (some ⟨b36, 0, none⟩) 3 3] w37 fun e38 w39 => e38 = .returned (.tuple #[]) ∧
 ∃ s40 : Sl, w39.cell? ⟨m_1, 3, none⟩ = some (s40.val) ∧
 wrOk w39 ⟨m_1, 1, none⟩ 1 ∧ ∀ w41 : World, w41 = stW w39 ⟨m_1, 1, none⟩ 0 [.int .i64 (s40.len : Int)] →
 ∀ (b42 : Nat) (w43 : World), b42 = w41.heap.size → w43 = World.alloc w41 (.cells #[.int .i64 (1 : Int)] T_int) →
 Calls Tryz.prog fn_inner_machine_back #[.pointer (some ⟨m_1, 0, none⟩), .slice (some ⟨b42, 0, none⟩) 1 1] w43 fun e44 w45 => e44 = .returned (.tuple #[]) ∧
 wrOk w45 ⟨m_1, 0, none⟩ 1 ∧ ∀ w46 : World, w46 = stW w45 ⟨m_1, 0, none⟩ 0 [.int .i64 n30] →
 K (.nilIface) w46)
 (Calls Tryz.prog fn_inner_machine_endCatch #[.pointer (some ⟨m_1, 0, none⟩)] w fun e47 w48 => ∃ v49 : Value, e47 = .returned (v49) ∧
 K (v49) w48)))
def inner_machine_flow_an : An := ⟨[], [(11, (7, .st 0 (.st 2 (.st 3 (.st 4 (.st 5 (.st 6 (.ef 1 .done)))))), 1)), (14, (18, .st 0 (.st 1 (.st 2 (.st 3 (.st 4 (.st 5 (.st 6 (.st 7 (.st 8 (.st 9 (.st 10 (.st 11 (.st 12 (.st 13 (.st 14 (.st 15 (.st 16 (.ef 17 .done))))))))))))))))), 1))], [(6, [(25, .bool)])]⟩
theorem inner_machine_flow_lift {m_1 : Nat} {c_2 : Int} {w : World} {K : Value → World → Prop} (h : inner_machine_flow_sh m_1 c_2 w K) : Calls Tryz.prog fn_inner_machine_flow #[.pointer (some ⟨m_1, 0, none⟩), .int .i64 c_2] w fun e w' => ∃ v, e = .returned v ∧ K v w' :=
   lift_calls (A := inner_machine_flow_an) (c := bodyOf Tryz.f145) (args := [.pointer (some ⟨m_1, 0, none⟩), .int .i64 c_2]) orc orc_wide Tryz.func145 (by kernel_rfl) (by kernel_rfl) (Eq.mp (by kernel_rfl : inner_machine_flow_sh m_1 c_2 w K = wpc orc Tryz.f145.ntmps inner_machine_flow_an (bodyOf Tryz.f145) (argl 0 [.pointer (some ⟨m_1, 0, none⟩), .int .i64 c_2]) w (retQ orc Tryz.f145.results.toList K)) h)

def inner_machine_reckon_sh (m_1 : Nat) (c_2 : Int) (w : World) (K : Value → World → Prop) : Prop :=
 Calls Tryz.prog fn_inner_machine_pop #[.pointer (some ⟨m_1, 0, none⟩)] w fun e3 w4 => ∃ n5 : Int, e3 = .returned (.int .i64 n5) ∧
 Calls Tryz.prog fn_cell_One #[.int .i64 c_2, .int .i64 n5] w4 fun e6 w7 => ∃ n8 : Int, ∃ b9 : Bool, e6 = .returned (.tuple #[.int .i64 n8, .bool b9]) ∧
 brB b9
 (∀ (b10 : Nat) (w11 : World), b10 = w7.heap.size → w11 = World.alloc w7 (.cells #[.int .i64 n8] T_int) →
 Calls Tryz.prog fn_inner_machine_push #[.pointer (some ⟨m_1, 0, none⟩), .slice (some ⟨b10, 0, none⟩) 1 1] w11 fun e12 w13 => e12 = .returned (.tuple #[]) ∧
 K (.nilIface) w13)
 (Calls Tryz.prog fn_inner_machine_pop #[.pointer (some ⟨m_1, 0, none⟩)] w7 fun e14 w15 => ∃ n16 : Int, e14 = .returned (.int .i64 n16) ∧
 Calls Tryz.prog fn_cell_Two #[.int .i64 c_2, .int .i64 n16, .int .i64 n5] w15 fun e17 w18 => ∃ n19 : Int, ∃ b20 : Bool, e17 = .returned (.tuple #[.int .i64 n19, .bool b20]) ∧
 brB (!b20)
 (Calls Tryz.prog fn_inner_machine_fails #[.pointer (some ⟨m_1, 0, none⟩), .int .i64 (-10 : Int)] w18 fun e21 w22 => ∃ v23 : Value, e21 = .returned (v23) ∧
 K (v23) w22)
 (∀ (b24 : Nat) (w25 : World), b24 = w18.heap.size → w25 = World.alloc w18 (.cells #[.int .i64 n19] T_int) →
 Calls Tryz.prog fn_inner_machine_push #[.pointer (some ⟨m_1, 0, none⟩), .slice (some ⟨b24, 0, none⟩) 1 1] w25 fun e26 w27 => e26 = .returned (.tuple #[]) ∧
 K (.nilIface) w27))
def inner_machine_reckon_an : An := ⟨[], [], []⟩
theorem inner_machine_reckon_lift {m_1 : Nat} {c_2 : Int} {w : World} {K : Value → World → Prop} (h : inner_machine_reckon_sh m_1 c_2 w K) : Calls Tryz.prog fn_inner_machine_reckon #[.pointer (some ⟨m_1, 0, none⟩), .int .i64 c_2] w fun e w' => ∃ v, e = .returned v ∧ K v w' :=
   lift_calls (A := inner_machine_reckon_an) (c := bodyOf Tryz.f146) (args := [.pointer (some ⟨m_1, 0, none⟩), .int .i64 c_2]) orc orc_wide Tryz.func146 (by kernel_rfl) (by kernel_rfl) (Eq.mp (by kernel_rfl : inner_machine_reckon_sh m_1 c_2 w K = wpc orc Tryz.f146.ntmps inner_machine_reckon_an (bodyOf Tryz.f146) (argl 0 [.pointer (some ⟨m_1, 0, none⟩), .int .i64 c_2]) w (retQ orc Tryz.f146.results.toList K)) h)

def inner_machine_swapped_sh (m_1 : Nat) (w : World) (K : Value → World → Prop) : Prop :=
 Calls Tryz.prog fn_inner_machine_pop #[.pointer (some ⟨m_1, 0, none⟩)] w fun e2 w3 => ∃ n4 : Int, e2 = .returned (.int .i64 n4) ∧
 K (.int .i64 n4) w3
def inner_machine_swapped_an : An := ⟨[], [], []⟩
theorem inner_machine_swapped_lift {m_1 : Nat} {w : World} {K : Value → World → Prop} (h : inner_machine_swapped_sh m_1 w K) : Calls Tryz.prog fn_inner_machine_swapped #[.pointer (some ⟨m_1, 0, none⟩)] w fun e w' => ∃ v, e = .returned v ∧ K v w' :=
   lift_calls (A := inner_machine_swapped_an) (c := bodyOf Tryz.f155) (args := [.pointer (some ⟨m_1, 0, none⟩)]) orc orc_wide Tryz.func155 (by kernel_rfl) (by kernel_rfl) (Eq.mp (by kernel_rfl : inner_machine_swapped_sh m_1 w K = wpc orc Tryz.f155.ntmps inner_machine_swapped_an (bodyOf Tryz.f155) (argl 0 [.pointer (some ⟨m_1, 0, none⟩)]) w (retQ orc Tryz.f155.results.toList K)) h)

def inner_machine_endCatch_sh (m_1 : Nat) (w : World) (K : Value → World → Prop) : Prop :=
 ∃ J3 : Bool → World → Prop, (∀ (b7 : Bool) (w6 : World), J3 b7 w6 →
 brB b7
 (Calls Tryz.prog fn_inner_machine_fails #[.pointer (some ⟨m_1, 0, none⟩), .int .i64 (-25 : Int)] w6 fun e8 w9 => ∃ v10 : Value, e8 = .returned (v10) ∧
 K (v10) w9)
 (∃ s11 : Sl, w6.cell? ⟨m_1, 2, none⟩ = some (s11.val) ∧
 brB (decide ((s11.len : Int) ≥ (48 : Int)))
 (Calls Tryz.prog fn_inner_machine_fails #[.pointer (some ⟨m_1, 0, none⟩), .int .i64 (-3 : Int)] w6 fun e12 w13 => ∃ v14 : Value, e12 = .returned (v14) ∧
 K (v14) w13)
 (Calls Tryz.prog fn_inner_machine_popBack #[.pointer (some ⟨m_1, 0, none⟩)] w6 fun e15 w16 => ∃ n17 : Int, e15 = .returned (.int .i64 n17) ∧
 Calls Tryz.prog fn_inner_machine_popBack #[.pointer (some ⟨m_1, 0, none⟩)] w16 fun e18 w19 => ∃ n20 : Int, e18 = .returned (.int .i64 n20) ∧
 wrOk w19 ⟨m_1, 1, none⟩ 1 ∧ ∀ w21 : World, w21 = stW w19 ⟨m_1, 1, none⟩ 0 [.int .i64 n20] →
 Calls Tryz.prog fn_inner_machine_popBack #[.pointer (some ⟨m_1, 0, none⟩)] w21 fun e22 w23 => ∃ n24 : Int, e22 = .returned (.int .i64 n24) ∧
 wrOk w23 ⟨m_1, 0, none⟩ 1 ∧ ∀ w25 : World, w25 = stW w23 ⟨m_1, 0, none⟩ 0 [.int .i64 n24] →
 ∀ (b26 : Nat) (w27 : World), b26 = w25.heap.size → w27 = World.alloc w25 (.cells #[.int .i64 (0 : Int)] T_int) →
 Calls Tryz.prog fn_inner_machine_push #[.pointer (some ⟨m_1, 0, none⟩), .slice (some ⟨b26, 0, none⟩) 1 1] w27 fun e28 w29 => e28 = .returned (.tuple #[]) ∧
 K (.nilIface) w29))) ∧
 ∀ w2 : World, w2 = World.drew w →
 ∃ n3 : Int, held (Lw w2) ⟨m_1, 1, none⟩ (.int .i64 n3) ∧
 brB (decide (n3 < (3 : Int)))
 (J3 true w2)
 (∃ s4 : Sl, held (Lw w2) ⟨m_1, 3, none⟩ (s4.val) ∧
 ∃ n5 : Int, held (Lw w2) ⟨m_1, 1, none⟩ (.int .i64 n5) ∧
 J3 ((s4.len : Int) != n5) w2)
def inner_machine_endCatch_an : An := ⟨[], [(1, (20, .st 0 (.st 1 (.st 2 (.st 3 (.st 4 (.st 5 (.st 6 (.st 7 (.st 8 (.st 9 (.st 10 (.st 11 (.st 12 (.st 13 (.st 14 (.st 15 (.st 16 (.st 17 (.st 18 (.st 19 .done))))))))))))))))))), 0))], [(2, [(22, .bool)])]⟩
theorem inner_machine_endCatch_lift {m_1 : Nat} {w : World} {K : Value → World → Prop} (h : inner_machine_endCatch_sh m_1 w K) : Calls Tryz.prog fn_inner_machine_endCatch #[.pointer (some ⟨m_1, 0, none⟩)] w fun e w' => ∃ v, e = .returned v ∧ K v w' :=
   lift_calls (A := inner_machine_endCatch_an) (c := bodyOf Tryz.f158) (args := [.pointer (some ⟨m_1, 0, none⟩)]) orc orc_wide Tryz.func158 (by kernel_rfl) (by kernel_rfl) (Eq.mp (by kernel_rfl : inner_machine_endCatch_sh m_1 w K = wpc orc Tryz.f158.ntmps inner_machine_endCatch_an (bodyOf Tryz.f158) (argl 0 [.pointer (some ⟨m_1, 0, none⟩)]) w (retQ orc Tryz.f158.results.toList K)) h)

end Go.Proofs.YtkjpmkopnkkbmaaGreatDoor

/- Functions of Digits, read without their frames; that each is enough. Printed by a program of mine (wip/lift/gen.py). -/
set_option maxRecDepth 100000
namespace Go.Proofs.YtkjpmkopnkkbmaaGreatDoor
open Go.RowKit

def digits_Put_j1 (base2 : Int) (n8 : Int) (out9 : Sl) (I1 : Int → Sl → World → Prop) (μ1 : Int → Sl → World → Nat) (w7 : World) (v_1 : Int) (b13 : Bool) (w12 : World) (K : Value → World → Prop) : Prop :=
 brB b13
 ((IntKind.wrap .u64 base2) ≠ 0 ∧ 0 ≤ (Int.tmod n8 (IntKind.wrap .u64 base2)) ∧ (Int.tmod n8 (IntKind.wrap .u64 base2)) < ((bs [48, 49, 50, 51, 52, 53, 54, 55, 56, 57, 65, 66, 67, 68, 69, 70, 71, 72, 73, 74, 75, 76, 77, 78, 79, 80, 81, 82, 83, 84, 85, 86, 87, 88, 89, 90]).size : Int) ∧
 ∀ (b14 : Nat) (w15 : World), b14 = w12.heap.size → w15 = World.alloc w12 (.cells #[.int .u8 (sb (bs [48, 49, 50, 51, 52, 53, 54, 55, 56, 57, 65, 66, 67, 68, 69, 70, 71, 72, 73, 74, 75, 76, 77, 78, 79, 80, 81, 82, 83, 84, 85, 86, 87, 88, 89, 90]) (Int.tmod n8 (IntKind.wrap .u64 base2)))] T_uint8) →
 ∃ s16 : Sl, ∃ w17 : World, (Builtin.append_ #[T_sl_uint8, T_sl_uint8] T_sl_uint8 #[.slice (some ⟨b14, 0, none⟩) 1 1, out9.val]).run Tryz.prog w15 = .ok (s16.val) w17 ∧
 (IntKind.wrap .u64 base2) ≠ 0 ∧ I1 (IntKind.wrap .u64 (Int.tdiv n8 (IntKind.wrap .u64 base2))) s16 w17 ∧ μ1 (IntKind.wrap .u64 (Int.tdiv n8 (IntKind.wrap .u64 base2))) s16 w17 < μ1 n8 out9 w7)
 (brB (decide (v_1 < (0 : Int)))
 (∃ t18 : ByteArray, ∃ w19 : World, (convert T_sl_uint8 T_string (out9.val)).run Tryz.prog w12 = .ok (.string t18) w19 ∧
 (((bs [45])).size : Int) + ((t18).size : Int) ≤ 9223372036854775807 ∧ K (.string ((bs [45]) ++ t18)) w19)
 (∃ t20 : ByteArray, ∃ w21 : World, (convert T_sl_uint8 T_string (out9.val)).run Tryz.prog w12 = .ok (.string t20) w21 ∧
 K (.string t20) w21))
def digits_Put_sh (v_1 : Int) (base2 : Int) (w : World) (K : Value → World → Prop) : Prop :=
 Calls Tryz.prog fn_digits_Right #[.int .i64 base2] w fun e3 w4 => ∃ b5 : Bool, e3 = .returned (.bool b5) ∧
 brB (!b5)
 (K (.string (bs [])) w4)
 (∃ J6 : Int → World → Prop, (∀ (n22 : Int) (w6 : World), J6 n22 w6 →
 ∃ (I1 : Int → Sl → World → Prop) (μ1 : Int → Sl → World → Nat), I1 n22 (⟨none, 0, 0⟩ : Sl) w6 ∧ ∀ (n8 : Int) (out9 : Sl) (w7 : World), I1 n8 out9 w7 →
 brB (decide (n8 > (0 : Int)))
 (digits_Put_j1 base2 n8 out9 I1 (μ1) w7 v_1 true w7 K)
 (digits_Put_j1 base2 n8 out9 I1 (μ1) w7 v_1 ((out9.len : Int) == (0 : Int)) w7 K)) ∧
 brB (decide (v_1 < (0 : Int)))
 (J6 (IntKind.wrap .u64 (0 - (IntKind.wrap .u64 v_1))) w4)
 (J6 (IntKind.wrap .u64 v_1) w4))
def digits_Put_an : An := ⟨[(7, [(5, .int .u64), (6, .sl)])], [], [(6, [(5, .int .u64)])]⟩
theorem digits_Put_lift {v_1 : Int} {base2 : Int} {w : World} {K : Value → World → Prop} (h : digits_Put_sh v_1 base2 w K) : Calls Tryz.prog fn_digits_Put #[.int .i64 v_1, .int .i64 base2] w fun e w' => ∃ v, e = .returned v ∧ K v w' :=
   lift_calls (A := digits_Put_an) (c := bodyOf Tryz.f157) (args := [.int .i64 v_1, .int .i64 base2]) orc orc_wide Tryz.func157 (by kernel_rfl) (by kernel_rfl) (Eq.mp (by kernel_rfl : digits_Put_sh v_1 base2 w K = wpc orc Tryz.f157.ntmps digits_Put_an (bodyOf Tryz.f157) (argl 0 [.int .i64 v_1, .int .i64 base2]) w (retQ orc Tryz.f157.results.toList K)) h)

def digits_Right_sh (base1 : Int) (w : World) (K : Value → World → Prop) : Prop :=
 brB (decide (base1 ≥ (2 : Int)))
 (K (.bool (decide (base1 ≤ (36 : Int)))) w)
 (K (.bool false) w)
def digits_Right_an : An := ⟨[], [], []⟩
theorem digits_Right_lift {base1 : Int} {w : World} {K : Value → World → Prop} (h : digits_Right_sh base1 w K) : Calls Tryz.prog fn_digits_Right #[.int .i64 base1] w fun e w' => ∃ v, e = .returned v ∧ K v w' :=
   lift_calls (A := digits_Right_an) (c := bodyOf Tryz.f167) (args := [.int .i64 base1]) orc orc_wide Tryz.func167 (by kernel_rfl) (by kernel_rfl) (Eq.mp (by kernel_rfl : digits_Right_sh base1 w K = wpc orc Tryz.f167.ntmps digits_Right_an (bodyOf Tryz.f167) (argl 0 [.int .i64 base1]) w (retQ orc Tryz.f167.results.toList K)) h)

end Go.Proofs.YtkjpmkopnkkbmaaGreatDoor

/- Functions of Cell, read without their frames; that each is enough. Printed by a program of mine (wip/lift/gen.py). -/
set_option maxRecDepth 100000
namespace Go.Proofs.YtkjpmkopnkkbmaaGreatDoor
open Go.RowKit

def cell_Crosses_sh (x_1 : Int) (n_2 : Int) (w : World) (K : Value → World → Prop) : Prop :=
 K (.bool (decide ((iand .i64 (ixor .i64 x_1 (wr (x_1 + n_2))) (ixor .i64 x_1 n_2)) < (0 : Int)))) w
def cell_Crosses_an : An := ⟨[], [], []⟩
theorem cell_Crosses_lift {x_1 : Int} {n_2 : Int} {w : World} {K : Value → World → Prop} (h : cell_Crosses_sh x_1 n_2 w K) : Calls Tryz.prog fn_cell_Crosses #[.int .i64 x_1, .int .i64 n_2] w fun e w' => ∃ v, e = .returned v ∧ K v w' :=
   lift_calls (A := cell_Crosses_an) (c := bodyOf Tryz.f156) (args := [.int .i64 x_1, .int .i64 n_2]) orc orc_wide Tryz.func156 (by kernel_rfl) (by kernel_rfl) (Eq.mp (by kernel_rfl : cell_Crosses_sh x_1 n_2 w K = wpc orc Tryz.f156.ntmps cell_Crosses_an (bodyOf Tryz.f156) (argl 0 [.int .i64 x_1, .int .i64 n_2]) w (retQ orc Tryz.f156.results.toList K)) h)

end Go.Proofs.YtkjpmkopnkkbmaaGreatDoor

/- Functions of Hollowayref1, read without their frames; that each is enough. Printed by a program of mine (wip/lift/gen.py). -/
set_option maxRecDepth 100000
namespace Go.Proofs.YtkjpmkopnkkbmaaGreatDoor
open Go.RowKit

def hollowayref1_Op_sh (op1 : Int) (w : World) (K : Value → World → Prop) : Prop :=
 brB (decide (op1 ≥ (0 : Int)))
 (K (.bool (decide (op1 < (48 : Int)))) w)
 (K (.bool false) w)
def hollowayref1_Op_an : An := ⟨[], [], []⟩
theorem hollowayref1_Op_lift {op1 : Int} {w : World} {K : Value → World → Prop} (h : hollowayref1_Op_sh op1 w K) : Calls Tryz.prog fn_hollowayref1_Op #[.int .i64 op1] w fun e w' => ∃ v, e = .returned v ∧ K v w' :=
   lift_calls (A := hollowayref1_Op_an) (c := bodyOf Tryz.f70) (args := [.int .i64 op1]) orc orc_wide Tryz.func70 (by kernel_rfl) (by kernel_rfl) (Eq.mp (by kernel_rfl : hollowayref1_Op_sh op1 w K = wpc orc Tryz.f70.ntmps hollowayref1_Op_an (bodyOf Tryz.f70) (argl 0 [.int .i64 op1]) w (retQ orc Tryz.f70.results.toList K)) h)

def hollowayref1_Arg_sh (op1 : Int) (w : World) (K : Value → World → Prop) : Prop :=
 brB (op1 == (2 : Int))
 (K (.bool true) w)
 (brB (op1 == (3 : Int))
 (K (.bool true) w)
 (brB (op1 == (4 : Int))
 (K (.bool true) w)
 (brB (op1 == (37 : Int))
 (K (.bool true) w)
 (K (.bool (op1 == (38 : Int))) w))))
def hollowayref1_Arg_an : An := ⟨[], [], []⟩
theorem hollowayref1_Arg_lift {op1 : Int} {w : World} {K : Value → World → Prop} (h : hollowayref1_Arg_sh op1 w K) : Calls Tryz.prog fn_hollowayref1_Arg #[.int .i64 op1] w fun e w' => ∃ v, e = .returned v ∧ K v w' :=
   lift_calls (A := hollowayref1_Arg_an) (c := bodyOf Tryz.f71) (args := [.int .i64 op1]) orc orc_wide Tryz.func71 (by kernel_rfl) (by kernel_rfl) (Eq.mp (by kernel_rfl : hollowayref1_Arg_sh op1 w K = wpc orc Tryz.f71.ntmps hollowayref1_Arg_an (bodyOf Tryz.f71) (argl 0 [.int .i64 op1]) w (retQ orc Tryz.f71.results.toList K)) h)

def hollowayref1_Moves_sh (op1 : Int) (w : World) (K : Value → World → Prop) : Prop :=
 Calls Tryz.prog fn_hollowayref1_IsTwo #[.int .i64 op1] w fun e2 w3 => ∃ b4 : Bool, e2 = .returned (.bool b4) ∧
 brB b4
 (K (.tuple #[.int .i64 (2 : Int), .int .i64 (0 : Int), .int .i64 (1 : Int), .int .i64 (0 : Int)]) w3)
 (Calls Tryz.prog fn_hollowayref1_IsOne #[.int .i64 op1] w3 fun e5 w6 => ∃ b7 : Bool, e5 = .returned (.bool b7) ∧
 brB b7
 (K (.tuple #[.int .i64 (1 : Int), .int .i64 (0 : Int), .int .i64 (1 : Int), .int .i64 (0 : Int)]) w6)
 (brB (op1 == (5 : Int))
 (K (.tuple #[.int .i64 (0 : Int), .int .i64 (1 : Int), .int .i64 (0 : Int), .int .i64 (0 : Int)]) w6)
 (∃ J12 : Bool → World → Prop, (∀ (b9 : Bool) (w8 : World), J12 b9 w8 →
 brB b9
 (K (.tuple #[.int .i64 (0 : Int), .int .i64 (0 : Int), .int .i64 (1 : Int), .int .i64 (0 : Int)]) w8)
 (∃ J15 : Bool → World → Prop, (∀ (b11 : Bool) (w10 : World), J15 b11 w10 →
 brB b11
 (K (.tuple #[.int .i64 (1 : Int), .int .i64 (0 : Int), .int .i64 (0 : Int), .int .i64 (0 : Int)]) w10)
 (brB (op1 == (6 : Int))
 (K (.tuple #[.int .i64 (1 : Int), .int .i64 (0 : Int), .int .i64 (2 : Int), .int .i64 (0 : Int)]) w10)
 (brB (op1 == (8 : Int))
 (K (.tuple #[.int .i64 (2 : Int), .int .i64 (0 : Int), .int .i64 (2 : Int), .int .i64 (0 : Int)]) w10)
 (brB (op1 == (9 : Int))
 (K (.tuple #[.int .i64 (2 : Int), .int .i64 (0 : Int), .int .i64 (3 : Int), .int .i64 (0 : Int)]) w10)
 (brB (op1 == (10 : Int))
 (K (.tuple #[.int .i64 (3 : Int), .int .i64 (0 : Int), .int .i64 (3 : Int), .int .i64 (0 : Int)]) w10)
 (brB (op1 == (30 : Int))
 (K (.tuple #[.int .i64 (1 : Int), .int .i64 (0 : Int), .int .i64 (1 : Int), .int .i64 (0 : Int)]) w10)
 (∃ J31 : Bool → World → Prop, (∀ (b13 : Bool) (w12 : World), J31 b13 w12 →
 brB b13
 (K (.tuple #[.int .i64 (2 : Int), .int .i64 (0 : Int), .int .i64 (0 : Int), .int .i64 (0 : Int)]) w12)
 (∃ J34 : Bool → World → Prop, (∀ (b15 : Bool) (w14 : World), J34 b15 w14 →
 brB b15
 (K (.tuple #[.int .i64 (1 : Int), .int .i64 (0 : Int), .int .i64 (0 : Int), .int .i64 (1 : Int)]) w14)
 (brB (op1 == (34 : Int))
 (K (.tuple #[.int .i64 (0 : Int), .int .i64 (1 : Int), .int .i64 (1 : Int), .int .i64 (0 : Int)]) w14)
 (brB (op1 == (35 : Int))
 (K (.tuple #[.int .i64 (0 : Int), .int .i64 (1 : Int), .int .i64 (1 : Int), .int .i64 (1 : Int)]) w14)
 (brB (op1 == (36 : Int))
 (K (.tuple #[.int .i64 (2 : Int), .int .i64 (0 : Int), .int .i64 (0 : Int), .int .i64 (2 : Int)]) w14)
 (brB (op1 == (37 : Int))
 (K (.tuple #[.int .i64 (0 : Int), .int .i64 (2 : Int), .int .i64 (0 : Int), .int .i64 (2 : Int)]) w14)
 (brB (op1 == (38 : Int))
 (K (.tuple #[.int .i64 (1 : Int), .int .i64 (2 : Int), .int .i64 (0 : Int), .int .i64 (2 : Int)]) w14)
 (brB (op1 == (39 : Int))
 (K (.tuple #[.int .i64 (0 : Int), .int .i64 (3 : Int), .int .i64 (1 : Int), .int .i64 (3 : Int)]) w14)
 (brB (op1 == (40 : Int))
 (K (.tuple #[.int .i64 (0 : Int), .int .i64 (2 : Int), .int .i64 (0 : Int), .int .i64 (0 : Int)]) w14)
 (brB (op1 == (46 : Int))
 (K (.tuple #[.int .i64 (1 : Int), .int .i64 (0 : Int), .int .i64 (0 : Int), .int .i64 (4 : Int)]) w14)
 (K (.tuple #[.int .i64 (0 : Int), .int .i64 (0 : Int), .int .i64 (0 : Int), .int .i64 (0 : Int)]) w14)))))))))) ∧
 brB (op1 == (33 : Int))
 (J34 (op1 == (33 : Int)) w12)
 (J34 (op1 == (44 : Int)) w12))) ∧
 brB (op1 == (31 : Int))
 (J31 (op1 == (31 : Int)) w10)
 (J31 (op1 == (32 : Int)) w10)))))))) ∧
 brB (op1 == (4 : Int))
 (J15 (op1 == (4 : Int)) w8)
 (brB (op1 == (7 : Int))
 (J15 (op1 == (7 : Int)) w8)
 (brB (op1 == (41 : Int))
 (J15 (op1 == (41 : Int)) w8)
 (brB (op1 == (42 : Int))
 (J15 (op1 == (42 : Int)) w8)
 (J15 (op1 == (45 : Int)) w8)))))) ∧
 brB (op1 == (2 : Int))
 (J12 (op1 == (2 : Int)) w6)
 (J12 (op1 == (43 : Int)) w6))))
def hollowayref1_Moves_an : An := ⟨[], [], [(32, [(35, .bool)]), (29, [(32, .bool)]), (16, [(16, .bool)]), (10, [(13, .bool)])]⟩
theorem hollowayref1_Moves_lift {op1 : Int} {w : World} {K : Value → World → Prop} (h : hollowayref1_Moves_sh op1 w K) : Calls Tryz.prog fn_hollowayref1_Moves #[.int .i64 op1] w fun e w' => ∃ v, e = .returned v ∧ K v w' :=
   lift_calls (A := hollowayref1_Moves_an) (c := bodyOf Tryz.f72) (args := [.int .i64 op1]) orc orc_wide Tryz.func72 (by kernel_rfl) (by kernel_rfl) (Eq.mp (by kernel_rfl : hollowayref1_Moves_sh op1 w K = wpc orc Tryz.f72.ntmps hollowayref1_Moves_an (bodyOf Tryz.f72) (argl 0 [.int .i64 op1]) w (retQ orc Tryz.f72.results.toList K)) h)

def hollowayref1_IsTwo_sh (op1 : Int) (w : World) (K : Value → World → Prop) : Prop :=
 brB (decide (op1 ≥ (11 : Int)))
 (brB (decide (op1 ≤ (15 : Int)))
 (K (.bool true) w)
 (brB (decide (op1 ≥ (17 : Int)))
 (brB (decide (op1 ≤ (19 : Int)))
 (K (.bool true) w)
 (brB (decide (op1 ≥ (21 : Int)))
 (brB (decide (op1 ≤ (25 : Int)))
 (K (.bool true) w)
 (brB (op1 == (28 : Int))
 (K (.bool true) w)
 (K (.bool (op1 == (29 : Int))) w)))
 (brB (op1 == (28 : Int))
 (K (.bool true) w)
 (K (.bool (op1 == (29 : Int))) w))))
 (brB (decide (op1 ≥ (21 : Int)))
 (brB (decide (op1 ≤ (25 : Int)))
 (K (.bool true) w)
 (brB (op1 == (28 : Int))
 (K (.bool true) w)
 (K (.bool (op1 == (29 : Int))) w)))
 (brB (op1 == (28 : Int))
 (K (.bool true) w)
 (K (.bool (op1 == (29 : Int))) w)))))
 (brB (decide (op1 ≥ (17 : Int)))
 (brB (decide (op1 ≤ (19 : Int)))
 (K (.bool true) w)
 (brB (decide (op1 ≥ (21 : Int)))
 (brB (decide (op1 ≤ (25 : Int)))
 (K (.bool true) w)
 (brB (op1 == (28 : Int))
 (K (.bool true) w)
 (K (.bool (op1 == (29 : Int))) w)))
 (brB (op1 == (28 : Int))
 (K (.bool true) w)
 (K (.bool (op1 == (29 : Int))) w))))
 (brB (decide (op1 ≥ (21 : Int)))
 (brB (decide (op1 ≤ (25 : Int)))
 (K (.bool true) w)
 (brB (op1 == (28 : Int))
 (K (.bool true) w)
 (K (.bool (op1 == (29 : Int))) w)))
 (brB (op1 == (28 : Int))
 (K (.bool true) w)
 (K (.bool (op1 == (29 : Int))) w))))
def hollowayref1_IsTwo_an : An := ⟨[], [], []⟩
theorem hollowayref1_IsTwo_lift {op1 : Int} {w : World} {K : Value → World → Prop} (h : hollowayref1_IsTwo_sh op1 w K) : Calls Tryz.prog fn_hollowayref1_IsTwo #[.int .i64 op1] w fun e w' => ∃ v, e = .returned v ∧ K v w' :=
   lift_calls (A := hollowayref1_IsTwo_an) (c := bodyOf Tryz.f73) (args := [.int .i64 op1]) orc orc_wide Tryz.func73 (by kernel_rfl) (by kernel_rfl) (Eq.mp (by kernel_rfl : hollowayref1_IsTwo_sh op1 w K = wpc orc Tryz.f73.ntmps hollowayref1_IsTwo_an (bodyOf Tryz.f73) (argl 0 [.int .i64 op1]) w (retQ orc Tryz.f73.results.toList K)) h)

def hollowayref1_Two_sh (op1 : Int) (a_2 : Int) (b_3 : Int) (w : World) (K : Value → World → Prop) : Prop :=
 Calls Tryz.prog fn_hollowayref1_IsTwo #[.int .i64 op1] w fun e4 w5 => ∃ b6 : Bool, e4 = .returned (.bool b6) ∧
 brB (!b6)
 (K (.tuple #[.int .i64 (0 : Int), .bool false]) w5)
 (brB (op1 == (11 : Int))
 (K (.tuple #[.int .i64 (wr (a_2 + b_3)), .bool true]) w5)
 (brB (op1 == (12 : Int))
 (K (.tuple #[.int .i64 (wr (a_2 - b_3)), .bool true]) w5)
 (brB (op1 == (13 : Int))
 (K (.tuple #[.int .i64 (wr (a_2 * b_3)), .bool true]) w5)
 (∃ J13 : Bool → World → Prop, (∀ (b8 : Bool) (w7 : World), J13 b8 w7 →
 brB b8
 (brB (b_3 == (0 : Int))
 (K (.tuple #[.int .i64 (0 : Int), .bool false]) w7)
 (Calls Tryz.prog fn_hollowayref1_Floor #[.int .i64 a_2, .int .i64 b_3] w7 fun e9 w10 => ∃ n11 n12 : Int, e9 = .returned (.tuple #[.int .i64 n11, .int .i64 n12]) ∧
 brB (op1 == (14 : Int))
 (K (.tuple #[.int .i64 n11, .bool true]) w10)
 (K (.tuple #[.int .i64 n12, .bool true]) w10)))
 (brB (op1 == (17 : Int))
 (K (.tuple #[.int .i64 (iand .i64 a_2 b_3), .bool true]) w7)
 (brB (op1 == (18 : Int))
 (K (.tuple #[.int .i64 (ior .i64 a_2 b_3), .bool true]) w7)
 (brB (op1 == (19 : Int))
 (K (.tuple #[.int .i64 (ixor .i64 a_2 b_3), .bool true]) w7)
 (∃ J29 : Bool → World → Prop, (∀ (b14 : Bool) (w13 : World), J29 b14 w13 →
 brB b14
 (∃ J32 : Bool → World → Prop, (∀ (b16 : Bool) (w15 : World), J32 b16 w15 →
 brB b16
 (K (.tuple #[.int .i64 (0 : Int), .bool true]) w15)
 (∃ (I1 : Int → Int → World → Prop) (μ1 : Int → Int → World → Nat), I1 (IntKind.wrap .u64 a_2) (0 : Int) w15 ∧ ∀ (x19 : Int) (k18 : Int) (w17 : World), I1 x19 k18 w17 →
 brB (decide (k18 < b_3))
 (∃ J39 : Int → World → Prop, (∀ (x30 : Int) (w20 : World), J39 x30 w20 →
 I1 x30 (wr (k18 + (1 : Int))) w20 ∧ μ1 x30 (wr (k18 + (1 : Int))) w20 < μ1 x19 k18 w17) ∧
 brB (op1 == (21 : Int))
 (J39 (IntKind.wrap .u64 (x19 * (2 : Int))) w17)
 ((2 : Int) ≠ 0 ∧ J39 (IntKind.wrap .u64 (Int.tdiv x19 (2 : Int))) w17))
 (K (.tuple #[.int .i64 (wr x19), .bool true]) w17))) ∧
 brB (decide (b_3 < (0 : Int)))
 (J32 true w13)
 (J32 (decide (b_3 > (63 : Int))) w13))
 (brB (op1 == (23 : Int))
 (Calls Tryz.prog fn_hollowayref1_Flag #[.bool (a_2 == b_3)] w13 fun e21 w22 => ∃ n23 : Int, e21 = .returned (.int .i64 n23) ∧
 K (.tuple #[.int .i64 n23, .bool true]) w22)
 (brB (op1 == (24 : Int))
 (Calls Tryz.prog fn_hollowayref1_Flag #[.bool (decide (a_2 < b_3))] w13 fun e24 w25 => ∃ n26 : Int, e24 = .returned (.int .i64 n26) ∧
 K (.tuple #[.int .i64 n26, .bool true]) w25)
 (brB (op1 == (25 : Int))
 (Calls Tryz.prog fn_hollowayref1_Flag #[.bool (decide ((IntKind.wrap .u64 a_2) < (IntKind.wrap .u64 b_3)))] w13 fun e27 w28 => ∃ n29 : Int, e27 = .returned (.int .i64 n29) ∧
 K (.tuple #[.int .i64 n29, .bool true]) w28)
 (brB (op1 == (28 : Int))
 (K (.tuple #[.int .i64 (imin a_2 b_3), .bool true]) w13)
 (K (.tuple #[.int .i64 (imax a_2 b_3), .bool true]) w13)))))) ∧
 brB (op1 == (21 : Int))
 (J29 (op1 == (21 : Int)) w7)
 (J29 (op1 == (22 : Int)) w7)))))) ∧
 brB (op1 == (14 : Int))
 (J13 (op1 == (14 : Int)) w5)
 (J13 (op1 == (15 : Int)) w5)))))
def hollowayref1_Two_an : An := ⟨[(30, [(10, .int .u64), (11, .int .i64)])], [], [(27, [(69, .bool)]), (31, [(10, .int .u64)]), (26, [(61, .bool)]), (12, [(31, .bool)])]⟩
theorem hollowayref1_Two_lift {op1 : Int} {a_2 : Int} {b_3 : Int} {w : World} {K : Value → World → Prop} (h : hollowayref1_Two_sh op1 a_2 b_3 w K) : Calls Tryz.prog fn_hollowayref1_Two #[.int .i64 op1, .int .i64 a_2, .int .i64 b_3] w fun e w' => ∃ v, e = .returned v ∧ K v w' :=
   lift_calls (A := hollowayref1_Two_an) (c := bodyOf Tryz.f74) (args := [.int .i64 op1, .int .i64 a_2, .int .i64 b_3]) orc orc_wide Tryz.func74 (by kernel_rfl) (by kernel_rfl) (Eq.mp (by kernel_rfl : hollowayref1_Two_sh op1 a_2 b_3 w K = wpc orc Tryz.f74.ntmps hollowayref1_Two_an (bodyOf Tryz.f74) (argl 0 [.int .i64 op1, .int .i64 a_2, .int .i64 b_3]) w (retQ orc Tryz.f74.results.toList K)) h)

def hollowayref1_IsOne_sh (op1 : Int) (w : World) (K : Value → World → Prop) : Prop :=
 brB (op1 == (16 : Int))
 (K (.bool true) w)
 (brB (op1 == (20 : Int))
 (K (.bool true) w)
 (brB (op1 == (26 : Int))
 (K (.bool true) w)
 (K (.bool (op1 == (27 : Int))) w)))
def hollowayref1_IsOne_an : An := ⟨[], [], []⟩
theorem hollowayref1_IsOne_lift {op1 : Int} {w : World} {K : Value → World → Prop} (h : hollowayref1_IsOne_sh op1 w K) : Calls Tryz.prog fn_hollowayref1_IsOne #[.int .i64 op1] w fun e w' => ∃ v, e = .returned v ∧ K v w' :=
   lift_calls (A := hollowayref1_IsOne_an) (c := bodyOf Tryz.f75) (args := [.int .i64 op1]) orc orc_wide Tryz.func75 (by kernel_rfl) (by kernel_rfl) (Eq.mp (by kernel_rfl : hollowayref1_IsOne_sh op1 w K = wpc orc Tryz.f75.ntmps hollowayref1_IsOne_an (bodyOf Tryz.f75) (argl 0 [.int .i64 op1]) w (retQ orc Tryz.f75.results.toList K)) h)

def hollowayref1_One_sh (op1 : Int) (a_2 : Int) (w : World) (K : Value → World → Prop) : Prop :=
 brB (op1 == (16 : Int))
 (K (.tuple #[.int .i64 (wr (0 - a_2)), .bool true]) w)
 (brB (op1 == (20 : Int))
 (K (.tuple #[.int .i64 (wr ((-1 : Int) - a_2)), .bool true]) w)
 (brB (op1 == (26 : Int))
 (Calls Tryz.prog fn_hollowayref1_Flag #[.bool (a_2 == (0 : Int))] w fun e3 w4 => ∃ n5 : Int, e3 = .returned (.int .i64 n5) ∧
 K (.tuple #[.int .i64 n5, .bool true]) w4)
 (brB (op1 == (27 : Int))
 (Calls Tryz.prog fn_hollowayref1_Flag #[.bool (decide (a_2 < (0 : Int)))] w fun e6 w7 => ∃ n8 : Int, e6 = .returned (.int .i64 n8) ∧
 K (.tuple #[.int .i64 n8, .bool true]) w7)
 (K (.tuple #[.int .i64 (0 : Int), .bool false]) w))))
def hollowayref1_One_an : An := ⟨[], [], []⟩
theorem hollowayref1_One_lift {op1 : Int} {a_2 : Int} {w : World} {K : Value → World → Prop} (h : hollowayref1_One_sh op1 a_2 w K) : Calls Tryz.prog fn_hollowayref1_One #[.int .i64 op1, .int .i64 a_2] w fun e w' => ∃ v, e = .returned v ∧ K v w' :=
   lift_calls (A := hollowayref1_One_an) (c := bodyOf Tryz.f76) (args := [.int .i64 op1, .int .i64 a_2]) orc orc_wide Tryz.func76 (by kernel_rfl) (by kernel_rfl) (Eq.mp (by kernel_rfl : hollowayref1_One_sh op1 a_2 w K = wpc orc Tryz.f76.ntmps hollowayref1_One_an (bodyOf Tryz.f76) (argl 0 [.int .i64 op1, .int .i64 a_2]) w (retQ orc Tryz.f76.results.toList K)) h)

def hollowayref1_Crosses_sh (x_1 : Int) (n_2 : Int) (w : World) (K : Value → World → Prop) : Prop :=
 K (.bool (decide ((iand .i64 (ixor .i64 x_1 (wr (x_1 + n_2))) (ixor .i64 x_1 n_2)) < (0 : Int)))) w
def hollowayref1_Crosses_an : An := ⟨[], [], []⟩
theorem hollowayref1_Crosses_lift {x_1 : Int} {n_2 : Int} {w : World} {K : Value → World → Prop} (h : hollowayref1_Crosses_sh x_1 n_2 w K) : Calls Tryz.prog fn_hollowayref1_Crosses #[.int .i64 x_1, .int .i64 n_2] w fun e w' => ∃ v, e = .returned v ∧ K v w' :=
   lift_calls (A := hollowayref1_Crosses_an) (c := bodyOf Tryz.f77) (args := [.int .i64 x_1, .int .i64 n_2]) orc orc_wide Tryz.func77 (by kernel_rfl) (by kernel_rfl) (Eq.mp (by kernel_rfl : hollowayref1_Crosses_sh x_1 n_2 w K = wpc orc Tryz.f77.ntmps hollowayref1_Crosses_an (bodyOf Tryz.f77) (argl 0 [.int .i64 x_1, .int .i64 n_2]) w (retQ orc Tryz.f77.results.toList K)) h)

def hollowayref1_Put_j1 (base2 : Int) (u7 : Int) (s8 : ByteArray) (I1 : Int → ByteArray → World → Prop) (μ1 : Int → ByteArray → World → Nat) (w6 : World) (v_1 : Int) (b12 : Bool) (w11 : World) (K : Value → World → Prop) : Prop :=
 brB b12
 ((IntKind.wrap .u64 base2) ≠ 0 ∧ 0 ≤ (wr (Int.tmod u7 (IntKind.wrap .u64 base2))) ∧ (wr (Int.tmod u7 (IntKind.wrap .u64 base2))) ≤ (wr ((wr (Int.tmod u7 (IntKind.wrap .u64 base2))) + (1 : Int))) ∧ (wr ((wr (Int.tmod u7 (IntKind.wrap .u64 base2))) + (1 : Int))) ≤ ((bs [48, 49, 50, 51, 52, 53, 54, 55, 56, 57, 65, 66, 67, 68, 69, 70, 71, 72, 73, 74, 75, 76, 77, 78, 79, 80, 81, 82, 83, 84, 85, 86, 87, 88, 89, 90]).size : Int) ∧ 
 (((ByteArray.extract (bs [48, 49, 50, 51, 52, 53, 54, 55, 56, 57, 65, 66, 67, 68, 69, 70, 71, 72, 73, 74, 75, 76, 77, 78, 79, 80, 81, 82, 83, 84, 85, 86, 87, 88, 89, 90]) (Int.toNat (wr (Int.tmod u7 (IntKind.wrap .u64 base2)))) (Int.toNat (wr ((wr (Int.tmod u7 (IntKind.wrap .u64 base2))) + (1 : Int)))))).size : Int) + ((s8).size : Int) ≤ 9223372036854775807 ∧ (IntKind.wrap .u64 base2) ≠ 0 ∧ I1 (IntKind.wrap .u64 (Int.tdiv u7 (IntKind.wrap .u64 base2))) ((ByteArray.extract (bs [48, 49, 50, 51, 52, 53, 54, 55, 56, 57, 65, 66, 67, 68, 69, 70, 71, 72, 73, 74, 75, 76, 77, 78, 79, 80, 81, 82, 83, 84, 85, 86, 87, 88, 89, 90]) (Int.toNat (wr (Int.tmod u7 (IntKind.wrap .u64 base2)))) (Int.toNat (wr ((wr (Int.tmod u7 (IntKind.wrap .u64 base2))) + (1 : Int))))) ++ s8) w11 ∧ μ1 (IntKind.wrap .u64 (Int.tdiv u7 (IntKind.wrap .u64 base2))) ((ByteArray.extract (bs [48, 49, 50, 51, 52, 53, 54, 55, 56, 57, 65, 66, 67, 68, 69, 70, 71, 72, 73, 74, 75, 76, 77, 78, 79, 80, 81, 82, 83, 84, 85, 86, 87, 88, 89, 90]) (Int.toNat (wr (Int.tmod u7 (IntKind.wrap .u64 base2)))) (Int.toNat (wr ((wr (Int.tmod u7 (IntKind.wrap .u64 base2))) + (1 : Int))))) ++ s8) w11 < μ1 u7 s8 w6)
 (brB (decide (v_1 < (0 : Int)))
 ((((bs [45])).size : Int) + ((s8).size : Int) ≤ 9223372036854775807 ∧ K (.string ((bs [45]) ++ s8)) w11)
 (K (.string s8) w11))
def hollowayref1_Put_sh (v_1 : Int) (base2 : Int) (w : World) (K : Value → World → Prop) : Prop :=
 ∃ J3 : Bool → World → Prop, (∀ (b4 : Bool) (w3 : World), J3 b4 w3 →
 brB b4
 (K (.string (bs [])) w3)
 (∃ J6 : Int → World → Prop, (∀ (u13 : Int) (w5 : World), J6 u13 w5 →
 ∃ (I1 : Int → ByteArray → World → Prop) (μ1 : Int → ByteArray → World → Nat), I1 u13 (bs []) w5 ∧ ∀ (u7 : Int) (s8 : ByteArray) (w6 : World), I1 u7 s8 w6 →
 brB (decide (u7 > (0 : Int)))
 (hollowayref1_Put_j1 base2 u7 s8 I1 (μ1) w6 v_1 true w6 K)
 (hollowayref1_Put_j1 base2 u7 s8 I1 (μ1) w6 v_1 (s8.toList == (bs []).toList) w6 K)) ∧
 brB (decide (v_1 < (0 : Int)))
 (J6 (IntKind.wrap .u64 (0 - (IntKind.wrap .u64 v_1))) w3)
 (J6 (IntKind.wrap .u64 v_1) w3))) ∧
 brB (decide (base2 < (2 : Int)))
 (J3 true w)
 (J3 (decide (base2 > (36 : Int))) w)
def hollowayref1_Put_an : An := ⟨[(7, [(5, .int .u64), (6, .str)])], [], [(2, [(13, .bool)]), (6, [(5, .int .u64)])]⟩
theorem hollowayref1_Put_lift {v_1 : Int} {base2 : Int} {w : World} {K : Value → World → Prop} (h : hollowayref1_Put_sh v_1 base2 w K) : Calls Tryz.prog fn_hollowayref1_Put #[.int .i64 v_1, .int .i64 base2] w fun e w' => ∃ v, e = .returned v ∧ K v w' :=
   lift_calls (A := hollowayref1_Put_an) (c := bodyOf Tryz.f78) (args := [.int .i64 v_1, .int .i64 base2]) orc orc_wide Tryz.func78 (by kernel_rfl) (by kernel_rfl) (Eq.mp (by kernel_rfl : hollowayref1_Put_sh v_1 base2 w K = wpc orc Tryz.f78.ntmps hollowayref1_Put_an (bodyOf Tryz.f78) (argl 0 [.int .i64 v_1, .int .i64 base2]) w (retQ orc Tryz.f78.results.toList K)) h)

def hollowayref1_Plain_sh (op1 : Int) (w : World) (K : Value → World → Prop) : Prop :=
 Calls Tryz.prog fn_hollowayref1_Op #[.int .i64 op1] w fun e2 w3 => ∃ b4 : Bool, e2 = .returned (.bool b4) ∧
 brB b4
 (brB (op1 != (0 : Int))
 (brB (op1 != (1 : Int))
 (brB (op1 != (45 : Int))
 (K (.bool (op1 != (46 : Int))) w3)
 (K (.bool false) w3))
 (K (.bool false) w3))
 (K (.bool false) w3))
 (K (.bool false) w3)
def hollowayref1_Plain_an : An := ⟨[], [], []⟩
theorem hollowayref1_Plain_lift {op1 : Int} {w : World} {K : Value → World → Prop} (h : hollowayref1_Plain_sh op1 w K) : Calls Tryz.prog fn_hollowayref1_Plain #[.int .i64 op1] w fun e w' => ∃ v, e = .returned v ∧ K v w' :=
   lift_calls (A := hollowayref1_Plain_an) (c := bodyOf Tryz.f85) (args := [.int .i64 op1]) orc orc_wide Tryz.func85 (by kernel_rfl) (by kernel_rfl) (Eq.mp (by kernel_rfl : hollowayref1_Plain_sh op1 w K = wpc orc Tryz.f85.ntmps hollowayref1_Plain_an (bodyOf Tryz.f85) (argl 0 [.int .i64 op1]) w (retQ orc Tryz.f85.results.toList K)) h)

def hollowayref1_Floor_sh (a_1 : Int) (b_2 : Int) (w : World) (K : Value → World → Prop) : Prop :=
 b_2 ≠ 0 ∧ ∃ J5 : Bool → World → Prop, (∀ (b4 : Bool) (w3 : World), J5 b4 w3 →
 brB b4
 (K (.tuple #[.int .i64 (wr ((wr (Int.tdiv a_1 b_2)) - (1 : Int))), .int .i64 (wr ((wr (a_1 - (wr ((wr (Int.tdiv a_1 b_2)) * b_2)))) + b_2))]) w3)
 (K (.tuple #[.int .i64 (wr (Int.tdiv a_1 b_2)), .int .i64 (wr (a_1 - (wr ((wr (Int.tdiv a_1 b_2)) * b_2))))]) w3)) ∧
 brB ((wr (a_1 - (wr ((wr (Int.tdiv a_1 b_2)) * b_2)))) != (0 : Int))
 (J5 (!((decide ((wr (a_1 - (wr ((wr (Int.tdiv a_1 b_2)) * b_2)))) < (0 : Int))) == (decide (b_2 < (0 : Int))))) w)
 (J5 false w)
def hollowayref1_Floor_an : An := ⟨[], [], [(4, [(24, .bool)])]⟩
theorem hollowayref1_Floor_lift {a_1 : Int} {b_2 : Int} {w : World} {K : Value → World → Prop} (h : hollowayref1_Floor_sh a_1 b_2 w K) : Calls Tryz.prog fn_hollowayref1_Floor #[.int .i64 a_1, .int .i64 b_2] w fun e w' => ∃ v, e = .returned v ∧ K v w' :=
   lift_calls (A := hollowayref1_Floor_an) (c := bodyOf Tryz.f100) (args := [.int .i64 a_1, .int .i64 b_2]) orc orc_wide Tryz.func100 (by kernel_rfl) (by kernel_rfl) (Eq.mp (by kernel_rfl : hollowayref1_Floor_sh a_1 b_2 w K = wpc orc Tryz.f100.ntmps hollowayref1_Floor_an (bodyOf Tryz.f100) (argl 0 [.int .i64 a_1, .int .i64 b_2]) w (retQ orc Tryz.f100.results.toList K)) h)

def hollowayref1_Flag_sh (is1 : Bool) (w : World) (K : Value → World → Prop) : Prop :=
 brB is1
 (K (.int .i64 (-1 : Int)) w)
 (K (.int .i64 (0 : Int)) w)
def hollowayref1_Flag_an : An := ⟨[], [], []⟩
theorem hollowayref1_Flag_lift {is1 : Bool} {w : World} {K : Value → World → Prop} (h : hollowayref1_Flag_sh is1 w K) : Calls Tryz.prog fn_hollowayref1_Flag #[.bool is1] w fun e w' => ∃ v, e = .returned v ∧ K v w' :=
   lift_calls (A := hollowayref1_Flag_an) (c := bodyOf Tryz.f101) (args := [.bool is1]) orc orc_wide Tryz.func101 (by kernel_rfl) (by kernel_rfl) (Eq.mp (by kernel_rfl : hollowayref1_Flag_sh is1 w K = wpc orc Tryz.f101.ntmps hollowayref1_Flag_an (bodyOf Tryz.f101) (argl 0 [.bool is1]) w (retQ orc Tryz.f101.results.toList K)) h)

end Go.Proofs.YtkjpmkopnkkbmaaGreatDoor
