/- The lifted texts of small packages. -/
import Derived.Test.YtkjpmkopnkkbmaaGreatDoorProg
import Derived.Test.YtkjpmkopnkkbmaaGreatDoorJ1
import Derived.Test.YtkjpmkopnkkbmaaGreatDoorJ2

/- What the lift is told of the program: types and functions, each fact proved. Printed by a program of mine (wip/lift/gen.py). -/
set_option maxRecDepth 100000
namespace Go.Proofs.YtkjpmkopnkkbmaaGreatDoor
open Go.RowKit

@[reducible] def T_int : TypeId := 3
@[reducible] def T_uint8 : TypeId := 5
@[reducible] def T_string : TypeId := 9
@[reducible] def T_sl_int : TypeId := 22
@[reducible] def T_api_State : TypeId := 24
@[reducible] def T_sl_api_Seen : TypeId := 45
@[reducible] def T_api_Recording : TypeId := 47
@[reducible] def T_api_Seen : TypeId := 52
@[reducible] def T_sl_uint8 : TypeId := 82
@[reducible] def T_inner_machine : TypeId := 86
@[reducible] def T_error : TypeId := 118
@[reducible] def T_fault_fault : TypeId := 133
@[reducible] def T_p_fault_seen : TypeId := 150
@[reducible] def T_fault_seen : TypeId := 152
@[reducible] def T_op_row : TypeId := 154
@[reducible] def T_p_fault_fault : TypeId := 156
@[reducible] def T_p_p_fault_fault : TypeId := 158
@[reducible] def T_48_op_row : TypeId := 165
@[reducible] def fn_hollowaylaw13_RecordStays : FuncId := 5
@[reducible] def fn_hollowayref9_Boot : FuncId := 12
@[reducible] def fn_hollowayref9_Right : FuncId := 14
@[reducible] def fn_inner_Copy : FuncId := 15
@[reducible] def fn_hollowayref9_Enter : FuncId := 19
@[reducible] def fn_hollowayref9_Fault : FuncId := 20
@[reducible] def fn_hollowaylaw9_Light : FuncId := 23
@[reducible] def fn_inner_Step : FuncId := 24
@[reducible] def fn_hollowayref9_Step : FuncId := 25
@[reducible] def fn_inner_Run : FuncId := 26
@[reducible] def fn_hollowayref9_Run : FuncId := 27
@[reducible] def fn_hollowaylaw13_alive : FuncId := 28
@[reducible] def fn_record_Loop : FuncId := 29
@[reducible] def fn_hollowayref9_Copy : FuncId := 31
@[reducible] def fn_record_Right : FuncId := 36
@[reducible] def fn_slices_Clone_sl_int_int : FuncId := 42
@[reducible] def fn_inner_faulty : FuncId := 44
@[reducible] def fn_hollowayref1_Op : FuncId := 70
@[reducible] def fn_hollowayref1_Arg : FuncId := 71
@[reducible] def fn_hollowayref1_Moves : FuncId := 72
@[reducible] def fn_hollowayref1_IsTwo : FuncId := 73
@[reducible] def fn_hollowayref1_Two : FuncId := 74
@[reducible] def fn_hollowayref1_IsOne : FuncId := 75
@[reducible] def fn_hollowayref1_One : FuncId := 76
@[reducible] def fn_hollowayref1_Crosses : FuncId := 77
@[reducible] def fn_hollowayref1_Put : FuncId := 78
@[reducible] def fn_inner_machine_advance : FuncId := 79
@[reducible] def fn_record_next : FuncId := 80
@[reducible] def fn_record_arg : FuncId := 81
@[reducible] def fn_record_single : FuncId := 87
@[reducible] def fn_inner_caught : FuncId := 89
@[reducible] def fn_hollowayref1_Floor : FuncId := 100
@[reducible] def fn_hollowayref1_Flag : FuncId := 101
@[reducible] def fn_inner_machine_step : FuncId := 102
@[reducible] def fn_fault_Code : FuncId := 103
@[reducible] def fn_record_load : FuncId := 104
@[reducible] def fn_record_plain : FuncId := 105
@[reducible] def fn_record_place : FuncId := 106
@[reducible] def fn_op_Arg : FuncId := 107
@[reducible] def fn_inner_machine_load : FuncId := 111
@[reducible] def fn_inner_machine_call : FuncId := 112
@[reducible] def fn_op_Right : FuncId := 113
@[reducible] def fn_inner_machine_fails : FuncId := 114
@[reducible] def fn_inner_room : FuncId := 115
@[reducible] def fn_inner_machine_do : FuncId := 116
@[reducible] def fn_fault_Wrap : FuncId := 117
@[reducible] def fn_op_Name : FuncId := 118
@[reducible] def fn_fault_inner : FuncId := 119
@[reducible] def fn_op_Plain : FuncId := 120
@[reducible] def fn_inner_machine_back : FuncId := 132
@[reducible] def fn_fault_New : FuncId := 133
@[reducible] def fn_op_Takes : FuncId := 134
@[reducible] def fn_op_Gives : FuncId := 135
@[reducible] def fn_inner_machine_push : FuncId := 136
@[reducible] def fn_inner_machine_pop : FuncId := 137
@[reducible] def fn_inner_machine_popBack : FuncId := 138
@[reducible] def fn_inner_machine_shuffle : FuncId := 139
@[reducible] def fn_inner_machine_memory : FuncId := 140
@[reducible] def fn_inner_machine_backs : FuncId := 141
@[reducible] def fn_inner_machine_loop : FuncId := 142
@[reducible] def fn_inner_machine_say : FuncId := 143
@[reducible] def fn_inner_machine_key : FuncId := 144
@[reducible] def fn_inner_machine_flow : FuncId := 145
@[reducible] def fn_inner_machine_reckon : FuncId := 146
@[reducible] def fn_op_of : FuncId := 147
@[reducible] def fn_errors_As : FuncId := 148
@[reducible] def fn_inner_machine_swapped : FuncId := 155
@[reducible] def fn_cell_Crosses : FuncId := 156
@[reducible] def fn_digits_Put : FuncId := 157
@[reducible] def fn_inner_machine_endCatch : FuncId := 158
@[reducible] def fn_cell_One : FuncId := 159
@[reducible] def fn_cell_Two : FuncId := 160
@[reducible] def fn_op_table : FuncId := 161
@[reducible] def fn_digits_Right : FuncId := 167
@[reducible] def fn_fault_seen_Unwrap : FuncId := 193
def orc_ts : List (Nat × Ti) := [(3, ⟨.int .i64, false, [.int .i64]⟩),
  (4, ⟨.bool, false, [.bool]⟩),
  (5, ⟨.int .u8, false, [.int .u8]⟩),
  (9, ⟨.str, false, [.str]⟩),
  (20, ⟨.other, false, [.val]⟩),
  (22, ⟨.sl 3, false, [.sl]⟩),
  (24, ⟨.st [(0, 3), (1, 3), (2, 22), (3, 22), (4, 22), (5, 9), (6, 9), (7, 3), (8, 3), (9, 3)], true, [.int .i64, .int .i64, .sl, .sl, .sl, .str, .str, .int .i64, .int .i64, .int .i64]⟩),
  (27, ⟨.sl 94, false, [.sl]⟩),
  (28, ⟨.sl 22, false, [.sl]⟩),
  (29, ⟨.sl 96, false, [.sl]⟩),
  (30, ⟨.sl 45, false, [.sl]⟩),
  (31, ⟨.sl 98, false, [.sl]⟩),
  (32, ⟨.sl 100, false, [.sl]⟩),
  (34, ⟨.st [(0, 27), (1, 27), (2, 28), (3, 28), (4, 29), (5, 29), (6, 30), (7, 30), (8, 31), (9, 31), (10, 32), (11, 32)], true, [.sl, .sl, .sl, .sl, .sl, .sl, .sl, .sl, .sl, .sl, .sl, .sl]⟩),
  (45, ⟨.sl 52, false, [.sl]⟩),
  (47, ⟨.st [(0, 3), (1, 3), (2, 4), (3, 45)], true, [.int .i64, .int .i64, .bool, .sl]⟩),
  (52, ⟨.st [(0, 3), (1, 3), (2, 3), (3, 3)], true, [.int .i64, .int .i64, .int .i64, .int .i64]⟩),
  (82, ⟨.sl 5, false, [.sl]⟩),
  (86, ⟨.st [(0, 24), (10, 4)], true, [.int .i64, .int .i64, .sl, .sl, .sl, .str, .str, .int .i64, .int .i64, .int .i64, .bool]⟩),
  (91, ⟨.sl 4, false, [.sl]⟩),
  (94, ⟨.sl 9, false, [.sl]⟩),
  (96, ⟨.sl 108, false, [.sl]⟩),
  (98, ⟨.sl 112, false, [.sl]⟩),
  (100, ⟨.sl 103, false, [.sl]⟩),
  (103, ⟨.st [(0, 3), (1, 3), (2, 22), (3, 22)], true, [.int .i64, .int .i64, .sl, .sl]⟩),
  (108, ⟨.st [(0, 9), (1, 3), (2, 3), (3, 4)], true, [.str, .int .i64, .int .i64, .bool]⟩),
  (112, ⟨.st [(0, 3), (1, 3), (2, 3), (3, 3), (4, 3)], true, [.int .i64, .int .i64, .int .i64, .int .i64, .int .i64]⟩),
  (115, ⟨.int .u64, false, [.int .u64]⟩),
  (118, ⟨.other, false, [.val]⟩),
  (124, ⟨.int .u64, false, [.int .u64]⟩),
  (133, ⟨.st [(0, 3), (1, 3)], true, [.int .i64, .int .i64]⟩),
  (143, ⟨.int .u32, false, [.int .u32]⟩),
  (150, ⟨.ptr, false, [.ptr]⟩),
  (152, ⟨.st [(0, 9), (1, 118)], true, [.str, .val]⟩),
  (154, ⟨.st [(0, 9), (1, 3), (2, 3), (3, 3), (4, 3)], true, [.str, .int .i64, .int .i64, .int .i64, .int .i64]⟩),
  (156, ⟨.ptr, false, [.ptr]⟩),
  (158, ⟨.ptr, false, [.ptr]⟩),
  (159, ⟨.int .u64, false, [.int .u64]⟩),
  (165, ⟨.arr 48 154, true, [.str, .int .i64, .int .i64, .int .i64, .int .i64, .str, .int .i64, .int .i64, .int .i64, .int .i64, .str, .int .i64, .int .i64, .int .i64, .int .i64, .str, .int .i64, .int .i64, .int .i64, .int .i64, .str, .int .i64, .int .i64, .int .i64, .int .i64, .str, .int .i64, .int .i64, .int .i64, .int .i64, .str, .int .i64, .int .i64, .int .i64, .int .i64, .str, .int .i64, .int .i64, .int .i64, .int .i64, .str, .int .i64, .int .i64, .int .i64, .int .i64, .str, .int .i64, .int .i64, .int .i64, .int .i64, .str, .int .i64, .int .i64, .int .i64, .int .i64, .str, .int .i64, .int .i64, .int .i64, .int .i64, .str, .int .i64, .int .i64, .int .i64, .int .i64, .str, .int .i64, .int .i64, .int .i64, .int .i64, .str, .int .i64, .int .i64, .int .i64, .int .i64, .str, .int .i64, .int .i64, .int .i64, .int .i64, .str, .int .i64, .int .i64, .int .i64, .int .i64, .str, .int .i64, .int .i64, .int .i64, .int .i64, .str, .int .i64, .int .i64, .int .i64, .int .i64, .str, .int .i64, .int .i64, .int .i64, .int .i64, .str, .int .i64, .int .i64, .int .i64, .int .i64, .str, .int .i64, .int .i64, .int .i64, .int .i64, .str, .int .i64, .int .i64, .int .i64, .int .i64, .str, .int .i64, .int .i64, .int .i64, .int .i64, .str, .int .i64, .int .i64, .int .i64, .int .i64, .str, .int .i64, .int .i64, .int .i64, .int .i64, .str, .int .i64, .int .i64, .int .i64, .int .i64, .str, .int .i64, .int .i64, .int .i64, .int .i64, .str, .int .i64, .int .i64, .int .i64, .int .i64, .str, .int .i64, .int .i64, .int .i64, .int .i64, .str, .int .i64, .int .i64, .int .i64, .int .i64, .str, .int .i64, .int .i64, .int .i64, .int .i64, .str, .int .i64, .int .i64, .int .i64, .int .i64, .str, .int .i64, .int .i64, .int .i64, .int .i64, .str, .int .i64, .int .i64, .int .i64, .int .i64, .str, .int .i64, .int .i64, .int .i64, .int .i64, .str, .int .i64, .int .i64, .int .i64, .int .i64, .str, .int .i64, .int .i64, .int .i64, .int .i64, .str, .int .i64, .int .i64, .int .i64, .int .i64, .str, .int .i64, .int .i64, .int .i64, .int .i64, .str, .int .i64, .int .i64, .int .i64, .int .i64, .str, .int .i64, .int .i64, .int .i64, .int .i64, .str, .int .i64, .int .i64, .int .i64, .int .i64, .str, .int .i64, .int .i64, .int .i64, .int .i64, .str, .int .i64, .int .i64, .int .i64, .int .i64, .str, .int .i64, .int .i64, .int .i64, .int .i64, .str, .int .i64, .int .i64, .int .i64, .int .i64, .str, .int .i64, .int .i64, .int .i64, .int .i64]⟩),
  (224, ⟨.ptr, false, [.ptr]⟩)]
theorem orc_tok : AllTi Tryz.prog orc_ts := ⟨⟨⟨_, Tryz.runUnderlying3, rfl⟩, Tryz.isAgg3, Tryz.sizeOf3⟩,
  ⟨⟨_, Tryz.runUnderlying4, rfl⟩, Tryz.isAgg4, Tryz.sizeOf4⟩,
  ⟨⟨_, Tryz.runUnderlying5, rfl⟩, Tryz.isAgg5, Tryz.sizeOf5⟩,
  ⟨⟨_, Tryz.runUnderlying9, rfl⟩, Tryz.isAgg9, Tryz.sizeOf9⟩,
  ⟨⟨_, Tryz.runUnderlying20, trivial⟩, Tryz.isAgg20, Tryz.sizeOf20⟩,
  ⟨⟨_, Tryz.runUnderlying22, rfl⟩, Tryz.isAgg22, Tryz.sizeOf22⟩,
  ⟨⟨_, Tryz.runUnderlying24, ⟨_, rfl, rfl⟩⟩, Tryz.isAgg24, Tryz.sizeOf24⟩,
  ⟨⟨_, Tryz.runUnderlying27, rfl⟩, Tryz.isAgg27, Tryz.sizeOf27⟩,
  ⟨⟨_, Tryz.runUnderlying28, rfl⟩, Tryz.isAgg28, Tryz.sizeOf28⟩,
  ⟨⟨_, Tryz.runUnderlying29, rfl⟩, Tryz.isAgg29, Tryz.sizeOf29⟩,
  ⟨⟨_, Tryz.runUnderlying30, rfl⟩, Tryz.isAgg30, Tryz.sizeOf30⟩,
  ⟨⟨_, Tryz.runUnderlying31, rfl⟩, Tryz.isAgg31, Tryz.sizeOf31⟩,
  ⟨⟨_, Tryz.runUnderlying32, rfl⟩, Tryz.isAgg32, Tryz.sizeOf32⟩,
  ⟨⟨_, Tryz.runUnderlying34, ⟨_, rfl, rfl⟩⟩, Tryz.isAgg34, Tryz.sizeOf34⟩,
  ⟨⟨_, Tryz.runUnderlying45, rfl⟩, Tryz.isAgg45, Tryz.sizeOf45⟩,
  ⟨⟨_, Tryz.runUnderlying47, ⟨_, rfl, rfl⟩⟩, Tryz.isAgg47, Tryz.sizeOf47⟩,
  ⟨⟨_, Tryz.runUnderlying52, ⟨_, rfl, rfl⟩⟩, Tryz.isAgg52, Tryz.sizeOf52⟩,
  ⟨⟨_, Tryz.runUnderlying82, rfl⟩, Tryz.isAgg82, Tryz.sizeOf82⟩,
  ⟨⟨_, Tryz.runUnderlying86, ⟨_, rfl, rfl⟩⟩, Tryz.isAgg86, Tryz.sizeOf86⟩,
  ⟨⟨_, Tryz.runUnderlying91, rfl⟩, Tryz.isAgg91, Tryz.sizeOf91⟩,
  ⟨⟨_, Tryz.runUnderlying94, rfl⟩, Tryz.isAgg94, Tryz.sizeOf94⟩,
  ⟨⟨_, Tryz.runUnderlying96, rfl⟩, Tryz.isAgg96, Tryz.sizeOf96⟩,
  ⟨⟨_, Tryz.runUnderlying98, rfl⟩, Tryz.isAgg98, Tryz.sizeOf98⟩,
  ⟨⟨_, Tryz.runUnderlying100, rfl⟩, Tryz.isAgg100, Tryz.sizeOf100⟩,
  ⟨⟨_, Tryz.runUnderlying103, ⟨_, rfl, rfl⟩⟩, Tryz.isAgg103, Tryz.sizeOf103⟩,
  ⟨⟨_, Tryz.runUnderlying108, ⟨_, rfl, rfl⟩⟩, Tryz.isAgg108, Tryz.sizeOf108⟩,
  ⟨⟨_, Tryz.runUnderlying112, ⟨_, rfl, rfl⟩⟩, Tryz.isAgg112, Tryz.sizeOf112⟩,
  ⟨⟨_, Tryz.runUnderlying115, rfl⟩, Tryz.isAgg115, Tryz.sizeOf115⟩,
  ⟨⟨_, Tryz.runUnderlying118, trivial⟩, Tryz.isAgg118, Tryz.sizeOf118⟩,
  ⟨⟨_, Tryz.runUnderlying124, rfl⟩, Tryz.isAgg124, Tryz.sizeOf124⟩,
  ⟨⟨_, Tryz.runUnderlying133, ⟨_, rfl, rfl⟩⟩, Tryz.isAgg133, Tryz.sizeOf133⟩,
  ⟨⟨_, Tryz.runUnderlying143, rfl⟩, Tryz.isAgg143, Tryz.sizeOf143⟩,
  ⟨⟨_, Tryz.runUnderlying150, ⟨_, rfl⟩⟩, Tryz.isAgg150, Tryz.sizeOf150⟩,
  ⟨⟨_, Tryz.runUnderlying152, ⟨_, rfl, rfl⟩⟩, Tryz.isAgg152, Tryz.sizeOf152⟩,
  ⟨⟨_, Tryz.runUnderlying154, ⟨_, rfl, rfl⟩⟩, Tryz.isAgg154, Tryz.sizeOf154⟩,
  ⟨⟨_, Tryz.runUnderlying156, ⟨_, rfl⟩⟩, Tryz.isAgg156, Tryz.sizeOf156⟩,
  ⟨⟨_, Tryz.runUnderlying158, ⟨_, rfl⟩⟩, Tryz.isAgg158, Tryz.sizeOf158⟩,
  ⟨⟨_, Tryz.runUnderlying159, rfl⟩, Tryz.isAgg159, Tryz.sizeOf159⟩,
  ⟨⟨_, Tryz.runUnderlying165, rfl⟩, Tryz.isAgg165, Tryz.sizeOf165⟩,
  ⟨⟨_, Tryz.runUnderlying224, ⟨_, rfl⟩⟩, Tryz.isAgg224, Tryz.sizeOf224⟩, trivial⟩
def orc_sg : List (Nat × List (Bool × List Kd)) := [(3, [(false, [.bool])]),
  (5, [(false, [.bool])]),
  (6, [(false, [.bool])]),
  (7, [(false, [.bool])]),
  (8, [(false, [.bool])]),
  (9, [(true, [.int .i64, .int .i64, .sl, .sl, .sl, .str, .str, .int .i64, .int .i64, .int .i64])]),
  (10, []),
  (11, [(false, [.bool])]),
  (12, [(true, [.int .i64, .int .i64, .sl, .sl, .sl, .str, .str, .int .i64, .int .i64, .int .i64])]),
  (13, [(false, [.bool])]),
  (14, [(false, [.bool])]),
  (15, [(true, [.int .i64, .int .i64, .sl, .sl, .sl, .str, .str, .int .i64, .int .i64, .int .i64])]),
  (16, [(true, [.int .i64, .int .i64, .sl, .sl, .sl, .str, .str, .int .i64, .int .i64, .int .i64])]),
  (17, [(true, [.int .i64, .int .i64, .sl, .sl, .sl, .str, .str, .int .i64, .int .i64, .int .i64])]),
  (18, [(true, [.int .i64, .int .i64, .sl, .sl, .sl, .str, .str, .int .i64, .int .i64, .int .i64])]),
  (19, [(true, [.int .i64, .int .i64, .sl, .sl, .sl, .str, .str, .int .i64, .int .i64, .int .i64])]),
  (20, [(true, [.int .i64, .int .i64, .sl, .sl, .sl, .str, .str, .int .i64, .int .i64, .int .i64])]),
  (21, [(false, [.bool])]),
  (22, [(false, [.bool])]),
  (23, [(false, [.bool])]),
  (24, [(true, [.int .i64, .int .i64, .sl, .sl, .sl, .str, .str, .int .i64, .int .i64, .int .i64])]),
  (25, [(true, [.int .i64, .int .i64, .sl, .sl, .sl, .str, .str, .int .i64, .int .i64, .int .i64])]),
  (26, [(true, [.int .i64, .int .i64, .sl, .sl, .sl, .str, .str, .int .i64, .int .i64, .int .i64]), (false, [.int .i64])]),
  (27, [(true, [.int .i64, .int .i64, .sl, .sl, .sl, .str, .str, .int .i64, .int .i64, .int .i64]), (false, [.int .i64])]),
  (28, [(false, [.bool])]),
  (29, [(true, [.int .i64, .int .i64, .bool, .sl])]),
  (30, [(false, [.sl])]),
  (31, [(true, [.int .i64, .int .i64, .sl, .sl, .sl, .str, .str, .int .i64, .int .i64, .int .i64])]),
  (32, [(false, [.bool])]),
  (33, []),
  (34, [(true, [.int .i64, .int .i64, .bool, .sl])]),
  (35, [(false, [.bool])]),
  (36, [(false, [.bool])]),
  (37, []),
  (38, [(true, [.int .i64, .int .i64, .sl, .sl, .sl, .str, .str, .int .i64, .int .i64, .int .i64])]),
  (39, [(false, [.bool])]),
  (40, [(false, [.sl])]),
  (41, []),
  (42, [(false, [.sl])]),
  (43, [(false, [.sl])]),
  (44, [(true, [.int .i64, .int .i64, .sl, .sl, .sl, .str, .str, .int .i64, .int .i64, .int .i64])]),
  (45, [(false, [.bool])]),
  (46, [(false, [.bool])]),
  (47, [(false, [.bool])]),
  (48, [(false, [.bool])]),
  (49, [(false, [.bool])]),
  (50, [(false, [.bool])]),
  (51, [(false, [.bool])]),
  (52, []),
  (53, []),
  (54, []),
  (55, []),
  (56, []),
  (57, []),
  (58, [(false, [.sl])]),
  (59, [(false, [.sl])]),
  (60, [(false, [.sl])]),
  (61, [(false, [.sl])]),
  (62, [(false, [.sl])]),
  (63, [(false, [.sl])]),
  (64, [(false, [.bool])]),
  (65, [(false, [.bool])]),
  (66, [(false, [.bool])]),
  (67, [(false, [.bool])]),
  (68, [(false, [.bool])]),
  (69, [(false, [.bool])]),
  (70, [(false, [.bool])]),
  (71, [(false, [.bool])]),
  (72, [(false, [.int .i64]), (false, [.int .i64]), (false, [.int .i64]), (false, [.int .i64])]),
  (73, [(false, [.bool])]),
  (74, [(false, [.int .i64]), (false, [.bool])]),
  (75, [(false, [.bool])]),
  (76, [(false, [.int .i64]), (false, [.bool])]),
  (77, [(false, [.bool])]),
  (78, [(false, [.str])]),
  (79, []),
  (80, [(true, [.int .i64, .int .i64, .int .i64, .int .i64]), (true, [.int .i64, .int .i64, .sl, .sl, .sl, .str, .str, .int .i64, .int .i64, .int .i64]), (false, [.bool])]),
  (81, [(false, [.bool])]),
  (82, []),
  (83, [(false, [.sl])]),
  (84, [(false, [.sl])]),
  (85, [(false, [.bool])]),
  (86, [(false, [.bool])]),
  (87, [(false, [.bool])]),
  (88, [(false, [.sl])]),
  (89, [(false, [.int .i64]), (false, [.bool])]),
  (90, [(false, [.bool])]),
  (91, [(false, [.bool])]),
  (92, [(false, [.bool])]),
  (93, [(false, [.bool])]),
  (94, [(false, [.sl])]),
  (95, [(false, [.sl])]),
  (96, [(false, [.sl])]),
  (97, [(false, [.sl])]),
  (98, [(false, [.sl])]),
  (99, [(false, [.sl])]),
  (100, [(false, [.int .i64]), (false, [.int .i64])]),
  (101, [(false, [.int .i64])]),
  (102, [(false, [.val])]),
  (103, [(false, [.int .i64])]),
  (104, [(false, [.int .i64]), (false, [.bool])]),
  (105, [(false, [.bool])]),
  (106, [(false, [.bool])]),
  (107, [(false, [.bool])]),
  (108, []),
  (109, [(false, [.int .i64])]),
  (110, [(false, [.str])]),
  (111, [(false, [.int .i64]), (false, [.val])]),
  (112, [(false, [.val])]),
  (113, [(false, [.bool])]),
  (114, [(false, [.val])]),
  (115, [(false, [.int .i64])]),
  (116, [(false, [.val])]),
  (117, [(false, [.val])]),
  (118, [(false, [.str])]),
  (119, [(true, [.int .i64, .int .i64])]),
  (120, [(false, [.bool])]),
  (121, []),
  (127, [(false, [.bool])]),
  (130, [(false, [.int .i64])]),
  (131, [(false, [.int .i64])]),
  (132, []),
  (133, [(false, [.val])]),
  (134, [(false, [.int .i64]), (false, [.int .i64])]),
  (135, [(false, [.int .i64]), (false, [.int .i64])]),
  (136, []),
  (137, [(false, [.int .i64])]),
  (138, [(false, [.int .i64])]),
  (139, []),
  (140, [(false, [.val])]),
  (141, []),
  (142, []),
  (143, [(false, [.val])]),
  (144, []),
  (145, [(false, [.val])]),
  (146, [(false, [.val])]),
  (147, [(true, [.str, .int .i64, .int .i64, .int .i64, .int .i64])]),
  (148, [(false, [.bool])]),
  (150, [(false, [.int .u64])]),
  (151, [(false, [.int .u64])]),
  (154, [(false, [.bool])]),
  (155, [(false, [.int .i64])]),
  (156, [(false, [.bool])]),
  (157, [(false, [.str])]),
  (158, [(false, [.val])]),
  (159, [(false, [.int .i64]), (false, [.bool])]),
  (160, [(false, [.int .i64]), (false, [.bool])]),
  (161, [(false, [.val])]),
  (167, [(false, [.bool])]),
  (168, [(false, [.int .i64])]),
  (169, [(false, [.int .i64]), (false, [.int .i64]), (false, [.bool])]),
  (170, [(false, [.int .i64])]),
  (171, [(false, [.int .i64])]),
  (193, [(false, [.val])])]
theorem orc_sok : AllSg Tryz.prog orc_sg := ⟨Tryz.call3,
  Tryz.call5,
  Tryz.call6,
  Tryz.call7,
  Tryz.call8,
  Tryz.call9,
  Tryz.call10,
  Tryz.call11,
  Tryz.call12,
  Tryz.call13,
  Tryz.call14,
  Tryz.call15,
  Tryz.call16,
  Tryz.call17,
  Tryz.call18,
  Tryz.call19,
  Tryz.call20,
  Tryz.call21,
  Tryz.call22,
  Tryz.call23,
  Tryz.call24,
  Tryz.call25,
  Tryz.call26,
  Tryz.call27,
  Tryz.call28,
  Tryz.call29,
  Tryz.call30,
  Tryz.call31,
  Tryz.call32,
  Tryz.call33,
  Tryz.call34,
  Tryz.call35,
  Tryz.call36,
  Tryz.call37,
  Tryz.call38,
  Tryz.call39,
  Tryz.call40,
  Tryz.call41,
  Tryz.call42,
  Tryz.call43,
  Tryz.call44,
  Tryz.call45,
  Tryz.call46,
  Tryz.call47,
  Tryz.call48,
  Tryz.call49,
  Tryz.call50,
  Tryz.call51,
  Tryz.call52,
  Tryz.call53,
  Tryz.call54,
  Tryz.call55,
  Tryz.call56,
  Tryz.call57,
  Tryz.call58,
  Tryz.call59,
  Tryz.call60,
  Tryz.call61,
  Tryz.call62,
  Tryz.call63,
  Tryz.call64,
  Tryz.call65,
  Tryz.call66,
  Tryz.call67,
  Tryz.call68,
  Tryz.call69,
  Tryz.call70,
  Tryz.call71,
  Tryz.call72,
  Tryz.call73,
  Tryz.call74,
  Tryz.call75,
  Tryz.call76,
  Tryz.call77,
  Tryz.call78,
  Tryz.call79,
  Tryz.call80,
  Tryz.call81,
  Tryz.call82,
  Tryz.call83,
  Tryz.call84,
  Tryz.call85,
  Tryz.call86,
  Tryz.call87,
  Tryz.call88,
  Tryz.call89,
  Tryz.call90,
  Tryz.call91,
  Tryz.call92,
  Tryz.call93,
  Tryz.call94,
  Tryz.call95,
  Tryz.call96,
  Tryz.call97,
  Tryz.call98,
  Tryz.call99,
  Tryz.call100,
  Tryz.call101,
  Tryz.call102,
  Tryz.call103,
  Tryz.call104,
  Tryz.call105,
  Tryz.call106,
  Tryz.call107,
  Tryz.call108,
  Tryz.call109,
  Tryz.call110,
  Tryz.call111,
  Tryz.call112,
  Tryz.call113,
  Tryz.call114,
  Tryz.call115,
  Tryz.call116,
  Tryz.call117,
  Tryz.call118,
  Tryz.call119,
  Tryz.call120,
  Tryz.call121,
  Tryz.call127,
  Tryz.call130,
  Tryz.call131,
  Tryz.call132,
  Tryz.call133,
  Tryz.call134,
  Tryz.call135,
  Tryz.call136,
  Tryz.call137,
  Tryz.call138,
  Tryz.call139,
  Tryz.call140,
  Tryz.call141,
  Tryz.call142,
  Tryz.call143,
  Tryz.call144,
  Tryz.call145,
  Tryz.call146,
  Tryz.call147,
  Tryz.call148,
  Tryz.call150,
  Tryz.call151,
  Tryz.call154,
  Tryz.call155,
  Tryz.call156,
  Tryz.call157,
  Tryz.call158,
  Tryz.call159,
  Tryz.call160,
  Tryz.call161,
  Tryz.call167,
  Tryz.call168,
  Tryz.call169,
  Tryz.call170,
  Tryz.call171,
  Tryz.call193, trivial⟩
def orc : Orc Tryz.prog := ⟨orc_ts, allTi_of orc_tok, orc_sg, allSg_of orc_sok⟩
theorem orc_wide : Tryz.prog.follows .mixedOrders = true := by kernel_rfl
end Go.Proofs.YtkjpmkopnkkbmaaGreatDoor

/- Functions of Slices, read without their frames; that each is enough. Printed by a program of mine (wip/lift/gen.py). -/
set_option maxRecDepth 100000
namespace Go.Proofs.YtkjpmkopnkkbmaaGreatDoor
open Go.RowKit

-- slices.Clone[[]int,int]
def slices_Clone_sl_int_int_sh (s_1 : Sl) (w : World) (K : Value → World → Prop) : Prop :=
 brB (Option.isNone s_1.ptr)
 (K (.slice none 0 0) w)
 (∀ (b2 : Nat) (w3 : World), b2 = w.heap.size → w3 = World.alloc w (.cells #[] T_int) →
 ∃ s4 : Sl, ∃ w5 : World, (Builtin.append_ #[T_sl_int, T_sl_int] T_sl_int #[.slice (some ⟨b2, 0, none⟩) 0 0, s_1.val]).run Tryz.prog w3 = .ok (s4.val) w5 ∧
 K (s4.val) w5)
def slices_Clone_sl_int_int_an : An := ⟨[], [], []⟩
theorem slices_Clone_sl_int_int_lift {s_1 : Sl} {w : World} {K : Value → World → Prop} (h : slices_Clone_sl_int_int_sh s_1 w K) : Calls Tryz.prog fn_slices_Clone_sl_int_int #[s_1.val] w fun e w' => ∃ v, e = .returned v ∧ K v w' :=
   lift_calls (A := slices_Clone_sl_int_int_an) (c := bodyOf Tryz.f42) (args := [s_1.val]) orc orc_wide Tryz.func42 (by kernel_rfl) (by kernel_rfl) (Eq.mp (by kernel_rfl : slices_Clone_sl_int_int_sh s_1 w K = wpc orc Tryz.f42.ntmps slices_Clone_sl_int_int_an (bodyOf Tryz.f42) (argl 0 [s_1.val]) w (retQ orc Tryz.f42.results.toList K)) h)

-- slices.Sort[[]int,int]
-- slices.Compact[[]int,int]
-- slices.insertionSortOrdered[int]
-- slices.nextPowerOfTwo
-- (*slices.xorshift).Next
end Go.Proofs.YtkjpmkopnkkbmaaGreatDoor

/- Numbers as elements of lists; slices.Clone. -/
set_option maxRecDepth 100000
namespace Go.Proofs.YtkjpmkopnkkbmaaGreatDoor
open Go.RowKit

def intE : Enc Int := ⟨T_int, 1, 8, fun n => [.int .i64 n], by intro x; rfl, by intro x u hu; simp at hu; subst hu; rfl, by decide⟩
theorem intOk : EncOk Tryz.prog intE T_sl_int := EncOk.of (z := .int .i64 0) (by kernel_rfl) (by kernel_rfl) (by kernel_rfl)
/-! ### slices.Clone -/
theorem Rd.none {α : Type} {E : Enc α} {w : World} {s : Sl} {xs : List α} (h : Rd E w s xs) (hp : s.ptr = none) : xs = [] ∧ s.cap = 0 := by
  obtain ⟨ao, cap, he, _, _, h5, _⟩ := h
  have hq : s.ptr = ao ∧ s.cap = cap := by cases s; simp [Sl.val] at he; exact ⟨he.1, he.2.2⟩
  have := h5 (hq.1.symm.trans hp)
  exact ⟨List.eq_nil_of_length_eq_zero this.1, hq.2.trans this.2⟩
theorem clone_core {α : Type} {P : Program} {E : Enc α} {T : TypeId} (ok : EncOk P E T) (hby : E.bytes ≤ 1000) {w : World} {s : Sl} {xs : List α} (h : Rd E w s xs) (hsm : xs.length ≤ 1000000000) {K : Value → World → Prop}
    (k : ∀ (s' : Sl) (w' : World), Ow E w' s' xs → Chg No w w' → (∀ k, s'.blk = some k → w.heap.size ≤ k) → (s.ptr = none → s' = nilS) → K s'.val w') :
    brB (Option.isNone s.ptr) (K (.slice none 0 0) w) (∀ (b2 : Nat) (w3 : World), b2 = w.heap.size → w3 = World.alloc w (.cells #[] E.t) →
      ∃ s4 : Sl, ∃ w5 : World, (Builtin.append_ #[T, T] T #[.slice (some ⟨b2, 0, none⟩) 0 0, s.val]).run P w3 = .ok (s4.val) w5 ∧ K (s4.val) w5) := by
  refine brB_of (fun hp => ?_) (fun hp => ?_)
  · have hp : s.ptr = Option.none := by cases h : s.ptr with
      | none => rfl
      | some a => rw [h] at hp; cases hp
    obtain ⟨rfl, _⟩ := h.none hp
    exact k nilS w (Ow.nil E w) (Chg.refl _ _) (fun k hk => by cases hk) (fun _ => rfl)
  · intro b2 w3 hb hw
    have hne : s.ptr ≠ Option.none := fun e => by rw [e] at hp; cases hp
    have hc : Chg No w w3 := by rw [hw]; exact Chg.alloc _ _ _
    have hlit : Ow E w3 ⟨some ⟨b2, 0, Option.none⟩, 0, 0⟩ [] := by
      rw [hw, hb]; exact Ow.lit w [] [] rfl (Nat.zero_le _)
    have hs3 : w.heap.size < w3.heap.size := by rw [hw]; simp
    refine app_ok ok rfl rfl hlit (h.no hc) (by
      have : (xs.length) * E.bytes ≤ 1000000000 * 1000 := Nat.mul_le_mul hsm hby
      simp only [List.length_nil, Nat.zero_add]; omega) (by simp only [List.length_nil, Nat.zero_add]; unfold maxLen; omega) ?_
    intro s' w5 h5 hc5 hbk
    refine k s' w5 (by simpa using h5) (hc.trans hc5 (fun _ _ h => h) (fun j hj he => ?_)) (fun j hj => ?_) (fun e => absurd e hne)
    · have : some b2 = some j := he
      cases this; omega
    · rcases hbk with hk | hk
      · have : (⟨some ⟨b2, 0, Option.none⟩, 0, 0⟩ : Sl).blk = some b2 := rfl
        rw [hk, this] at hj; cases hj; omega
      · rw [hk] at hj; cases hj; omega
theorem clone_ints {w : World} {s : Sl} {xs : List Int} (h : Rd intE w s xs) (hsm : xs.length ≤ 1000000000) : Calls Tryz.prog fn_slices_Clone_sl_int_int #[s.val] w fun e w' => ∃ s' : Sl, e = .returned s'.val ∧ Ow intE w' s' xs ∧ Chg No w w' ∧ (∀ k, s'.blk = some k → w.heap.size ≤ k) ∧ (s.ptr = none → s' = nilS) := by
  refine (slices_Clone_sl_int_int_lift (K := fun v w' => ∃ s' : Sl, v = s'.val ∧ Ow intE w' s' xs ∧ Chg No w w' ∧ (∀ k, s'.blk = some k → w.heap.size ≤ k) ∧ (s.ptr = none → s' = nilS)) ?_).mono (by rintro e w' ⟨v, rfl, s', rfl, h⟩; exact ⟨s', rfl, h⟩)
  unfold slices_Clone_sl_int_int_sh
  exact clone_core (K := fun v w' => ∃ s' : Sl, v = s'.val ∧ Ow intE w' s' xs ∧ Chg No w w' ∧ (∀ k, s'.blk = some k → w.heap.size ≤ k) ∧ (s.ptr = none → s' = nilS)) intOk (by decide) h hsm fun s' w' h1 h2 h3 h4 => ⟨s', rfl, h1, h2, h3, h4⟩
end Go.Proofs.YtkjpmkopnkkbmaaGreatDoor

/- Functions of Inner, read without their frames; that each is enough. Printed by a program of mine (wip/lift/gen.py). -/
set_option maxRecDepth 100000
namespace Go.Proofs.YtkjpmkopnkkbmaaGreatDoor
open Go.RowKit

-- holloway/inner.Boot
-- holloway/inner.Right
-- holloway/inner.Copy
def inner_Copy_sh (s__Ip1 : Int) (s__Handler2 : Int) (s__Stack3 : Sl) (s__Back4 : Sl) (s__Mem5 : Sl) (s__Out6 : ByteArray) (s__In7 : ByteArray) (s__Read8 : Int) (s__Status9 : Int) (s__Code10 : Int) (w : World) (K : Value → World → Prop) : Prop :=
 ∀ (b11 : Nat) (w12 : World), b11 = w.heap.size → w12 = World.alloc w (.cells #[.int .i64 s__Ip1, .int .i64 s__Handler2, s__Stack3.val, s__Back4.val, s__Mem5.val, .string s__Out6, .string s__In7, .int .i64 s__Read8, .int .i64 s__Status9, .int .i64 s__Code10] T_api_State) →
 ∀ (b13 : Nat) (w14 : World), b13 = w12.heap.size → w14 = World.alloc w12 (.cells #[.int .i64 (0 : Int), .int .i64 (0 : Int), .slice none 0 0, .slice none 0 0, .slice none 0 0, .string (bs []), .string (bs []), .int .i64 (0 : Int), .int .i64 (0 : Int), .int .i64 (0 : Int)] T_api_State) →
 ∀ w15 : World, w15 = World.drew w14 →
 ∃ S16 : World → Prop, S16 w15 ∧
 ∃ s17 : Sl, held S16 ⟨b11, 2, none⟩ (s17.val) ∧
 ∃ s18 : Sl, held S16 ⟨b11, 3, none⟩ (s18.val) ∧
 ∃ s19 : Sl, held S16 ⟨b11, 4, none⟩ (s19.val) ∧
 Calls Tryz.prog fn_slices_Clone_sl_int_int #[s17.val] w15 fun e20 w21 => ∃ s22 : Sl, e20 = .returned (s22.val) ∧
 S16 w21 ∧
 Calls Tryz.prog fn_slices_Clone_sl_int_int #[s18.val] w21 fun e23 w24 => ∃ s25 : Sl, e23 = .returned (s25.val) ∧
 S16 w24 ∧
 Calls Tryz.prog fn_slices_Clone_sl_int_int #[s19.val] w24 fun e26 w27 => ∃ s28 : Sl, e26 = .returned (s28.val) ∧
 S16 w27 ∧
 wrOk w27 ⟨b11, 2, none⟩ 1 ∧ ∀ w29 : World, w29 = stW w27 ⟨b11, 2, none⟩ 0 [s22.val] →
 wrOk w29 ⟨b11, 3, none⟩ 1 ∧ ∀ w30 : World, w30 = stW w29 ⟨b11, 3, none⟩ 0 [s25.val] →
 wrOk w30 ⟨b11, 4, none⟩ 1 ∧ ∀ w31 : World, w31 = stW w30 ⟨b11, 4, none⟩ 0 [s28.val] →
 ∃ n_Ip32 : Int, ∃ n_Handler33 : Int, ∃ s_Stack34 : Sl, ∃ s_Back35 : Sl, ∃ s_Mem36 : Sl, ∃ t_Out37 : ByteArray, ∃ t_In38 : ByteArray, ∃ n_Read39 : Int, ∃ n_Status40 : Int, ∃ n_Code41 : Int, w31.cell? ⟨b11, 0, none⟩ = some (.int .i64 n_Ip32) ∧ w31.cell? ⟨b11, 1, none⟩ = some (.int .i64 n_Handler33) ∧ w31.cell? ⟨b11, 2, none⟩ = some (s_Stack34.val) ∧ w31.cell? ⟨b11, 3, none⟩ = some (s_Back35.val) ∧ w31.cell? ⟨b11, 4, none⟩ = some (s_Mem36.val) ∧ w31.cell? ⟨b11, 5, none⟩ = some (.string t_Out37) ∧ w31.cell? ⟨b11, 6, none⟩ = some (.string t_In38) ∧ w31.cell? ⟨b11, 7, none⟩ = some (.int .i64 n_Read39) ∧ w31.cell? ⟨b11, 8, none⟩ = some (.int .i64 n_Status40) ∧ w31.cell? ⟨b11, 9, none⟩ = some (.int .i64 n_Code41) ∧
 wrOk w31 ⟨b13, 0, none⟩ 10 ∧ ∀ w42 : World, w42 = stW w31 ⟨b13, 0, none⟩ 0 [.int .i64 n_Ip32, .int .i64 n_Handler33, s_Stack34.val, s_Back35.val, s_Mem36.val, .string t_Out37, .string t_In38, .int .i64 n_Read39, .int .i64 n_Status40, .int .i64 n_Code41] →
 ∃ r_Ip43 : Int, ∃ r_Handler44 : Int, ∃ r_Stack45 : Sl, ∃ r_Back46 : Sl, ∃ r_Mem47 : Sl, ∃ r_Out48 : ByteArray, ∃ r_In49 : ByteArray, ∃ r_Read50 : Int, ∃ r_Status51 : Int, ∃ r_Code52 : Int, w42.cell? ⟨b13, 0, none⟩ = some (.int .i64 r_Ip43) ∧ w42.cell? ⟨b13, 1, none⟩ = some (.int .i64 r_Handler44) ∧ w42.cell? ⟨b13, 2, none⟩ = some (r_Stack45.val) ∧ w42.cell? ⟨b13, 3, none⟩ = some (r_Back46.val) ∧ w42.cell? ⟨b13, 4, none⟩ = some (r_Mem47.val) ∧ w42.cell? ⟨b13, 5, none⟩ = some (.string r_Out48) ∧ w42.cell? ⟨b13, 6, none⟩ = some (.string r_In49) ∧ w42.cell? ⟨b13, 7, none⟩ = some (.int .i64 r_Read50) ∧ w42.cell? ⟨b13, 8, none⟩ = some (.int .i64 r_Status51) ∧ w42.cell? ⟨b13, 9, none⟩ = some (.int .i64 r_Code52) ∧
 K (.agg #[.int .i64 r_Ip43, .int .i64 r_Handler44, r_Stack45.val, r_Back46.val, r_Mem47.val, .string r_Out48, .string r_In49, .int .i64 r_Read50, .int .i64 r_Status51, .int .i64 r_Code52]) w42
def inner_Copy_an : An := ⟨[], [(1, (10, .st 0 (.st 1 (.st 3 (.st 4 (.st 6 (.st 7 (.ef 2 (.st 9 (.ef 5 (.ef 8 .done))))))))), 1))], []⟩
theorem inner_Copy_lift {s__Ip1 : Int} {s__Handler2 : Int} {s__Stack3 : Sl} {s__Back4 : Sl} {s__Mem5 : Sl} {s__Out6 : ByteArray} {s__In7 : ByteArray} {s__Read8 : Int} {s__Status9 : Int} {s__Code10 : Int} {w : World} {K : Value → World → Prop} (h : inner_Copy_sh s__Ip1 s__Handler2 s__Stack3 s__Back4 s__Mem5 s__Out6 s__In7 s__Read8 s__Status9 s__Code10 w K) : Calls Tryz.prog fn_inner_Copy #[.agg #[.int .i64 s__Ip1, .int .i64 s__Handler2, s__Stack3.val, s__Back4.val, s__Mem5.val, .string s__Out6, .string s__In7, .int .i64 s__Read8, .int .i64 s__Status9, .int .i64 s__Code10]] w fun e w' => ∃ v, e = .returned v ∧ K v w' :=
   lift_calls (A := inner_Copy_an) (c := bodyOf Tryz.f15) (args := [.agg #[.int .i64 s__Ip1, .int .i64 s__Handler2, s__Stack3.val, s__Back4.val, s__Mem5.val, .string s__Out6, .string s__In7, .int .i64 s__Read8, .int .i64 s__Status9, .int .i64 s__Code10]]) orc orc_wide Tryz.func15 (by kernel_rfl) (by kernel_rfl) (Eq.mp (by kernel_rfl : inner_Copy_sh s__Ip1 s__Handler2 s__Stack3 s__Back4 s__Mem5 s__Out6 s__In7 s__Read8 s__Status9 s__Code10 w K = wpc orc Tryz.f15.ntmps inner_Copy_an (bodyOf Tryz.f15) (argl 0 [.agg #[.int .i64 s__Ip1, .int .i64 s__Handler2, s__Stack3.val, s__Back4.val, s__Mem5.val, .string s__Out6, .string s__In7, .int .i64 s__Read8, .int .i64 s__Status9, .int .i64 s__Code10]]) w (retQ orc Tryz.f15.results.toList K)) h)

-- holloway/inner.Enter
-- holloway/inner.Fault
-- holloway/inner.Step
def inner_Step_sh (s__Ip1 : Int) (s__Handler2 : Int) (s__Stack3 : Sl) (s__Back4 : Sl) (s__Mem5 : Sl) (s__Out6 : ByteArray) (s__In7 : ByteArray) (s__Read8 : Int) (s__Status9 : Int) (s__Code10 : Int) (w : World) (K : Value → World → Prop) : Prop :=
 ∀ (b11 : Nat) (w12 : World), b11 = w.heap.size → w12 = World.alloc w (.cells #[.int .i64 s__Ip1, .int .i64 s__Handler2, s__Stack3.val, s__Back4.val, s__Mem5.val, .string s__Out6, .string s__In7, .int .i64 s__Read8, .int .i64 s__Status9, .int .i64 s__Code10] T_api_State) →
 ∀ (b13 : Nat) (w14 : World), b13 = w12.heap.size → w14 = World.alloc w12 (.cells #[.int .i64 (0 : Int), .int .i64 (0 : Int), .slice none 0 0, .slice none 0 0, .slice none 0 0, .string (bs []), .string (bs []), .int .i64 (0 : Int), .int .i64 (0 : Int), .int .i64 (0 : Int)] T_api_State) →
 ∃ n_Ip15 : Int, ∃ n_Handler16 : Int, ∃ s_Stack17 : Sl, ∃ s_Back18 : Sl, ∃ s_Mem19 : Sl, ∃ t_Out20 : ByteArray, ∃ t_In21 : ByteArray, ∃ n_Read22 : Int, ∃ n_Status23 : Int, ∃ n_Code24 : Int, w14.cell? ⟨b11, 0, none⟩ = some (.int .i64 n_Ip15) ∧ w14.cell? ⟨b11, 1, none⟩ = some (.int .i64 n_Handler16) ∧ w14.cell? ⟨b11, 2, none⟩ = some (s_Stack17.val) ∧ w14.cell? ⟨b11, 3, none⟩ = some (s_Back18.val) ∧ w14.cell? ⟨b11, 4, none⟩ = some (s_Mem19.val) ∧ w14.cell? ⟨b11, 5, none⟩ = some (.string t_Out20) ∧ w14.cell? ⟨b11, 6, none⟩ = some (.string t_In21) ∧ w14.cell? ⟨b11, 7, none⟩ = some (.int .i64 n_Read22) ∧ w14.cell? ⟨b11, 8, none⟩ = some (.int .i64 n_Status23) ∧ w14.cell? ⟨b11, 9, none⟩ = some (.int .i64 n_Code24) ∧
 Calls Tryz.prog fn_inner_Run #[.agg #[.int .i64 n_Ip15, .int .i64 n_Handler16, s_Stack17.val, s_Back18.val, s_Mem19.val, .string t_Out20, .string t_In21, .int .i64 n_Read22, .int .i64 n_Status23, .int .i64 n_Code24], .int .i64 (1 : Int)] w14 fun e25 w26 => ∃ n_Ip27 : Int, ∃ n_Handler28 : Int, ∃ s_Stack29 : Sl, ∃ s_Back30 : Sl, ∃ s_Mem31 : Sl, ∃ t_Out32 : ByteArray, ∃ t_In33 : ByteArray, ∃ n_Read34 : Int, ∃ n_Status35 : Int, ∃ n_Code36 : Int, ∃ n37 : Int, e25 = .returned (.tuple #[.agg #[.int .i64 n_Ip27, .int .i64 n_Handler28, s_Stack29.val, s_Back30.val, s_Mem31.val, .string t_Out32, .string t_In33, .int .i64 n_Read34, .int .i64 n_Status35, .int .i64 n_Code36], .int .i64 n37]) ∧
 ∀ (b38 : Nat) (w39 : World), b38 = w26.heap.size → w39 = World.alloc w26 (.cells #[.int .i64 (0 : Int), .int .i64 (0 : Int), .slice none 0 0, .slice none 0 0, .slice none 0 0, .string (bs []), .string (bs []), .int .i64 (0 : Int), .int .i64 (0 : Int), .int .i64 (0 : Int)] T_api_State) →
 wrOk w39 ⟨b38, 0, none⟩ 10 ∧ ∀ w40 : World, w40 = stW w39 ⟨b38, 0, none⟩ 0 [.int .i64 n_Ip27, .int .i64 n_Handler28, s_Stack29.val, s_Back30.val, s_Mem31.val, .string t_Out32, .string t_In33, .int .i64 n_Read34, .int .i64 n_Status35, .int .i64 n_Code36] →
 ∃ n_Ip41 : Int, ∃ n_Handler42 : Int, ∃ s_Stack43 : Sl, ∃ s_Back44 : Sl, ∃ s_Mem45 : Sl, ∃ t_Out46 : ByteArray, ∃ t_In47 : ByteArray, ∃ n_Read48 : Int, ∃ n_Status49 : Int, ∃ n_Code50 : Int, w40.cell? ⟨b38, 0, none⟩ = some (.int .i64 n_Ip41) ∧ w40.cell? ⟨b38, 1, none⟩ = some (.int .i64 n_Handler42) ∧ w40.cell? ⟨b38, 2, none⟩ = some (s_Stack43.val) ∧ w40.cell? ⟨b38, 3, none⟩ = some (s_Back44.val) ∧ w40.cell? ⟨b38, 4, none⟩ = some (s_Mem45.val) ∧ w40.cell? ⟨b38, 5, none⟩ = some (.string t_Out46) ∧ w40.cell? ⟨b38, 6, none⟩ = some (.string t_In47) ∧ w40.cell? ⟨b38, 7, none⟩ = some (.int .i64 n_Read48) ∧ w40.cell? ⟨b38, 8, none⟩ = some (.int .i64 n_Status49) ∧ w40.cell? ⟨b38, 9, none⟩ = some (.int .i64 n_Code50) ∧
 wrOk w40 ⟨b13, 0, none⟩ 10 ∧ ∀ w51 : World, w51 = stW w40 ⟨b13, 0, none⟩ 0 [.int .i64 n_Ip41, .int .i64 n_Handler42, s_Stack43.val, s_Back44.val, s_Mem45.val, .string t_Out46, .string t_In47, .int .i64 n_Read48, .int .i64 n_Status49, .int .i64 n_Code50] →
 ∃ r_Ip52 : Int, ∃ r_Handler53 : Int, ∃ r_Stack54 : Sl, ∃ r_Back55 : Sl, ∃ r_Mem56 : Sl, ∃ r_Out57 : ByteArray, ∃ r_In58 : ByteArray, ∃ r_Read59 : Int, ∃ r_Status60 : Int, ∃ r_Code61 : Int, w51.cell? ⟨b13, 0, none⟩ = some (.int .i64 r_Ip52) ∧ w51.cell? ⟨b13, 1, none⟩ = some (.int .i64 r_Handler53) ∧ w51.cell? ⟨b13, 2, none⟩ = some (r_Stack54.val) ∧ w51.cell? ⟨b13, 3, none⟩ = some (r_Back55.val) ∧ w51.cell? ⟨b13, 4, none⟩ = some (r_Mem56.val) ∧ w51.cell? ⟨b13, 5, none⟩ = some (.string r_Out57) ∧ w51.cell? ⟨b13, 6, none⟩ = some (.string r_In58) ∧ w51.cell? ⟨b13, 7, none⟩ = some (.int .i64 r_Read59) ∧ w51.cell? ⟨b13, 8, none⟩ = some (.int .i64 r_Status60) ∧ w51.cell? ⟨b13, 9, none⟩ = some (.int .i64 r_Code61) ∧
 K (.agg #[.int .i64 r_Ip52, .int .i64 r_Handler53, r_Stack54.val, r_Back55.val, r_Mem56.val, .string r_Out57, .string r_In58, .int .i64 r_Read59, .int .i64 r_Status60, .int .i64 r_Code61]) w51
def inner_Step_an : An := ⟨[], [], []⟩
theorem inner_Step_lift {s__Ip1 : Int} {s__Handler2 : Int} {s__Stack3 : Sl} {s__Back4 : Sl} {s__Mem5 : Sl} {s__Out6 : ByteArray} {s__In7 : ByteArray} {s__Read8 : Int} {s__Status9 : Int} {s__Code10 : Int} {w : World} {K : Value → World → Prop} (h : inner_Step_sh s__Ip1 s__Handler2 s__Stack3 s__Back4 s__Mem5 s__Out6 s__In7 s__Read8 s__Status9 s__Code10 w K) : Calls Tryz.prog fn_inner_Step #[.agg #[.int .i64 s__Ip1, .int .i64 s__Handler2, s__Stack3.val, s__Back4.val, s__Mem5.val, .string s__Out6, .string s__In7, .int .i64 s__Read8, .int .i64 s__Status9, .int .i64 s__Code10]] w fun e w' => ∃ v, e = .returned v ∧ K v w' :=
   lift_calls (A := inner_Step_an) (c := bodyOf Tryz.f24) (args := [.agg #[.int .i64 s__Ip1, .int .i64 s__Handler2, s__Stack3.val, s__Back4.val, s__Mem5.val, .string s__Out6, .string s__In7, .int .i64 s__Read8, .int .i64 s__Status9, .int .i64 s__Code10]]) orc orc_wide Tryz.func24 (by kernel_rfl) (by kernel_rfl) (Eq.mp (by kernel_rfl : inner_Step_sh s__Ip1 s__Handler2 s__Stack3 s__Back4 s__Mem5 s__Out6 s__In7 s__Read8 s__Status9 s__Code10 w K = wpc orc Tryz.f24.ntmps inner_Step_an (bodyOf Tryz.f24) (argl 0 [.agg #[.int .i64 s__Ip1, .int .i64 s__Handler2, s__Stack3.val, s__Back4.val, s__Mem5.val, .string s__Out6, .string s__In7, .int .i64 s__Read8, .int .i64 s__Status9, .int .i64 s__Code10]]) w (retQ orc Tryz.f24.results.toList K)) h)

-- holloway/inner.Run
def inner_Run_j1 (b38 : Nat) (I1 : Int → World → Prop) (fuel42 : Int) (μ1 : Int → World → Nat) (w40 : World) (b14 : Nat) (b46 : Bool) (w45 : World) (K : Value → World → Prop) : Prop :=
 brB b46
 (Calls Tryz.prog fn_inner_machine_advance #[.pointer (some ⟨b38, 0, none⟩)] w45 fun e47 w48 => e47 = .returned (.tuple #[]) ∧
 I1 (wr (fuel42 - (1 : Int))) w48 ∧ μ1 (wr (fuel42 - (1 : Int))) w48 < μ1 fuel42 w40)
 (∃ n_Ip49 : Int, ∃ n_Handler50 : Int, ∃ s_Stack51 : Sl, ∃ s_Back52 : Sl, ∃ s_Mem53 : Sl, ∃ t_Out54 : ByteArray, ∃ t_In55 : ByteArray, ∃ n_Read56 : Int, ∃ n_Status57 : Int, ∃ n_Code58 : Int, w45.cell? ⟨b38, 0, none⟩ = some (.int .i64 n_Ip49) ∧ w45.cell? ⟨b38, 1, none⟩ = some (.int .i64 n_Handler50) ∧ w45.cell? ⟨b38, 2, none⟩ = some (s_Stack51.val) ∧ w45.cell? ⟨b38, 3, none⟩ = some (s_Back52.val) ∧ w45.cell? ⟨b38, 4, none⟩ = some (s_Mem53.val) ∧ w45.cell? ⟨b38, 5, none⟩ = some (.string t_Out54) ∧ w45.cell? ⟨b38, 6, none⟩ = some (.string t_In55) ∧ w45.cell? ⟨b38, 7, none⟩ = some (.int .i64 n_Read56) ∧ w45.cell? ⟨b38, 8, none⟩ = some (.int .i64 n_Status57) ∧ w45.cell? ⟨b38, 9, none⟩ = some (.int .i64 n_Code58) ∧
 wrOk w45 ⟨b14, 0, none⟩ 10 ∧ ∀ w59 : World, w59 = stW w45 ⟨b14, 0, none⟩ 0 [.int .i64 n_Ip49, .int .i64 n_Handler50, s_Stack51.val, s_Back52.val, s_Mem53.val, .string t_Out54, .string t_In55, .int .i64 n_Read56, .int .i64 n_Status57, .int .i64 n_Code58] →
 ∃ r_Ip60 : Int, ∃ r_Handler61 : Int, ∃ r_Stack62 : Sl, ∃ r_Back63 : Sl, ∃ r_Mem64 : Sl, ∃ r_Out65 : ByteArray, ∃ r_In66 : ByteArray, ∃ r_Read67 : Int, ∃ r_Status68 : Int, ∃ r_Code69 : Int, w59.cell? ⟨b14, 0, none⟩ = some (.int .i64 r_Ip60) ∧ w59.cell? ⟨b14, 1, none⟩ = some (.int .i64 r_Handler61) ∧ w59.cell? ⟨b14, 2, none⟩ = some (r_Stack62.val) ∧ w59.cell? ⟨b14, 3, none⟩ = some (r_Back63.val) ∧ w59.cell? ⟨b14, 4, none⟩ = some (r_Mem64.val) ∧ w59.cell? ⟨b14, 5, none⟩ = some (.string r_Out65) ∧ w59.cell? ⟨b14, 6, none⟩ = some (.string r_In66) ∧ w59.cell? ⟨b14, 7, none⟩ = some (.int .i64 r_Read67) ∧ w59.cell? ⟨b14, 8, none⟩ = some (.int .i64 r_Status68) ∧ w59.cell? ⟨b14, 9, none⟩ = some (.int .i64 r_Code69) ∧
 K (.tuple #[.agg #[.int .i64 r_Ip60, .int .i64 r_Handler61, r_Stack62.val, r_Back63.val, r_Mem64.val, .string r_Out65, .string r_In66, .int .i64 r_Read67, .int .i64 r_Status68, .int .i64 r_Code69], .int .i64 fuel42]) w59)
def inner_Run_sh (s__Ip1 : Int) (s__Handler2 : Int) (s__Stack3 : Sl) (s__Back4 : Sl) (s__Mem5 : Sl) (s__Out6 : ByteArray) (s__In7 : ByteArray) (s__Read8 : Int) (s__Status9 : Int) (s__Code10 : Int) (fuel11 : Int) (w : World) (K : Value → World → Prop) : Prop :=
 ∀ (b12 : Nat) (w13 : World), b12 = w.heap.size → w13 = World.alloc w (.cells #[.int .i64 s__Ip1, .int .i64 s__Handler2, s__Stack3.val, s__Back4.val, s__Mem5.val, .string s__Out6, .string s__In7, .int .i64 s__Read8, .int .i64 s__Status9, .int .i64 s__Code10] T_api_State) →
 ∀ (b14 : Nat) (w15 : World), b14 = w13.heap.size → w15 = World.alloc w13 (.cells #[.int .i64 (0 : Int), .int .i64 (0 : Int), .slice none 0 0, .slice none 0 0, .slice none 0 0, .string (bs []), .string (bs []), .int .i64 (0 : Int), .int .i64 (0 : Int), .int .i64 (0 : Int)] T_api_State) →
 ∃ n_Ip16 : Int, ∃ n_Handler17 : Int, ∃ s_Stack18 : Sl, ∃ s_Back19 : Sl, ∃ s_Mem20 : Sl, ∃ t_Out21 : ByteArray, ∃ t_In22 : ByteArray, ∃ n_Read23 : Int, ∃ n_Status24 : Int, ∃ n_Code25 : Int, w15.cell? ⟨b12, 0, none⟩ = some (.int .i64 n_Ip16) ∧ w15.cell? ⟨b12, 1, none⟩ = some (.int .i64 n_Handler17) ∧ w15.cell? ⟨b12, 2, none⟩ = some (s_Stack18.val) ∧ w15.cell? ⟨b12, 3, none⟩ = some (s_Back19.val) ∧ w15.cell? ⟨b12, 4, none⟩ = some (s_Mem20.val) ∧ w15.cell? ⟨b12, 5, none⟩ = some (.string t_Out21) ∧ w15.cell? ⟨b12, 6, none⟩ = some (.string t_In22) ∧ w15.cell? ⟨b12, 7, none⟩ = some (.int .i64 n_Read23) ∧ w15.cell? ⟨b12, 8, none⟩ = some (.int .i64 n_Status24) ∧ w15.cell? ⟨b12, 9, none⟩ = some (.int .i64 n_Code25) ∧
 Calls Tryz.prog fn_inner_Copy #[.agg #[.int .i64 n_Ip16, .int .i64 n_Handler17, s_Stack18.val, s_Back19.val, s_Mem20.val, .string t_Out21, .string t_In22, .int .i64 n_Read23, .int .i64 n_Status24, .int .i64 n_Code25]] w15 fun e26 w27 => ∃ n_Ip28 : Int, ∃ n_Handler29 : Int, ∃ s_Stack30 : Sl, ∃ s_Back31 : Sl, ∃ s_Mem32 : Sl, ∃ t_Out33 : ByteArray, ∃ t_In34 : ByteArray, ∃ n_Read35 : Int, ∃ n_Status36 : Int, ∃ n_Code37 : Int, e26 = .returned (.agg #[.int .i64 n_Ip28, .int .i64 n_Handler29, s_Stack30.val, s_Back31.val, s_Mem32.val, .string t_Out33, .string t_In34, .int .i64 n_Read35, .int .i64 n_Status36, .int .i64 n_Code37]) ∧
 ∀ (b38 : Nat) (w39 : World), b38 = w27.heap.size → w39 = World.alloc w27 (.cells #[.int .i64 n_Ip28, .int .i64 n_Handler29, s_Stack30.val, s_Back31.val, s_Mem32.val, .string t_Out33, .string t_In34, .int .i64 n_Read35, .int .i64 n_Status36, .int .i64 n_Code37, .bool false] T_inner_machine) →
 ∃ (I1 : Int → World → Prop) (μ1 : Int → World → Nat), I1 fuel11 w39 ∧ ∀ (fuel42 : Int) (w40 : World), I1 fuel42 w40 →
 ∃ n41 : Int, w40.cell? ⟨b38, 8, none⟩ = some (.int .i64 n41) ∧
 brB (n41 == (0 : Int))
 (inner_Run_j1 b38 I1 fuel42 (μ1) w40 b14 (decide (fuel42 > (0 : Int))) w40 K)
 (inner_Run_j1 b38 I1 fuel42 (μ1) w40 b14 false w40 K)
def inner_Run_an : An := ⟨[(2, [(1, .int .i64)])], [], []⟩
theorem inner_Run_lift {s__Ip1 : Int} {s__Handler2 : Int} {s__Stack3 : Sl} {s__Back4 : Sl} {s__Mem5 : Sl} {s__Out6 : ByteArray} {s__In7 : ByteArray} {s__Read8 : Int} {s__Status9 : Int} {s__Code10 : Int} {fuel11 : Int} {w : World} {K : Value → World → Prop} (h : inner_Run_sh s__Ip1 s__Handler2 s__Stack3 s__Back4 s__Mem5 s__Out6 s__In7 s__Read8 s__Status9 s__Code10 fuel11 w K) : Calls Tryz.prog fn_inner_Run #[.agg #[.int .i64 s__Ip1, .int .i64 s__Handler2, s__Stack3.val, s__Back4.val, s__Mem5.val, .string s__Out6, .string s__In7, .int .i64 s__Read8, .int .i64 s__Status9, .int .i64 s__Code10], .int .i64 fuel11] w fun e w' => ∃ v, e = .returned v ∧ K v w' :=
   lift_calls (A := inner_Run_an) (c := bodyOf Tryz.f26) (args := [.agg #[.int .i64 s__Ip1, .int .i64 s__Handler2, s__Stack3.val, s__Back4.val, s__Mem5.val, .string s__Out6, .string s__In7, .int .i64 s__Read8, .int .i64 s__Status9, .int .i64 s__Code10], .int .i64 fuel11]) orc orc_wide Tryz.func26 (by kernel_rfl) (by kernel_rfl) (Eq.mp (by kernel_rfl : inner_Run_sh s__Ip1 s__Handler2 s__Stack3 s__Back4 s__Mem5 s__Out6 s__In7 s__Read8 s__Status9 s__Code10 fuel11 w K = wpc orc Tryz.f26.ntmps inner_Run_an (bodyOf Tryz.f26) (argl 0 [.agg #[.int .i64 s__Ip1, .int .i64 s__Handler2, s__Stack3.val, s__Back4.val, s__Mem5.val, .string s__Out6, .string s__In7, .int .i64 s__Read8, .int .i64 s__Status9, .int .i64 s__Code10], .int .i64 fuel11]) w (retQ orc Tryz.f26.results.toList K)) h)

-- holloway/inner.Boot$1
-- holloway/inner.faulty
def inner_faulty_sh (s__Ip1 : Int) (s__Handler2 : Int) (s__Stack3 : Sl) (s__Back4 : Sl) (s__Mem5 : Sl) (s__Out6 : ByteArray) (s__In7 : ByteArray) (s__Read8 : Int) (s__Status9 : Int) (s__Code10 : Int) (code11 : Int) (w : World) (K : Value → World → Prop) : Prop :=
 ∀ (b12 : Nat) (w13 : World), b12 = w.heap.size → w13 = World.alloc w (.cells #[.int .i64 s__Ip1, .int .i64 s__Handler2, s__Stack3.val, s__Back4.val, s__Mem5.val, .string s__Out6, .string s__In7, .int .i64 s__Read8, .int .i64 s__Status9, .int .i64 s__Code10] T_api_State) →
 ∀ (b14 : Nat) (w15 : World), b14 = w13.heap.size → w15 = World.alloc w13 (.cells #[.int .i64 (0 : Int), .int .i64 (0 : Int), .slice none 0 0, .slice none 0 0, .slice none 0 0, .string (bs []), .string (bs []), .int .i64 (0 : Int), .int .i64 (0 : Int), .int .i64 (0 : Int)] T_api_State) →
 ∃ n_Ip16 : Int, ∃ n_Handler17 : Int, ∃ s_Stack18 : Sl, ∃ s_Back19 : Sl, ∃ s_Mem20 : Sl, ∃ t_Out21 : ByteArray, ∃ t_In22 : ByteArray, ∃ n_Read23 : Int, ∃ n_Status24 : Int, ∃ n_Code25 : Int, w15.cell? ⟨b12, 0, none⟩ = some (.int .i64 n_Ip16) ∧ w15.cell? ⟨b12, 1, none⟩ = some (.int .i64 n_Handler17) ∧ w15.cell? ⟨b12, 2, none⟩ = some (s_Stack18.val) ∧ w15.cell? ⟨b12, 3, none⟩ = some (s_Back19.val) ∧ w15.cell? ⟨b12, 4, none⟩ = some (s_Mem20.val) ∧ w15.cell? ⟨b12, 5, none⟩ = some (.string t_Out21) ∧ w15.cell? ⟨b12, 6, none⟩ = some (.string t_In22) ∧ w15.cell? ⟨b12, 7, none⟩ = some (.int .i64 n_Read23) ∧ w15.cell? ⟨b12, 8, none⟩ = some (.int .i64 n_Status24) ∧ w15.cell? ⟨b12, 9, none⟩ = some (.int .i64 n_Code25) ∧
 Calls Tryz.prog fn_inner_caught #[.agg #[.int .i64 n_Ip16, .int .i64 n_Handler17, s_Stack18.val, s_Back19.val, s_Mem20.val, .string t_Out21, .string t_In22, .int .i64 n_Read23, .int .i64 n_Status24, .int .i64 n_Code25]] w15 fun e26 w27 => ∃ n28 : Int, ∃ b29 : Bool, e26 = .returned (.tuple #[.int .i64 n28, .bool b29]) ∧
 brB (!b29)
 (wrOk w27 ⟨b12, 8, none⟩ 1 ∧ ∀ w30 : World, w30 = stW w27 ⟨b12, 8, none⟩ 0 [.int .i64 (2 : Int)] →
 wrOk w30 ⟨b12, 9, none⟩ 1 ∧ ∀ w31 : World, w31 = stW w30 ⟨b12, 9, none⟩ 0 [.int .i64 code11] →
 ∃ n_Ip32 : Int, ∃ n_Handler33 : Int, ∃ s_Stack34 : Sl, ∃ s_Back35 : Sl, ∃ s_Mem36 : Sl, ∃ t_Out37 : ByteArray, ∃ t_In38 : ByteArray, ∃ n_Read39 : Int, ∃ n_Status40 : Int, ∃ n_Code41 : Int, w31.cell? ⟨b12, 0, none⟩ = some (.int .i64 n_Ip32) ∧ w31.cell? ⟨b12, 1, none⟩ = some (.int .i64 n_Handler33) ∧ w31.cell? ⟨b12, 2, none⟩ = some (s_Stack34.val) ∧ w31.cell? ⟨b12, 3, none⟩ = some (s_Back35.val) ∧ w31.cell? ⟨b12, 4, none⟩ = some (s_Mem36.val) ∧ w31.cell? ⟨b12, 5, none⟩ = some (.string t_Out37) ∧ w31.cell? ⟨b12, 6, none⟩ = some (.string t_In38) ∧ w31.cell? ⟨b12, 7, none⟩ = some (.int .i64 n_Read39) ∧ w31.cell? ⟨b12, 8, none⟩ = some (.int .i64 n_Status40) ∧ w31.cell? ⟨b12, 9, none⟩ = some (.int .i64 n_Code41) ∧
 wrOk w31 ⟨b14, 0, none⟩ 10 ∧ ∀ w42 : World, w42 = stW w31 ⟨b14, 0, none⟩ 0 [.int .i64 n_Ip32, .int .i64 n_Handler33, s_Stack34.val, s_Back35.val, s_Mem36.val, .string t_Out37, .string t_In38, .int .i64 n_Read39, .int .i64 n_Status40, .int .i64 n_Code41] →
 ∃ r_Ip43 : Int, ∃ r_Handler44 : Int, ∃ r_Stack45 : Sl, ∃ r_Back46 : Sl, ∃ r_Mem47 : Sl, ∃ r_Out48 : ByteArray, ∃ r_In49 : ByteArray, ∃ r_Read50 : Int, ∃ r_Status51 : Int, ∃ r_Code52 : Int, w42.cell? ⟨b14, 0, none⟩ = some (.int .i64 r_Ip43) ∧ w42.cell? ⟨b14, 1, none⟩ = some (.int .i64 r_Handler44) ∧ w42.cell? ⟨b14, 2, none⟩ = some (r_Stack45.val) ∧ w42.cell? ⟨b14, 3, none⟩ = some (r_Back46.val) ∧ w42.cell? ⟨b14, 4, none⟩ = some (r_Mem47.val) ∧ w42.cell? ⟨b14, 5, none⟩ = some (.string r_Out48) ∧ w42.cell? ⟨b14, 6, none⟩ = some (.string r_In49) ∧ w42.cell? ⟨b14, 7, none⟩ = some (.int .i64 r_Read50) ∧ w42.cell? ⟨b14, 8, none⟩ = some (.int .i64 r_Status51) ∧ w42.cell? ⟨b14, 9, none⟩ = some (.int .i64 r_Code52) ∧
 K (.agg #[.int .i64 r_Ip43, .int .i64 r_Handler44, r_Stack45.val, r_Back46.val, r_Mem47.val, .string r_Out48, .string r_In49, .int .i64 r_Read50, .int .i64 r_Status51, .int .i64 r_Code52]) w42)
 (∃ n53 : Int, w27.cell? ⟨b12, 1, none⟩ = some (.int .i64 n53) ∧
 ∀ w54 : World, w54 = World.drew w27 →
 ∃ S55 : World → Prop, S55 w54 ∧
 ∃ s56 : Sl, held S55 ⟨b12, 3, none⟩ (s56.val) ∧
 ∃ a57 : Addr, s56.ptr = some a57 ∧ 0 ≤ (wr (n53 - (3 : Int))) ∧ (wr (n53 - (3 : Int))) < (s56.len : Int) ∧
 ∃ n58 : Int, held S55 (Addr.add a57 (Int.toNat (wr (n53 - (3 : Int))) * 1)) (.int .i64 n58) ∧
 ∃ s59 : Sl, held S55 ⟨b12, 3, none⟩ (s59.val) ∧
 ∃ a60 : Addr, s59.ptr = some a60 ∧ 0 ≤ (wr ((wr (n53 - (3 : Int))) + (1 : Int))) ∧ (wr ((wr (n53 - (3 : Int))) + (1 : Int))) < (s59.len : Int) ∧
 ∃ n61 : Int, held S55 (Addr.add a60 (Int.toNat (wr ((wr (n53 - (3 : Int))) + (1 : Int))) * 1)) (.int .i64 n61) ∧
 ∃ s62 : Sl, held S55 ⟨b12, 3, none⟩ (s62.val) ∧
 0 ≤ (wr (n53 - (3 : Int))) ∧ (wr (n53 - (3 : Int))) ≤ (s62.cap : Int) ∧ 
 wrOk w54 ⟨b12, 0, none⟩ 1 ∧ ∀ w63 : World, w63 = stW w54 ⟨b12, 0, none⟩ 0 [.int .i64 n58] →
 S55 w63 ∧
 wrOk w63 ⟨b12, 1, none⟩ 1 ∧ ∀ w64 : World, w64 = stW w63 ⟨b12, 1, none⟩ 0 [.int .i64 n61] →
 S55 w64 ∧
 wrOk w64 ⟨b12, 3, none⟩ 1 ∧ ∀ w65 : World, w65 = stW w64 ⟨b12, 3, none⟩ 0 [(Sl.sub s62.ptr s62.cap 0 (Int.toNat (wr (n53 - (3 : Int)))) 1).val] →
 ∃ s66 : Sl, w65.cell? ⟨b12, 2, none⟩ = some (s66.val) ∧
 ∃ s67 : Sl, w65.cell? ⟨b12, 2, none⟩ = some (s67.val) ∧
 0 ≤ (imin n28 (s67.len : Int)) ∧ (imin n28 (s67.len : Int)) ≤ (s66.cap : Int) ∧ ∀ s68 : Sl, s68 = Sl.sub s66.ptr s66.cap 0 (Int.toNat (imin n28 (s67.len : Int))) 1 →
 Calls Tryz.prog fn_slices_Clone_sl_int_int #[s68.val] w65 fun e69 w70 => ∃ s71 : Sl, e69 = .returned (s71.val) ∧
 wrOk w70 ⟨b12, 2, none⟩ 1 ∧ ∀ w72 : World, w72 = stW w70 ⟨b12, 2, none⟩ 0 [s71.val] →
 ∃ (I1 : World → Prop) (μ1 : World → Nat), I1  w72 ∧ ∀ (w73 : World), I1  w73 →
 ∃ s74 : Sl, w73.cell? ⟨b12, 2, none⟩ = some (s74.val) ∧
 brB (decide ((s74.len : Int) < n28))
 (∃ s75 : Sl, w73.cell? ⟨b12, 2, none⟩ = some (s75.val) ∧
 ∀ (b76 : Nat) (w77 : World), b76 = w73.heap.size → w77 = World.alloc w73 (.cells #[.int .i64 (0 : Int)] T_int) →
 ∃ s78 : Sl, ∃ w79 : World, (Builtin.append_ #[T_sl_int, T_sl_int] T_sl_int #[s75.val, .slice (some ⟨b76, 0, none⟩) 1 1]).run Tryz.prog w77 = .ok (s78.val) w79 ∧
 wrOk w79 ⟨b12, 2, none⟩ 1 ∧ ∀ w80 : World, w80 = stW w79 ⟨b12, 2, none⟩ 0 [s78.val] →
 I1  w80 ∧ μ1  w80 < μ1  w73)
 (∃ s81 : Sl, w73.cell? ⟨b12, 2, none⟩ = some (s81.val) ∧
 ∀ (b82 : Nat) (w83 : World), b82 = w73.heap.size → w83 = World.alloc w73 (.cells #[.int .i64 code11] T_int) →
 ∃ s84 : Sl, ∃ w85 : World, (Builtin.append_ #[T_sl_int, T_sl_int] T_sl_int #[s81.val, .slice (some ⟨b82, 0, none⟩) 1 1]).run Tryz.prog w83 = .ok (s84.val) w85 ∧
 wrOk w85 ⟨b12, 2, none⟩ 1 ∧ ∀ w86 : World, w86 = stW w85 ⟨b12, 2, none⟩ 0 [s84.val] →
 ∃ n_Ip87 : Int, ∃ n_Handler88 : Int, ∃ s_Stack89 : Sl, ∃ s_Back90 : Sl, ∃ s_Mem91 : Sl, ∃ t_Out92 : ByteArray, ∃ t_In93 : ByteArray, ∃ n_Read94 : Int, ∃ n_Status95 : Int, ∃ n_Code96 : Int, w86.cell? ⟨b12, 0, none⟩ = some (.int .i64 n_Ip87) ∧ w86.cell? ⟨b12, 1, none⟩ = some (.int .i64 n_Handler88) ∧ w86.cell? ⟨b12, 2, none⟩ = some (s_Stack89.val) ∧ w86.cell? ⟨b12, 3, none⟩ = some (s_Back90.val) ∧ w86.cell? ⟨b12, 4, none⟩ = some (s_Mem91.val) ∧ w86.cell? ⟨b12, 5, none⟩ = some (.string t_Out92) ∧ w86.cell? ⟨b12, 6, none⟩ = some (.string t_In93) ∧ w86.cell? ⟨b12, 7, none⟩ = some (.int .i64 n_Read94) ∧ w86.cell? ⟨b12, 8, none⟩ = some (.int .i64 n_Status95) ∧ w86.cell? ⟨b12, 9, none⟩ = some (.int .i64 n_Code96) ∧
 wrOk w86 ⟨b14, 0, none⟩ 10 ∧ ∀ w97 : World, w97 = stW w86 ⟨b14, 0, none⟩ 0 [.int .i64 n_Ip87, .int .i64 n_Handler88, s_Stack89.val, s_Back90.val, s_Mem91.val, .string t_Out92, .string t_In93, .int .i64 n_Read94, .int .i64 n_Status95, .int .i64 n_Code96] →
 ∃ r_Ip98 : Int, ∃ r_Handler99 : Int, ∃ r_Stack100 : Sl, ∃ r_Back101 : Sl, ∃ r_Mem102 : Sl, ∃ r_Out103 : ByteArray, ∃ r_In104 : ByteArray, ∃ r_Read105 : Int, ∃ r_Status106 : Int, ∃ r_Code107 : Int, w97.cell? ⟨b14, 0, none⟩ = some (.int .i64 r_Ip98) ∧ w97.cell? ⟨b14, 1, none⟩ = some (.int .i64 r_Handler99) ∧ w97.cell? ⟨b14, 2, none⟩ = some (r_Stack100.val) ∧ w97.cell? ⟨b14, 3, none⟩ = some (r_Back101.val) ∧ w97.cell? ⟨b14, 4, none⟩ = some (r_Mem102.val) ∧ w97.cell? ⟨b14, 5, none⟩ = some (.string r_Out103) ∧ w97.cell? ⟨b14, 6, none⟩ = some (.string r_In104) ∧ w97.cell? ⟨b14, 7, none⟩ = some (.int .i64 r_Read105) ∧ w97.cell? ⟨b14, 8, none⟩ = some (.int .i64 r_Status106) ∧ w97.cell? ⟨b14, 9, none⟩ = some (.int .i64 r_Code107) ∧
 K (.agg #[.int .i64 r_Ip98, .int .i64 r_Handler99, r_Stack100.val, r_Back101.val, r_Mem102.val, .string r_Out103, .string r_In104, .int .i64 r_Read105, .int .i64 r_Status106, .int .i64 r_Code107]) w97))
def inner_faulty_an : An := ⟨[(8, [])], [(6, (19, .st 0 (.st 1 (.st 2 (.st 3 (.st 4 (.st 5 (.st 6 (.st 7 (.st 8 (.st 9 (.st 10 (.st 11 (.st 12 (.st 13 (.st 14 (.st 15 (.ef 16 (.st 17 (.ef 18 .done)))))))))))))))))), 1))], []⟩
theorem inner_faulty_lift {s__Ip1 : Int} {s__Handler2 : Int} {s__Stack3 : Sl} {s__Back4 : Sl} {s__Mem5 : Sl} {s__Out6 : ByteArray} {s__In7 : ByteArray} {s__Read8 : Int} {s__Status9 : Int} {s__Code10 : Int} {code11 : Int} {w : World} {K : Value → World → Prop} (h : inner_faulty_sh s__Ip1 s__Handler2 s__Stack3 s__Back4 s__Mem5 s__Out6 s__In7 s__Read8 s__Status9 s__Code10 code11 w K) : Calls Tryz.prog fn_inner_faulty #[.agg #[.int .i64 s__Ip1, .int .i64 s__Handler2, s__Stack3.val, s__Back4.val, s__Mem5.val, .string s__Out6, .string s__In7, .int .i64 s__Read8, .int .i64 s__Status9, .int .i64 s__Code10], .int .i64 code11] w fun e w' => ∃ v, e = .returned v ∧ K v w' :=
   lift_calls (A := inner_faulty_an) (c := bodyOf Tryz.f44) (args := [.agg #[.int .i64 s__Ip1, .int .i64 s__Handler2, s__Stack3.val, s__Back4.val, s__Mem5.val, .string s__Out6, .string s__In7, .int .i64 s__Read8, .int .i64 s__Status9, .int .i64 s__Code10], .int .i64 code11]) orc orc_wide Tryz.func44 (by kernel_rfl) (by kernel_rfl) (Eq.mp (by kernel_rfl : inner_faulty_sh s__Ip1 s__Handler2 s__Stack3 s__Back4 s__Mem5 s__Out6 s__In7 s__Read8 s__Status9 s__Code10 code11 w K = wpc orc Tryz.f44.ntmps inner_faulty_an (bodyOf Tryz.f44) (argl 0 [.agg #[.int .i64 s__Ip1, .int .i64 s__Handler2, s__Stack3.val, s__Back4.val, s__Mem5.val, .string s__Out6, .string s__In7, .int .i64 s__Read8, .int .i64 s__Status9, .int .i64 s__Code10], .int .i64 code11]) w (retQ orc Tryz.f44.results.toList K)) h)

-- (*holloway/inner.machine).advance
def inner_machine_advance_sh (m_1 : Nat) (w : World) (K : Value → World → Prop) : Prop :=
 ∃ n_Ip2 : Int, ∃ n_Handler3 : Int, ∃ s_Stack4 : Sl, ∃ s_Back5 : Sl, ∃ s_Mem6 : Sl, ∃ t_Out7 : ByteArray, ∃ t_In8 : ByteArray, ∃ n_Read9 : Int, ∃ n_Status10 : Int, ∃ n_Code11 : Int, w.cell? ⟨m_1, 0, none⟩ = some (.int .i64 n_Ip2) ∧ w.cell? ⟨m_1, 1, none⟩ = some (.int .i64 n_Handler3) ∧ w.cell? ⟨m_1, 2, none⟩ = some (s_Stack4.val) ∧ w.cell? ⟨m_1, 3, none⟩ = some (s_Back5.val) ∧ w.cell? ⟨m_1, 4, none⟩ = some (s_Mem6.val) ∧ w.cell? ⟨m_1, 5, none⟩ = some (.string t_Out7) ∧ w.cell? ⟨m_1, 6, none⟩ = some (.string t_In8) ∧ w.cell? ⟨m_1, 7, none⟩ = some (.int .i64 n_Read9) ∧ w.cell? ⟨m_1, 8, none⟩ = some (.int .i64 n_Status10) ∧ w.cell? ⟨m_1, 9, none⟩ = some (.int .i64 n_Code11) ∧
 ∀ (b12 : Nat) (w13 : World), b12 = w.heap.size → w13 = World.alloc w (.cells #[.int .i64 (0 : Int), .int .i64 (0 : Int), .slice none 0 0, .slice none 0 0, .slice none 0 0, .string (bs []), .string (bs []), .int .i64 (0 : Int), .int .i64 (0 : Int), .int .i64 (0 : Int)] T_api_State) →
 wrOk w13 ⟨b12, 0, none⟩ 10 ∧ ∀ w14 : World, w14 = stW w13 ⟨b12, 0, none⟩ 0 [.int .i64 n_Ip2, .int .i64 n_Handler3, s_Stack4.val, s_Back5.val, s_Mem6.val, .string t_Out7, .string t_In8, .int .i64 n_Read9, .int .i64 n_Status10, .int .i64 n_Code11] →
 ∀ w15 : World, w15 = World.drew w14 →
 ∃ S16 : World → Prop, S16 w15 ∧
 ∃ s17 : Sl, held S16 ⟨m_1, 2, none⟩ (s17.val) ∧
 ∃ s18 : Sl, held S16 ⟨m_1, 3, none⟩ (s18.val) ∧
 Calls Tryz.prog fn_slices_Clone_sl_int_int #[s17.val] w15 fun e19 w20 => ∃ s21 : Sl, e19 = .returned (s21.val) ∧
 S16 w20 ∧
 Calls Tryz.prog fn_slices_Clone_sl_int_int #[s18.val] w20 fun e22 w23 => ∃ s24 : Sl, e22 = .returned (s24.val) ∧
 S16 w23 ∧
 wrOk w23 ⟨b12, 2, none⟩ 1 ∧ ∀ w25 : World, w25 = stW w23 ⟨b12, 2, none⟩ 0 [s21.val] →
 wrOk w25 ⟨b12, 3, none⟩ 1 ∧ ∀ w26 : World, w26 = stW w25 ⟨b12, 3, none⟩ 0 [s24.val] →
 wrOk w26 ⟨m_1, 10, none⟩ 1 ∧ ∀ w27 : World, w27 = stW w26 ⟨m_1, 10, none⟩ 0 [.bool false] →
 Calls Tryz.prog fn_inner_machine_step #[.pointer (some ⟨m_1, 0, none⟩)] w27 fun e28 w29 => ∃ v30 : Value, e28 = .returned (v30) ∧
 ∃ b31 : Bool, ∃ w32 : World, ((do eqGuard .eql T_error (.tmp 27) (.const (.nilIface)) (v30) (.nilIface); binOp .eql T_error (v30) (.nilIface) : Sem Value)).run Tryz.prog w29 = .ok (.bool b31) w32 ∧
 brB b31
 (K (.tuple #[]) w32)
 (∃ J7 : World → Prop, (∀ (w38 : World), J7  w38 →
 ∀ w39 : World, w39 = World.drew w38 →
 ∃ S40 : World → Prop, S40 w39 ∧
 ∃ n_Ip41 : Int, ∃ n_Handler42 : Int, ∃ s_Stack43 : Sl, ∃ s_Back44 : Sl, ∃ s_Mem45 : Sl, ∃ t_Out46 : ByteArray, ∃ t_In47 : ByteArray, ∃ n_Read48 : Int, ∃ n_Status49 : Int, ∃ n_Code50 : Int, held S40 ⟨b12, 0, none⟩ (.int .i64 n_Ip41) ∧ held S40 ⟨b12, 1, none⟩ (.int .i64 n_Handler42) ∧ held S40 ⟨b12, 2, none⟩ (s_Stack43.val) ∧ held S40 ⟨b12, 3, none⟩ (s_Back44.val) ∧ held S40 ⟨b12, 4, none⟩ (s_Mem45.val) ∧ held S40 ⟨b12, 5, none⟩ (.string t_Out46) ∧ held S40 ⟨b12, 6, none⟩ (.string t_In47) ∧ held S40 ⟨b12, 7, none⟩ (.int .i64 n_Read48) ∧ held S40 ⟨b12, 8, none⟩ (.int .i64 n_Status49) ∧ held S40 ⟨b12, 9, none⟩ (.int .i64 n_Code50) ∧
 Calls Tryz.prog fn_fault_Code #[v30] w39 fun e51 w52 => ∃ n53 : Int, e51 = .returned (.int .i64 n53) ∧
 S40 w52 ∧
 Calls Tryz.prog fn_inner_faulty #[.agg #[.int .i64 n_Ip41, .int .i64 n_Handler42, s_Stack43.val, s_Back44.val, s_Mem45.val, .string t_Out46, .string t_In47, .int .i64 n_Read48, .int .i64 n_Status49, .int .i64 n_Code50], .int .i64 n53] w52 fun e54 w55 => ∃ n_Ip56 : Int, ∃ n_Handler57 : Int, ∃ s_Stack58 : Sl, ∃ s_Back59 : Sl, ∃ s_Mem60 : Sl, ∃ t_Out61 : ByteArray, ∃ t_In62 : ByteArray, ∃ n_Read63 : Int, ∃ n_Status64 : Int, ∃ n_Code65 : Int, e54 = .returned (.agg #[.int .i64 n_Ip56, .int .i64 n_Handler57, s_Stack58.val, s_Back59.val, s_Mem60.val, .string t_Out61, .string t_In62, .int .i64 n_Read63, .int .i64 n_Status64, .int .i64 n_Code65]) ∧
 S40 w55 ∧
 wrOk w55 ⟨m_1, 0, none⟩ 10 ∧ ∀ w66 : World, w66 = stW w55 ⟨m_1, 0, none⟩ 0 [.int .i64 n_Ip56, .int .i64 n_Handler57, s_Stack58.val, s_Back59.val, s_Mem60.val, .string t_Out61, .string t_In62, .int .i64 n_Read63, .int .i64 n_Status64, .int .i64 n_Code65] →
 K (.tuple #[]) w66) ∧
 ∃ b33 : Bool, w32.cell? ⟨m_1, 10, none⟩ = some (.bool b33) ∧
 brB b33
 (∃ s34 : Sl, w32.cell? ⟨b12, 2, none⟩ = some (s34.val) ∧
 ∃ s35 : Sl, w32.cell? ⟨b12, 2, none⟩ = some (s35.val) ∧
 0 ≤ (wr ((s35.len : Int) - (1 : Int))) ∧ (wr ((s35.len : Int) - (1 : Int))) ≤ (s34.cap : Int) ∧ ∀ s36 : Sl, s36 = Sl.sub s34.ptr s34.cap 0 (Int.toNat (wr ((s35.len : Int) - (1 : Int)))) 1 →
 wrOk w32 ⟨b12, 2, none⟩ 1 ∧ ∀ w37 : World, w37 = stW w32 ⟨b12, 2, none⟩ 0 [s36.val] →
 J7  w37)
 (J7  w32))
def inner_machine_advance_an : An := ⟨[], [(1, (13, .st 0 (.st 1 (.st 2 (.st 3 (.st 4 (.st 6 (.st 7 (.st 8 (.st 9 (.st 10 (.ef 5 (.st 12 (.ef 11 .done)))))))))))), 1)), (7, (5, .st 0 (.st 1 (.st 2 (.ef 3 (.ef 4 .done)))), 1))], [(7, [])]⟩
theorem inner_machine_advance_lift {m_1 : Nat} {w : World} {K : Value → World → Prop} (h : inner_machine_advance_sh m_1 w K) : Calls Tryz.prog fn_inner_machine_advance #[.pointer (some ⟨m_1, 0, none⟩)] w fun e w' => ∃ v, e = .returned v ∧ K v w' :=
   lift_calls (A := inner_machine_advance_an) (c := bodyOf Tryz.f79) (args := [.pointer (some ⟨m_1, 0, none⟩)]) orc orc_wide Tryz.func79 (by kernel_rfl) (by kernel_rfl) (Eq.mp (by kernel_rfl : inner_machine_advance_sh m_1 w K = wpc orc Tryz.f79.ntmps inner_machine_advance_an (bodyOf Tryz.f79) (argl 0 [.pointer (some ⟨m_1, 0, none⟩)]) w (retQ orc Tryz.f79.results.toList K)) h)

-- holloway/inner.caught
def inner_caught_sh (s__Ip1 : Int) (s__Handler2 : Int) (s__Stack3 : Sl) (s__Back4 : Sl) (s__Mem5 : Sl) (s__Out6 : ByteArray) (s__In7 : ByteArray) (s__Read8 : Int) (s__Status9 : Int) (s__Code10 : Int) (w : World) (K : Value → World → Prop) : Prop :=
 ∀ (b11 : Nat) (w12 : World), b11 = w.heap.size → w12 = World.alloc w (.cells #[.int .i64 s__Ip1, .int .i64 s__Handler2, s__Stack3.val, s__Back4.val, s__Mem5.val, .string s__Out6, .string s__In7, .int .i64 s__Read8, .int .i64 s__Status9, .int .i64 s__Code10] T_api_State) →
 ∃ J3 : Bool → World → Prop, (∀ (b17 : Bool) (w16 : World), J3 b17 w16 →
 brB b17
 (K (.tuple #[.int .i64 (0 : Int), .bool false]) w16)
 (∃ s18 : Sl, w16.cell? ⟨b11, 3, none⟩ = some (s18.val) ∧
 ∃ n19 : Int, w16.cell? ⟨b11, 1, none⟩ = some (.int .i64 n19) ∧
 ∃ a20 : Addr, s18.ptr = some a20 ∧ 0 ≤ (wr (n19 - (1 : Int))) ∧ (wr (n19 - (1 : Int))) < (s18.len : Int) ∧
 ∃ n21 : Int, w16.cell? (Addr.add a20 (Int.toNat (wr (n19 - (1 : Int))) * 1)) = some (.int .i64 n21) ∧
 brB (decide (n21 ≥ (0 : Int)))
 (K (.tuple #[.int .i64 n21, .bool (decide (n21 < (48 : Int)))]) w16)
 (K (.tuple #[.int .i64 n21, .bool false]) w16))) ∧
 ∃ n13 : Int, w12.cell? ⟨b11, 1, none⟩ = some (.int .i64 n13) ∧
 brB (decide (n13 < (3 : Int)))
 (J3 true w12)
 (∃ n14 : Int, w12.cell? ⟨b11, 1, none⟩ = some (.int .i64 n14) ∧
 ∃ s15 : Sl, w12.cell? ⟨b11, 3, none⟩ = some (s15.val) ∧
 J3 (decide (n14 > (s15.len : Int))) w12)
def inner_caught_an : An := ⟨[], [], [(2, [(15, .bool)])]⟩
theorem inner_caught_lift {s__Ip1 : Int} {s__Handler2 : Int} {s__Stack3 : Sl} {s__Back4 : Sl} {s__Mem5 : Sl} {s__Out6 : ByteArray} {s__In7 : ByteArray} {s__Read8 : Int} {s__Status9 : Int} {s__Code10 : Int} {w : World} {K : Value → World → Prop} (h : inner_caught_sh s__Ip1 s__Handler2 s__Stack3 s__Back4 s__Mem5 s__Out6 s__In7 s__Read8 s__Status9 s__Code10 w K) : Calls Tryz.prog fn_inner_caught #[.agg #[.int .i64 s__Ip1, .int .i64 s__Handler2, s__Stack3.val, s__Back4.val, s__Mem5.val, .string s__Out6, .string s__In7, .int .i64 s__Read8, .int .i64 s__Status9, .int .i64 s__Code10]] w fun e w' => ∃ v, e = .returned v ∧ K v w' :=
   lift_calls (A := inner_caught_an) (c := bodyOf Tryz.f89) (args := [.agg #[.int .i64 s__Ip1, .int .i64 s__Handler2, s__Stack3.val, s__Back4.val, s__Mem5.val, .string s__Out6, .string s__In7, .int .i64 s__Read8, .int .i64 s__Status9, .int .i64 s__Code10]]) orc orc_wide Tryz.func89 (by kernel_rfl) (by kernel_rfl) (Eq.mp (by kernel_rfl : inner_caught_sh s__Ip1 s__Handler2 s__Stack3 s__Back4 s__Mem5 s__Out6 s__In7 s__Read8 s__Status9 s__Code10 w K = wpc orc Tryz.f89.ntmps inner_caught_an (bodyOf Tryz.f89) (argl 0 [.agg #[.int .i64 s__Ip1, .int .i64 s__Handler2, s__Stack3.val, s__Back4.val, s__Mem5.val, .string s__Out6, .string s__In7, .int .i64 s__Read8, .int .i64 s__Status9, .int .i64 s__Code10]]) w (retQ orc Tryz.f89.results.toList K)) h)

-- (*holloway/inner.machine).step
def inner_machine_step_sh (m_1 : Nat) (w : World) (K : Value → World → Prop) : Prop :=
 ∃ n2 : Int, w.cell? ⟨m_1, 0, none⟩ = some (.int .i64 n2) ∧
 Calls Tryz.prog fn_inner_machine_load #[.pointer (some ⟨m_1, 0, none⟩), .int .i64 n2] w fun e3 w4 => ∃ n5 : Int, ∃ v6 : Value, e3 = .returned (.tuple #[.int .i64 n5, v6]) ∧
 ∃ b7 : Bool, ∃ w8 : World, ((do eqGuard .neq T_error (.tmp 20) (.const (.nilIface)) (v6) (.nilIface); binOp .neq T_error (v6) (.nilIface) : Sem Value)).run Tryz.prog w4 = .ok (.bool b7) w8 ∧
 brB b7
 (K (v6) w8)
 (brB (decide (n5 ≥ (64 : Int)))
 (Calls Tryz.prog fn_inner_machine_call #[.pointer (some ⟨m_1, 0, none⟩), .int .i64 n5] w8 fun e9 w10 => ∃ v11 : Value, e9 = .returned (v11) ∧
 K (v11) w10)
 (Calls Tryz.prog fn_op_Right #[.int .i64 n5] w8 fun e12 w13 => ∃ b14 : Bool, e12 = .returned (.bool b14) ∧
 brB (!b14)
 (Calls Tryz.prog fn_inner_machine_fails #[.pointer (some ⟨m_1, 0, none⟩), .int .i64 (-13 : Int)] w13 fun e15 w16 => ∃ v17 : Value, e15 = .returned (v17) ∧
 K (v17) w16)
 (∀ w18 : World, w18 = World.drew w13 →
 ∃ n19 : Int, held (Lw w18) ⟨m_1, 0, none⟩ (.int .i64 n19) ∧
 ∃ J13 : Int → Int → World → Prop, (∀ (arg49 : Int) (next47 : Int) (w29 : World), J13 arg49 next47 w29 →
 ∃ n_Ip30 : Int, ∃ n_Handler31 : Int, ∃ s_Stack32 : Sl, ∃ s_Back33 : Sl, ∃ s_Mem34 : Sl, ∃ t_Out35 : ByteArray, ∃ t_In36 : ByteArray, ∃ n_Read37 : Int, ∃ n_Status38 : Int, ∃ n_Code39 : Int, w29.cell? ⟨m_1, 0, none⟩ = some (.int .i64 n_Ip30) ∧ w29.cell? ⟨m_1, 1, none⟩ = some (.int .i64 n_Handler31) ∧ w29.cell? ⟨m_1, 2, none⟩ = some (s_Stack32.val) ∧ w29.cell? ⟨m_1, 3, none⟩ = some (s_Back33.val) ∧ w29.cell? ⟨m_1, 4, none⟩ = some (s_Mem34.val) ∧ w29.cell? ⟨m_1, 5, none⟩ = some (.string t_Out35) ∧ w29.cell? ⟨m_1, 6, none⟩ = some (.string t_In36) ∧ w29.cell? ⟨m_1, 7, none⟩ = some (.int .i64 n_Read37) ∧ w29.cell? ⟨m_1, 8, none⟩ = some (.int .i64 n_Status38) ∧ w29.cell? ⟨m_1, 9, none⟩ = some (.int .i64 n_Code39) ∧
 Calls Tryz.prog fn_inner_room #[.agg #[.int .i64 n_Ip30, .int .i64 n_Handler31, s_Stack32.val, s_Back33.val, s_Mem34.val, .string t_Out35, .string t_In36, .int .i64 n_Read37, .int .i64 n_Status38, .int .i64 n_Code39], .int .i64 n5] w29 fun e40 w41 => ∃ n42 : Int, e40 = .returned (.int .i64 n42) ∧
 brB (n42 != (0 : Int))
 (Calls Tryz.prog fn_inner_machine_fails #[.pointer (some ⟨m_1, 0, none⟩), .int .i64 n42] w41 fun e43 w44 => ∃ v45 : Value, e43 = .returned (v45) ∧
 K (v45) w44)
 (∃ n46 : Int, w41.cell? ⟨m_1, 0, none⟩ = some (.int .i64 n46) ∧
 wrOk w41 ⟨m_1, 0, none⟩ 1 ∧ ∀ w48 : World, w48 = stW w41 ⟨m_1, 0, none⟩ 0 [.int .i64 next47] →
 Calls Tryz.prog fn_inner_machine_do #[.pointer (some ⟨m_1, 0, none⟩), .int .i64 n5, .int .i64 arg49, .int .i64 n46] w48 fun e50 w51 => ∃ v52 : Value, e50 = .returned (v52) ∧
 ∃ b53 : Bool, ∃ w54 : World, ((do eqGuard .neq T_error (.tmp 78) (.const (.nilIface)) (v52) (.nilIface); binOp .neq T_error (v52) (.nilIface) : Sem Value)).run Tryz.prog w51 = .ok (.bool b53) w54 ∧
 brB b53
 (Calls Tryz.prog fn_op_Name #[.int .i64 n5] w54 fun e55 w56 => ∃ t57 : ByteArray, e55 = .returned (.string t57) ∧
 Calls Tryz.prog fn_fault_Wrap #[v52, .string t57] w56 fun e58 w59 => ∃ v60 : Value, e58 = .returned (v60) ∧
 K (v60) w59)
 (K (.nilIface) w54))) ∧
 Calls Tryz.prog fn_op_Arg #[.int .i64 n5] w18 fun e20 w21 => ∃ b22 : Bool, e20 = .returned (.bool b22) ∧
 brB b22
 (Calls Tryz.prog fn_inner_machine_load #[.pointer (some ⟨m_1, 0, none⟩), .int .i64 (wr (n19 + (1 : Int)))] w21 fun e23 w24 => ∃ n25 : Int, ∃ v26 : Value, e23 = .returned (.tuple #[.int .i64 n25, v26]) ∧
 ∃ b27 : Bool, ∃ w28 : World, ((do eqGuard .neq T_error (.tmp 47) (.const (.nilIface)) (v26) (.nilIface); binOp .neq T_error (v26) (.nilIface) : Sem Value)).run Tryz.prog w24 = .ok (.bool b27) w28 ∧
 brB b27
 (K (v26) w28)
 (J13 n25 (wr ((wr (n19 + (1 : Int))) + (1 : Int))) w28))
 (J13 (0 : Int) (wr (n19 + (1 : Int))) w21))))
def inner_machine_step_an : An := ⟨[], [(8, (8, .st 0 (.st 1 (.st 2 (.st 3 (.st 4 (.st 5 (.st 6 (.st 7 .done))))))), 0))], [(14, [(5, .int .i64), (6, .int .i64)])]⟩
theorem inner_machine_step_lift {m_1 : Nat} {w : World} {K : Value → World → Prop} (h : inner_machine_step_sh m_1 w K) : Calls Tryz.prog fn_inner_machine_step #[.pointer (some ⟨m_1, 0, none⟩)] w fun e w' => ∃ v, e = .returned v ∧ K v w' :=
   lift_calls (A := inner_machine_step_an) (c := bodyOf Tryz.f102) (args := [.pointer (some ⟨m_1, 0, none⟩)]) orc orc_wide Tryz.func102 (by kernel_rfl) (by kernel_rfl) (Eq.mp (by kernel_rfl : inner_machine_step_sh m_1 w K = wpc orc Tryz.f102.ntmps inner_machine_step_an (bodyOf Tryz.f102) (argl 0 [.pointer (some ⟨m_1, 0, none⟩)]) w (retQ orc Tryz.f102.results.toList K)) h)

-- (*holloway/inner.machine).load
def inner_machine_load_sh (m_1 : Nat) (a_2 : Int) (w : World) (K : Value → World → Prop) : Prop :=
 ∃ J3 : Bool → World → Prop, (∀ (b5 : Bool) (w4 : World), J3 b5 w4 →
 brB b5
 (Calls Tryz.prog fn_inner_machine_fails #[.pointer (some ⟨m_1, 0, none⟩), .int .i64 (-9 : Int)] w4 fun e6 w7 => ∃ v8 : Value, e6 = .returned (v8) ∧
 Calls Tryz.prog fn_fault_Wrap #[v8, .string (bs [99, 101, 108, 108])] w7 fun e9 w10 => ∃ v11 : Value, e9 = .returned (v11) ∧
 K (.tuple #[.int .i64 (0 : Int), v11]) w10)
 (∃ s12 : Sl, w4.cell? ⟨m_1, 4, none⟩ = some (s12.val) ∧
 ∃ a13 : Addr, s12.ptr = some a13 ∧ 0 ≤ a_2 ∧ a_2 < (s12.len : Int) ∧
 ∃ n14 : Int, w4.cell? (Addr.add a13 (Int.toNat a_2 * 1)) = some (.int .i64 n14) ∧
 K (.tuple #[.int .i64 n14, .nilIface]) w4)) ∧
 brB (decide (a_2 < (0 : Int)))
 (J3 true w)
 (∃ s3 : Sl, w.cell? ⟨m_1, 4, none⟩ = some (s3.val) ∧
 J3 (decide (a_2 ≥ (s3.len : Int))) w)
def inner_machine_load_an : An := ⟨[], [], [(2, [(17, .bool)])]⟩
theorem inner_machine_load_lift {m_1 : Nat} {a_2 : Int} {w : World} {K : Value → World → Prop} (h : inner_machine_load_sh m_1 a_2 w K) : Calls Tryz.prog fn_inner_machine_load #[.pointer (some ⟨m_1, 0, none⟩), .int .i64 a_2] w fun e w' => ∃ v, e = .returned v ∧ K v w' :=
   lift_calls (A := inner_machine_load_an) (c := bodyOf Tryz.f111) (args := [.pointer (some ⟨m_1, 0, none⟩), .int .i64 a_2]) orc orc_wide Tryz.func111 (by kernel_rfl) (by kernel_rfl) (Eq.mp (by kernel_rfl : inner_machine_load_sh m_1 a_2 w K = wpc orc Tryz.f111.ntmps inner_machine_load_an (bodyOf Tryz.f111) (argl 0 [.pointer (some ⟨m_1, 0, none⟩), .int .i64 a_2]) w (retQ orc Tryz.f111.results.toList K)) h)

-- (*holloway/inner.machine).call
def inner_machine_call_sh (m_1 : Nat) (xt2 : Int) (w : World) (K : Value → World → Prop) : Prop :=
 ∃ s3 : Sl, w.cell? ⟨m_1, 3, none⟩ = some (s3.val) ∧
 brB (decide ((s3.len : Int) ≥ (48 : Int)))
 (Calls Tryz.prog fn_inner_machine_fails #[.pointer (some ⟨m_1, 0, none⟩), .int .i64 (-5 : Int)] w fun e4 w5 => ∃ v6 : Value, e4 = .returned (v6) ∧
 K (v6) w5)
 (∃ n7 : Int, w.cell? ⟨m_1, 0, none⟩ = some (.int .i64 n7) ∧
 ∀ (b8 : Nat) (w9 : World), b8 = w.heap.size → w9 = World.alloc w (.cells #[.int .i64 (wr (n7 + (1 : Int)))] T_int) →
 Calls Tryz.prog fn_inner_machine_back #[.pointer (some ⟨m_1, 0, none⟩), .slice (some ⟨b8, 0, none⟩) 1 1] w9 fun e10 w11 => e10 = .returned (.tuple #[]) ∧
 wrOk w11 ⟨m_1, 0, none⟩ 1 ∧ ∀ w12 : World, w12 = stW w11 ⟨m_1, 0, none⟩ 0 [.int .i64 xt2] →
 K (.nilIface) w12)
def inner_machine_call_an : An := ⟨[], [], []⟩
theorem inner_machine_call_lift {m_1 : Nat} {xt2 : Int} {w : World} {K : Value → World → Prop} (h : inner_machine_call_sh m_1 xt2 w K) : Calls Tryz.prog fn_inner_machine_call #[.pointer (some ⟨m_1, 0, none⟩), .int .i64 xt2] w fun e w' => ∃ v, e = .returned v ∧ K v w' :=
   lift_calls (A := inner_machine_call_an) (c := bodyOf Tryz.f112) (args := [.pointer (some ⟨m_1, 0, none⟩), .int .i64 xt2]) orc orc_wide Tryz.func112 (by kernel_rfl) (by kernel_rfl) (Eq.mp (by kernel_rfl : inner_machine_call_sh m_1 xt2 w K = wpc orc Tryz.f112.ntmps inner_machine_call_an (bodyOf Tryz.f112) (argl 0 [.pointer (some ⟨m_1, 0, none⟩), .int .i64 xt2]) w (retQ orc Tryz.f112.results.toList K)) h)

-- (*holloway/inner.machine).fails
def inner_machine_fails_sh (m_1 : Nat) (code2 : Int) (w : World) (K : Value → World → Prop) : Prop :=
 ∃ n3 : Int, w.cell? ⟨m_1, 0, none⟩ = some (.int .i64 n3) ∧
 Calls Tryz.prog fn_fault_New #[.int .i64 code2, .int .i64 n3] w fun e4 w5 => ∃ v6 : Value, e4 = .returned (v6) ∧
 K (v6) w5
def inner_machine_fails_an : An := ⟨[], [], []⟩
theorem inner_machine_fails_lift {m_1 : Nat} {code2 : Int} {w : World} {K : Value → World → Prop} (h : inner_machine_fails_sh m_1 code2 w K) : Calls Tryz.prog fn_inner_machine_fails #[.pointer (some ⟨m_1, 0, none⟩), .int .i64 code2] w fun e w' => ∃ v, e = .returned v ∧ K v w' :=
   lift_calls (A := inner_machine_fails_an) (c := bodyOf Tryz.f114) (args := [.pointer (some ⟨m_1, 0, none⟩), .int .i64 code2]) orc orc_wide Tryz.func114 (by kernel_rfl) (by kernel_rfl) (Eq.mp (by kernel_rfl : inner_machine_fails_sh m_1 code2 w K = wpc orc Tryz.f114.ntmps inner_machine_fails_an (bodyOf Tryz.f114) (argl 0 [.pointer (some ⟨m_1, 0, none⟩), .int .i64 code2]) w (retQ orc Tryz.f114.results.toList K)) h)

-- holloway/inner.room
def inner_room_sh (s__Ip1 : Int) (s__Handler2 : Int) (s__Stack3 : Sl) (s__Back4 : Sl) (s__Mem5 : Sl) (s__Out6 : ByteArray) (s__In7 : ByteArray) (s__Read8 : Int) (s__Status9 : Int) (s__Code10 : Int) (o_11 : Int) (w : World) (K : Value → World → Prop) : Prop :=
 ∀ (b12 : Nat) (w13 : World), b12 = w.heap.size → w13 = World.alloc w (.cells #[.int .i64 s__Ip1, .int .i64 s__Handler2, s__Stack3.val, s__Back4.val, s__Mem5.val, .string s__Out6, .string s__In7, .int .i64 s__Read8, .int .i64 s__Status9, .int .i64 s__Code10] T_api_State) →
 Calls Tryz.prog fn_op_Takes #[.int .i64 o_11] w13 fun e14 w15 => ∃ n16 : Int, ∃ n17 : Int, e14 = .returned (.tuple #[.int .i64 n16, .int .i64 n17]) ∧
 Calls Tryz.prog fn_op_Gives #[.int .i64 o_11] w15 fun e18 w19 => ∃ n20 : Int, ∃ n21 : Int, e18 = .returned (.tuple #[.int .i64 n20, .int .i64 n21]) ∧
 ∃ s22 : Sl, w19.cell? ⟨b12, 2, none⟩ = some (s22.val) ∧
 brB (decide ((s22.len : Int) < n16))
 (K (.int .i64 (-4 : Int)) w19)
 (∃ s23 : Sl, w19.cell? ⟨b12, 3, none⟩ = some (s23.val) ∧
 brB (decide ((s23.len : Int) < n17))
 (K (.int .i64 (-6 : Int)) w19)
 (∃ s24 : Sl, w19.cell? ⟨b12, 2, none⟩ = some (s24.val) ∧
 brB (decide ((wr ((wr ((s24.len : Int) - n16)) + n20)) > (48 : Int)))
 (K (.int .i64 (-3 : Int)) w19)
 (∃ s25 : Sl, w19.cell? ⟨b12, 3, none⟩ = some (s25.val) ∧
 brB (decide ((wr ((wr ((s25.len : Int) - n17)) + n21)) > (48 : Int)))
 (K (.int .i64 (-5 : Int)) w19)
 (K (.int .i64 (0 : Int)) w19))))
def inner_room_an : An := ⟨[], [], []⟩
theorem inner_room_lift {s__Ip1 : Int} {s__Handler2 : Int} {s__Stack3 : Sl} {s__Back4 : Sl} {s__Mem5 : Sl} {s__Out6 : ByteArray} {s__In7 : ByteArray} {s__Read8 : Int} {s__Status9 : Int} {s__Code10 : Int} {o_11 : Int} {w : World} {K : Value → World → Prop} (h : inner_room_sh s__Ip1 s__Handler2 s__Stack3 s__Back4 s__Mem5 s__Out6 s__In7 s__Read8 s__Status9 s__Code10 o_11 w K) : Calls Tryz.prog fn_inner_room #[.agg #[.int .i64 s__Ip1, .int .i64 s__Handler2, s__Stack3.val, s__Back4.val, s__Mem5.val, .string s__Out6, .string s__In7, .int .i64 s__Read8, .int .i64 s__Status9, .int .i64 s__Code10], .int .i64 o_11] w fun e w' => ∃ v, e = .returned v ∧ K v w' :=
   lift_calls (A := inner_room_an) (c := bodyOf Tryz.f115) (args := [.agg #[.int .i64 s__Ip1, .int .i64 s__Handler2, s__Stack3.val, s__Back4.val, s__Mem5.val, .string s__Out6, .string s__In7, .int .i64 s__Read8, .int .i64 s__Status9, .int .i64 s__Code10], .int .i64 o_11]) orc orc_wide Tryz.func115 (by kernel_rfl) (by kernel_rfl) (Eq.mp (by kernel_rfl : inner_room_sh s__Ip1 s__Handler2 s__Stack3 s__Back4 s__Mem5 s__Out6 s__In7 s__Read8 s__Status9 s__Code10 o_11 w K = wpc orc Tryz.f115.ntmps inner_room_an (bodyOf Tryz.f115) (argl 0 [.agg #[.int .i64 s__Ip1, .int .i64 s__Handler2, s__Stack3.val, s__Back4.val, s__Mem5.val, .string s__Out6, .string s__In7, .int .i64 s__Read8, .int .i64 s__Status9, .int .i64 s__Code10], .int .i64 o_11]) w (retQ orc Tryz.f115.results.toList K)) h)

-- (*holloway/inner.machine).do
def inner_machine_do_j1 (m_1 : Nat) (c_2 : Int) (b28 : Bool) (w27 : World) (K : Value → World → Prop) : Prop :=
 brB b28
 (Calls Tryz.prog fn_inner_machine_flow #[.pointer (some ⟨m_1, 0, none⟩), .int .i64 c_2] w27 fun e58 w59 => ∃ v60 : Value, e58 = .returned (v60) ∧
 K (v60) w59)
 (brB (c_2 == (47 : Int))
 (K (.nilIface) w27)
 (Calls Tryz.prog fn_inner_machine_reckon #[.pointer (some ⟨m_1, 0, none⟩), .int .i64 c_2] w27 fun e61 w62 => ∃ v63 : Value, e61 = .returned (v63) ∧
 K (v63) w62))
def inner_machine_do_j2 (m_1 : Nat) (c_2 : Int) (b24 : Bool) (w23 : World) (K : Value → World → Prop) : Prop :=
 brB b24
 (Calls Tryz.prog fn_inner_machine_say #[.pointer (some ⟨m_1, 0, none⟩), .int .i64 c_2] w23 fun e53 w54 => ∃ v55 : Value, e53 = .returned (v55) ∧
 K (v55) w54)
 (brB (c_2 == (43 : Int))
 (Calls Tryz.prog fn_inner_machine_key #[.pointer (some ⟨m_1, 0, none⟩)] w23 fun e56 w57 => e56 = .returned (.tuple #[]) ∧
 K (.nilIface) w57)
 (brB (c_2 == (44 : Int))
 (inner_machine_do_j1 m_1 c_2 (c_2 == (44 : Int)) w23 K)
 (brB (c_2 == (45 : Int))
 (inner_machine_do_j1 m_1 c_2 (c_2 == (45 : Int)) w23 K)
 (brB (c_2 == (46 : Int))
 (inner_machine_do_j1 m_1 c_2 (c_2 == (46 : Int)) w23 K)
 (inner_machine_do_j1 m_1 c_2 (c_2 == (1 : Int)) w23 K)))))
def inner_machine_do_j3 (m_1 : Nat) (c_2 : Int) (arg3 : Int) (b20 : Bool) (w19 : World) (K : Value → World → Prop) : Prop :=
 brB b20
 (Calls Tryz.prog fn_inner_machine_loop #[.pointer (some ⟨m_1, 0, none⟩), .int .i64 c_2, .int .i64 arg3] w19 fun e51 w52 => e51 = .returned (.tuple #[]) ∧
 K (.nilIface) w52)
 (brB (c_2 == (41 : Int))
 (inner_machine_do_j2 m_1 c_2 (c_2 == (41 : Int)) w19 K)
 (inner_machine_do_j2 m_1 c_2 (c_2 == (42 : Int)) w19 K))
def inner_machine_do_j4 (m_1 : Nat) (c_2 : Int) (arg3 : Int) (b16 : Bool) (w15 : World) (K : Value → World → Prop) : Prop :=
 brB b16
 (Calls Tryz.prog fn_inner_machine_backs #[.pointer (some ⟨m_1, 0, none⟩), .int .i64 c_2] w15 fun e49 w50 => e49 = .returned (.tuple #[]) ∧
 K (.nilIface) w50)
 (brB (c_2 == (37 : Int))
 (inner_machine_do_j3 m_1 c_2 arg3 (c_2 == (37 : Int)) w15 K)
 (inner_machine_do_j3 m_1 c_2 arg3 (c_2 == (38 : Int)) w15 K))
def inner_machine_do_j5 (m_1 : Nat) (c_2 : Int) (arg3 : Int) (b12 : Bool) (w11 : World) (K : Value → World → Prop) : Prop :=
 brB b12
 (Calls Tryz.prog fn_inner_machine_memory #[.pointer (some ⟨m_1, 0, none⟩), .int .i64 c_2] w11 fun e46 w47 => ∃ v48 : Value, e46 = .returned (v48) ∧
 K (v48) w47)
 (brB (c_2 == (33 : Int))
 (inner_machine_do_j4 m_1 c_2 arg3 (c_2 == (33 : Int)) w11 K)
 (brB (c_2 == (34 : Int))
 (inner_machine_do_j4 m_1 c_2 arg3 (c_2 == (34 : Int)) w11 K)
 (brB (c_2 == (35 : Int))
 (inner_machine_do_j4 m_1 c_2 arg3 (c_2 == (35 : Int)) w11 K)
 (brB (c_2 == (36 : Int))
 (inner_machine_do_j4 m_1 c_2 arg3 (c_2 == (36 : Int)) w11 K)
 (brB (c_2 == (39 : Int))
 (inner_machine_do_j4 m_1 c_2 arg3 (c_2 == (39 : Int)) w11 K)
 (inner_machine_do_j4 m_1 c_2 arg3 (c_2 == (40 : Int)) w11 K))))))
def inner_machine_do_j6 (m_1 : Nat) (c_2 : Int) (arg3 : Int) (b8 : Bool) (w7 : World) (K : Value → World → Prop) : Prop :=
 brB b8
 (Calls Tryz.prog fn_inner_machine_shuffle #[.pointer (some ⟨m_1, 0, none⟩), .int .i64 c_2] w7 fun e44 w45 => e44 = .returned (.tuple #[]) ∧
 K (.nilIface) w45)
 (brB (c_2 == (30 : Int))
 (inner_machine_do_j5 m_1 c_2 arg3 (c_2 == (30 : Int)) w7 K)
 (brB (c_2 == (31 : Int))
 (inner_machine_do_j5 m_1 c_2 arg3 (c_2 == (31 : Int)) w7 K)
 (inner_machine_do_j5 m_1 c_2 arg3 (c_2 == (32 : Int)) w7 K)))
def inner_machine_do_sh (m_1 : Nat) (c_2 : Int) (arg3 : Int) (was4 : Int) (w : World) (K : Value → World → Prop) : Prop :=
 ∃ J14 : World → Prop, (∀ (w38 : World), J14  w38 →
 wrOk w38 ⟨m_1, 0, none⟩ 1 ∧ ∀ w39 : World, w39 = stW w38 ⟨m_1, 0, none⟩ 0 [.int .i64 arg3] →
 K (.nilIface) w39) ∧
 brB (c_2 == (0 : Int))
 (wrOk w ⟨m_1, 0, none⟩ 1 ∧ ∀ w29 : World, w29 = stW w ⟨m_1, 0, none⟩ 0 [.int .i64 was4] →
 wrOk w29 ⟨m_1, 8, none⟩ 1 ∧ ∀ w30 : World, w30 = stW w29 ⟨m_1, 8, none⟩ 0 [.int .i64 (1 : Int)] →
 K (.nilIface) w30)
 (brB (c_2 == (2 : Int))
 (∀ (b31 : Nat) (w32 : World), b31 = w.heap.size → w32 = World.alloc w (.cells #[.int .i64 arg3] T_int) →
 Calls Tryz.prog fn_inner_machine_push #[.pointer (some ⟨m_1, 0, none⟩), .slice (some ⟨b31, 0, none⟩) 1 1] w32 fun e33 w34 => e33 = .returned (.tuple #[]) ∧
 K (.nilIface) w34)
 (brB (c_2 == (4 : Int))
 (Calls Tryz.prog fn_inner_machine_pop #[.pointer (some ⟨m_1, 0, none⟩)] w fun e35 w36 => ∃ n37 : Int, e35 = .returned (.int .i64 n37) ∧
 brB (n37 != (0 : Int))
 (K (.nilIface) w36)
 (J14  w36))
 (brB (c_2 == (3 : Int))
 (J14  w)
 (brB (c_2 == (5 : Int))
 (Calls Tryz.prog fn_inner_machine_popBack #[.pointer (some ⟨m_1, 0, none⟩)] w fun e40 w41 => ∃ n42 : Int, e40 = .returned (.int .i64 n42) ∧
 wrOk w41 ⟨m_1, 0, none⟩ 1 ∧ ∀ w43 : World, w43 = stW w41 ⟨m_1, 0, none⟩ 0 [.int .i64 n42] →
 K (.nilIface) w43)
 (brB (c_2 == (6 : Int))
 (inner_machine_do_j6 m_1 c_2 arg3 (c_2 == (6 : Int)) w K)
 (brB (c_2 == (7 : Int))
 (inner_machine_do_j6 m_1 c_2 arg3 (c_2 == (7 : Int)) w K)
 (brB (c_2 == (8 : Int))
 (inner_machine_do_j6 m_1 c_2 arg3 (c_2 == (8 : Int)) w K)
 (brB (c_2 == (9 : Int))
 (inner_machine_do_j6 m_1 c_2 arg3 (c_2 == (9 : Int)) w K)
 (inner_machine_do_j6 m_1 c_2 arg3 (c_2 == (10 : Int)) w K)))))))))
def inner_machine_do_an : An := ⟨[], [], [(35, [])]⟩
theorem inner_machine_do_lift {m_1 : Nat} {c_2 : Int} {arg3 : Int} {was4 : Int} {w : World} {K : Value → World → Prop} (h : inner_machine_do_sh m_1 c_2 arg3 was4 w K) : Calls Tryz.prog fn_inner_machine_do #[.pointer (some ⟨m_1, 0, none⟩), .int .i64 c_2, .int .i64 arg3, .int .i64 was4] w fun e w' => ∃ v, e = .returned v ∧ K v w' :=
   lift_calls (A := inner_machine_do_an) (c := bodyOf Tryz.f116) (args := [.pointer (some ⟨m_1, 0, none⟩), .int .i64 c_2, .int .i64 arg3, .int .i64 was4]) orc orc_wide Tryz.func116 (by kernel_rfl) (by kernel_rfl) (Eq.mp (by kernel_rfl : inner_machine_do_sh m_1 c_2 arg3 was4 w K = wpc orc Tryz.f116.ntmps inner_machine_do_an (bodyOf Tryz.f116) (argl 0 [.pointer (some ⟨m_1, 0, none⟩), .int .i64 c_2, .int .i64 arg3, .int .i64 was4]) w (retQ orc Tryz.f116.results.toList K)) h)

-- (*holloway/inner.machine).back
def inner_machine_back_sh (m_1 : Nat) (l_2 : Sl) (w : World) (K : Value → World → Prop) : Prop :=
 ∃ s3 : Sl, w.cell? ⟨m_1, 3, none⟩ = some (s3.val) ∧
 ∃ s4 : Sl, ∃ w5 : World, (Builtin.append_ #[T_sl_int, T_sl_int] T_sl_int #[s3.val, l_2.val]).run Tryz.prog w = .ok (s4.val) w5 ∧
 wrOk w5 ⟨m_1, 3, none⟩ 1 ∧ ∀ w6 : World, w6 = stW w5 ⟨m_1, 3, none⟩ 0 [s4.val] →
 K (.tuple #[]) w6
def inner_machine_back_an : An := ⟨[], [], []⟩
theorem inner_machine_back_lift {m_1 : Nat} {l_2 : Sl} {w : World} {K : Value → World → Prop} (h : inner_machine_back_sh m_1 l_2 w K) : Calls Tryz.prog fn_inner_machine_back #[.pointer (some ⟨m_1, 0, none⟩), l_2.val] w fun e w' => ∃ v, e = .returned v ∧ K v w' :=
   lift_calls (A := inner_machine_back_an) (c := bodyOf Tryz.f132) (args := [.pointer (some ⟨m_1, 0, none⟩), l_2.val]) orc orc_wide Tryz.func132 (by kernel_rfl) (by kernel_rfl) (Eq.mp (by kernel_rfl : inner_machine_back_sh m_1 l_2 w K = wpc orc Tryz.f132.ntmps inner_machine_back_an (bodyOf Tryz.f132) (argl 0 [.pointer (some ⟨m_1, 0, none⟩), l_2.val]) w (retQ orc Tryz.f132.results.toList K)) h)

-- (*holloway/inner.machine).push
def inner_machine_push_sh (m_1 : Nat) (l_2 : Sl) (w : World) (K : Value → World → Prop) : Prop :=
 ∃ s3 : Sl, w.cell? ⟨m_1, 2, none⟩ = some (s3.val) ∧
 ∃ s4 : Sl, ∃ w5 : World, (Builtin.append_ #[T_sl_int, T_sl_int] T_sl_int #[s3.val, l_2.val]).run Tryz.prog w = .ok (s4.val) w5 ∧
 wrOk w5 ⟨m_1, 2, none⟩ 1 ∧ ∀ w6 : World, w6 = stW w5 ⟨m_1, 2, none⟩ 0 [s4.val] →
 K (.tuple #[]) w6
def inner_machine_push_an : An := ⟨[], [], []⟩
theorem inner_machine_push_lift {m_1 : Nat} {l_2 : Sl} {w : World} {K : Value → World → Prop} (h : inner_machine_push_sh m_1 l_2 w K) : Calls Tryz.prog fn_inner_machine_push #[.pointer (some ⟨m_1, 0, none⟩), l_2.val] w fun e w' => ∃ v, e = .returned v ∧ K v w' :=
   lift_calls (A := inner_machine_push_an) (c := bodyOf Tryz.f136) (args := [.pointer (some ⟨m_1, 0, none⟩), l_2.val]) orc orc_wide Tryz.func136 (by kernel_rfl) (by kernel_rfl) (Eq.mp (by kernel_rfl : inner_machine_push_sh m_1 l_2 w K = wpc orc Tryz.f136.ntmps inner_machine_push_an (bodyOf Tryz.f136) (argl 0 [.pointer (some ⟨m_1, 0, none⟩), l_2.val]) w (retQ orc Tryz.f136.results.toList K)) h)

-- (*holloway/inner.machine).pop
def inner_machine_pop_sh (m_1 : Nat) (w : World) (K : Value → World → Prop) : Prop :=
 ∃ s2 : Sl, w.cell? ⟨m_1, 2, none⟩ = some (s2.val) ∧
 ∃ s3 : Sl, w.cell? ⟨m_1, 2, none⟩ = some (s3.val) ∧
 ∃ a4 : Addr, s3.ptr = some a4 ∧ 0 ≤ (wr ((s2.len : Int) - (1 : Int))) ∧ (wr ((s2.len : Int) - (1 : Int))) < (s3.len : Int) ∧
 ∃ n5 : Int, w.cell? (Addr.add a4 (Int.toNat (wr ((s2.len : Int) - (1 : Int))) * 1)) = some (.int .i64 n5) ∧
 ∃ s6 : Sl, w.cell? ⟨m_1, 2, none⟩ = some (s6.val) ∧
 0 ≤ (wr ((s2.len : Int) - (1 : Int))) ∧ (wr ((s2.len : Int) - (1 : Int))) ≤ (s6.cap : Int) ∧ ∀ s7 : Sl, s7 = Sl.sub s6.ptr s6.cap 0 (Int.toNat (wr ((s2.len : Int) - (1 : Int)))) 1 →
 wrOk w ⟨m_1, 2, none⟩ 1 ∧ ∀ w8 : World, w8 = stW w ⟨m_1, 2, none⟩ 0 [s7.val] →
 K (.int .i64 n5) w8
def inner_machine_pop_an : An := ⟨[], [], []⟩
theorem inner_machine_pop_lift {m_1 : Nat} {w : World} {K : Value → World → Prop} (h : inner_machine_pop_sh m_1 w K) : Calls Tryz.prog fn_inner_machine_pop #[.pointer (some ⟨m_1, 0, none⟩)] w fun e w' => ∃ v, e = .returned v ∧ K v w' :=
   lift_calls (A := inner_machine_pop_an) (c := bodyOf Tryz.f137) (args := [.pointer (some ⟨m_1, 0, none⟩)]) orc orc_wide Tryz.func137 (by kernel_rfl) (by kernel_rfl) (Eq.mp (by kernel_rfl : inner_machine_pop_sh m_1 w K = wpc orc Tryz.f137.ntmps inner_machine_pop_an (bodyOf Tryz.f137) (argl 0 [.pointer (some ⟨m_1, 0, none⟩)]) w (retQ orc Tryz.f137.results.toList K)) h)

-- (*holloway/inner.machine).popBack
def inner_machine_popBack_sh (m_1 : Nat) (w : World) (K : Value → World → Prop) : Prop :=
 ∃ s2 : Sl, w.cell? ⟨m_1, 3, none⟩ = some (s2.val) ∧
 ∃ s3 : Sl, w.cell? ⟨m_1, 3, none⟩ = some (s3.val) ∧
 ∃ a4 : Addr, s3.ptr = some a4 ∧ 0 ≤ (wr ((s2.len : Int) - (1 : Int))) ∧ (wr ((s2.len : Int) - (1 : Int))) < (s3.len : Int) ∧
 ∃ n5 : Int, w.cell? (Addr.add a4 (Int.toNat (wr ((s2.len : Int) - (1 : Int))) * 1)) = some (.int .i64 n5) ∧
 ∃ s6 : Sl, w.cell? ⟨m_1, 3, none⟩ = some (s6.val) ∧
 0 ≤ (wr ((s2.len : Int) - (1 : Int))) ∧ (wr ((s2.len : Int) - (1 : Int))) ≤ (s6.cap : Int) ∧ ∀ s7 : Sl, s7 = Sl.sub s6.ptr s6.cap 0 (Int.toNat (wr ((s2.len : Int) - (1 : Int)))) 1 →
 wrOk w ⟨m_1, 3, none⟩ 1 ∧ ∀ w8 : World, w8 = stW w ⟨m_1, 3, none⟩ 0 [s7.val] →
 K (.int .i64 n5) w8
def inner_machine_popBack_an : An := ⟨[], [], []⟩
theorem inner_machine_popBack_lift {m_1 : Nat} {w : World} {K : Value → World → Prop} (h : inner_machine_popBack_sh m_1 w K) : Calls Tryz.prog fn_inner_machine_popBack #[.pointer (some ⟨m_1, 0, none⟩)] w fun e w' => ∃ v, e = .returned v ∧ K v w' :=
   lift_calls (A := inner_machine_popBack_an) (c := bodyOf Tryz.f138) (args := [.pointer (some ⟨m_1, 0, none⟩)]) orc orc_wide Tryz.func138 (by kernel_rfl) (by kernel_rfl) (Eq.mp (by kernel_rfl : inner_machine_popBack_sh m_1 w K = wpc orc Tryz.f138.ntmps inner_machine_popBack_an (bodyOf Tryz.f138) (argl 0 [.pointer (some ⟨m_1, 0, none⟩)]) w (retQ orc Tryz.f138.results.toList K)) h)

-- (*holloway/inner.machine).shuffle
def inner_machine_shuffle_sh (m_1 : Nat) (c_2 : Int) (w : World) (K : Value → World → Prop) : Prop :=
 Calls Tryz.prog fn_inner_machine_pop #[.pointer (some ⟨m_1, 0, none⟩)] w fun e3 w4 => ∃ n5 : Int, e3 = .returned (.int .i64 n5) ∧
 brB (c_2 == (6 : Int))
 (∀ (b6 : Nat) (w7 : World), b6 = w4.heap.size → w7 = World.alloc w4 (.cells #[.int .i64 n5, .int .i64 n5] T_int) →
 Calls Tryz.prog fn_inner_machine_push #[.pointer (some ⟨m_1, 0, none⟩), .slice (some ⟨b6, 0, none⟩) 2 2] w7 fun e8 w9 => e8 = .returned (.tuple #[]) ∧
 K (.tuple #[]) w9)
 (brB (c_2 == (8 : Int))
 (Calls Tryz.prog fn_inner_machine_swapped #[.pointer (some ⟨m_1, 0, none⟩)] w4 fun e10 w11 => ∃ n12 : Int, e10 = .returned (.int .i64 n12) ∧
 ∀ (b13 : Nat) (w14 : World), b13 = w11.heap.size → w14 = World.alloc w11 (.cells #[.int .i64 n5, .int .i64 n12] T_int) →
 Calls Tryz.prog fn_inner_machine_push #[.pointer (some ⟨m_1, 0, none⟩), .slice (some ⟨b13, 0, none⟩) 2 2] w14 fun e15 w16 => e15 = .returned (.tuple #[]) ∧
 K (.tuple #[]) w16)
 (brB (c_2 == (9 : Int))
 (Calls Tryz.prog fn_inner_machine_pop #[.pointer (some ⟨m_1, 0, none⟩)] w4 fun e17 w18 => ∃ n19 : Int, e17 = .returned (.int .i64 n19) ∧
 ∀ (b20 : Nat) (w21 : World), b20 = w18.heap.size → w21 = World.alloc w18 (.cells #[.int .i64 n19, .int .i64 n5, .int .i64 n19] T_int) →
 Calls Tryz.prog fn_inner_machine_push #[.pointer (some ⟨m_1, 0, none⟩), .slice (some ⟨b20, 0, none⟩) 3 3] w21 fun e22 w23 => e22 = .returned (.tuple #[]) ∧
 K (.tuple #[]) w23)
 (brB (c_2 == (10 : Int))
 (Calls Tryz.prog fn_inner_machine_pop #[.pointer (some ⟨m_1, 0, none⟩)] w4 fun e24 w25 => ∃ n26 : Int, e24 = .returned (.int .i64 n26) ∧
 Calls Tryz.prog fn_inner_machine_pop #[.pointer (some ⟨m_1, 0, none⟩)] w25 fun e27 w28 => ∃ n29 : Int, e27 = .returned (.int .i64 n29) ∧
 ∀ (b30 : Nat) (w31 : World), b30 = w28.heap.size → w31 = World.alloc w28 (.cells #[.int .i64 n26, .int .i64 n5, .int .i64 n29] T_int) →
 Calls Tryz.prog fn_inner_machine_push #[.pointer (some ⟨m_1, 0, none⟩), .slice (some ⟨b30, 0, none⟩) 3 3] w31 fun e32 w33 => e32 = .returned (.tuple #[]) ∧
 K (.tuple #[]) w33)
 (K (.tuple #[]) w4))))
def inner_machine_shuffle_an : An := ⟨[], [], []⟩
theorem inner_machine_shuffle_lift {m_1 : Nat} {c_2 : Int} {w : World} {K : Value → World → Prop} (h : inner_machine_shuffle_sh m_1 c_2 w K) : Calls Tryz.prog fn_inner_machine_shuffle #[.pointer (some ⟨m_1, 0, none⟩), .int .i64 c_2] w fun e w' => ∃ v, e = .returned v ∧ K v w' :=
   lift_calls (A := inner_machine_shuffle_an) (c := bodyOf Tryz.f139) (args := [.pointer (some ⟨m_1, 0, none⟩), .int .i64 c_2]) orc orc_wide Tryz.func139 (by kernel_rfl) (by kernel_rfl) (Eq.mp (by kernel_rfl : inner_machine_shuffle_sh m_1 c_2 w K = wpc orc Tryz.f139.ntmps inner_machine_shuffle_an (bodyOf Tryz.f139) (argl 0 [.pointer (some ⟨m_1, 0, none⟩), .int .i64 c_2]) w (retQ orc Tryz.f139.results.toList K)) h)

-- (*holloway/inner.machine).memory
def inner_machine_memory_sh (m_1 : Nat) (c_2 : Int) (w : World) (K : Value → World → Prop) : Prop :=
 Calls Tryz.prog fn_inner_machine_pop #[.pointer (some ⟨m_1, 0, none⟩)] w fun e3 w4 => ∃ n5 : Int, e3 = .returned (.int .i64 n5) ∧
 Calls Tryz.prog fn_inner_machine_load #[.pointer (some ⟨m_1, 0, none⟩), .int .i64 n5] w4 fun e6 w7 => ∃ n8 : Int, ∃ v9 : Value, e6 = .returned (.tuple #[.int .i64 n8, v9]) ∧
 ∃ b10 : Bool, ∃ w11 : World, ((do eqGuard .neq T_error (.tmp 16) (.const (.nilIface)) (v9) (.nilIface); binOp .neq T_error (v9) (.nilIface) : Sem Value)).run Tryz.prog w7 = .ok (.bool b10) w11 ∧
 brB b10
 (K (v9) w11)
 (∃ J9 : Int → World → Prop, (∀ (v20 : Int) (w16 : World), J9 v20 w16 →
 ∀ w17 : World, w17 = World.drew w16 →
 ∃ S18 : World → Prop, S18 w17 ∧
 ∃ s19 : Sl, held S18 ⟨m_1, 4, none⟩ (s19.val) ∧
 Calls Tryz.prog fn_inner_machine_pop #[.pointer (some ⟨m_1, 0, none⟩)] w17 fun e21 w22 => ∃ n23 : Int, e21 = .returned (.int .i64 n23) ∧
 S18 w22 ∧
 ∃ a24 : Addr, s19.ptr = some a24 ∧ 0 ≤ n5 ∧ n5 < (s19.len : Int) ∧
 wrOk w22 (Addr.add a24 (Int.toNat n5 * 1)) 1 ∧ ∀ w25 : World, w25 = stW w22 (Addr.add a24 (Int.toNat n5 * 1)) 0 [.int .i64 (wr (v20 + n23))] →
 K (.nilIface) w25) ∧
 brB (c_2 == (30 : Int))
 (∀ (b12 : Nat) (w13 : World), b12 = w11.heap.size → w13 = World.alloc w11 (.cells #[.int .i64 n8] T_int) →
 Calls Tryz.prog fn_inner_machine_push #[.pointer (some ⟨m_1, 0, none⟩), .slice (some ⟨b12, 0, none⟩) 1 1] w13 fun e14 w15 => e14 = .returned (.tuple #[]) ∧
 K (.nilIface) w15)
 (brB (c_2 == (31 : Int))
 (J9 (0 : Int) w11)
 (J9 n8 w11)))
def inner_machine_memory_an : An := ⟨[], [(11, (10, .st 0 (.st 1 (.st 2 (.st 3 (.st 4 (.st 5 (.st 6 (.st 7 (.ef 8 (.st 9 .done))))))))), 1))], [(11, [(6, .int .i64)])]⟩
theorem inner_machine_memory_lift {m_1 : Nat} {c_2 : Int} {w : World} {K : Value → World → Prop} (h : inner_machine_memory_sh m_1 c_2 w K) : Calls Tryz.prog fn_inner_machine_memory #[.pointer (some ⟨m_1, 0, none⟩), .int .i64 c_2] w fun e w' => ∃ v, e = .returned v ∧ K v w' :=
   lift_calls (A := inner_machine_memory_an) (c := bodyOf Tryz.f140) (args := [.pointer (some ⟨m_1, 0, none⟩), .int .i64 c_2]) orc orc_wide Tryz.func140 (by kernel_rfl) (by kernel_rfl) (Eq.mp (by kernel_rfl : inner_machine_memory_sh m_1 c_2 w K = wpc orc Tryz.f140.ntmps inner_machine_memory_an (bodyOf Tryz.f140) (argl 0 [.pointer (some ⟨m_1, 0, none⟩), .int .i64 c_2]) w (retQ orc Tryz.f140.results.toList K)) h)

-- (*holloway/inner.machine).backs
def inner_machine_backs_sh (m_1 : Nat) (c_2 : Int) (w : World) (K : Value → World → Prop) : Prop :=
 brB (c_2 == (33 : Int))
 (Calls Tryz.prog fn_inner_machine_pop #[.pointer (some ⟨m_1, 0, none⟩)] w fun e3 w4 => ∃ n5 : Int, e3 = .returned (.int .i64 n5) ∧
 ∀ (b6 : Nat) (w7 : World), b6 = w4.heap.size → w7 = World.alloc w4 (.cells #[.int .i64 n5] T_int) →
 Calls Tryz.prog fn_inner_machine_back #[.pointer (some ⟨m_1, 0, none⟩), .slice (some ⟨b6, 0, none⟩) 1 1] w7 fun e8 w9 => e8 = .returned (.tuple #[]) ∧
 K (.tuple #[]) w9)
 (brB (c_2 == (34 : Int))
 (Calls Tryz.prog fn_inner_machine_popBack #[.pointer (some ⟨m_1, 0, none⟩)] w fun e10 w11 => ∃ n12 : Int, e10 = .returned (.int .i64 n12) ∧
 ∀ (b13 : Nat) (w14 : World), b13 = w11.heap.size → w14 = World.alloc w11 (.cells #[.int .i64 n12] T_int) →
 Calls Tryz.prog fn_inner_machine_push #[.pointer (some ⟨m_1, 0, none⟩), .slice (some ⟨b13, 0, none⟩) 1 1] w14 fun e15 w16 => e15 = .returned (.tuple #[]) ∧
 K (.tuple #[]) w16)
 (brB (c_2 == (35 : Int))
 (∀ w17 : World, w17 = World.drew w →
 ∃ S18 : World → Prop, S18 w17 ∧
 ∃ s19 : Sl, held S18 ⟨m_1, 3, none⟩ (s19.val) ∧
 ∃ s20 : Sl, held S18 ⟨m_1, 3, none⟩ (s20.val) ∧
 ∃ a21 : Addr, s19.ptr = some a21 ∧ 0 ≤ (wr ((s20.len : Int) - (1 : Int))) ∧ (wr ((s20.len : Int) - (1 : Int))) < (s19.len : Int) ∧
 ∃ n22 : Int, held S18 (Addr.add a21 (Int.toNat (wr ((s20.len : Int) - (1 : Int))) * 1)) (.int .i64 n22) ∧
 ∀ (b23 : Nat) (w24 : World), b23 = w17.heap.size → w24 = World.alloc w17 (.cells #[.int .i64 n22] T_int) →
 S18 w24 ∧
 Calls Tryz.prog fn_inner_machine_push #[.pointer (some ⟨m_1, 0, none⟩), .slice (some ⟨b23, 0, none⟩) 1 1] w24 fun e25 w26 => e25 = .returned (.tuple #[]) ∧
 K (.tuple #[]) w26)
 (brB (c_2 == (36 : Int))
 (Calls Tryz.prog fn_inner_machine_pop #[.pointer (some ⟨m_1, 0, none⟩)] w fun e27 w28 => ∃ n29 : Int, e27 = .returned (.int .i64 n29) ∧
 Calls Tryz.prog fn_inner_machine_pop #[.pointer (some ⟨m_1, 0, none⟩)] w28 fun e30 w31 => ∃ n32 : Int, e30 = .returned (.int .i64 n32) ∧
 ∀ (b33 : Nat) (w34 : World), b33 = w31.heap.size → w34 = World.alloc w31 (.cells #[.int .i64 n32, .int .i64 n29] T_int) →
 Calls Tryz.prog fn_inner_machine_back #[.pointer (some ⟨m_1, 0, none⟩), .slice (some ⟨b33, 0, none⟩) 2 2] w34 fun e35 w36 => e35 = .returned (.tuple #[]) ∧
 K (.tuple #[]) w36)
 (brB (c_2 == (39 : Int))
 (∀ w37 : World, w37 = World.drew w →
 ∃ S38 : World → Prop, S38 w37 ∧
 ∃ s39 : Sl, held S38 ⟨m_1, 3, none⟩ (s39.val) ∧
 ∃ s40 : Sl, held S38 ⟨m_1, 3, none⟩ (s40.val) ∧
 ∃ a41 : Addr, s39.ptr = some a41 ∧ 0 ≤ (wr ((s40.len : Int) - (3 : Int))) ∧ (wr ((s40.len : Int) - (3 : Int))) < (s39.len : Int) ∧
 ∃ n42 : Int, held S38 (Addr.add a41 (Int.toNat (wr ((s40.len : Int) - (3 : Int))) * 1)) (.int .i64 n42) ∧
 ∀ (b43 : Nat) (w44 : World), b43 = w37.heap.size → w44 = World.alloc w37 (.cells #[.int .i64 n42] T_int) →
 S38 w44 ∧
 Calls Tryz.prog fn_inner_machine_push #[.pointer (some ⟨m_1, 0, none⟩), .slice (some ⟨b43, 0, none⟩) 1 1] w44 fun e45 w46 => e45 = .returned (.tuple #[]) ∧
 K (.tuple #[]) w46)
 (∀ w47 : World, w47 = World.drew w →
 ∃ s48 : Sl, held (Lw w47) ⟨m_1, 3, none⟩ (s48.val) ∧
 ∃ s49 : Sl, held (Lw w47) ⟨m_1, 3, none⟩ (s49.val) ∧
 0 ≤ (wr ((s49.len : Int) - (2 : Int))) ∧ (wr ((s49.len : Int) - (2 : Int))) ≤ (s48.cap : Int) ∧ 
 wrOk w47 ⟨m_1, 3, none⟩ 1 ∧ ∀ w50 : World, w50 = stW w47 ⟨m_1, 3, none⟩ 0 [(Sl.sub s48.ptr s48.cap 0 (Int.toNat (wr ((s49.len : Int) - (2 : Int)))) 1).val] →
 K (.tuple #[]) w50)))))
def inner_machine_backs_an : An := ⟨[], [(1, (17, .st 0 (.st 1 (.st 2 (.st 3 (.st 4 (.st 5 (.st 6 (.st 7 (.st 8 (.st 9 (.st 10 (.st 11 (.st 12 (.st 13 (.st 14 (.st 15 (.st 16 .done)))))))))))))))), 0)), (7, (16, .st 0 (.st 1 (.st 2 (.st 3 (.st 4 (.st 5 (.st 6 (.st 7 (.st 8 (.st 9 (.st 10 (.st 11 (.st 12 (.st 13 (.st 14 (.ef 15 .done))))))))))))))), 1)), (12, (16, .st 0 (.st 1 (.st 2 (.st 3 (.st 4 (.st 5 (.st 6 (.st 7 (.st 8 (.st 9 (.st 10 (.st 11 (.st 12 (.st 13 (.st 14 (.ef 15 .done))))))))))))))), 1))], []⟩
theorem inner_machine_backs_lift {m_1 : Nat} {c_2 : Int} {w : World} {K : Value → World → Prop} (h : inner_machine_backs_sh m_1 c_2 w K) : Calls Tryz.prog fn_inner_machine_backs #[.pointer (some ⟨m_1, 0, none⟩), .int .i64 c_2] w fun e w' => ∃ v, e = .returned v ∧ K v w' :=
   lift_calls (A := inner_machine_backs_an) (c := bodyOf Tryz.f141) (args := [.pointer (some ⟨m_1, 0, none⟩), .int .i64 c_2]) orc orc_wide Tryz.func141 (by kernel_rfl) (by kernel_rfl) (Eq.mp (by kernel_rfl : inner_machine_backs_sh m_1 c_2 w K = wpc orc Tryz.f141.ntmps inner_machine_backs_an (bodyOf Tryz.f141) (argl 0 [.pointer (some ⟨m_1, 0, none⟩), .int .i64 c_2]) w (retQ orc Tryz.f141.results.toList K)) h)

-- (*holloway/inner.machine).loop
def inner_machine_loop_sh (m_1 : Nat) (c_2 : Int) (arg3 : Int) (w : World) (K : Value → World → Prop) : Prop :=
 Calls Tryz.prog fn_inner_machine_popBack #[.pointer (some ⟨m_1, 0, none⟩)] w fun e4 w5 => ∃ n6 : Int, e4 = .returned (.int .i64 n6) ∧
 Calls Tryz.prog fn_inner_machine_popBack #[.pointer (some ⟨m_1, 0, none⟩)] w5 fun e7 w8 => ∃ n9 : Int, e7 = .returned (.int .i64 n9) ∧
 ∃ J4 : Int → Bool → World → Prop, (∀ (n18 : Int) (ends17 : Bool) (w16 : World), J4 n18 ends17 w16 →
 brB (!ends17)
 (∀ (b19 : Nat) (w20 : World), b19 = w16.heap.size → w20 = World.alloc w16 (.cells #[.int .i64 n9, .int .i64 (wr (n6 + n18))] T_int) →
 Calls Tryz.prog fn_inner_machine_back #[.pointer (some ⟨m_1, 0, none⟩), .slice (some ⟨b19, 0, none⟩) 2 2] w20 fun e21 w22 => e21 = .returned (.tuple #[]) ∧
 wrOk w22 ⟨m_1, 0, none⟩ 1 ∧ ∀ w23 : World, w23 = stW w22 ⟨m_1, 0, none⟩ 0 [.int .i64 arg3] →
 K (.tuple #[]) w23)
 (K (.tuple #[]) w16)) ∧
 brB (c_2 == (38 : Int))
 (Calls Tryz.prog fn_inner_machine_pop #[.pointer (some ⟨m_1, 0, none⟩)] w8 fun e10 w11 => ∃ n12 : Int, e10 = .returned (.int .i64 n12) ∧
 Calls Tryz.prog fn_cell_Crosses #[.int .i64 (wr (n6 - n9)), .int .i64 n12] w11 fun e13 w14 => ∃ b15 : Bool, e13 = .returned (.bool b15) ∧
 J4 n12 b15 w14)
 (J4 (1 : Int) ((wr (n6 + (1 : Int))) == n9) w8)
def inner_machine_loop_an : An := ⟨[], [], [(6, [(8, .int .i64), (9, .bool)])]⟩
theorem inner_machine_loop_lift {m_1 : Nat} {c_2 : Int} {arg3 : Int} {w : World} {K : Value → World → Prop} (h : inner_machine_loop_sh m_1 c_2 arg3 w K) : Calls Tryz.prog fn_inner_machine_loop #[.pointer (some ⟨m_1, 0, none⟩), .int .i64 c_2, .int .i64 arg3] w fun e w' => ∃ v, e = .returned v ∧ K v w' :=
   lift_calls (A := inner_machine_loop_an) (c := bodyOf Tryz.f142) (args := [.pointer (some ⟨m_1, 0, none⟩), .int .i64 c_2, .int .i64 arg3]) orc orc_wide Tryz.func142 (by kernel_rfl) (by kernel_rfl) (Eq.mp (by kernel_rfl : inner_machine_loop_sh m_1 c_2 arg3 w K = wpc orc Tryz.f142.ntmps inner_machine_loop_an (bodyOf Tryz.f142) (argl 0 [.pointer (some ⟨m_1, 0, none⟩), .int .i64 c_2, .int .i64 arg3]) w (retQ orc Tryz.f142.results.toList K)) h)

-- (*holloway/inner.machine).say
def inner_machine_say_sh (m_1 : Nat) (c_2 : Int) (w : World) (K : Value → World → Prop) : Prop :=
 Calls Tryz.prog fn_inner_machine_pop #[.pointer (some ⟨m_1, 0, none⟩)] w fun e3 w4 => ∃ n5 : Int, e3 = .returned (.int .i64 n5) ∧
 ∀ (b6 : Nat) (w7 : World), b6 = w4.heap.size → w7 = World.alloc w4 (.cells #[.int .u8 (IntKind.wrap .u8 n5)] T_uint8) →
 ∃ t8 : ByteArray, ∃ w9 : World, (convert T_sl_uint8 T_string (.slice (some ⟨b6, 0, none⟩) 1 1)).run Tryz.prog w7 = .ok (.string t8) w9 ∧
 ∃ J4 : ByteArray → World → Prop, (∀ (text15 : ByteArray) (w13 : World), J4 text15 w13 →
 ∃ t14 : ByteArray, w13.cell? ⟨m_1, 5, none⟩ = some (.string t14) ∧
 brB (decide ((wr ((t14.size : Int) + (text15.size : Int))) > (2000 : Int)))
 (Calls Tryz.prog fn_inner_machine_fails #[.pointer (some ⟨m_1, 0, none⟩), .int .i64 (-57 : Int)] w13 fun e16 w17 => ∃ v18 : Value, e16 = .returned (v18) ∧
 K (v18) w17)
 (∃ t19 : ByteArray, w13.cell? ⟨m_1, 5, none⟩ = some (.string t19) ∧
 ((t19).size : Int) + ((text15).size : Int) ≤ 9223372036854775807 ∧ wrOk w13 ⟨m_1, 5, none⟩ 1 ∧ ∀ w20 : World, w20 = stW w13 ⟨m_1, 5, none⟩ 0 [.string (t19 ++ text15)] →
 K (.nilIface) w20)) ∧
 brB (c_2 == (42 : Int))
 (Calls Tryz.prog fn_digits_Put #[.int .i64 n5, .int .i64 (10 : Int)] w9 fun e10 w11 => ∃ t12 : ByteArray, e10 = .returned (.string t12) ∧
 ((t12).size : Int) + (((bs [32])).size : Int) ≤ 9223372036854775807 ∧ J4 (t12 ++ (bs [32])) w11)
 (J4 t8 w9)
def inner_machine_say_an : An := ⟨[], [], [(5, [(6, .str)])]⟩
theorem inner_machine_say_lift {m_1 : Nat} {c_2 : Int} {w : World} {K : Value → World → Prop} (h : inner_machine_say_sh m_1 c_2 w K) : Calls Tryz.prog fn_inner_machine_say #[.pointer (some ⟨m_1, 0, none⟩), .int .i64 c_2] w fun e w' => ∃ v, e = .returned v ∧ K v w' :=
   lift_calls (A := inner_machine_say_an) (c := bodyOf Tryz.f143) (args := [.pointer (some ⟨m_1, 0, none⟩), .int .i64 c_2]) orc orc_wide Tryz.func143 (by kernel_rfl) (by kernel_rfl) (Eq.mp (by kernel_rfl : inner_machine_say_sh m_1 c_2 w K = wpc orc Tryz.f143.ntmps inner_machine_say_an (bodyOf Tryz.f143) (argl 0 [.pointer (some ⟨m_1, 0, none⟩), .int .i64 c_2]) w (retQ orc Tryz.f143.results.toList K)) h)

-- (*holloway/inner.machine).key
def inner_machine_key_sh (m_1 : Nat) (w : World) (K : Value → World → Prop) : Prop :=
 ∀ w2 : World, w2 = World.drew w →
 ∃ n3 : Int, held (Lw w2) ⟨m_1, 7, none⟩ (.int .i64 n3) ∧
 ∃ t4 : ByteArray, held (Lw w2) ⟨m_1, 6, none⟩ (.string t4) ∧
 brB (decide (n3 ≥ (t4.size : Int)))
 (∀ (b5 : Nat) (w6 : World), b5 = w2.heap.size → w6 = World.alloc w2 (.cells #[.int .i64 (-1 : Int)] T_int) →
 Calls Tryz.prog fn_inner_machine_push #[.pointer (some ⟨m_1, 0, none⟩), .slice (some ⟨b5, 0, none⟩) 1 1] w6 fun e7 w8 => e7 = .returned (.tuple #[]) ∧
 K (.tuple #[]) w8)
 (∀ w9 : World, w9 = World.drew w2 →
 ∃ S10 : World → Prop, S10 w9 ∧
 ∃ t11 : ByteArray, held S10 ⟨m_1, 6, none⟩ (.string t11) ∧
 ∃ n12 : Int, held S10 ⟨m_1, 7, none⟩ (.int .i64 n12) ∧
 0 ≤ n12 ∧ n12 < (t11.size : Int) ∧
 ∀ (b13 : Nat) (w14 : World), b13 = w9.heap.size → w14 = World.alloc w9 (.cells #[.int .i64 (wr (sb t11 n12))] T_int) →
 S10 w14 ∧
 Calls Tryz.prog fn_inner_machine_push #[.pointer (some ⟨m_1, 0, none⟩), .slice (some ⟨b13, 0, none⟩) 1 1] w14 fun e15 w16 => e15 = .returned (.tuple #[]) ∧
 ∃ n17 : Int, w16.cell? ⟨m_1, 7, none⟩ = some (.int .i64 n17) ∧
 wrOk w16 ⟨m_1, 7, none⟩ 1 ∧ ∀ w18 : World, w18 = stW w16 ⟨m_1, 7, none⟩ 0 [.int .i64 (wr (n17 + (1 : Int)))] →
 K (.tuple #[]) w18)
def inner_machine_key_an : An := ⟨[], [(0, (12, .st 0 (.st 1 (.st 2 (.st 3 (.st 4 (.st 5 (.st 6 (.st 7 (.st 8 (.st 9 (.st 10 (.st 11 .done))))))))))), 0)), (2, (14, .st 0 (.st 1 (.st 2 (.st 3 (.st 4 (.st 5 (.st 6 (.st 7 (.st 8 (.st 9 (.st 10 (.st 11 (.st 12 (.ef 13 .done))))))))))))), 1))], []⟩
theorem inner_machine_key_lift {m_1 : Nat} {w : World} {K : Value → World → Prop} (h : inner_machine_key_sh m_1 w K) : Calls Tryz.prog fn_inner_machine_key #[.pointer (some ⟨m_1, 0, none⟩)] w fun e w' => ∃ v, e = .returned v ∧ K v w' :=
   lift_calls (A := inner_machine_key_an) (c := bodyOf Tryz.f144) (args := [.pointer (some ⟨m_1, 0, none⟩)]) orc orc_wide Tryz.func144 (by kernel_rfl) (by kernel_rfl) (Eq.mp (by kernel_rfl : inner_machine_key_sh m_1 w K = wpc orc Tryz.f144.ntmps inner_machine_key_an (bodyOf Tryz.f144) (argl 0 [.pointer (some ⟨m_1, 0, none⟩)]) w (retQ orc Tryz.f144.results.toList K)) h)

-- (*holloway/inner.machine).flow
def inner_machine_flow_sh (m_1 : Nat) (c_2 : Int) (w : World) (K : Value → World → Prop) : Prop :=
 brB (c_2 == (44 : Int))
 (Calls Tryz.prog fn_inner_machine_pop #[.pointer (some ⟨m_1, 0, none⟩)] w fun e3 w4 => ∃ n5 : Int, e3 = .returned (.int .i64 n5) ∧
 ∃ J7 : Bool → World → Prop, (∀ (b8 : Bool) (w7 : World), J7 b8 w7 →
 brB b8
 (Calls Tryz.prog fn_inner_machine_fails #[.pointer (some ⟨m_1, 0, none⟩), .int .i64 (-13 : Int)] w7 fun e9 w10 => ∃ v11 : Value, e9 = .returned (v11) ∧
 K (v11) w10)
 (∃ n12 : Int, w7.cell? ⟨m_1, 0, none⟩ = some (.int .i64 n12) ∧
 ∀ (b13 : Nat) (w14 : World), b13 = w7.heap.size → w14 = World.alloc w7 (.cells #[.int .i64 n12] T_int) →
 Calls Tryz.prog fn_inner_machine_back #[.pointer (some ⟨m_1, 0, none⟩), .slice (some ⟨b13, 0, none⟩) 1 1] w14 fun e15 w16 => e15 = .returned (.tuple #[]) ∧
 wrOk w16 ⟨m_1, 0, none⟩ 1 ∧ ∀ w17 : World, w17 = stW w16 ⟨m_1, 0, none⟩ 0 [.int .i64 n5] →
 K (.nilIface) w17)) ∧
 brB (decide (n5 < (64 : Int)))
 (J7 true w4)
 (∃ s6 : Sl, w4.cell? ⟨m_1, 4, none⟩ = some (s6.val) ∧
 J7 (decide (n5 ≥ (s6.len : Int))) w4))
 (brB (c_2 == (45 : Int))
 (wrOk w ⟨m_1, 10, none⟩ 1 ∧ ∀ w18 : World, w18 = stW w ⟨m_1, 10, none⟩ 0 [.bool true] →
 ∀ w19 : World, w19 = World.drew w18 →
 ∃ S20 : World → Prop, S20 w19 ∧
 ∃ n21 : Int, held S20 ⟨m_1, 0, none⟩ (.int .i64 n21) ∧
 Calls Tryz.prog fn_inner_machine_pop #[.pointer (some ⟨m_1, 0, none⟩)] w19 fun e22 w23 => ∃ n24 : Int, e22 = .returned (.int .i64 n24) ∧
 S20 w23 ∧
 Calls Tryz.prog fn_fault_New #[.int .i64 n24, .int .i64 n21] w23 fun e25 w26 => ∃ v27 : Value, e25 = .returned (v27) ∧
 K (v27) w26)
 (brB (c_2 == (46 : Int))
 (Calls Tryz.prog fn_inner_machine_pop #[.pointer (some ⟨m_1, 0, none⟩)] w fun e28 w29 => ∃ n30 : Int, e28 = .returned (.int .i64 n30) ∧
 ∀ w31 : World, w31 = World.drew w29 →
 ∃ S32 : World → Prop, S32 w31 ∧
 ∃ n33 : Int, held S32 ⟨m_1, 0, none⟩ (.int .i64 n33) ∧
 ∃ n34 : Int, held S32 ⟨m_1, 1, none⟩ (.int .i64 n34) ∧
 ∃ s35 : Sl, held S32 ⟨m_1, 2, none⟩ (s35.val) ∧
 ∀ (b36 : Nat) (w37 : World), b36 = w31.heap.size → w37 = World.alloc w31 (.cells #[.int .i64 n33, .int .i64 n34, .int .i64 (s35.len : Int)] T_int) →
 S32 w37 ∧
 Calls Tryz.prog fn_inner_machine_back #[.pointer (some ⟨m_1, 0, none⟩), .slice (some ⟨b36, 0, none⟩) 3 3] w37 fun e38 w39 => e38 = .returned (.tuple #[]) ∧
 ∃ s40 : Sl, w39.cell? ⟨m_1, 3, none⟩ = some (s40.val) ∧
 wrOk w39 ⟨m_1, 1, none⟩ 1 ∧ ∀ w41 : World, w41 = stW w39 ⟨m_1, 1, none⟩ 0 [.int .i64 (s40.len : Int)] →
 ∀ (b42 : Nat) (w43 : World), b42 = w41.heap.size → w43 = World.alloc w41 (.cells #[.int .i64 (1 : Int)] T_int) →
 Calls Tryz.prog fn_inner_machine_back #[.pointer (some ⟨m_1, 0, none⟩), .slice (some ⟨b42, 0, none⟩) 1 1] w43 fun e44 w45 => e44 = .returned (.tuple #[]) ∧
 wrOk w45 ⟨m_1, 0, none⟩ 1 ∧ ∀ w46 : World, w46 = stW w45 ⟨m_1, 0, none⟩ 0 [.int .i64 n30] →
 K (.nilIface) w46)
 (Calls Tryz.prog fn_inner_machine_endCatch #[.pointer (some ⟨m_1, 0, none⟩)] w fun e47 w48 => ∃ v49 : Value, e47 = .returned (v49) ∧
 K (v49) w48)))
def inner_machine_flow_an : An := ⟨[], [(11, (7, .st 0 (.st 2 (.st 3 (.st 4 (.st 5 (.st 6 (.ef 1 .done)))))), 1)), (14, (18, .st 0 (.st 1 (.st 2 (.st 3 (.st 4 (.st 5 (.st 6 (.st 7 (.st 8 (.st 9 (.st 10 (.st 11 (.st 12 (.st 13 (.st 14 (.st 15 (.st 16 (.ef 17 .done))))))))))))))))), 1))], [(6, [(25, .bool)])]⟩
theorem inner_machine_flow_lift {m_1 : Nat} {c_2 : Int} {w : World} {K : Value → World → Prop} (h : inner_machine_flow_sh m_1 c_2 w K) : Calls Tryz.prog fn_inner_machine_flow #[.pointer (some ⟨m_1, 0, none⟩), .int .i64 c_2] w fun e w' => ∃ v, e = .returned v ∧ K v w' :=
   lift_calls (A := inner_machine_flow_an) (c := bodyOf Tryz.f145) (args := [.pointer (some ⟨m_1, 0, none⟩), .int .i64 c_2]) orc orc_wide Tryz.func145 (by kernel_rfl) (by kernel_rfl) (Eq.mp (by kernel_rfl : inner_machine_flow_sh m_1 c_2 w K = wpc orc Tryz.f145.ntmps inner_machine_flow_an (bodyOf Tryz.f145) (argl 0 [.pointer (some ⟨m_1, 0, none⟩), .int .i64 c_2]) w (retQ orc Tryz.f145.results.toList K)) h)

-- (*holloway/inner.machine).reckon
def inner_machine_reckon_sh (m_1 : Nat) (c_2 : Int) (w : World) (K : Value → World → Prop) : Prop :=
 Calls Tryz.prog fn_inner_machine_pop #[.pointer (some ⟨m_1, 0, none⟩)] w fun e3 w4 => ∃ n5 : Int, e3 = .returned (.int .i64 n5) ∧
 Calls Tryz.prog fn_cell_One #[.int .i64 c_2, .int .i64 n5] w4 fun e6 w7 => ∃ n8 : Int, ∃ b9 : Bool, e6 = .returned (.tuple #[.int .i64 n8, .bool b9]) ∧
 brB b9
 (∀ (b10 : Nat) (w11 : World), b10 = w7.heap.size → w11 = World.alloc w7 (.cells #[.int .i64 n8] T_int) →
 Calls Tryz.prog fn_inner_machine_push #[.pointer (some ⟨m_1, 0, none⟩), .slice (some ⟨b10, 0, none⟩) 1 1] w11 fun e12 w13 => e12 = .returned (.tuple #[]) ∧
 K (.nilIface) w13)
 (Calls Tryz.prog fn_inner_machine_pop #[.pointer (some ⟨m_1, 0, none⟩)] w7 fun e14 w15 => ∃ n16 : Int, e14 = .returned (.int .i64 n16) ∧
 Calls Tryz.prog fn_cell_Two #[.int .i64 c_2, .int .i64 n16, .int .i64 n5] w15 fun e17 w18 => ∃ n19 : Int, ∃ b20 : Bool, e17 = .returned (.tuple #[.int .i64 n19, .bool b20]) ∧
 brB (!b20)
 (Calls Tryz.prog fn_inner_machine_fails #[.pointer (some ⟨m_1, 0, none⟩), .int .i64 (-10 : Int)] w18 fun e21 w22 => ∃ v23 : Value, e21 = .returned (v23) ∧
 K (v23) w22)
 (∀ (b24 : Nat) (w25 : World), b24 = w18.heap.size → w25 = World.alloc w18 (.cells #[.int .i64 n19] T_int) →
 Calls Tryz.prog fn_inner_machine_push #[.pointer (some ⟨m_1, 0, none⟩), .slice (some ⟨b24, 0, none⟩) 1 1] w25 fun e26 w27 => e26 = .returned (.tuple #[]) ∧
 K (.nilIface) w27))
def inner_machine_reckon_an : An := ⟨[], [], []⟩
theorem inner_machine_reckon_lift {m_1 : Nat} {c_2 : Int} {w : World} {K : Value → World → Prop} (h : inner_machine_reckon_sh m_1 c_2 w K) : Calls Tryz.prog fn_inner_machine_reckon #[.pointer (some ⟨m_1, 0, none⟩), .int .i64 c_2] w fun e w' => ∃ v, e = .returned v ∧ K v w' :=
   lift_calls (A := inner_machine_reckon_an) (c := bodyOf Tryz.f146) (args := [.pointer (some ⟨m_1, 0, none⟩), .int .i64 c_2]) orc orc_wide Tryz.func146 (by kernel_rfl) (by kernel_rfl) (Eq.mp (by kernel_rfl : inner_machine_reckon_sh m_1 c_2 w K = wpc orc Tryz.f146.ntmps inner_machine_reckon_an (bodyOf Tryz.f146) (argl 0 [.pointer (some ⟨m_1, 0, none⟩), .int .i64 c_2]) w (retQ orc Tryz.f146.results.toList K)) h)

-- (*holloway/inner.machine).swapped
def inner_machine_swapped_sh (m_1 : Nat) (w : World) (K : Value → World → Prop) : Prop :=
 Calls Tryz.prog fn_inner_machine_pop #[.pointer (some ⟨m_1, 0, none⟩)] w fun e2 w3 => ∃ n4 : Int, e2 = .returned (.int .i64 n4) ∧
 K (.int .i64 n4) w3
def inner_machine_swapped_an : An := ⟨[], [], []⟩
theorem inner_machine_swapped_lift {m_1 : Nat} {w : World} {K : Value → World → Prop} (h : inner_machine_swapped_sh m_1 w K) : Calls Tryz.prog fn_inner_machine_swapped #[.pointer (some ⟨m_1, 0, none⟩)] w fun e w' => ∃ v, e = .returned v ∧ K v w' :=
   lift_calls (A := inner_machine_swapped_an) (c := bodyOf Tryz.f155) (args := [.pointer (some ⟨m_1, 0, none⟩)]) orc orc_wide Tryz.func155 (by kernel_rfl) (by kernel_rfl) (Eq.mp (by kernel_rfl : inner_machine_swapped_sh m_1 w K = wpc orc Tryz.f155.ntmps inner_machine_swapped_an (bodyOf Tryz.f155) (argl 0 [.pointer (some ⟨m_1, 0, none⟩)]) w (retQ orc Tryz.f155.results.toList K)) h)

-- (*holloway/inner.machine).endCatch
def inner_machine_endCatch_sh (m_1 : Nat) (w : World) (K : Value → World → Prop) : Prop :=
 ∃ J3 : Bool → World → Prop, (∀ (b7 : Bool) (w6 : World), J3 b7 w6 →
 brB b7
 (Calls Tryz.prog fn_inner_machine_fails #[.pointer (some ⟨m_1, 0, none⟩), .int .i64 (-25 : Int)] w6 fun e8 w9 => ∃ v10 : Value, e8 = .returned (v10) ∧
 K (v10) w9)
 (∃ s11 : Sl, w6.cell? ⟨m_1, 2, none⟩ = some (s11.val) ∧
 brB (decide ((s11.len : Int) ≥ (48 : Int)))
 (Calls Tryz.prog fn_inner_machine_fails #[.pointer (some ⟨m_1, 0, none⟩), .int .i64 (-3 : Int)] w6 fun e12 w13 => ∃ v14 : Value, e12 = .returned (v14) ∧
 K (v14) w13)
 (Calls Tryz.prog fn_inner_machine_popBack #[.pointer (some ⟨m_1, 0, none⟩)] w6 fun e15 w16 => ∃ n17 : Int, e15 = .returned (.int .i64 n17) ∧
 Calls Tryz.prog fn_inner_machine_popBack #[.pointer (some ⟨m_1, 0, none⟩)] w16 fun e18 w19 => ∃ n20 : Int, e18 = .returned (.int .i64 n20) ∧
 wrOk w19 ⟨m_1, 1, none⟩ 1 ∧ ∀ w21 : World, w21 = stW w19 ⟨m_1, 1, none⟩ 0 [.int .i64 n20] →
 Calls Tryz.prog fn_inner_machine_popBack #[.pointer (some ⟨m_1, 0, none⟩)] w21 fun e22 w23 => ∃ n24 : Int, e22 = .returned (.int .i64 n24) ∧
 wrOk w23 ⟨m_1, 0, none⟩ 1 ∧ ∀ w25 : World, w25 = stW w23 ⟨m_1, 0, none⟩ 0 [.int .i64 n24] →
 ∀ (b26 : Nat) (w27 : World), b26 = w25.heap.size → w27 = World.alloc w25 (.cells #[.int .i64 (0 : Int)] T_int) →
 Calls Tryz.prog fn_inner_machine_push #[.pointer (some ⟨m_1, 0, none⟩), .slice (some ⟨b26, 0, none⟩) 1 1] w27 fun e28 w29 => e28 = .returned (.tuple #[]) ∧
 K (.nilIface) w29))) ∧
 ∀ w2 : World, w2 = World.drew w →
 ∃ n3 : Int, held (Lw w2) ⟨m_1, 1, none⟩ (.int .i64 n3) ∧
 brB (decide (n3 < (3 : Int)))
 (J3 true w2)
 (∃ s4 : Sl, held (Lw w2) ⟨m_1, 3, none⟩ (s4.val) ∧
 ∃ n5 : Int, held (Lw w2) ⟨m_1, 1, none⟩ (.int .i64 n5) ∧
 J3 ((s4.len : Int) != n5) w2)
def inner_machine_endCatch_an : An := ⟨[], [(1, (20, .st 0 (.st 1 (.st 2 (.st 3 (.st 4 (.st 5 (.st 6 (.st 7 (.st 8 (.st 9 (.st 10 (.st 11 (.st 12 (.st 13 (.st 14 (.st 15 (.st 16 (.st 17 (.st 18 (.st 19 .done))))))))))))))))))), 0))], [(2, [(22, .bool)])]⟩
theorem inner_machine_endCatch_lift {m_1 : Nat} {w : World} {K : Value → World → Prop} (h : inner_machine_endCatch_sh m_1 w K) : Calls Tryz.prog fn_inner_machine_endCatch #[.pointer (some ⟨m_1, 0, none⟩)] w fun e w' => ∃ v, e = .returned v ∧ K v w' :=
   lift_calls (A := inner_machine_endCatch_an) (c := bodyOf Tryz.f158) (args := [.pointer (some ⟨m_1, 0, none⟩)]) orc orc_wide Tryz.func158 (by kernel_rfl) (by kernel_rfl) (Eq.mp (by kernel_rfl : inner_machine_endCatch_sh m_1 w K = wpc orc Tryz.f158.ntmps inner_machine_endCatch_an (bodyOf Tryz.f158) (argl 0 [.pointer (some ⟨m_1, 0, none⟩)]) w (retQ orc Tryz.f158.results.toList K)) h)

end Go.Proofs.YtkjpmkopnkkbmaaGreatDoor

/- Functions of Digits, read without their frames; that each is enough. Printed by a program of mine (wip/lift/gen.py). -/
set_option maxRecDepth 100000
namespace Go.Proofs.YtkjpmkopnkkbmaaGreatDoor
open Go.RowKit

-- holloway/digits.Put
def digits_Put_j1 (base2 : Int) (n8 : Int) (out9 : Sl) (I1 : Int → Sl → World → Prop) (μ1 : Int → Sl → World → Nat) (w7 : World) (v_1 : Int) (b13 : Bool) (w12 : World) (K : Value → World → Prop) : Prop :=
 brB b13
 ((IntKind.wrap .u64 base2) ≠ 0 ∧ 0 ≤ (Int.tmod n8 (IntKind.wrap .u64 base2)) ∧ (Int.tmod n8 (IntKind.wrap .u64 base2)) < ((bs [48, 49, 50, 51, 52, 53, 54, 55, 56, 57, 65, 66, 67, 68, 69, 70, 71, 72, 73, 74, 75, 76, 77, 78, 79, 80, 81, 82, 83, 84, 85, 86, 87, 88, 89, 90]).size : Int) ∧
 ∀ (b14 : Nat) (w15 : World), b14 = w12.heap.size → w15 = World.alloc w12 (.cells #[.int .u8 (sb (bs [48, 49, 50, 51, 52, 53, 54, 55, 56, 57, 65, 66, 67, 68, 69, 70, 71, 72, 73, 74, 75, 76, 77, 78, 79, 80, 81, 82, 83, 84, 85, 86, 87, 88, 89, 90]) (Int.tmod n8 (IntKind.wrap .u64 base2)))] T_uint8) →
 ∃ s16 : Sl, ∃ w17 : World, (Builtin.append_ #[T_sl_uint8, T_sl_uint8] T_sl_uint8 #[.slice (some ⟨b14, 0, none⟩) 1 1, out9.val]).run Tryz.prog w15 = .ok (s16.val) w17 ∧
 (IntKind.wrap .u64 base2) ≠ 0 ∧ I1 (IntKind.wrap .u64 (Int.tdiv n8 (IntKind.wrap .u64 base2))) s16 w17 ∧ μ1 (IntKind.wrap .u64 (Int.tdiv n8 (IntKind.wrap .u64 base2))) s16 w17 < μ1 n8 out9 w7)
 (brB (decide (v_1 < (0 : Int)))
 (∃ t18 : ByteArray, ∃ w19 : World, (convert T_sl_uint8 T_string (out9.val)).run Tryz.prog w12 = .ok (.string t18) w19 ∧
 (((bs [45])).size : Int) + ((t18).size : Int) ≤ 9223372036854775807 ∧ K (.string ((bs [45]) ++ t18)) w19)
 (∃ t20 : ByteArray, ∃ w21 : World, (convert T_sl_uint8 T_string (out9.val)).run Tryz.prog w12 = .ok (.string t20) w21 ∧
 K (.string t20) w21))
def digits_Put_sh (v_1 : Int) (base2 : Int) (w : World) (K : Value → World → Prop) : Prop :=
 Calls Tryz.prog fn_digits_Right #[.int .i64 base2] w fun e3 w4 => ∃ b5 : Bool, e3 = .returned (.bool b5) ∧
 brB (!b5)
 (K (.string (bs [])) w4)
 (∃ J6 : Int → World → Prop, (∀ (n22 : Int) (w6 : World), J6 n22 w6 →
 ∃ (I1 : Int → Sl → World → Prop) (μ1 : Int → Sl → World → Nat), I1 n22 (⟨none, 0, 0⟩ : Sl) w6 ∧ ∀ (n8 : Int) (out9 : Sl) (w7 : World), I1 n8 out9 w7 →
 brB (decide (n8 > (0 : Int)))
 (digits_Put_j1 base2 n8 out9 I1 (μ1) w7 v_1 true w7 K)
 (digits_Put_j1 base2 n8 out9 I1 (μ1) w7 v_1 ((out9.len : Int) == (0 : Int)) w7 K)) ∧
 brB (decide (v_1 < (0 : Int)))
 (J6 (IntKind.wrap .u64 (0 - (IntKind.wrap .u64 v_1))) w4)
 (J6 (IntKind.wrap .u64 v_1) w4))
def digits_Put_an : An := ⟨[(7, [(5, .int .u64), (6, .sl)])], [], [(6, [(5, .int .u64)])]⟩
theorem digits_Put_lift {v_1 : Int} {base2 : Int} {w : World} {K : Value → World → Prop} (h : digits_Put_sh v_1 base2 w K) : Calls Tryz.prog fn_digits_Put #[.int .i64 v_1, .int .i64 base2] w fun e w' => ∃ v, e = .returned v ∧ K v w' :=
   lift_calls (A := digits_Put_an) (c := bodyOf Tryz.f157) (args := [.int .i64 v_1, .int .i64 base2]) orc orc_wide Tryz.func157 (by kernel_rfl) (by kernel_rfl) (Eq.mp (by kernel_rfl : digits_Put_sh v_1 base2 w K = wpc orc Tryz.f157.ntmps digits_Put_an (bodyOf Tryz.f157) (argl 0 [.int .i64 v_1, .int .i64 base2]) w (retQ orc Tryz.f157.results.toList K)) h)

-- holloway/digits.Right
def digits_Right_sh (base1 : Int) (w : World) (K : Value → World → Prop) : Prop :=
 brB (decide (base1 ≥ (2 : Int)))
 (K (.bool (decide (base1 ≤ (36 : Int)))) w)
 (K (.bool false) w)
def digits_Right_an : An := ⟨[], [], []⟩
theorem digits_Right_lift {base1 : Int} {w : World} {K : Value → World → Prop} (h : digits_Right_sh base1 w K) : Calls Tryz.prog fn_digits_Right #[.int .i64 base1] w fun e w' => ∃ v, e = .returned v ∧ K v w' :=
   lift_calls (A := digits_Right_an) (c := bodyOf Tryz.f167) (args := [.int .i64 base1]) orc orc_wide Tryz.func167 (by kernel_rfl) (by kernel_rfl) (Eq.mp (by kernel_rfl : digits_Right_sh base1 w K = wpc orc Tryz.f167.ntmps digits_Right_an (bodyOf Tryz.f167) (argl 0 [.int .i64 base1]) w (retQ orc Tryz.f167.results.toList K)) h)

end Go.Proofs.YtkjpmkopnkkbmaaGreatDoor

/- Functions of Cell, read without their frames; that each is enough. Printed by a program of mine (wip/lift/gen.py). -/
set_option maxRecDepth 100000
namespace Go.Proofs.YtkjpmkopnkkbmaaGreatDoor
open Go.RowKit

-- holloway/cell.Crosses
def cell_Crosses_sh (x_1 : Int) (n_2 : Int) (w : World) (K : Value → World → Prop) : Prop :=
 K (.bool (decide ((iand .i64 (ixor .i64 x_1 (wr (x_1 + n_2))) (ixor .i64 x_1 n_2)) < (0 : Int)))) w
def cell_Crosses_an : An := ⟨[], [], []⟩
theorem cell_Crosses_lift {x_1 : Int} {n_2 : Int} {w : World} {K : Value → World → Prop} (h : cell_Crosses_sh x_1 n_2 w K) : Calls Tryz.prog fn_cell_Crosses #[.int .i64 x_1, .int .i64 n_2] w fun e w' => ∃ v, e = .returned v ∧ K v w' :=
   lift_calls (A := cell_Crosses_an) (c := bodyOf Tryz.f156) (args := [.int .i64 x_1, .int .i64 n_2]) orc orc_wide Tryz.func156 (by kernel_rfl) (by kernel_rfl) (Eq.mp (by kernel_rfl : cell_Crosses_sh x_1 n_2 w K = wpc orc Tryz.f156.ntmps cell_Crosses_an (bodyOf Tryz.f156) (argl 0 [.int .i64 x_1, .int .i64 n_2]) w (retQ orc Tryz.f156.results.toList K)) h)

-- holloway/cell.One
-- holloway/cell.Two
-- holloway/cell.Flag
-- holloway/cell.Floor
-- holloway/cell.shift
-- holloway/cell.compare
end Go.Proofs.YtkjpmkopnkkbmaaGreatDoor

/- Functions of Hollowayref9, read without their frames; that each is enough. Printed by a program of mine (wip/lift/gen.py). -/
set_option maxRecDepth 100000
namespace Go.Proofs.YtkjpmkopnkkbmaaGreatDoor
open Go.RowKit

-- holloway/hollowayref9.Boot
def hollowayref9_Boot_sh (n_1 : Int) (in_2 : ByteArray) (w : World) (K : Value → World → Prop) : Prop :=
 ∀ (b3 : Nat) (w4 : World), b3 = w.heap.size → w4 = World.alloc w (.cells #[.int .i64 (0 : Int), .int .i64 (0 : Int), .slice none 0 0, .slice none 0 0, .slice none 0 0, .string (bs []), .string (bs []), .int .i64 (0 : Int), .int .i64 (0 : Int), .int .i64 (0 : Int)] T_api_State) →
 ∃ s5 : Sl, ∃ w6 : World, (Instr.makeSlice T_sl_int (.int .i64 (imin (imax n_1 (0 : Int)) (3000 : Int))) (.int .i64 (imin (imax n_1 (0 : Int)) (3000 : Int)))).run Tryz.prog w4 = .ok s5.val w6 ∧
 ∃ (I1 : Int → World → Prop) (μ1 : Int → World → Nat), I1 (0 : Int) w6 ∧ ∀ (k8 : Int) (w7 : World), I1 k8 w7 →
 brB (decide (k8 < (s5.len : Int)))
 (∃ J7 : World → Prop, (∀ (w18 : World), J7  w18 →
 I1 (wr (k8 + (1 : Int))) w18 ∧ μ1 (wr (k8 + (1 : Int))) w18 < μ1 k8 w7) ∧
 ∃ J8 : World → Prop, (∀ (w11 : World), J8  w11 →
 ∃ J10 : Bool → World → Prop, (∀ (b13 : Bool) (w12 : World), J10 b13 w12 →
 brB b13
 (∃ a14 : Addr, s5.ptr = some a14 ∧ 0 ≤ k8 ∧ k8 < (s5.len : Int) ∧
 wrOk w12 (Addr.add a14 (Int.toNat k8 * 1)) 1 ∧ ∀ w15 : World, w15 = stW w12 (Addr.add a14 (Int.toNat k8 * 1)) 0 [.int .i64 (5 : Int)] →
 (2 : Int) ≠ 0 ∧ brB ((Int.tmod k8 (2 : Int)) == (0 : Int))
 ((2 : Int) ≠ 0 ∧ ∃ a16 : Addr, s5.ptr = some a16 ∧ 0 ≤ k8 ∧ k8 < (s5.len : Int) ∧
 wrOk w15 (Addr.add a16 (Int.toNat k8 * 1)) 1 ∧ ∀ w17 : World, w17 = stW w15 (Addr.add a16 (Int.toNat k8 * 1)) 0 [.int .i64 (wr (Int.tdiv (wr (k8 - (64 : Int))) (2 : Int)))] →
 J7  w17)
 (J7  w15))
 (J7  w12)) ∧
 brB (decide (k8 ≥ (64 : Int)))
 (J10 (decide (k8 < (160 : Int))) w11)
 (J10 false w11)) ∧
 brB (k8 == (1 : Int))
 (∃ a9 : Addr, s5.ptr = some a9 ∧ 0 ≤ k8 ∧ k8 < (s5.len : Int) ∧
 wrOk w7 (Addr.add a9 (Int.toNat k8 * 1)) 1 ∧ ∀ w10 : World, w10 = stW w7 (Addr.add a9 (Int.toNat k8 * 1)) 0 [.int .i64 (1 : Int)] →
 J8  w10)
 (J8  w7))
 (wrOk w7 ⟨b3, 0, none⟩ 10 ∧ ∀ w19 : World, w19 = stW w7 ⟨b3, 0, none⟩ 0 [.int .i64 (0 : Int), .int .i64 (0 : Int), .slice none 0 0, .slice none 0 0, s5.val, .string (bs []), .string in_2, .int .i64 (0 : Int), .int .i64 (1 : Int), .int .i64 (0 : Int)] →
 ∃ r_Ip20 : Int, ∃ r_Handler21 : Int, ∃ r_Stack22 : Sl, ∃ r_Back23 : Sl, ∃ r_Mem24 : Sl, ∃ r_Out25 : ByteArray, ∃ r_In26 : ByteArray, ∃ r_Read27 : Int, ∃ r_Status28 : Int, ∃ r_Code29 : Int, w19.cell? ⟨b3, 0, none⟩ = some (.int .i64 r_Ip20) ∧ w19.cell? ⟨b3, 1, none⟩ = some (.int .i64 r_Handler21) ∧ w19.cell? ⟨b3, 2, none⟩ = some (r_Stack22.val) ∧ w19.cell? ⟨b3, 3, none⟩ = some (r_Back23.val) ∧ w19.cell? ⟨b3, 4, none⟩ = some (r_Mem24.val) ∧ w19.cell? ⟨b3, 5, none⟩ = some (.string r_Out25) ∧ w19.cell? ⟨b3, 6, none⟩ = some (.string r_In26) ∧ w19.cell? ⟨b3, 7, none⟩ = some (.int .i64 r_Read27) ∧ w19.cell? ⟨b3, 8, none⟩ = some (.int .i64 r_Status28) ∧ w19.cell? ⟨b3, 9, none⟩ = some (.int .i64 r_Code29) ∧
 K (.agg #[.int .i64 r_Ip20, .int .i64 r_Handler21, r_Stack22.val, r_Back23.val, r_Mem24.val, .string r_Out25, .string r_In26, .int .i64 r_Read27, .int .i64 r_Status28, .int .i64 r_Code29]) w19)
def hollowayref9_Boot_an : An := ⟨[(3, [(6, .int .i64)])], [], [(8, [(27, .bool)]), (7, []), (4, [])]⟩
theorem hollowayref9_Boot_lift {n_1 : Int} {in_2 : ByteArray} {w : World} {K : Value → World → Prop} (h : hollowayref9_Boot_sh n_1 in_2 w K) : Calls Tryz.prog fn_hollowayref9_Boot #[.int .i64 n_1, .string in_2] w fun e w' => ∃ v, e = .returned v ∧ K v w' :=
   lift_calls (A := hollowayref9_Boot_an) (c := bodyOf Tryz.f12) (args := [.int .i64 n_1, .string in_2]) orc orc_wide Tryz.func12 (by kernel_rfl) (by kernel_rfl) (Eq.mp (by kernel_rfl : hollowayref9_Boot_sh n_1 in_2 w K = wpc orc Tryz.f12.ntmps hollowayref9_Boot_an (bodyOf Tryz.f12) (argl 0 [.int .i64 n_1, .string in_2]) w (retQ orc Tryz.f12.results.toList K)) h)

-- holloway/hollowayref9.Right
def hollowayref9_Right_sh (s__Ip1 : Int) (s__Handler2 : Int) (s__Stack3 : Sl) (s__Back4 : Sl) (s__Mem5 : Sl) (s__Out6 : ByteArray) (s__In7 : ByteArray) (s__Read8 : Int) (s__Status9 : Int) (s__Code10 : Int) (w : World) (K : Value → World → Prop) : Prop :=
 ∀ (b11 : Nat) (w12 : World), b11 = w.heap.size → w12 = World.alloc w (.cells #[.int .i64 s__Ip1, .int .i64 s__Handler2, s__Stack3.val, s__Back4.val, s__Mem5.val, .string s__Out6, .string s__In7, .int .i64 s__Read8, .int .i64 s__Status9, .int .i64 s__Code10] T_api_State) →
 ∃ s13 : Sl, w12.cell? ⟨b11, 2, none⟩ = some (s13.val) ∧
 brB (decide ((s13.len : Int) ≤ (48 : Int)))
 (∃ s14 : Sl, w12.cell? ⟨b11, 3, none⟩ = some (s14.val) ∧
 brB (decide ((s14.len : Int) ≤ (48 : Int)))
 (∃ s15 : Sl, w12.cell? ⟨b11, 4, none⟩ = some (s15.val) ∧
 brB (decide ((s15.len : Int) ≤ (3000 : Int)))
 (∃ t16 : ByteArray, w12.cell? ⟨b11, 5, none⟩ = some (.string t16) ∧
 brB (decide ((t16.size : Int) ≤ (2000 : Int)))
 (∃ n17 : Int, w12.cell? ⟨b11, 7, none⟩ = some (.int .i64 n17) ∧
 brB (decide (n17 ≥ (0 : Int)))
 (∃ n18 : Int, w12.cell? ⟨b11, 7, none⟩ = some (.int .i64 n18) ∧
 ∃ t19 : ByteArray, w12.cell? ⟨b11, 6, none⟩ = some (.string t19) ∧
 brB (decide (n18 ≤ (t19.size : Int)))
 (∃ n20 : Int, w12.cell? ⟨b11, 8, none⟩ = some (.int .i64 n20) ∧
 brB (decide (n20 ≥ (0 : Int)))
 (∃ n21 : Int, w12.cell? ⟨b11, 8, none⟩ = some (.int .i64 n21) ∧
 K (.bool (decide (n21 ≤ (2 : Int)))) w12)
 (K (.bool false) w12))
 (K (.bool false) w12))
 (K (.bool false) w12))
 (K (.bool false) w12))
 (K (.bool false) w12))
 (K (.bool false) w12))
 (K (.bool false) w12)
def hollowayref9_Right_an : An := ⟨[], [], []⟩
theorem hollowayref9_Right_lift {s__Ip1 : Int} {s__Handler2 : Int} {s__Stack3 : Sl} {s__Back4 : Sl} {s__Mem5 : Sl} {s__Out6 : ByteArray} {s__In7 : ByteArray} {s__Read8 : Int} {s__Status9 : Int} {s__Code10 : Int} {w : World} {K : Value → World → Prop} (h : hollowayref9_Right_sh s__Ip1 s__Handler2 s__Stack3 s__Back4 s__Mem5 s__Out6 s__In7 s__Read8 s__Status9 s__Code10 w K) : Calls Tryz.prog fn_hollowayref9_Right #[.agg #[.int .i64 s__Ip1, .int .i64 s__Handler2, s__Stack3.val, s__Back4.val, s__Mem5.val, .string s__Out6, .string s__In7, .int .i64 s__Read8, .int .i64 s__Status9, .int .i64 s__Code10]] w fun e w' => ∃ v, e = .returned v ∧ K v w' :=
   lift_calls (A := hollowayref9_Right_an) (c := bodyOf Tryz.f14) (args := [.agg #[.int .i64 s__Ip1, .int .i64 s__Handler2, s__Stack3.val, s__Back4.val, s__Mem5.val, .string s__Out6, .string s__In7, .int .i64 s__Read8, .int .i64 s__Status9, .int .i64 s__Code10]]) orc orc_wide Tryz.func14 (by kernel_rfl) (by kernel_rfl) (Eq.mp (by kernel_rfl : hollowayref9_Right_sh s__Ip1 s__Handler2 s__Stack3 s__Back4 s__Mem5 s__Out6 s__In7 s__Read8 s__Status9 s__Code10 w K = wpc orc Tryz.f14.ntmps hollowayref9_Right_an (bodyOf Tryz.f14) (argl 0 [.agg #[.int .i64 s__Ip1, .int .i64 s__Handler2, s__Stack3.val, s__Back4.val, s__Mem5.val, .string s__Out6, .string s__In7, .int .i64 s__Read8, .int .i64 s__Status9, .int .i64 s__Code10]]) w (retQ orc Tryz.f14.results.toList K)) h)

-- holloway/hollowayref9.Enter
def hollowayref9_Enter_sh (s__Ip1 : Int) (s__Handler2 : Int) (s__Stack3 : Sl) (s__Back4 : Sl) (s__Mem5 : Sl) (s__Out6 : ByteArray) (s__In7 : ByteArray) (s__Read8 : Int) (s__Status9 : Int) (s__Code10 : Int) (xt11 : Int) (w : World) (K : Value → World → Prop) : Prop :=
 ∀ (b12 : Nat) (w13 : World), b12 = w.heap.size → w13 = World.alloc w (.cells #[.int .i64 s__Ip1, .int .i64 s__Handler2, s__Stack3.val, s__Back4.val, s__Mem5.val, .string s__Out6, .string s__In7, .int .i64 s__Read8, .int .i64 s__Status9, .int .i64 s__Code10] T_api_State) →
 ∀ (b14 : Nat) (w15 : World), b14 = w13.heap.size → w15 = World.alloc w13 (.cells #[.int .i64 (0 : Int), .int .i64 (0 : Int), .slice none 0 0, .slice none 0 0, .slice none 0 0, .string (bs []), .string (bs []), .int .i64 (0 : Int), .int .i64 (0 : Int), .int .i64 (0 : Int)] T_api_State) →
 ∀ (b16 : Nat) (w17 : World), b16 = w15.heap.size → w17 = World.alloc w15 (.cells #[.int .i64 (0 : Int)] T_int) →
 wrOk w17 ⟨b12, 0, none⟩ 1 ∧ ∀ w18 : World, w18 = stW w17 ⟨b12, 0, none⟩ 0 [.int .i64 xt11] →
 wrOk w18 ⟨b12, 1, none⟩ 1 ∧ ∀ w19 : World, w19 = stW w18 ⟨b12, 1, none⟩ 0 [.int .i64 (0 : Int)] →
 wrOk w19 ⟨b12, 3, none⟩ 1 ∧ ∀ w20 : World, w20 = stW w19 ⟨b12, 3, none⟩ 0 [.slice (some ⟨b16, 0, none⟩) 1 1] →
 wrOk w20 ⟨b12, 8, none⟩ 1 ∧ ∀ w21 : World, w21 = stW w20 ⟨b12, 8, none⟩ 0 [.int .i64 (0 : Int)] →
 wrOk w21 ⟨b12, 9, none⟩ 1 ∧ ∀ w22 : World, w22 = stW w21 ⟨b12, 9, none⟩ 0 [.int .i64 (0 : Int)] →
 ∃ n_Ip23 : Int, ∃ n_Handler24 : Int, ∃ s_Stack25 : Sl, ∃ s_Back26 : Sl, ∃ s_Mem27 : Sl, ∃ t_Out28 : ByteArray, ∃ t_In29 : ByteArray, ∃ n_Read30 : Int, ∃ n_Status31 : Int, ∃ n_Code32 : Int, w22.cell? ⟨b12, 0, none⟩ = some (.int .i64 n_Ip23) ∧ w22.cell? ⟨b12, 1, none⟩ = some (.int .i64 n_Handler24) ∧ w22.cell? ⟨b12, 2, none⟩ = some (s_Stack25.val) ∧ w22.cell? ⟨b12, 3, none⟩ = some (s_Back26.val) ∧ w22.cell? ⟨b12, 4, none⟩ = some (s_Mem27.val) ∧ w22.cell? ⟨b12, 5, none⟩ = some (.string t_Out28) ∧ w22.cell? ⟨b12, 6, none⟩ = some (.string t_In29) ∧ w22.cell? ⟨b12, 7, none⟩ = some (.int .i64 n_Read30) ∧ w22.cell? ⟨b12, 8, none⟩ = some (.int .i64 n_Status31) ∧ w22.cell? ⟨b12, 9, none⟩ = some (.int .i64 n_Code32) ∧
 wrOk w22 ⟨b14, 0, none⟩ 10 ∧ ∀ w33 : World, w33 = stW w22 ⟨b14, 0, none⟩ 0 [.int .i64 n_Ip23, .int .i64 n_Handler24, s_Stack25.val, s_Back26.val, s_Mem27.val, .string t_Out28, .string t_In29, .int .i64 n_Read30, .int .i64 n_Status31, .int .i64 n_Code32] →
 ∃ r_Ip34 : Int, ∃ r_Handler35 : Int, ∃ r_Stack36 : Sl, ∃ r_Back37 : Sl, ∃ r_Mem38 : Sl, ∃ r_Out39 : ByteArray, ∃ r_In40 : ByteArray, ∃ r_Read41 : Int, ∃ r_Status42 : Int, ∃ r_Code43 : Int, w33.cell? ⟨b14, 0, none⟩ = some (.int .i64 r_Ip34) ∧ w33.cell? ⟨b14, 1, none⟩ = some (.int .i64 r_Handler35) ∧ w33.cell? ⟨b14, 2, none⟩ = some (r_Stack36.val) ∧ w33.cell? ⟨b14, 3, none⟩ = some (r_Back37.val) ∧ w33.cell? ⟨b14, 4, none⟩ = some (r_Mem38.val) ∧ w33.cell? ⟨b14, 5, none⟩ = some (.string r_Out39) ∧ w33.cell? ⟨b14, 6, none⟩ = some (.string r_In40) ∧ w33.cell? ⟨b14, 7, none⟩ = some (.int .i64 r_Read41) ∧ w33.cell? ⟨b14, 8, none⟩ = some (.int .i64 r_Status42) ∧ w33.cell? ⟨b14, 9, none⟩ = some (.int .i64 r_Code43) ∧
 K (.agg #[.int .i64 r_Ip34, .int .i64 r_Handler35, r_Stack36.val, r_Back37.val, r_Mem38.val, .string r_Out39, .string r_In40, .int .i64 r_Read41, .int .i64 r_Status42, .int .i64 r_Code43]) w33
def hollowayref9_Enter_an : An := ⟨[], [], []⟩
theorem hollowayref9_Enter_lift {s__Ip1 : Int} {s__Handler2 : Int} {s__Stack3 : Sl} {s__Back4 : Sl} {s__Mem5 : Sl} {s__Out6 : ByteArray} {s__In7 : ByteArray} {s__Read8 : Int} {s__Status9 : Int} {s__Code10 : Int} {xt11 : Int} {w : World} {K : Value → World → Prop} (h : hollowayref9_Enter_sh s__Ip1 s__Handler2 s__Stack3 s__Back4 s__Mem5 s__Out6 s__In7 s__Read8 s__Status9 s__Code10 xt11 w K) : Calls Tryz.prog fn_hollowayref9_Enter #[.agg #[.int .i64 s__Ip1, .int .i64 s__Handler2, s__Stack3.val, s__Back4.val, s__Mem5.val, .string s__Out6, .string s__In7, .int .i64 s__Read8, .int .i64 s__Status9, .int .i64 s__Code10], .int .i64 xt11] w fun e w' => ∃ v, e = .returned v ∧ K v w' :=
   lift_calls (A := hollowayref9_Enter_an) (c := bodyOf Tryz.f19) (args := [.agg #[.int .i64 s__Ip1, .int .i64 s__Handler2, s__Stack3.val, s__Back4.val, s__Mem5.val, .string s__Out6, .string s__In7, .int .i64 s__Read8, .int .i64 s__Status9, .int .i64 s__Code10], .int .i64 xt11]) orc orc_wide Tryz.func19 (by kernel_rfl) (by kernel_rfl) (Eq.mp (by kernel_rfl : hollowayref9_Enter_sh s__Ip1 s__Handler2 s__Stack3 s__Back4 s__Mem5 s__Out6 s__In7 s__Read8 s__Status9 s__Code10 xt11 w K = wpc orc Tryz.f19.ntmps hollowayref9_Enter_an (bodyOf Tryz.f19) (argl 0 [.agg #[.int .i64 s__Ip1, .int .i64 s__Handler2, s__Stack3.val, s__Back4.val, s__Mem5.val, .string s__Out6, .string s__In7, .int .i64 s__Read8, .int .i64 s__Status9, .int .i64 s__Code10], .int .i64 xt11]) w (retQ orc Tryz.f19.results.toList K)) h)

-- holloway/hollowayref9.Fault
def hollowayref9_Fault_sh (s__Ip1 : Int) (s__Handler2 : Int) (s__Stack3 : Sl) (s__Back4 : Sl) (s__Mem5 : Sl) (s__Out6 : ByteArray) (s__In7 : ByteArray) (s__Read8 : Int) (s__Status9 : Int) (s__Code10 : Int) (code11 : Int) (w : World) (K : Value → World → Prop) : Prop :=
 ∀ (b12 : Nat) (w13 : World), b12 = w.heap.size → w13 = World.alloc w (.cells #[.int .i64 s__Ip1, .int .i64 s__Handler2, s__Stack3.val, s__Back4.val, s__Mem5.val, .string s__Out6, .string s__In7, .int .i64 s__Read8, .int .i64 s__Status9, .int .i64 s__Code10] T_api_State) →
 ∀ (b14 : Nat) (w15 : World), b14 = w13.heap.size → w15 = World.alloc w13 (.cells #[.int .i64 (0 : Int), .int .i64 (0 : Int), .slice none 0 0, .slice none 0 0, .slice none 0 0, .string (bs []), .string (bs []), .int .i64 (0 : Int), .int .i64 (0 : Int), .int .i64 (0 : Int)] T_api_State) →
 ∃ n16 : Int, w15.cell? ⟨b12, 1, none⟩ = some (.int .i64 n16) ∧
 ∃ J4 : Bool → World → Prop, (∀ (b25 : Bool) (w24 : World), J4 b25 w24 →
 brB b25
 (∃ s26 : Sl, w24.cell? ⟨b12, 3, none⟩ = some (s26.val) ∧
 ∃ a27 : Addr, s26.ptr = some a27 ∧ 0 ≤ (wr (n16 - (1 : Int))) ∧ (wr (n16 - (1 : Int))) < (s26.len : Int) ∧
 ∃ n28 : Int, w24.cell? (Addr.add a27 (Int.toNat (wr (n16 - (1 : Int))) * 1)) = some (.int .i64 n28) ∧
 ∀ w29 : World, w29 = World.drew w24 →
 ∃ S30 : World → Prop, S30 w29 ∧
 ∃ s31 : Sl, held S30 ⟨b12, 3, none⟩ (s31.val) ∧
 ∃ a32 : Addr, s31.ptr = some a32 ∧ 0 ≤ (wr (n16 - (2 : Int))) ∧ (wr (n16 - (2 : Int))) < (s31.len : Int) ∧
 ∃ n33 : Int, held S30 (Addr.add a32 (Int.toNat (wr (n16 - (2 : Int))) * 1)) (.int .i64 n33) ∧
 ∃ s34 : Sl, held S30 ⟨b12, 3, none⟩ (s34.val) ∧
 ∃ a35 : Addr, s34.ptr = some a35 ∧ 0 ≤ (wr (n16 - (3 : Int))) ∧ (wr (n16 - (3 : Int))) < (s34.len : Int) ∧
 ∃ n36 : Int, held S30 (Addr.add a35 (Int.toNat (wr (n16 - (3 : Int))) * 1)) (.int .i64 n36) ∧
 wrOk w29 ⟨b12, 1, none⟩ 1 ∧ ∀ w37 : World, w37 = stW w29 ⟨b12, 1, none⟩ 0 [.int .i64 n33] →
 S30 w37 ∧
 wrOk w37 ⟨b12, 0, none⟩ 1 ∧ ∀ w38 : World, w38 = stW w37 ⟨b12, 0, none⟩ 0 [.int .i64 n36] →
 ∃ s39 : Sl, w38.cell? ⟨b12, 3, none⟩ = some (s39.val) ∧
 0 ≤ (wr (n16 - (3 : Int))) ∧ (wr (n16 - (3 : Int))) ≤ (s39.cap : Int) ∧ ∀ s40 : Sl, s40 = Sl.sub s39.ptr s39.cap 0 (Int.toNat (wr (n16 - (3 : Int)))) 1 →
 ∃ s41 : Sl, ∃ w42 : World, (Builtin.append_ #[T_sl_int, T_sl_int] T_sl_int #[.slice none 0 0, s40.val]).run Tryz.prog w38 = .ok (s41.val) w42 ∧
 wrOk w42 ⟨b12, 3, none⟩ 1 ∧ ∀ w43 : World, w43 = stW w42 ⟨b12, 3, none⟩ 0 [s41.val] →
 ∃ s44 : Sl, w43.cell? ⟨b12, 2, none⟩ = some (s44.val) ∧
 ∃ s45 : Sl, w43.cell? ⟨b12, 2, none⟩ = some (s45.val) ∧
 0 ≤ (imin n28 (s45.len : Int)) ∧ (imin n28 (s45.len : Int)) ≤ (s44.cap : Int) ∧ ∀ s46 : Sl, s46 = Sl.sub s44.ptr s44.cap 0 (Int.toNat (imin n28 (s45.len : Int))) 1 →
 ∃ s47 : Sl, ∃ w48 : World, (Builtin.append_ #[T_sl_int, T_sl_int] T_sl_int #[.slice none 0 0, s46.val]).run Tryz.prog w43 = .ok (s47.val) w48 ∧
 ∃ (I1 : Sl → World → Prop) (μ1 : Sl → World → Nat), I1 s47 w48 ∧ ∀ (l50 : Sl) (w49 : World), I1 l50 w49 →
 brB (decide ((l50.len : Int) < n28))
 (∀ (b51 : Nat) (w52 : World), b51 = w49.heap.size → w52 = World.alloc w49 (.cells #[.int .i64 (0 : Int)] T_int) →
 ∃ s53 : Sl, ∃ w54 : World, (Builtin.append_ #[T_sl_int, T_sl_int] T_sl_int #[l50.val, .slice (some ⟨b51, 0, none⟩) 1 1]).run Tryz.prog w52 = .ok (s53.val) w54 ∧
 I1 s53 w54 ∧ μ1 s53 w54 < μ1 l50 w49)
 (∀ (b55 : Nat) (w56 : World), b55 = w49.heap.size → w56 = World.alloc w49 (.cells #[.int .i64 code11] T_int) →
 ∃ s57 : Sl, ∃ w58 : World, (Builtin.append_ #[T_sl_int, T_sl_int] T_sl_int #[l50.val, .slice (some ⟨b55, 0, none⟩) 1 1]).run Tryz.prog w56 = .ok (s57.val) w58 ∧
 wrOk w58 ⟨b12, 2, none⟩ 1 ∧ ∀ w59 : World, w59 = stW w58 ⟨b12, 2, none⟩ 0 [s57.val] →
 ∃ n_Ip60 : Int, ∃ n_Handler61 : Int, ∃ s_Stack62 : Sl, ∃ s_Back63 : Sl, ∃ s_Mem64 : Sl, ∃ t_Out65 : ByteArray, ∃ t_In66 : ByteArray, ∃ n_Read67 : Int, ∃ n_Status68 : Int, ∃ n_Code69 : Int, w59.cell? ⟨b12, 0, none⟩ = some (.int .i64 n_Ip60) ∧ w59.cell? ⟨b12, 1, none⟩ = some (.int .i64 n_Handler61) ∧ w59.cell? ⟨b12, 2, none⟩ = some (s_Stack62.val) ∧ w59.cell? ⟨b12, 3, none⟩ = some (s_Back63.val) ∧ w59.cell? ⟨b12, 4, none⟩ = some (s_Mem64.val) ∧ w59.cell? ⟨b12, 5, none⟩ = some (.string t_Out65) ∧ w59.cell? ⟨b12, 6, none⟩ = some (.string t_In66) ∧ w59.cell? ⟨b12, 7, none⟩ = some (.int .i64 n_Read67) ∧ w59.cell? ⟨b12, 8, none⟩ = some (.int .i64 n_Status68) ∧ w59.cell? ⟨b12, 9, none⟩ = some (.int .i64 n_Code69) ∧
 wrOk w59 ⟨b14, 0, none⟩ 10 ∧ ∀ w70 : World, w70 = stW w59 ⟨b14, 0, none⟩ 0 [.int .i64 n_Ip60, .int .i64 n_Handler61, s_Stack62.val, s_Back63.val, s_Mem64.val, .string t_Out65, .string t_In66, .int .i64 n_Read67, .int .i64 n_Status68, .int .i64 n_Code69] →
 ∃ r_Ip71 : Int, ∃ r_Handler72 : Int, ∃ r_Stack73 : Sl, ∃ r_Back74 : Sl, ∃ r_Mem75 : Sl, ∃ r_Out76 : ByteArray, ∃ r_In77 : ByteArray, ∃ r_Read78 : Int, ∃ r_Status79 : Int, ∃ r_Code80 : Int, w70.cell? ⟨b14, 0, none⟩ = some (.int .i64 r_Ip71) ∧ w70.cell? ⟨b14, 1, none⟩ = some (.int .i64 r_Handler72) ∧ w70.cell? ⟨b14, 2, none⟩ = some (r_Stack73.val) ∧ w70.cell? ⟨b14, 3, none⟩ = some (r_Back74.val) ∧ w70.cell? ⟨b14, 4, none⟩ = some (r_Mem75.val) ∧ w70.cell? ⟨b14, 5, none⟩ = some (.string r_Out76) ∧ w70.cell? ⟨b14, 6, none⟩ = some (.string r_In77) ∧ w70.cell? ⟨b14, 7, none⟩ = some (.int .i64 r_Read78) ∧ w70.cell? ⟨b14, 8, none⟩ = some (.int .i64 r_Status79) ∧ w70.cell? ⟨b14, 9, none⟩ = some (.int .i64 r_Code80) ∧
 K (.agg #[.int .i64 r_Ip71, .int .i64 r_Handler72, r_Stack73.val, r_Back74.val, r_Mem75.val, .string r_Out76, .string r_In77, .int .i64 r_Read78, .int .i64 r_Status79, .int .i64 r_Code80]) w70))
 (wrOk w24 ⟨b12, 8, none⟩ 1 ∧ ∀ w81 : World, w81 = stW w24 ⟨b12, 8, none⟩ 0 [.int .i64 (2 : Int)] →
 wrOk w81 ⟨b12, 9, none⟩ 1 ∧ ∀ w82 : World, w82 = stW w81 ⟨b12, 9, none⟩ 0 [.int .i64 code11] →
 ∃ n_Ip83 : Int, ∃ n_Handler84 : Int, ∃ s_Stack85 : Sl, ∃ s_Back86 : Sl, ∃ s_Mem87 : Sl, ∃ t_Out88 : ByteArray, ∃ t_In89 : ByteArray, ∃ n_Read90 : Int, ∃ n_Status91 : Int, ∃ n_Code92 : Int, w82.cell? ⟨b12, 0, none⟩ = some (.int .i64 n_Ip83) ∧ w82.cell? ⟨b12, 1, none⟩ = some (.int .i64 n_Handler84) ∧ w82.cell? ⟨b12, 2, none⟩ = some (s_Stack85.val) ∧ w82.cell? ⟨b12, 3, none⟩ = some (s_Back86.val) ∧ w82.cell? ⟨b12, 4, none⟩ = some (s_Mem87.val) ∧ w82.cell? ⟨b12, 5, none⟩ = some (.string t_Out88) ∧ w82.cell? ⟨b12, 6, none⟩ = some (.string t_In89) ∧ w82.cell? ⟨b12, 7, none⟩ = some (.int .i64 n_Read90) ∧ w82.cell? ⟨b12, 8, none⟩ = some (.int .i64 n_Status91) ∧ w82.cell? ⟨b12, 9, none⟩ = some (.int .i64 n_Code92) ∧
 wrOk w82 ⟨b14, 0, none⟩ 10 ∧ ∀ w93 : World, w93 = stW w82 ⟨b14, 0, none⟩ 0 [.int .i64 n_Ip83, .int .i64 n_Handler84, s_Stack85.val, s_Back86.val, s_Mem87.val, .string t_Out88, .string t_In89, .int .i64 n_Read90, .int .i64 n_Status91, .int .i64 n_Code92] →
 ∃ r_Ip94 : Int, ∃ r_Handler95 : Int, ∃ r_Stack96 : Sl, ∃ r_Back97 : Sl, ∃ r_Mem98 : Sl, ∃ r_Out99 : ByteArray, ∃ r_In100 : ByteArray, ∃ r_Read101 : Int, ∃ r_Status102 : Int, ∃ r_Code103 : Int, w93.cell? ⟨b14, 0, none⟩ = some (.int .i64 r_Ip94) ∧ w93.cell? ⟨b14, 1, none⟩ = some (.int .i64 r_Handler95) ∧ w93.cell? ⟨b14, 2, none⟩ = some (r_Stack96.val) ∧ w93.cell? ⟨b14, 3, none⟩ = some (r_Back97.val) ∧ w93.cell? ⟨b14, 4, none⟩ = some (r_Mem98.val) ∧ w93.cell? ⟨b14, 5, none⟩ = some (.string r_Out99) ∧ w93.cell? ⟨b14, 6, none⟩ = some (.string r_In100) ∧ w93.cell? ⟨b14, 7, none⟩ = some (.int .i64 r_Read101) ∧ w93.cell? ⟨b14, 8, none⟩ = some (.int .i64 r_Status102) ∧ w93.cell? ⟨b14, 9, none⟩ = some (.int .i64 r_Code103) ∧
 K (.agg #[.int .i64 r_Ip94, .int .i64 r_Handler95, r_Stack96.val, r_Back97.val, r_Mem98.val, .string r_Out99, .string r_In100, .int .i64 r_Read101, .int .i64 r_Status102, .int .i64 r_Code103]) w93)) ∧
 brB (decide (n16 ≥ (3 : Int)))
 (∃ s17 : Sl, w15.cell? ⟨b12, 3, none⟩ = some (s17.val) ∧
 brB (decide (n16 ≤ (s17.len : Int)))
 (∃ s18 : Sl, w15.cell? ⟨b12, 3, none⟩ = some (s18.val) ∧
 ∃ a19 : Addr, s18.ptr = some a19 ∧ 0 ≤ (wr (n16 - (1 : Int))) ∧ (wr (n16 - (1 : Int))) < (s18.len : Int) ∧
 ∃ n20 : Int, w15.cell? (Addr.add a19 (Int.toNat (wr (n16 - (1 : Int))) * 1)) = some (.int .i64 n20) ∧
 brB (decide (n20 ≥ (0 : Int)))
 (∃ s21 : Sl, w15.cell? ⟨b12, 3, none⟩ = some (s21.val) ∧
 ∃ a22 : Addr, s21.ptr = some a22 ∧ 0 ≤ (wr (n16 - (1 : Int))) ∧ (wr (n16 - (1 : Int))) < (s21.len : Int) ∧
 ∃ n23 : Int, w15.cell? (Addr.add a22 (Int.toNat (wr (n16 - (1 : Int))) * 1)) = some (.int .i64 n23) ∧
 J4 (decide (n23 < (48 : Int))) w15)
 (J4 false w15))
 (J4 false w15))
 (J4 false w15)
def hollowayref9_Fault_an : An := ⟨[(7, [(7, .sl)])], [(4, (14, .st 0 (.st 1 (.st 2 (.st 3 (.st 4 (.st 5 (.st 6 (.st 7 (.st 8 (.st 9 (.st 10 (.st 11 (.st 12 (.ef 13 .done))))))))))))), 1))], [(3, [(36, .bool)])]⟩
theorem hollowayref9_Fault_lift {s__Ip1 : Int} {s__Handler2 : Int} {s__Stack3 : Sl} {s__Back4 : Sl} {s__Mem5 : Sl} {s__Out6 : ByteArray} {s__In7 : ByteArray} {s__Read8 : Int} {s__Status9 : Int} {s__Code10 : Int} {code11 : Int} {w : World} {K : Value → World → Prop} (h : hollowayref9_Fault_sh s__Ip1 s__Handler2 s__Stack3 s__Back4 s__Mem5 s__Out6 s__In7 s__Read8 s__Status9 s__Code10 code11 w K) : Calls Tryz.prog fn_hollowayref9_Fault #[.agg #[.int .i64 s__Ip1, .int .i64 s__Handler2, s__Stack3.val, s__Back4.val, s__Mem5.val, .string s__Out6, .string s__In7, .int .i64 s__Read8, .int .i64 s__Status9, .int .i64 s__Code10], .int .i64 code11] w fun e w' => ∃ v, e = .returned v ∧ K v w' :=
   lift_calls (A := hollowayref9_Fault_an) (c := bodyOf Tryz.f20) (args := [.agg #[.int .i64 s__Ip1, .int .i64 s__Handler2, s__Stack3.val, s__Back4.val, s__Mem5.val, .string s__Out6, .string s__In7, .int .i64 s__Read8, .int .i64 s__Status9, .int .i64 s__Code10], .int .i64 code11]) orc orc_wide Tryz.func20 (by kernel_rfl) (by kernel_rfl) (Eq.mp (by kernel_rfl : hollowayref9_Fault_sh s__Ip1 s__Handler2 s__Stack3 s__Back4 s__Mem5 s__Out6 s__In7 s__Read8 s__Status9 s__Code10 code11 w K = wpc orc Tryz.f20.ntmps hollowayref9_Fault_an (bodyOf Tryz.f20) (argl 0 [.agg #[.int .i64 s__Ip1, .int .i64 s__Handler2, s__Stack3.val, s__Back4.val, s__Mem5.val, .string s__Out6, .string s__In7, .int .i64 s__Read8, .int .i64 s__Status9, .int .i64 s__Code10], .int .i64 code11]) w (retQ orc Tryz.f20.results.toList K)) h)

-- holloway/hollowayref9.Step
def hollowayref9_Step_sh (was_Ip1 : Int) (was_Handler2 : Int) (was_Stack3 : Sl) (was_Back4 : Sl) (was_Mem5 : Sl) (was_Out6 : ByteArray) (was_In7 : ByteArray) (was_Read8 : Int) (was_Status9 : Int) (was_Code10 : Int) (w : World) (K : Value → World → Prop) : Prop :=
 ∀ (b11 : Nat) (w12 : World), b11 = w.heap.size → w12 = World.alloc w (.cells #[.int .i64 was_Ip1, .int .i64 was_Handler2, was_Stack3.val, was_Back4.val, was_Mem5.val, .string was_Out6, .string was_In7, .int .i64 was_Read8, .int .i64 was_Status9, .int .i64 was_Code10] T_api_State) →
 ∀ (b13 : Nat) (w14 : World), b13 = w12.heap.size → w14 = World.alloc w12 (.cells #[.int .i64 (0 : Int), .int .i64 (0 : Int), .slice none 0 0, .slice none 0 0, .slice none 0 0, .string (bs []), .string (bs []), .int .i64 (0 : Int), .int .i64 (0 : Int), .int .i64 (0 : Int)] T_api_State) →
 ∃ n15 : Int, w14.cell? ⟨b11, 8, none⟩ = some (.int .i64 n15) ∧
 brB (n15 != (0 : Int))
 (∃ n_Ip16 : Int, ∃ n_Handler17 : Int, ∃ s_Stack18 : Sl, ∃ s_Back19 : Sl, ∃ s_Mem20 : Sl, ∃ t_Out21 : ByteArray, ∃ t_In22 : ByteArray, ∃ n_Read23 : Int, ∃ n_Status24 : Int, ∃ n_Code25 : Int, w14.cell? ⟨b11, 0, none⟩ = some (.int .i64 n_Ip16) ∧ w14.cell? ⟨b11, 1, none⟩ = some (.int .i64 n_Handler17) ∧ w14.cell? ⟨b11, 2, none⟩ = some (s_Stack18.val) ∧ w14.cell? ⟨b11, 3, none⟩ = some (s_Back19.val) ∧ w14.cell? ⟨b11, 4, none⟩ = some (s_Mem20.val) ∧ w14.cell? ⟨b11, 5, none⟩ = some (.string t_Out21) ∧ w14.cell? ⟨b11, 6, none⟩ = some (.string t_In22) ∧ w14.cell? ⟨b11, 7, none⟩ = some (.int .i64 n_Read23) ∧ w14.cell? ⟨b11, 8, none⟩ = some (.int .i64 n_Status24) ∧ w14.cell? ⟨b11, 9, none⟩ = some (.int .i64 n_Code25) ∧
 wrOk w14 ⟨b13, 0, none⟩ 10 ∧ ∀ w26 : World, w26 = stW w14 ⟨b13, 0, none⟩ 0 [.int .i64 n_Ip16, .int .i64 n_Handler17, s_Stack18.val, s_Back19.val, s_Mem20.val, .string t_Out21, .string t_In22, .int .i64 n_Read23, .int .i64 n_Status24, .int .i64 n_Code25] →
 ∃ r_Ip27 : Int, ∃ r_Handler28 : Int, ∃ r_Stack29 : Sl, ∃ r_Back30 : Sl, ∃ r_Mem31 : Sl, ∃ r_Out32 : ByteArray, ∃ r_In33 : ByteArray, ∃ r_Read34 : Int, ∃ r_Status35 : Int, ∃ r_Code36 : Int, w26.cell? ⟨b13, 0, none⟩ = some (.int .i64 r_Ip27) ∧ w26.cell? ⟨b13, 1, none⟩ = some (.int .i64 r_Handler28) ∧ w26.cell? ⟨b13, 2, none⟩ = some (r_Stack29.val) ∧ w26.cell? ⟨b13, 3, none⟩ = some (r_Back30.val) ∧ w26.cell? ⟨b13, 4, none⟩ = some (r_Mem31.val) ∧ w26.cell? ⟨b13, 5, none⟩ = some (.string r_Out32) ∧ w26.cell? ⟨b13, 6, none⟩ = some (.string r_In33) ∧ w26.cell? ⟨b13, 7, none⟩ = some (.int .i64 r_Read34) ∧ w26.cell? ⟨b13, 8, none⟩ = some (.int .i64 r_Status35) ∧ w26.cell? ⟨b13, 9, none⟩ = some (.int .i64 r_Code36) ∧
 K (.agg #[.int .i64 r_Ip27, .int .i64 r_Handler28, r_Stack29.val, r_Back30.val, r_Mem31.val, .string r_Out32, .string r_In33, .int .i64 r_Read34, .int .i64 r_Status35, .int .i64 r_Code36]) w26)
 (∃ n_Ip37 : Int, ∃ n_Handler38 : Int, ∃ s_Stack39 : Sl, ∃ s_Back40 : Sl, ∃ s_Mem41 : Sl, ∃ t_Out42 : ByteArray, ∃ t_In43 : ByteArray, ∃ n_Read44 : Int, ∃ n_Status45 : Int, ∃ n_Code46 : Int, w14.cell? ⟨b11, 0, none⟩ = some (.int .i64 n_Ip37) ∧ w14.cell? ⟨b11, 1, none⟩ = some (.int .i64 n_Handler38) ∧ w14.cell? ⟨b11, 2, none⟩ = some (s_Stack39.val) ∧ w14.cell? ⟨b11, 3, none⟩ = some (s_Back40.val) ∧ w14.cell? ⟨b11, 4, none⟩ = some (s_Mem41.val) ∧ w14.cell? ⟨b11, 5, none⟩ = some (.string t_Out42) ∧ w14.cell? ⟨b11, 6, none⟩ = some (.string t_In43) ∧ w14.cell? ⟨b11, 7, none⟩ = some (.int .i64 n_Read44) ∧ w14.cell? ⟨b11, 8, none⟩ = some (.int .i64 n_Status45) ∧ w14.cell? ⟨b11, 9, none⟩ = some (.int .i64 n_Code46) ∧
 Calls Tryz.prog fn_hollowayref9_Copy #[.agg #[.int .i64 n_Ip37, .int .i64 n_Handler38, s_Stack39.val, s_Back40.val, s_Mem41.val, .string t_Out42, .string t_In43, .int .i64 n_Read44, .int .i64 n_Status45, .int .i64 n_Code46]] w14 fun e47 w48 => ∃ n_Ip49 : Int, ∃ n_Handler50 : Int, ∃ s_Stack51 : Sl, ∃ s_Back52 : Sl, ∃ s_Mem53 : Sl, ∃ t_Out54 : ByteArray, ∃ t_In55 : ByteArray, ∃ n_Read56 : Int, ∃ n_Status57 : Int, ∃ n_Code58 : Int, e47 = .returned (.agg #[.int .i64 n_Ip49, .int .i64 n_Handler50, s_Stack51.val, s_Back52.val, s_Mem53.val, .string t_Out54, .string t_In55, .int .i64 n_Read56, .int .i64 n_Status57, .int .i64 n_Code58]) ∧
 ∀ (b59 : Nat) (w60 : World), b59 = w48.heap.size → w60 = World.alloc w48 (.cells #[.int .i64 (0 : Int), .int .i64 (0 : Int), .slice none 0 0, .slice none 0 0, .slice none 0 0, .string (bs []), .string (bs []), .int .i64 (0 : Int), .int .i64 (0 : Int), .int .i64 (0 : Int)] T_api_State) →
 wrOk w60 ⟨b59, 0, none⟩ 10 ∧ ∀ w61 : World, w61 = stW w60 ⟨b59, 0, none⟩ 0 [.int .i64 n_Ip49, .int .i64 n_Handler50, s_Stack51.val, s_Back52.val, s_Mem53.val, .string t_Out54, .string t_In55, .int .i64 n_Read56, .int .i64 n_Status57, .int .i64 n_Code58] →
 ∃ J7 : Bool → World → Prop, (∀ (b66 : Bool) (w65 : World), J7 b66 w65 →
 brB b66
 (∃ n_Ip67 : Int, ∃ n_Handler68 : Int, ∃ s_Stack69 : Sl, ∃ s_Back70 : Sl, ∃ s_Mem71 : Sl, ∃ t_Out72 : ByteArray, ∃ t_In73 : ByteArray, ∃ n_Read74 : Int, ∃ n_Status75 : Int, ∃ n_Code76 : Int, w65.cell? ⟨b11, 0, none⟩ = some (.int .i64 n_Ip67) ∧ w65.cell? ⟨b11, 1, none⟩ = some (.int .i64 n_Handler68) ∧ w65.cell? ⟨b11, 2, none⟩ = some (s_Stack69.val) ∧ w65.cell? ⟨b11, 3, none⟩ = some (s_Back70.val) ∧ w65.cell? ⟨b11, 4, none⟩ = some (s_Mem71.val) ∧ w65.cell? ⟨b11, 5, none⟩ = some (.string t_Out72) ∧ w65.cell? ⟨b11, 6, none⟩ = some (.string t_In73) ∧ w65.cell? ⟨b11, 7, none⟩ = some (.int .i64 n_Read74) ∧ w65.cell? ⟨b11, 8, none⟩ = some (.int .i64 n_Status75) ∧ w65.cell? ⟨b11, 9, none⟩ = some (.int .i64 n_Code76) ∧
 Calls Tryz.prog fn_hollowayref9_Fault #[.agg #[.int .i64 n_Ip67, .int .i64 n_Handler68, s_Stack69.val, s_Back70.val, s_Mem71.val, .string t_Out72, .string t_In73, .int .i64 n_Read74, .int .i64 n_Status75, .int .i64 n_Code76], .int .i64 (-9 : Int)] w65 fun e77 w78 => ∃ n_Ip79 : Int, ∃ n_Handler80 : Int, ∃ s_Stack81 : Sl, ∃ s_Back82 : Sl, ∃ s_Mem83 : Sl, ∃ t_Out84 : ByteArray, ∃ t_In85 : ByteArray, ∃ n_Read86 : Int, ∃ n_Status87 : Int, ∃ n_Code88 : Int, e77 = .returned (.agg #[.int .i64 n_Ip79, .int .i64 n_Handler80, s_Stack81.val, s_Back82.val, s_Mem83.val, .string t_Out84, .string t_In85, .int .i64 n_Read86, .int .i64 n_Status87, .int .i64 n_Code88]) ∧
 wrOk w78 ⟨b13, 0, none⟩ 10 ∧ ∀ w89 : World, w89 = stW w78 ⟨b13, 0, none⟩ 0 [.int .i64 n_Ip79, .int .i64 n_Handler80, s_Stack81.val, s_Back82.val, s_Mem83.val, .string t_Out84, .string t_In85, .int .i64 n_Read86, .int .i64 n_Status87, .int .i64 n_Code88] →
 ∃ r_Ip90 : Int, ∃ r_Handler91 : Int, ∃ r_Stack92 : Sl, ∃ r_Back93 : Sl, ∃ r_Mem94 : Sl, ∃ r_Out95 : ByteArray, ∃ r_In96 : ByteArray, ∃ r_Read97 : Int, ∃ r_Status98 : Int, ∃ r_Code99 : Int, w89.cell? ⟨b13, 0, none⟩ = some (.int .i64 r_Ip90) ∧ w89.cell? ⟨b13, 1, none⟩ = some (.int .i64 r_Handler91) ∧ w89.cell? ⟨b13, 2, none⟩ = some (r_Stack92.val) ∧ w89.cell? ⟨b13, 3, none⟩ = some (r_Back93.val) ∧ w89.cell? ⟨b13, 4, none⟩ = some (r_Mem94.val) ∧ w89.cell? ⟨b13, 5, none⟩ = some (.string r_Out95) ∧ w89.cell? ⟨b13, 6, none⟩ = some (.string r_In96) ∧ w89.cell? ⟨b13, 7, none⟩ = some (.int .i64 r_Read97) ∧ w89.cell? ⟨b13, 8, none⟩ = some (.int .i64 r_Status98) ∧ w89.cell? ⟨b13, 9, none⟩ = some (.int .i64 r_Code99) ∧
 K (.agg #[.int .i64 r_Ip90, .int .i64 r_Handler91, r_Stack92.val, r_Back93.val, r_Mem94.val, .string r_Out95, .string r_In96, .int .i64 r_Read97, .int .i64 r_Status98, .int .i64 r_Code99]) w89)
 (∃ s100 : Sl, w65.cell? ⟨b59, 4, none⟩ = some (s100.val) ∧
 ∃ n101 : Int, w65.cell? ⟨b59, 0, none⟩ = some (.int .i64 n101) ∧
 ∃ a102 : Addr, s100.ptr = some a102 ∧ 0 ≤ n101 ∧ n101 < (s100.len : Int) ∧
 ∃ n103 : Int, w65.cell? (Addr.add a102 (Int.toNat n101 * 1)) = some (.int .i64 n103) ∧
 brB (decide (n103 ≥ (64 : Int)))
 (∃ s104 : Sl, w65.cell? ⟨b59, 3, none⟩ = some (s104.val) ∧
 brB (decide ((s104.len : Int) ≥ (48 : Int)))
 (∃ n_Ip105 : Int, ∃ n_Handler106 : Int, ∃ s_Stack107 : Sl, ∃ s_Back108 : Sl, ∃ s_Mem109 : Sl, ∃ t_Out110 : ByteArray, ∃ t_In111 : ByteArray, ∃ n_Read112 : Int, ∃ n_Status113 : Int, ∃ n_Code114 : Int, w65.cell? ⟨b11, 0, none⟩ = some (.int .i64 n_Ip105) ∧ w65.cell? ⟨b11, 1, none⟩ = some (.int .i64 n_Handler106) ∧ w65.cell? ⟨b11, 2, none⟩ = some (s_Stack107.val) ∧ w65.cell? ⟨b11, 3, none⟩ = some (s_Back108.val) ∧ w65.cell? ⟨b11, 4, none⟩ = some (s_Mem109.val) ∧ w65.cell? ⟨b11, 5, none⟩ = some (.string t_Out110) ∧ w65.cell? ⟨b11, 6, none⟩ = some (.string t_In111) ∧ w65.cell? ⟨b11, 7, none⟩ = some (.int .i64 n_Read112) ∧ w65.cell? ⟨b11, 8, none⟩ = some (.int .i64 n_Status113) ∧ w65.cell? ⟨b11, 9, none⟩ = some (.int .i64 n_Code114) ∧
 Calls Tryz.prog fn_hollowayref9_Fault #[.agg #[.int .i64 n_Ip105, .int .i64 n_Handler106, s_Stack107.val, s_Back108.val, s_Mem109.val, .string t_Out110, .string t_In111, .int .i64 n_Read112, .int .i64 n_Status113, .int .i64 n_Code114], .int .i64 (-5 : Int)] w65 fun e115 w116 => ∃ n_Ip117 : Int, ∃ n_Handler118 : Int, ∃ s_Stack119 : Sl, ∃ s_Back120 : Sl, ∃ s_Mem121 : Sl, ∃ t_Out122 : ByteArray, ∃ t_In123 : ByteArray, ∃ n_Read124 : Int, ∃ n_Status125 : Int, ∃ n_Code126 : Int, e115 = .returned (.agg #[.int .i64 n_Ip117, .int .i64 n_Handler118, s_Stack119.val, s_Back120.val, s_Mem121.val, .string t_Out122, .string t_In123, .int .i64 n_Read124, .int .i64 n_Status125, .int .i64 n_Code126]) ∧
 wrOk w116 ⟨b13, 0, none⟩ 10 ∧ ∀ w127 : World, w127 = stW w116 ⟨b13, 0, none⟩ 0 [.int .i64 n_Ip117, .int .i64 n_Handler118, s_Stack119.val, s_Back120.val, s_Mem121.val, .string t_Out122, .string t_In123, .int .i64 n_Read124, .int .i64 n_Status125, .int .i64 n_Code126] →
 ∃ r_Ip128 : Int, ∃ r_Handler129 : Int, ∃ r_Stack130 : Sl, ∃ r_Back131 : Sl, ∃ r_Mem132 : Sl, ∃ r_Out133 : ByteArray, ∃ r_In134 : ByteArray, ∃ r_Read135 : Int, ∃ r_Status136 : Int, ∃ r_Code137 : Int, w127.cell? ⟨b13, 0, none⟩ = some (.int .i64 r_Ip128) ∧ w127.cell? ⟨b13, 1, none⟩ = some (.int .i64 r_Handler129) ∧ w127.cell? ⟨b13, 2, none⟩ = some (r_Stack130.val) ∧ w127.cell? ⟨b13, 3, none⟩ = some (r_Back131.val) ∧ w127.cell? ⟨b13, 4, none⟩ = some (r_Mem132.val) ∧ w127.cell? ⟨b13, 5, none⟩ = some (.string r_Out133) ∧ w127.cell? ⟨b13, 6, none⟩ = some (.string r_In134) ∧ w127.cell? ⟨b13, 7, none⟩ = some (.int .i64 r_Read135) ∧ w127.cell? ⟨b13, 8, none⟩ = some (.int .i64 r_Status136) ∧ w127.cell? ⟨b13, 9, none⟩ = some (.int .i64 r_Code137) ∧
 K (.agg #[.int .i64 r_Ip128, .int .i64 r_Handler129, r_Stack130.val, r_Back131.val, r_Mem132.val, .string r_Out133, .string r_In134, .int .i64 r_Read135, .int .i64 r_Status136, .int .i64 r_Code137]) w127)
 (∃ s138 : Sl, w65.cell? ⟨b59, 3, none⟩ = some (s138.val) ∧
 ∃ n139 : Int, w65.cell? ⟨b59, 0, none⟩ = some (.int .i64 n139) ∧
 ∀ (b140 : Nat) (w141 : World), b140 = w65.heap.size → w141 = World.alloc w65 (.cells #[.int .i64 (wr (n139 + (1 : Int)))] T_int) →
 ∃ s142 : Sl, ∃ w143 : World, (Builtin.append_ #[T_sl_int, T_sl_int] T_sl_int #[s138.val, .slice (some ⟨b140, 0, none⟩) 1 1]).run Tryz.prog w141 = .ok (s142.val) w143 ∧
 wrOk w143 ⟨b59, 3, none⟩ 1 ∧ ∀ w144 : World, w144 = stW w143 ⟨b59, 3, none⟩ 0 [s142.val] →
 wrOk w144 ⟨b59, 0, none⟩ 1 ∧ ∀ w145 : World, w145 = stW w144 ⟨b59, 0, none⟩ 0 [.int .i64 n103] →
 ∃ n_Ip146 : Int, ∃ n_Handler147 : Int, ∃ s_Stack148 : Sl, ∃ s_Back149 : Sl, ∃ s_Mem150 : Sl, ∃ t_Out151 : ByteArray, ∃ t_In152 : ByteArray, ∃ n_Read153 : Int, ∃ n_Status154 : Int, ∃ n_Code155 : Int, w145.cell? ⟨b59, 0, none⟩ = some (.int .i64 n_Ip146) ∧ w145.cell? ⟨b59, 1, none⟩ = some (.int .i64 n_Handler147) ∧ w145.cell? ⟨b59, 2, none⟩ = some (s_Stack148.val) ∧ w145.cell? ⟨b59, 3, none⟩ = some (s_Back149.val) ∧ w145.cell? ⟨b59, 4, none⟩ = some (s_Mem150.val) ∧ w145.cell? ⟨b59, 5, none⟩ = some (.string t_Out151) ∧ w145.cell? ⟨b59, 6, none⟩ = some (.string t_In152) ∧ w145.cell? ⟨b59, 7, none⟩ = some (.int .i64 n_Read153) ∧ w145.cell? ⟨b59, 8, none⟩ = some (.int .i64 n_Status154) ∧ w145.cell? ⟨b59, 9, none⟩ = some (.int .i64 n_Code155) ∧
 wrOk w145 ⟨b13, 0, none⟩ 10 ∧ ∀ w156 : World, w156 = stW w145 ⟨b13, 0, none⟩ 0 [.int .i64 n_Ip146, .int .i64 n_Handler147, s_Stack148.val, s_Back149.val, s_Mem150.val, .string t_Out151, .string t_In152, .int .i64 n_Read153, .int .i64 n_Status154, .int .i64 n_Code155] →
 ∃ r_Ip157 : Int, ∃ r_Handler158 : Int, ∃ r_Stack159 : Sl, ∃ r_Back160 : Sl, ∃ r_Mem161 : Sl, ∃ r_Out162 : ByteArray, ∃ r_In163 : ByteArray, ∃ r_Read164 : Int, ∃ r_Status165 : Int, ∃ r_Code166 : Int, w156.cell? ⟨b13, 0, none⟩ = some (.int .i64 r_Ip157) ∧ w156.cell? ⟨b13, 1, none⟩ = some (.int .i64 r_Handler158) ∧ w156.cell? ⟨b13, 2, none⟩ = some (r_Stack159.val) ∧ w156.cell? ⟨b13, 3, none⟩ = some (r_Back160.val) ∧ w156.cell? ⟨b13, 4, none⟩ = some (r_Mem161.val) ∧ w156.cell? ⟨b13, 5, none⟩ = some (.string r_Out162) ∧ w156.cell? ⟨b13, 6, none⟩ = some (.string r_In163) ∧ w156.cell? ⟨b13, 7, none⟩ = some (.int .i64 r_Read164) ∧ w156.cell? ⟨b13, 8, none⟩ = some (.int .i64 r_Status165) ∧ w156.cell? ⟨b13, 9, none⟩ = some (.int .i64 r_Code166) ∧
 K (.agg #[.int .i64 r_Ip157, .int .i64 r_Handler158, r_Stack159.val, r_Back160.val, r_Mem161.val, .string r_Out162, .string r_In163, .int .i64 r_Read164, .int .i64 r_Status165, .int .i64 r_Code166]) w156))
 (Calls Tryz.prog fn_hollowayref1_Op #[.int .i64 n103] w65 fun e167 w168 => ∃ b169 : Bool, e167 = .returned (.bool b169) ∧
 brB (!b169)
 (∃ n_Ip170 : Int, ∃ n_Handler171 : Int, ∃ s_Stack172 : Sl, ∃ s_Back173 : Sl, ∃ s_Mem174 : Sl, ∃ t_Out175 : ByteArray, ∃ t_In176 : ByteArray, ∃ n_Read177 : Int, ∃ n_Status178 : Int, ∃ n_Code179 : Int, w168.cell? ⟨b11, 0, none⟩ = some (.int .i64 n_Ip170) ∧ w168.cell? ⟨b11, 1, none⟩ = some (.int .i64 n_Handler171) ∧ w168.cell? ⟨b11, 2, none⟩ = some (s_Stack172.val) ∧ w168.cell? ⟨b11, 3, none⟩ = some (s_Back173.val) ∧ w168.cell? ⟨b11, 4, none⟩ = some (s_Mem174.val) ∧ w168.cell? ⟨b11, 5, none⟩ = some (.string t_Out175) ∧ w168.cell? ⟨b11, 6, none⟩ = some (.string t_In176) ∧ w168.cell? ⟨b11, 7, none⟩ = some (.int .i64 n_Read177) ∧ w168.cell? ⟨b11, 8, none⟩ = some (.int .i64 n_Status178) ∧ w168.cell? ⟨b11, 9, none⟩ = some (.int .i64 n_Code179) ∧
 Calls Tryz.prog fn_hollowayref9_Fault #[.agg #[.int .i64 n_Ip170, .int .i64 n_Handler171, s_Stack172.val, s_Back173.val, s_Mem174.val, .string t_Out175, .string t_In176, .int .i64 n_Read177, .int .i64 n_Status178, .int .i64 n_Code179], .int .i64 (-13 : Int)] w168 fun e180 w181 => ∃ n_Ip182 : Int, ∃ n_Handler183 : Int, ∃ s_Stack184 : Sl, ∃ s_Back185 : Sl, ∃ s_Mem186 : Sl, ∃ t_Out187 : ByteArray, ∃ t_In188 : ByteArray, ∃ n_Read189 : Int, ∃ n_Status190 : Int, ∃ n_Code191 : Int, e180 = .returned (.agg #[.int .i64 n_Ip182, .int .i64 n_Handler183, s_Stack184.val, s_Back185.val, s_Mem186.val, .string t_Out187, .string t_In188, .int .i64 n_Read189, .int .i64 n_Status190, .int .i64 n_Code191]) ∧
 wrOk w181 ⟨b13, 0, none⟩ 10 ∧ ∀ w192 : World, w192 = stW w181 ⟨b13, 0, none⟩ 0 [.int .i64 n_Ip182, .int .i64 n_Handler183, s_Stack184.val, s_Back185.val, s_Mem186.val, .string t_Out187, .string t_In188, .int .i64 n_Read189, .int .i64 n_Status190, .int .i64 n_Code191] →
 ∃ r_Ip193 : Int, ∃ r_Handler194 : Int, ∃ r_Stack195 : Sl, ∃ r_Back196 : Sl, ∃ r_Mem197 : Sl, ∃ r_Out198 : ByteArray, ∃ r_In199 : ByteArray, ∃ r_Read200 : Int, ∃ r_Status201 : Int, ∃ r_Code202 : Int, w192.cell? ⟨b13, 0, none⟩ = some (.int .i64 r_Ip193) ∧ w192.cell? ⟨b13, 1, none⟩ = some (.int .i64 r_Handler194) ∧ w192.cell? ⟨b13, 2, none⟩ = some (r_Stack195.val) ∧ w192.cell? ⟨b13, 3, none⟩ = some (r_Back196.val) ∧ w192.cell? ⟨b13, 4, none⟩ = some (r_Mem197.val) ∧ w192.cell? ⟨b13, 5, none⟩ = some (.string r_Out198) ∧ w192.cell? ⟨b13, 6, none⟩ = some (.string r_In199) ∧ w192.cell? ⟨b13, 7, none⟩ = some (.int .i64 r_Read200) ∧ w192.cell? ⟨b13, 8, none⟩ = some (.int .i64 r_Status201) ∧ w192.cell? ⟨b13, 9, none⟩ = some (.int .i64 r_Code202) ∧
 K (.agg #[.int .i64 r_Ip193, .int .i64 r_Handler194, r_Stack195.val, r_Back196.val, r_Mem197.val, .string r_Out198, .string r_In199, .int .i64 r_Read200, .int .i64 r_Status201, .int .i64 r_Code202]) w192)
 (∃ J22 : Int → World → Prop, (∀ (arg601 : Int) (w245 : World), J22 arg601 w245 →
 Calls Tryz.prog fn_hollowayref1_Moves #[.int .i64 n103] w245 fun e246 w247 => ∃ n248 : Int, ∃ n249 : Int, ∃ n250 : Int, ∃ n251 : Int, e246 = .returned (.tuple #[.int .i64 n248, .int .i64 n249, .int .i64 n250, .int .i64 n251]) ∧
 ∀ w252 : World, w252 = World.drew w247 →
 ∃ s253 : Sl, held (Lw w252) ⟨b59, 2, none⟩ (s253.val) ∧
 ∃ s254 : Sl, held (Lw w252) ⟨b59, 3, none⟩ (s254.val) ∧
 brB (decide ((s253.len : Int) < n248))
 (∃ n_Ip255 : Int, ∃ n_Handler256 : Int, ∃ s_Stack257 : Sl, ∃ s_Back258 : Sl, ∃ s_Mem259 : Sl, ∃ t_Out260 : ByteArray, ∃ t_In261 : ByteArray, ∃ n_Read262 : Int, ∃ n_Status263 : Int, ∃ n_Code264 : Int, w252.cell? ⟨b11, 0, none⟩ = some (.int .i64 n_Ip255) ∧ w252.cell? ⟨b11, 1, none⟩ = some (.int .i64 n_Handler256) ∧ w252.cell? ⟨b11, 2, none⟩ = some (s_Stack257.val) ∧ w252.cell? ⟨b11, 3, none⟩ = some (s_Back258.val) ∧ w252.cell? ⟨b11, 4, none⟩ = some (s_Mem259.val) ∧ w252.cell? ⟨b11, 5, none⟩ = some (.string t_Out260) ∧ w252.cell? ⟨b11, 6, none⟩ = some (.string t_In261) ∧ w252.cell? ⟨b11, 7, none⟩ = some (.int .i64 n_Read262) ∧ w252.cell? ⟨b11, 8, none⟩ = some (.int .i64 n_Status263) ∧ w252.cell? ⟨b11, 9, none⟩ = some (.int .i64 n_Code264) ∧
 Calls Tryz.prog fn_hollowayref9_Fault #[.agg #[.int .i64 n_Ip255, .int .i64 n_Handler256, s_Stack257.val, s_Back258.val, s_Mem259.val, .string t_Out260, .string t_In261, .int .i64 n_Read262, .int .i64 n_Status263, .int .i64 n_Code264], .int .i64 (-4 : Int)] w252 fun e265 w266 => ∃ n_Ip267 : Int, ∃ n_Handler268 : Int, ∃ s_Stack269 : Sl, ∃ s_Back270 : Sl, ∃ s_Mem271 : Sl, ∃ t_Out272 : ByteArray, ∃ t_In273 : ByteArray, ∃ n_Read274 : Int, ∃ n_Status275 : Int, ∃ n_Code276 : Int, e265 = .returned (.agg #[.int .i64 n_Ip267, .int .i64 n_Handler268, s_Stack269.val, s_Back270.val, s_Mem271.val, .string t_Out272, .string t_In273, .int .i64 n_Read274, .int .i64 n_Status275, .int .i64 n_Code276]) ∧
 wrOk w266 ⟨b13, 0, none⟩ 10 ∧ ∀ w277 : World, w277 = stW w266 ⟨b13, 0, none⟩ 0 [.int .i64 n_Ip267, .int .i64 n_Handler268, s_Stack269.val, s_Back270.val, s_Mem271.val, .string t_Out272, .string t_In273, .int .i64 n_Read274, .int .i64 n_Status275, .int .i64 n_Code276] →
 ∃ r_Ip278 : Int, ∃ r_Handler279 : Int, ∃ r_Stack280 : Sl, ∃ r_Back281 : Sl, ∃ r_Mem282 : Sl, ∃ r_Out283 : ByteArray, ∃ r_In284 : ByteArray, ∃ r_Read285 : Int, ∃ r_Status286 : Int, ∃ r_Code287 : Int, w277.cell? ⟨b13, 0, none⟩ = some (.int .i64 r_Ip278) ∧ w277.cell? ⟨b13, 1, none⟩ = some (.int .i64 r_Handler279) ∧ w277.cell? ⟨b13, 2, none⟩ = some (r_Stack280.val) ∧ w277.cell? ⟨b13, 3, none⟩ = some (r_Back281.val) ∧ w277.cell? ⟨b13, 4, none⟩ = some (r_Mem282.val) ∧ w277.cell? ⟨b13, 5, none⟩ = some (.string r_Out283) ∧ w277.cell? ⟨b13, 6, none⟩ = some (.string r_In284) ∧ w277.cell? ⟨b13, 7, none⟩ = some (.int .i64 r_Read285) ∧ w277.cell? ⟨b13, 8, none⟩ = some (.int .i64 r_Status286) ∧ w277.cell? ⟨b13, 9, none⟩ = some (.int .i64 r_Code287) ∧
 K (.agg #[.int .i64 r_Ip278, .int .i64 r_Handler279, r_Stack280.val, r_Back281.val, r_Mem282.val, .string r_Out283, .string r_In284, .int .i64 r_Read285, .int .i64 r_Status286, .int .i64 r_Code287]) w277)
 (brB (decide ((s254.len : Int) < n249))
 (∃ n_Ip288 : Int, ∃ n_Handler289 : Int, ∃ s_Stack290 : Sl, ∃ s_Back291 : Sl, ∃ s_Mem292 : Sl, ∃ t_Out293 : ByteArray, ∃ t_In294 : ByteArray, ∃ n_Read295 : Int, ∃ n_Status296 : Int, ∃ n_Code297 : Int, w252.cell? ⟨b11, 0, none⟩ = some (.int .i64 n_Ip288) ∧ w252.cell? ⟨b11, 1, none⟩ = some (.int .i64 n_Handler289) ∧ w252.cell? ⟨b11, 2, none⟩ = some (s_Stack290.val) ∧ w252.cell? ⟨b11, 3, none⟩ = some (s_Back291.val) ∧ w252.cell? ⟨b11, 4, none⟩ = some (s_Mem292.val) ∧ w252.cell? ⟨b11, 5, none⟩ = some (.string t_Out293) ∧ w252.cell? ⟨b11, 6, none⟩ = some (.string t_In294) ∧ w252.cell? ⟨b11, 7, none⟩ = some (.int .i64 n_Read295) ∧ w252.cell? ⟨b11, 8, none⟩ = some (.int .i64 n_Status296) ∧ w252.cell? ⟨b11, 9, none⟩ = some (.int .i64 n_Code297) ∧
 Calls Tryz.prog fn_hollowayref9_Fault #[.agg #[.int .i64 n_Ip288, .int .i64 n_Handler289, s_Stack290.val, s_Back291.val, s_Mem292.val, .string t_Out293, .string t_In294, .int .i64 n_Read295, .int .i64 n_Status296, .int .i64 n_Code297], .int .i64 (-6 : Int)] w252 fun e298 w299 => ∃ n_Ip300 : Int, ∃ n_Handler301 : Int, ∃ s_Stack302 : Sl, ∃ s_Back303 : Sl, ∃ s_Mem304 : Sl, ∃ t_Out305 : ByteArray, ∃ t_In306 : ByteArray, ∃ n_Read307 : Int, ∃ n_Status308 : Int, ∃ n_Code309 : Int, e298 = .returned (.agg #[.int .i64 n_Ip300, .int .i64 n_Handler301, s_Stack302.val, s_Back303.val, s_Mem304.val, .string t_Out305, .string t_In306, .int .i64 n_Read307, .int .i64 n_Status308, .int .i64 n_Code309]) ∧
 wrOk w299 ⟨b13, 0, none⟩ 10 ∧ ∀ w310 : World, w310 = stW w299 ⟨b13, 0, none⟩ 0 [.int .i64 n_Ip300, .int .i64 n_Handler301, s_Stack302.val, s_Back303.val, s_Mem304.val, .string t_Out305, .string t_In306, .int .i64 n_Read307, .int .i64 n_Status308, .int .i64 n_Code309] →
 ∃ r_Ip311 : Int, ∃ r_Handler312 : Int, ∃ r_Stack313 : Sl, ∃ r_Back314 : Sl, ∃ r_Mem315 : Sl, ∃ r_Out316 : ByteArray, ∃ r_In317 : ByteArray, ∃ r_Read318 : Int, ∃ r_Status319 : Int, ∃ r_Code320 : Int, w310.cell? ⟨b13, 0, none⟩ = some (.int .i64 r_Ip311) ∧ w310.cell? ⟨b13, 1, none⟩ = some (.int .i64 r_Handler312) ∧ w310.cell? ⟨b13, 2, none⟩ = some (r_Stack313.val) ∧ w310.cell? ⟨b13, 3, none⟩ = some (r_Back314.val) ∧ w310.cell? ⟨b13, 4, none⟩ = some (r_Mem315.val) ∧ w310.cell? ⟨b13, 5, none⟩ = some (.string r_Out316) ∧ w310.cell? ⟨b13, 6, none⟩ = some (.string r_In317) ∧ w310.cell? ⟨b13, 7, none⟩ = some (.int .i64 r_Read318) ∧ w310.cell? ⟨b13, 8, none⟩ = some (.int .i64 r_Status319) ∧ w310.cell? ⟨b13, 9, none⟩ = some (.int .i64 r_Code320) ∧
 K (.agg #[.int .i64 r_Ip311, .int .i64 r_Handler312, r_Stack313.val, r_Back314.val, r_Mem315.val, .string r_Out316, .string r_In317, .int .i64 r_Read318, .int .i64 r_Status319, .int .i64 r_Code320]) w310)
 (brB (decide ((wr ((wr ((s253.len : Int) - n248)) + n250)) > (48 : Int)))
 (∃ n_Ip321 : Int, ∃ n_Handler322 : Int, ∃ s_Stack323 : Sl, ∃ s_Back324 : Sl, ∃ s_Mem325 : Sl, ∃ t_Out326 : ByteArray, ∃ t_In327 : ByteArray, ∃ n_Read328 : Int, ∃ n_Status329 : Int, ∃ n_Code330 : Int, w252.cell? ⟨b11, 0, none⟩ = some (.int .i64 n_Ip321) ∧ w252.cell? ⟨b11, 1, none⟩ = some (.int .i64 n_Handler322) ∧ w252.cell? ⟨b11, 2, none⟩ = some (s_Stack323.val) ∧ w252.cell? ⟨b11, 3, none⟩ = some (s_Back324.val) ∧ w252.cell? ⟨b11, 4, none⟩ = some (s_Mem325.val) ∧ w252.cell? ⟨b11, 5, none⟩ = some (.string t_Out326) ∧ w252.cell? ⟨b11, 6, none⟩ = some (.string t_In327) ∧ w252.cell? ⟨b11, 7, none⟩ = some (.int .i64 n_Read328) ∧ w252.cell? ⟨b11, 8, none⟩ = some (.int .i64 n_Status329) ∧ w252.cell? ⟨b11, 9, none⟩ = some (.int .i64 n_Code330) ∧
 Calls Tryz.prog fn_hollowayref9_Fault #[.agg #[.int .i64 n_Ip321, .int .i64 n_Handler322, s_Stack323.val, s_Back324.val, s_Mem325.val, .string t_Out326, .string t_In327, .int .i64 n_Read328, .int .i64 n_Status329, .int .i64 n_Code330], .int .i64 (-3 : Int)] w252 fun e331 w332 => ∃ n_Ip333 : Int, ∃ n_Handler334 : Int, ∃ s_Stack335 : Sl, ∃ s_Back336 : Sl, ∃ s_Mem337 : Sl, ∃ t_Out338 : ByteArray, ∃ t_In339 : ByteArray, ∃ n_Read340 : Int, ∃ n_Status341 : Int, ∃ n_Code342 : Int, e331 = .returned (.agg #[.int .i64 n_Ip333, .int .i64 n_Handler334, s_Stack335.val, s_Back336.val, s_Mem337.val, .string t_Out338, .string t_In339, .int .i64 n_Read340, .int .i64 n_Status341, .int .i64 n_Code342]) ∧
 wrOk w332 ⟨b13, 0, none⟩ 10 ∧ ∀ w343 : World, w343 = stW w332 ⟨b13, 0, none⟩ 0 [.int .i64 n_Ip333, .int .i64 n_Handler334, s_Stack335.val, s_Back336.val, s_Mem337.val, .string t_Out338, .string t_In339, .int .i64 n_Read340, .int .i64 n_Status341, .int .i64 n_Code342] →
 ∃ r_Ip344 : Int, ∃ r_Handler345 : Int, ∃ r_Stack346 : Sl, ∃ r_Back347 : Sl, ∃ r_Mem348 : Sl, ∃ r_Out349 : ByteArray, ∃ r_In350 : ByteArray, ∃ r_Read351 : Int, ∃ r_Status352 : Int, ∃ r_Code353 : Int, w343.cell? ⟨b13, 0, none⟩ = some (.int .i64 r_Ip344) ∧ w343.cell? ⟨b13, 1, none⟩ = some (.int .i64 r_Handler345) ∧ w343.cell? ⟨b13, 2, none⟩ = some (r_Stack346.val) ∧ w343.cell? ⟨b13, 3, none⟩ = some (r_Back347.val) ∧ w343.cell? ⟨b13, 4, none⟩ = some (r_Mem348.val) ∧ w343.cell? ⟨b13, 5, none⟩ = some (.string r_Out349) ∧ w343.cell? ⟨b13, 6, none⟩ = some (.string r_In350) ∧ w343.cell? ⟨b13, 7, none⟩ = some (.int .i64 r_Read351) ∧ w343.cell? ⟨b13, 8, none⟩ = some (.int .i64 r_Status352) ∧ w343.cell? ⟨b13, 9, none⟩ = some (.int .i64 r_Code353) ∧
 K (.agg #[.int .i64 r_Ip344, .int .i64 r_Handler345, r_Stack346.val, r_Back347.val, r_Mem348.val, .string r_Out349, .string r_In350, .int .i64 r_Read351, .int .i64 r_Status352, .int .i64 r_Code353]) w343)
 (brB (decide ((wr ((wr ((s254.len : Int) - n249)) + n251)) > (48 : Int)))
 (∃ n_Ip354 : Int, ∃ n_Handler355 : Int, ∃ s_Stack356 : Sl, ∃ s_Back357 : Sl, ∃ s_Mem358 : Sl, ∃ t_Out359 : ByteArray, ∃ t_In360 : ByteArray, ∃ n_Read361 : Int, ∃ n_Status362 : Int, ∃ n_Code363 : Int, w252.cell? ⟨b11, 0, none⟩ = some (.int .i64 n_Ip354) ∧ w252.cell? ⟨b11, 1, none⟩ = some (.int .i64 n_Handler355) ∧ w252.cell? ⟨b11, 2, none⟩ = some (s_Stack356.val) ∧ w252.cell? ⟨b11, 3, none⟩ = some (s_Back357.val) ∧ w252.cell? ⟨b11, 4, none⟩ = some (s_Mem358.val) ∧ w252.cell? ⟨b11, 5, none⟩ = some (.string t_Out359) ∧ w252.cell? ⟨b11, 6, none⟩ = some (.string t_In360) ∧ w252.cell? ⟨b11, 7, none⟩ = some (.int .i64 n_Read361) ∧ w252.cell? ⟨b11, 8, none⟩ = some (.int .i64 n_Status362) ∧ w252.cell? ⟨b11, 9, none⟩ = some (.int .i64 n_Code363) ∧
 Calls Tryz.prog fn_hollowayref9_Fault #[.agg #[.int .i64 n_Ip354, .int .i64 n_Handler355, s_Stack356.val, s_Back357.val, s_Mem358.val, .string t_Out359, .string t_In360, .int .i64 n_Read361, .int .i64 n_Status362, .int .i64 n_Code363], .int .i64 (-5 : Int)] w252 fun e364 w365 => ∃ n_Ip366 : Int, ∃ n_Handler367 : Int, ∃ s_Stack368 : Sl, ∃ s_Back369 : Sl, ∃ s_Mem370 : Sl, ∃ t_Out371 : ByteArray, ∃ t_In372 : ByteArray, ∃ n_Read373 : Int, ∃ n_Status374 : Int, ∃ n_Code375 : Int, e364 = .returned (.agg #[.int .i64 n_Ip366, .int .i64 n_Handler367, s_Stack368.val, s_Back369.val, s_Mem370.val, .string t_Out371, .string t_In372, .int .i64 n_Read373, .int .i64 n_Status374, .int .i64 n_Code375]) ∧
 wrOk w365 ⟨b13, 0, none⟩ 10 ∧ ∀ w376 : World, w376 = stW w365 ⟨b13, 0, none⟩ 0 [.int .i64 n_Ip366, .int .i64 n_Handler367, s_Stack368.val, s_Back369.val, s_Mem370.val, .string t_Out371, .string t_In372, .int .i64 n_Read373, .int .i64 n_Status374, .int .i64 n_Code375] →
 ∃ r_Ip377 : Int, ∃ r_Handler378 : Int, ∃ r_Stack379 : Sl, ∃ r_Back380 : Sl, ∃ r_Mem381 : Sl, ∃ r_Out382 : ByteArray, ∃ r_In383 : ByteArray, ∃ r_Read384 : Int, ∃ r_Status385 : Int, ∃ r_Code386 : Int, w376.cell? ⟨b13, 0, none⟩ = some (.int .i64 r_Ip377) ∧ w376.cell? ⟨b13, 1, none⟩ = some (.int .i64 r_Handler378) ∧ w376.cell? ⟨b13, 2, none⟩ = some (r_Stack379.val) ∧ w376.cell? ⟨b13, 3, none⟩ = some (r_Back380.val) ∧ w376.cell? ⟨b13, 4, none⟩ = some (r_Mem381.val) ∧ w376.cell? ⟨b13, 5, none⟩ = some (.string r_Out382) ∧ w376.cell? ⟨b13, 6, none⟩ = some (.string r_In383) ∧ w376.cell? ⟨b13, 7, none⟩ = some (.int .i64 r_Read384) ∧ w376.cell? ⟨b13, 8, none⟩ = some (.int .i64 r_Status385) ∧ w376.cell? ⟨b13, 9, none⟩ = some (.int .i64 r_Code386) ∧
 K (.agg #[.int .i64 r_Ip377, .int .i64 r_Handler378, r_Stack379.val, r_Back380.val, r_Mem381.val, .string r_Out382, .string r_In383, .int .i64 r_Read384, .int .i64 r_Status385, .int .i64 r_Code386]) w376)
 (∃ J39 : Int → World → Prop, (∀ (p413 : Int) (w390 : World), J39 p413 w390 →
 ∃ J41 : Int → World → Prop, (∀ (q412 : Int) (w394 : World), J41 q412 w394 →
 ∃ J43 : Int → World → Prop, (∀ (r633 : Int) (w398 : World), J43 r633 w398 →
 ∃ n399 : Int, w398.cell? ⟨b59, 0, none⟩ = some (.int .i64 n399) ∧
 wrOk w398 ⟨b59, 0, none⟩ 1 ∧ ∀ w400 : World, w400 = stW w398 ⟨b59, 0, none⟩ 0 [.int .i64 (wr (n399 + (1 : Int)))] →
 ∃ J46 : World → Prop, (∀ (w406 : World), J46  w406 →
 ∃ s407 : Sl, w406.cell? ⟨b59, 2, none⟩ = some (s407.val) ∧
 0 ≤ (wr ((s253.len : Int) - n248)) ∧ (wr ((s253.len : Int) - n248)) ≤ (s407.cap : Int) ∧ ∀ s408 : Sl, s408 = Sl.sub s407.ptr s407.cap 0 (Int.toNat (wr ((s253.len : Int) - n248))) 1 →
 Calls Tryz.prog fn_hollowayref1_IsTwo #[.int .i64 n103] w406 fun e409 w410 => ∃ b411 : Bool, e409 = .returned (.bool b411) ∧
 brB b411
 (Calls Tryz.prog fn_hollowayref1_Two #[.int .i64 n103, .int .i64 q412, .int .i64 p413] w410 fun e414 w415 => ∃ n416 : Int, ∃ b417 : Bool, e414 = .returned (.tuple #[.int .i64 n416, .bool b417]) ∧
 brB (!b417)
 (∃ n_Ip418 : Int, ∃ n_Handler419 : Int, ∃ s_Stack420 : Sl, ∃ s_Back421 : Sl, ∃ s_Mem422 : Sl, ∃ t_Out423 : ByteArray, ∃ t_In424 : ByteArray, ∃ n_Read425 : Int, ∃ n_Status426 : Int, ∃ n_Code427 : Int, w415.cell? ⟨b11, 0, none⟩ = some (.int .i64 n_Ip418) ∧ w415.cell? ⟨b11, 1, none⟩ = some (.int .i64 n_Handler419) ∧ w415.cell? ⟨b11, 2, none⟩ = some (s_Stack420.val) ∧ w415.cell? ⟨b11, 3, none⟩ = some (s_Back421.val) ∧ w415.cell? ⟨b11, 4, none⟩ = some (s_Mem422.val) ∧ w415.cell? ⟨b11, 5, none⟩ = some (.string t_Out423) ∧ w415.cell? ⟨b11, 6, none⟩ = some (.string t_In424) ∧ w415.cell? ⟨b11, 7, none⟩ = some (.int .i64 n_Read425) ∧ w415.cell? ⟨b11, 8, none⟩ = some (.int .i64 n_Status426) ∧ w415.cell? ⟨b11, 9, none⟩ = some (.int .i64 n_Code427) ∧
 Calls Tryz.prog fn_hollowayref9_Fault #[.agg #[.int .i64 n_Ip418, .int .i64 n_Handler419, s_Stack420.val, s_Back421.val, s_Mem422.val, .string t_Out423, .string t_In424, .int .i64 n_Read425, .int .i64 n_Status426, .int .i64 n_Code427], .int .i64 (-10 : Int)] w415 fun e428 w429 => ∃ n_Ip430 : Int, ∃ n_Handler431 : Int, ∃ s_Stack432 : Sl, ∃ s_Back433 : Sl, ∃ s_Mem434 : Sl, ∃ t_Out435 : ByteArray, ∃ t_In436 : ByteArray, ∃ n_Read437 : Int, ∃ n_Status438 : Int, ∃ n_Code439 : Int, e428 = .returned (.agg #[.int .i64 n_Ip430, .int .i64 n_Handler431, s_Stack432.val, s_Back433.val, s_Mem434.val, .string t_Out435, .string t_In436, .int .i64 n_Read437, .int .i64 n_Status438, .int .i64 n_Code439]) ∧
 wrOk w429 ⟨b13, 0, none⟩ 10 ∧ ∀ w440 : World, w440 = stW w429 ⟨b13, 0, none⟩ 0 [.int .i64 n_Ip430, .int .i64 n_Handler431, s_Stack432.val, s_Back433.val, s_Mem434.val, .string t_Out435, .string t_In436, .int .i64 n_Read437, .int .i64 n_Status438, .int .i64 n_Code439] →
 ∃ r_Ip441 : Int, ∃ r_Handler442 : Int, ∃ r_Stack443 : Sl, ∃ r_Back444 : Sl, ∃ r_Mem445 : Sl, ∃ r_Out446 : ByteArray, ∃ r_In447 : ByteArray, ∃ r_Read448 : Int, ∃ r_Status449 : Int, ∃ r_Code450 : Int, w440.cell? ⟨b13, 0, none⟩ = some (.int .i64 r_Ip441) ∧ w440.cell? ⟨b13, 1, none⟩ = some (.int .i64 r_Handler442) ∧ w440.cell? ⟨b13, 2, none⟩ = some (r_Stack443.val) ∧ w440.cell? ⟨b13, 3, none⟩ = some (r_Back444.val) ∧ w440.cell? ⟨b13, 4, none⟩ = some (r_Mem445.val) ∧ w440.cell? ⟨b13, 5, none⟩ = some (.string r_Out446) ∧ w440.cell? ⟨b13, 6, none⟩ = some (.string r_In447) ∧ w440.cell? ⟨b13, 7, none⟩ = some (.int .i64 r_Read448) ∧ w440.cell? ⟨b13, 8, none⟩ = some (.int .i64 r_Status449) ∧ w440.cell? ⟨b13, 9, none⟩ = some (.int .i64 r_Code450) ∧
 K (.agg #[.int .i64 r_Ip441, .int .i64 r_Handler442, r_Stack443.val, r_Back444.val, r_Mem445.val, .string r_Out446, .string r_In447, .int .i64 r_Read448, .int .i64 r_Status449, .int .i64 r_Code450]) w440)
 (∀ (b451 : Nat) (w452 : World), b451 = w415.heap.size → w452 = World.alloc w415 (.cells #[.int .i64 n416] T_int) →
 ∃ s453 : Sl, ∃ w454 : World, (Builtin.append_ #[T_sl_int, T_sl_int] T_sl_int #[s408.val, .slice (some ⟨b451, 0, none⟩) 1 1]).run Tryz.prog w452 = .ok (s453.val) w454 ∧
 wrOk w454 ⟨b59, 2, none⟩ 1 ∧ ∀ w455 : World, w455 = stW w454 ⟨b59, 2, none⟩ 0 [s453.val] →
 ∃ n_Ip456 : Int, ∃ n_Handler457 : Int, ∃ s_Stack458 : Sl, ∃ s_Back459 : Sl, ∃ s_Mem460 : Sl, ∃ t_Out461 : ByteArray, ∃ t_In462 : ByteArray, ∃ n_Read463 : Int, ∃ n_Status464 : Int, ∃ n_Code465 : Int, w455.cell? ⟨b59, 0, none⟩ = some (.int .i64 n_Ip456) ∧ w455.cell? ⟨b59, 1, none⟩ = some (.int .i64 n_Handler457) ∧ w455.cell? ⟨b59, 2, none⟩ = some (s_Stack458.val) ∧ w455.cell? ⟨b59, 3, none⟩ = some (s_Back459.val) ∧ w455.cell? ⟨b59, 4, none⟩ = some (s_Mem460.val) ∧ w455.cell? ⟨b59, 5, none⟩ = some (.string t_Out461) ∧ w455.cell? ⟨b59, 6, none⟩ = some (.string t_In462) ∧ w455.cell? ⟨b59, 7, none⟩ = some (.int .i64 n_Read463) ∧ w455.cell? ⟨b59, 8, none⟩ = some (.int .i64 n_Status464) ∧ w455.cell? ⟨b59, 9, none⟩ = some (.int .i64 n_Code465) ∧
 wrOk w455 ⟨b13, 0, none⟩ 10 ∧ ∀ w466 : World, w466 = stW w455 ⟨b13, 0, none⟩ 0 [.int .i64 n_Ip456, .int .i64 n_Handler457, s_Stack458.val, s_Back459.val, s_Mem460.val, .string t_Out461, .string t_In462, .int .i64 n_Read463, .int .i64 n_Status464, .int .i64 n_Code465] →
 ∃ r_Ip467 : Int, ∃ r_Handler468 : Int, ∃ r_Stack469 : Sl, ∃ r_Back470 : Sl, ∃ r_Mem471 : Sl, ∃ r_Out472 : ByteArray, ∃ r_In473 : ByteArray, ∃ r_Read474 : Int, ∃ r_Status475 : Int, ∃ r_Code476 : Int, w466.cell? ⟨b13, 0, none⟩ = some (.int .i64 r_Ip467) ∧ w466.cell? ⟨b13, 1, none⟩ = some (.int .i64 r_Handler468) ∧ w466.cell? ⟨b13, 2, none⟩ = some (r_Stack469.val) ∧ w466.cell? ⟨b13, 3, none⟩ = some (r_Back470.val) ∧ w466.cell? ⟨b13, 4, none⟩ = some (r_Mem471.val) ∧ w466.cell? ⟨b13, 5, none⟩ = some (.string r_Out472) ∧ w466.cell? ⟨b13, 6, none⟩ = some (.string r_In473) ∧ w466.cell? ⟨b13, 7, none⟩ = some (.int .i64 r_Read474) ∧ w466.cell? ⟨b13, 8, none⟩ = some (.int .i64 r_Status475) ∧ w466.cell? ⟨b13, 9, none⟩ = some (.int .i64 r_Code476) ∧
 K (.agg #[.int .i64 r_Ip467, .int .i64 r_Handler468, r_Stack469.val, r_Back470.val, r_Mem471.val, .string r_Out472, .string r_In473, .int .i64 r_Read474, .int .i64 r_Status475, .int .i64 r_Code476]) w466))
 (Calls Tryz.prog fn_hollowayref1_IsOne #[.int .i64 n103] w410 fun e477 w478 => ∃ b479 : Bool, e477 = .returned (.bool b479) ∧
 brB b479
 (Calls Tryz.prog fn_hollowayref1_One #[.int .i64 n103, .int .i64 p413] w478 fun e480 w481 => ∃ n482 : Int, ∃ b483 : Bool, e480 = .returned (.tuple #[.int .i64 n482, .bool b483]) ∧
 ∀ (b484 : Nat) (w485 : World), b484 = w481.heap.size → w485 = World.alloc w481 (.cells #[.int .i64 n482] T_int) →
 ∃ s486 : Sl, ∃ w487 : World, (Builtin.append_ #[T_sl_int, T_sl_int] T_sl_int #[s408.val, .slice (some ⟨b484, 0, none⟩) 1 1]).run Tryz.prog w485 = .ok (s486.val) w487 ∧
 wrOk w487 ⟨b59, 2, none⟩ 1 ∧ ∀ w488 : World, w488 = stW w487 ⟨b59, 2, none⟩ 0 [s486.val] →
 ∃ n_Ip489 : Int, ∃ n_Handler490 : Int, ∃ s_Stack491 : Sl, ∃ s_Back492 : Sl, ∃ s_Mem493 : Sl, ∃ t_Out494 : ByteArray, ∃ t_In495 : ByteArray, ∃ n_Read496 : Int, ∃ n_Status497 : Int, ∃ n_Code498 : Int, w488.cell? ⟨b59, 0, none⟩ = some (.int .i64 n_Ip489) ∧ w488.cell? ⟨b59, 1, none⟩ = some (.int .i64 n_Handler490) ∧ w488.cell? ⟨b59, 2, none⟩ = some (s_Stack491.val) ∧ w488.cell? ⟨b59, 3, none⟩ = some (s_Back492.val) ∧ w488.cell? ⟨b59, 4, none⟩ = some (s_Mem493.val) ∧ w488.cell? ⟨b59, 5, none⟩ = some (.string t_Out494) ∧ w488.cell? ⟨b59, 6, none⟩ = some (.string t_In495) ∧ w488.cell? ⟨b59, 7, none⟩ = some (.int .i64 n_Read496) ∧ w488.cell? ⟨b59, 8, none⟩ = some (.int .i64 n_Status497) ∧ w488.cell? ⟨b59, 9, none⟩ = some (.int .i64 n_Code498) ∧
 wrOk w488 ⟨b13, 0, none⟩ 10 ∧ ∀ w499 : World, w499 = stW w488 ⟨b13, 0, none⟩ 0 [.int .i64 n_Ip489, .int .i64 n_Handler490, s_Stack491.val, s_Back492.val, s_Mem493.val, .string t_Out494, .string t_In495, .int .i64 n_Read496, .int .i64 n_Status497, .int .i64 n_Code498] →
 ∃ r_Ip500 : Int, ∃ r_Handler501 : Int, ∃ r_Stack502 : Sl, ∃ r_Back503 : Sl, ∃ r_Mem504 : Sl, ∃ r_Out505 : ByteArray, ∃ r_In506 : ByteArray, ∃ r_Read507 : Int, ∃ r_Status508 : Int, ∃ r_Code509 : Int, w499.cell? ⟨b13, 0, none⟩ = some (.int .i64 r_Ip500) ∧ w499.cell? ⟨b13, 1, none⟩ = some (.int .i64 r_Handler501) ∧ w499.cell? ⟨b13, 2, none⟩ = some (r_Stack502.val) ∧ w499.cell? ⟨b13, 3, none⟩ = some (r_Back503.val) ∧ w499.cell? ⟨b13, 4, none⟩ = some (r_Mem504.val) ∧ w499.cell? ⟨b13, 5, none⟩ = some (.string r_Out505) ∧ w499.cell? ⟨b13, 6, none⟩ = some (.string r_In506) ∧ w499.cell? ⟨b13, 7, none⟩ = some (.int .i64 r_Read507) ∧ w499.cell? ⟨b13, 8, none⟩ = some (.int .i64 r_Status508) ∧ w499.cell? ⟨b13, 9, none⟩ = some (.int .i64 r_Code509) ∧
 K (.agg #[.int .i64 r_Ip500, .int .i64 r_Handler501, r_Stack502.val, r_Back503.val, r_Mem504.val, .string r_Out505, .string r_In506, .int .i64 r_Read507, .int .i64 r_Status508, .int .i64 r_Code509]) w499)
 (∃ J62 : World → Prop, (∀ (w924 : World), J62  w924 →
 ∃ n_Ip925 : Int, ∃ n_Handler926 : Int, ∃ s_Stack927 : Sl, ∃ s_Back928 : Sl, ∃ s_Mem929 : Sl, ∃ t_Out930 : ByteArray, ∃ t_In931 : ByteArray, ∃ n_Read932 : Int, ∃ n_Status933 : Int, ∃ n_Code934 : Int, w924.cell? ⟨b59, 0, none⟩ = some (.int .i64 n_Ip925) ∧ w924.cell? ⟨b59, 1, none⟩ = some (.int .i64 n_Handler926) ∧ w924.cell? ⟨b59, 2, none⟩ = some (s_Stack927.val) ∧ w924.cell? ⟨b59, 3, none⟩ = some (s_Back928.val) ∧ w924.cell? ⟨b59, 4, none⟩ = some (s_Mem929.val) ∧ w924.cell? ⟨b59, 5, none⟩ = some (.string t_Out930) ∧ w924.cell? ⟨b59, 6, none⟩ = some (.string t_In931) ∧ w924.cell? ⟨b59, 7, none⟩ = some (.int .i64 n_Read932) ∧ w924.cell? ⟨b59, 8, none⟩ = some (.int .i64 n_Status933) ∧ w924.cell? ⟨b59, 9, none⟩ = some (.int .i64 n_Code934) ∧
 wrOk w924 ⟨b13, 0, none⟩ 10 ∧ ∀ w935 : World, w935 = stW w924 ⟨b13, 0, none⟩ 0 [.int .i64 n_Ip925, .int .i64 n_Handler926, s_Stack927.val, s_Back928.val, s_Mem929.val, .string t_Out930, .string t_In931, .int .i64 n_Read932, .int .i64 n_Status933, .int .i64 n_Code934] →
 ∃ r_Ip936 : Int, ∃ r_Handler937 : Int, ∃ r_Stack938 : Sl, ∃ r_Back939 : Sl, ∃ r_Mem940 : Sl, ∃ r_Out941 : ByteArray, ∃ r_In942 : ByteArray, ∃ r_Read943 : Int, ∃ r_Status944 : Int, ∃ r_Code945 : Int, w935.cell? ⟨b13, 0, none⟩ = some (.int .i64 r_Ip936) ∧ w935.cell? ⟨b13, 1, none⟩ = some (.int .i64 r_Handler937) ∧ w935.cell? ⟨b13, 2, none⟩ = some (r_Stack938.val) ∧ w935.cell? ⟨b13, 3, none⟩ = some (r_Back939.val) ∧ w935.cell? ⟨b13, 4, none⟩ = some (r_Mem940.val) ∧ w935.cell? ⟨b13, 5, none⟩ = some (.string r_Out941) ∧ w935.cell? ⟨b13, 6, none⟩ = some (.string r_In942) ∧ w935.cell? ⟨b13, 7, none⟩ = some (.int .i64 r_Read943) ∧ w935.cell? ⟨b13, 8, none⟩ = some (.int .i64 r_Status944) ∧ w935.cell? ⟨b13, 9, none⟩ = some (.int .i64 r_Code945) ∧
 K (.agg #[.int .i64 r_Ip936, .int .i64 r_Handler937, r_Stack938.val, r_Back939.val, r_Mem940.val, .string r_Out941, .string r_In942, .int .i64 r_Read943, .int .i64 r_Status944, .int .i64 r_Code945]) w935) ∧
 brB (n103 == (0 : Int))
 (∃ n510 : Int, w478.cell? ⟨b59, 0, none⟩ = some (.int .i64 n510) ∧
 wrOk w478 ⟨b59, 0, none⟩ 1 ∧ ∀ w511 : World, w511 = stW w478 ⟨b59, 0, none⟩ 0 [.int .i64 (wr (n510 - (1 : Int)))] →
 wrOk w511 ⟨b59, 8, none⟩ 1 ∧ ∀ w512 : World, w512 = stW w511 ⟨b59, 8, none⟩ 0 [.int .i64 (1 : Int)] →
 J62  w512)
 (brB (n103 == (1 : Int))
 (∃ n513 : Int, w478.cell? ⟨b59, 1, none⟩ = some (.int .i64 n513) ∧
 ∃ J69 : Bool → World → Prop, (∀ (b515 : Bool) (w514 : World), J69 b515 w514 →
 brB b515
 (∃ n_Ip516 : Int, ∃ n_Handler517 : Int, ∃ s_Stack518 : Sl, ∃ s_Back519 : Sl, ∃ s_Mem520 : Sl, ∃ t_Out521 : ByteArray, ∃ t_In522 : ByteArray, ∃ n_Read523 : Int, ∃ n_Status524 : Int, ∃ n_Code525 : Int, w514.cell? ⟨b11, 0, none⟩ = some (.int .i64 n_Ip516) ∧ w514.cell? ⟨b11, 1, none⟩ = some (.int .i64 n_Handler517) ∧ w514.cell? ⟨b11, 2, none⟩ = some (s_Stack518.val) ∧ w514.cell? ⟨b11, 3, none⟩ = some (s_Back519.val) ∧ w514.cell? ⟨b11, 4, none⟩ = some (s_Mem520.val) ∧ w514.cell? ⟨b11, 5, none⟩ = some (.string t_Out521) ∧ w514.cell? ⟨b11, 6, none⟩ = some (.string t_In522) ∧ w514.cell? ⟨b11, 7, none⟩ = some (.int .i64 n_Read523) ∧ w514.cell? ⟨b11, 8, none⟩ = some (.int .i64 n_Status524) ∧ w514.cell? ⟨b11, 9, none⟩ = some (.int .i64 n_Code525) ∧
 Calls Tryz.prog fn_hollowayref9_Fault #[.agg #[.int .i64 n_Ip516, .int .i64 n_Handler517, s_Stack518.val, s_Back519.val, s_Mem520.val, .string t_Out521, .string t_In522, .int .i64 n_Read523, .int .i64 n_Status524, .int .i64 n_Code525], .int .i64 (-25 : Int)] w514 fun e526 w527 => ∃ n_Ip528 : Int, ∃ n_Handler529 : Int, ∃ s_Stack530 : Sl, ∃ s_Back531 : Sl, ∃ s_Mem532 : Sl, ∃ t_Out533 : ByteArray, ∃ t_In534 : ByteArray, ∃ n_Read535 : Int, ∃ n_Status536 : Int, ∃ n_Code537 : Int, e526 = .returned (.agg #[.int .i64 n_Ip528, .int .i64 n_Handler529, s_Stack530.val, s_Back531.val, s_Mem532.val, .string t_Out533, .string t_In534, .int .i64 n_Read535, .int .i64 n_Status536, .int .i64 n_Code537]) ∧
 wrOk w527 ⟨b13, 0, none⟩ 10 ∧ ∀ w538 : World, w538 = stW w527 ⟨b13, 0, none⟩ 0 [.int .i64 n_Ip528, .int .i64 n_Handler529, s_Stack530.val, s_Back531.val, s_Mem532.val, .string t_Out533, .string t_In534, .int .i64 n_Read535, .int .i64 n_Status536, .int .i64 n_Code537] →
 ∃ r_Ip539 : Int, ∃ r_Handler540 : Int, ∃ r_Stack541 : Sl, ∃ r_Back542 : Sl, ∃ r_Mem543 : Sl, ∃ r_Out544 : ByteArray, ∃ r_In545 : ByteArray, ∃ r_Read546 : Int, ∃ r_Status547 : Int, ∃ r_Code548 : Int, w538.cell? ⟨b13, 0, none⟩ = some (.int .i64 r_Ip539) ∧ w538.cell? ⟨b13, 1, none⟩ = some (.int .i64 r_Handler540) ∧ w538.cell? ⟨b13, 2, none⟩ = some (r_Stack541.val) ∧ w538.cell? ⟨b13, 3, none⟩ = some (r_Back542.val) ∧ w538.cell? ⟨b13, 4, none⟩ = some (r_Mem543.val) ∧ w538.cell? ⟨b13, 5, none⟩ = some (.string r_Out544) ∧ w538.cell? ⟨b13, 6, none⟩ = some (.string r_In545) ∧ w538.cell? ⟨b13, 7, none⟩ = some (.int .i64 r_Read546) ∧ w538.cell? ⟨b13, 8, none⟩ = some (.int .i64 r_Status547) ∧ w538.cell? ⟨b13, 9, none⟩ = some (.int .i64 r_Code548) ∧
 K (.agg #[.int .i64 r_Ip539, .int .i64 r_Handler540, r_Stack541.val, r_Back542.val, r_Mem543.val, .string r_Out544, .string r_In545, .int .i64 r_Read546, .int .i64 r_Status547, .int .i64 r_Code548]) w538)
 (brB (decide ((s253.len : Int) ≥ (48 : Int)))
 (∃ n_Ip549 : Int, ∃ n_Handler550 : Int, ∃ s_Stack551 : Sl, ∃ s_Back552 : Sl, ∃ s_Mem553 : Sl, ∃ t_Out554 : ByteArray, ∃ t_In555 : ByteArray, ∃ n_Read556 : Int, ∃ n_Status557 : Int, ∃ n_Code558 : Int, w514.cell? ⟨b11, 0, none⟩ = some (.int .i64 n_Ip549) ∧ w514.cell? ⟨b11, 1, none⟩ = some (.int .i64 n_Handler550) ∧ w514.cell? ⟨b11, 2, none⟩ = some (s_Stack551.val) ∧ w514.cell? ⟨b11, 3, none⟩ = some (s_Back552.val) ∧ w514.cell? ⟨b11, 4, none⟩ = some (s_Mem553.val) ∧ w514.cell? ⟨b11, 5, none⟩ = some (.string t_Out554) ∧ w514.cell? ⟨b11, 6, none⟩ = some (.string t_In555) ∧ w514.cell? ⟨b11, 7, none⟩ = some (.int .i64 n_Read556) ∧ w514.cell? ⟨b11, 8, none⟩ = some (.int .i64 n_Status557) ∧ w514.cell? ⟨b11, 9, none⟩ = some (.int .i64 n_Code558) ∧
 Calls Tryz.prog fn_hollowayref9_Fault #[.agg #[.int .i64 n_Ip549, .int .i64 n_Handler550, s_Stack551.val, s_Back552.val, s_Mem553.val, .string t_Out554, .string t_In555, .int .i64 n_Read556, .int .i64 n_Status557, .int .i64 n_Code558], .int .i64 (-3 : Int)] w514 fun e559 w560 => ∃ n_Ip561 : Int, ∃ n_Handler562 : Int, ∃ s_Stack563 : Sl, ∃ s_Back564 : Sl, ∃ s_Mem565 : Sl, ∃ t_Out566 : ByteArray, ∃ t_In567 : ByteArray, ∃ n_Read568 : Int, ∃ n_Status569 : Int, ∃ n_Code570 : Int, e559 = .returned (.agg #[.int .i64 n_Ip561, .int .i64 n_Handler562, s_Stack563.val, s_Back564.val, s_Mem565.val, .string t_Out566, .string t_In567, .int .i64 n_Read568, .int .i64 n_Status569, .int .i64 n_Code570]) ∧
 wrOk w560 ⟨b13, 0, none⟩ 10 ∧ ∀ w571 : World, w571 = stW w560 ⟨b13, 0, none⟩ 0 [.int .i64 n_Ip561, .int .i64 n_Handler562, s_Stack563.val, s_Back564.val, s_Mem565.val, .string t_Out566, .string t_In567, .int .i64 n_Read568, .int .i64 n_Status569, .int .i64 n_Code570] →
 ∃ r_Ip572 : Int, ∃ r_Handler573 : Int, ∃ r_Stack574 : Sl, ∃ r_Back575 : Sl, ∃ r_Mem576 : Sl, ∃ r_Out577 : ByteArray, ∃ r_In578 : ByteArray, ∃ r_Read579 : Int, ∃ r_Status580 : Int, ∃ r_Code581 : Int, w571.cell? ⟨b13, 0, none⟩ = some (.int .i64 r_Ip572) ∧ w571.cell? ⟨b13, 1, none⟩ = some (.int .i64 r_Handler573) ∧ w571.cell? ⟨b13, 2, none⟩ = some (r_Stack574.val) ∧ w571.cell? ⟨b13, 3, none⟩ = some (r_Back575.val) ∧ w571.cell? ⟨b13, 4, none⟩ = some (r_Mem576.val) ∧ w571.cell? ⟨b13, 5, none⟩ = some (.string r_Out577) ∧ w571.cell? ⟨b13, 6, none⟩ = some (.string r_In578) ∧ w571.cell? ⟨b13, 7, none⟩ = some (.int .i64 r_Read579) ∧ w571.cell? ⟨b13, 8, none⟩ = some (.int .i64 r_Status580) ∧ w571.cell? ⟨b13, 9, none⟩ = some (.int .i64 r_Code581) ∧
 K (.agg #[.int .i64 r_Ip572, .int .i64 r_Handler573, r_Stack574.val, r_Back575.val, r_Mem576.val, .string r_Out577, .string r_In578, .int .i64 r_Read579, .int .i64 r_Status580, .int .i64 r_Code581]) w571)
 (∀ w582 : World, w582 = World.drew w514 →
 ∃ S583 : World → Prop, S583 w582 ∧
 ∃ s584 : Sl, held S583 ⟨b59, 3, none⟩ (s584.val) ∧
 ∃ a585 : Addr, s584.ptr = some a585 ∧ 0 ≤ (wr (n513 - (3 : Int))) ∧ (wr (n513 - (3 : Int))) < (s584.len : Int) ∧
 ∃ n586 : Int, held S583 (Addr.add a585 (Int.toNat (wr (n513 - (3 : Int))) * 1)) (.int .i64 n586) ∧
 ∃ s587 : Sl, held S583 ⟨b59, 3, none⟩ (s587.val) ∧
 ∃ a588 : Addr, s587.ptr = some a588 ∧ 0 ≤ (wr (n513 - (2 : Int))) ∧ (wr (n513 - (2 : Int))) < (s587.len : Int) ∧
 ∃ n589 : Int, held S583 (Addr.add a588 (Int.toNat (wr (n513 - (2 : Int))) * 1)) (.int .i64 n589) ∧
 wrOk w582 ⟨b59, 0, none⟩ 1 ∧ ∀ w590 : World, w590 = stW w582 ⟨b59, 0, none⟩ 0 [.int .i64 n586] →
 S583 w590 ∧
 wrOk w590 ⟨b59, 1, none⟩ 1 ∧ ∀ w591 : World, w591 = stW w590 ⟨b59, 1, none⟩ 0 [.int .i64 n589] →
 ∃ s592 : Sl, w591.cell? ⟨b59, 3, none⟩ = some (s592.val) ∧
 0 ≤ (wr (n513 - (3 : Int))) ∧ (wr (n513 - (3 : Int))) ≤ (s592.cap : Int) ∧ ∀ s593 : Sl, s593 = Sl.sub s592.ptr s592.cap 0 (Int.toNat (wr (n513 - (3 : Int)))) 1 →
 wrOk w591 ⟨b59, 3, none⟩ 1 ∧ ∀ w594 : World, w594 = stW w591 ⟨b59, 3, none⟩ 0 [s593.val] →
 ∃ s595 : Sl, w594.cell? ⟨b59, 2, none⟩ = some (s595.val) ∧
 ∀ (b596 : Nat) (w597 : World), b596 = w594.heap.size → w597 = World.alloc w594 (.cells #[.int .i64 (0 : Int)] T_int) →
 ∃ s598 : Sl, ∃ w599 : World, (Builtin.append_ #[T_sl_int, T_sl_int] T_sl_int #[s595.val, .slice (some ⟨b596, 0, none⟩) 1 1]).run Tryz.prog w597 = .ok (s598.val) w599 ∧
 wrOk w599 ⟨b59, 2, none⟩ 1 ∧ ∀ w600 : World, w600 = stW w599 ⟨b59, 2, none⟩ 0 [s598.val] →
 J62  w600))) ∧
 brB (decide (n513 < (3 : Int)))
 (J69 true w478)
 (J69 ((s254.len : Int) != n513) w478))
 (brB (n103 == (2 : Int))
 (∀ (b602 : Nat) (w603 : World), b602 = w478.heap.size → w603 = World.alloc w478 (.cells #[.int .i64 arg601] T_int) →
 ∃ s604 : Sl, ∃ w605 : World, (Builtin.append_ #[T_sl_int, T_sl_int] T_sl_int #[s408.val, .slice (some ⟨b602, 0, none⟩) 1 1]).run Tryz.prog w603 = .ok (s604.val) w605 ∧
 wrOk w605 ⟨b59, 2, none⟩ 1 ∧ ∀ w606 : World, w606 = stW w605 ⟨b59, 2, none⟩ 0 [s604.val] →
 J62  w606)
 (brB (n103 == (3 : Int))
 (wrOk w478 ⟨b59, 0, none⟩ 1 ∧ ∀ w607 : World, w607 = stW w478 ⟨b59, 0, none⟩ 0 [.int .i64 arg601] →
 J62  w607)
 (brB (n103 == (4 : Int))
 (wrOk w478 ⟨b59, 2, none⟩ 1 ∧ ∀ w608 : World, w608 = stW w478 ⟨b59, 2, none⟩ 0 [s408.val] →
 brB (p413 == (0 : Int))
 (wrOk w608 ⟨b59, 0, none⟩ 1 ∧ ∀ w609 : World, w609 = stW w608 ⟨b59, 0, none⟩ 0 [.int .i64 arg601] →
 J62  w609)
 (J62  w608))
 (brB (n103 == (5 : Int))
 (∃ s610 : Sl, w478.cell? ⟨b59, 3, none⟩ = some (s610.val) ∧
 ∃ a611 : Addr, s610.ptr = some a611 ∧ 0 ≤ (wr ((s254.len : Int) - (1 : Int))) ∧ (wr ((s254.len : Int) - (1 : Int))) < (s610.len : Int) ∧
 ∃ n612 : Int, w478.cell? (Addr.add a611 (Int.toNat (wr ((s254.len : Int) - (1 : Int))) * 1)) = some (.int .i64 n612) ∧
 wrOk w478 ⟨b59, 0, none⟩ 1 ∧ ∀ w613 : World, w613 = stW w478 ⟨b59, 0, none⟩ 0 [.int .i64 n612] →
 ∃ s614 : Sl, w613.cell? ⟨b59, 3, none⟩ = some (s614.val) ∧
 0 ≤ (wr ((s254.len : Int) - (1 : Int))) ∧ (wr ((s254.len : Int) - (1 : Int))) ≤ (s614.cap : Int) ∧ ∀ s615 : Sl, s615 = Sl.sub s614.ptr s614.cap 0 (Int.toNat (wr ((s254.len : Int) - (1 : Int)))) 1 →
 wrOk w613 ⟨b59, 3, none⟩ 1 ∧ ∀ w616 : World, w616 = stW w613 ⟨b59, 3, none⟩ 0 [s615.val] →
 J62  w616)
 (brB (n103 == (6 : Int))
 (∀ (b617 : Nat) (w618 : World), b617 = w478.heap.size → w618 = World.alloc w478 (.cells #[.int .i64 p413, .int .i64 p413] T_int) →
 ∃ s619 : Sl, ∃ w620 : World, (Builtin.append_ #[T_sl_int, T_sl_int] T_sl_int #[s408.val, .slice (some ⟨b617, 0, none⟩) 2 2]).run Tryz.prog w618 = .ok (s619.val) w620 ∧
 wrOk w620 ⟨b59, 2, none⟩ 1 ∧ ∀ w621 : World, w621 = stW w620 ⟨b59, 2, none⟩ 0 [s619.val] →
 J62  w621)
 (brB (n103 == (7 : Int))
 (wrOk w478 ⟨b59, 2, none⟩ 1 ∧ ∀ w622 : World, w622 = stW w478 ⟨b59, 2, none⟩ 0 [s408.val] →
 J62  w622)
 (brB (n103 == (8 : Int))
 (∀ (b623 : Nat) (w624 : World), b623 = w478.heap.size → w624 = World.alloc w478 (.cells #[.int .i64 p413, .int .i64 q412] T_int) →
 ∃ s625 : Sl, ∃ w626 : World, (Builtin.append_ #[T_sl_int, T_sl_int] T_sl_int #[s408.val, .slice (some ⟨b623, 0, none⟩) 2 2]).run Tryz.prog w624 = .ok (s625.val) w626 ∧
 wrOk w626 ⟨b59, 2, none⟩ 1 ∧ ∀ w627 : World, w627 = stW w626 ⟨b59, 2, none⟩ 0 [s625.val] →
 J62  w627)
 (brB (n103 == (9 : Int))
 (∀ (b628 : Nat) (w629 : World), b628 = w478.heap.size → w629 = World.alloc w478 (.cells #[.int .i64 q412, .int .i64 p413, .int .i64 q412] T_int) →
 ∃ s630 : Sl, ∃ w631 : World, (Builtin.append_ #[T_sl_int, T_sl_int] T_sl_int #[s408.val, .slice (some ⟨b628, 0, none⟩) 3 3]).run Tryz.prog w629 = .ok (s630.val) w631 ∧
 wrOk w631 ⟨b59, 2, none⟩ 1 ∧ ∀ w632 : World, w632 = stW w631 ⟨b59, 2, none⟩ 0 [s630.val] →
 J62  w632)
 (brB (n103 == (10 : Int))
 (∀ (b634 : Nat) (w635 : World), b634 = w478.heap.size → w635 = World.alloc w478 (.cells #[.int .i64 q412, .int .i64 p413, .int .i64 r633] T_int) →
 ∃ s636 : Sl, ∃ w637 : World, (Builtin.append_ #[T_sl_int, T_sl_int] T_sl_int #[s408.val, .slice (some ⟨b634, 0, none⟩) 3 3]).run Tryz.prog w635 = .ok (s636.val) w637 ∧
 wrOk w637 ⟨b59, 2, none⟩ 1 ∧ ∀ w638 : World, w638 = stW w637 ⟨b59, 2, none⟩ 0 [s636.val] →
 J62  w638)
 (∃ J88 : Bool → World → Prop, (∀ (b640 : Bool) (w639 : World), J88 b640 w639 →
 brB b640
 (∃ J92 : Bool → World → Prop, (∀ (b643 : Bool) (w642 : World), J92 b643 w642 →
 brB b643
 (∃ n_Ip644 : Int, ∃ n_Handler645 : Int, ∃ s_Stack646 : Sl, ∃ s_Back647 : Sl, ∃ s_Mem648 : Sl, ∃ t_Out649 : ByteArray, ∃ t_In650 : ByteArray, ∃ n_Read651 : Int, ∃ n_Status652 : Int, ∃ n_Code653 : Int, w642.cell? ⟨b11, 0, none⟩ = some (.int .i64 n_Ip644) ∧ w642.cell? ⟨b11, 1, none⟩ = some (.int .i64 n_Handler645) ∧ w642.cell? ⟨b11, 2, none⟩ = some (s_Stack646.val) ∧ w642.cell? ⟨b11, 3, none⟩ = some (s_Back647.val) ∧ w642.cell? ⟨b11, 4, none⟩ = some (s_Mem648.val) ∧ w642.cell? ⟨b11, 5, none⟩ = some (.string t_Out649) ∧ w642.cell? ⟨b11, 6, none⟩ = some (.string t_In650) ∧ w642.cell? ⟨b11, 7, none⟩ = some (.int .i64 n_Read651) ∧ w642.cell? ⟨b11, 8, none⟩ = some (.int .i64 n_Status652) ∧ w642.cell? ⟨b11, 9, none⟩ = some (.int .i64 n_Code653) ∧
 Calls Tryz.prog fn_hollowayref9_Fault #[.agg #[.int .i64 n_Ip644, .int .i64 n_Handler645, s_Stack646.val, s_Back647.val, s_Mem648.val, .string t_Out649, .string t_In650, .int .i64 n_Read651, .int .i64 n_Status652, .int .i64 n_Code653], .int .i64 (-9 : Int)] w642 fun e654 w655 => ∃ n_Ip656 : Int, ∃ n_Handler657 : Int, ∃ s_Stack658 : Sl, ∃ s_Back659 : Sl, ∃ s_Mem660 : Sl, ∃ t_Out661 : ByteArray, ∃ t_In662 : ByteArray, ∃ n_Read663 : Int, ∃ n_Status664 : Int, ∃ n_Code665 : Int, e654 = .returned (.agg #[.int .i64 n_Ip656, .int .i64 n_Handler657, s_Stack658.val, s_Back659.val, s_Mem660.val, .string t_Out661, .string t_In662, .int .i64 n_Read663, .int .i64 n_Status664, .int .i64 n_Code665]) ∧
 wrOk w655 ⟨b13, 0, none⟩ 10 ∧ ∀ w666 : World, w666 = stW w655 ⟨b13, 0, none⟩ 0 [.int .i64 n_Ip656, .int .i64 n_Handler657, s_Stack658.val, s_Back659.val, s_Mem660.val, .string t_Out661, .string t_In662, .int .i64 n_Read663, .int .i64 n_Status664, .int .i64 n_Code665] →
 ∃ r_Ip667 : Int, ∃ r_Handler668 : Int, ∃ r_Stack669 : Sl, ∃ r_Back670 : Sl, ∃ r_Mem671 : Sl, ∃ r_Out672 : ByteArray, ∃ r_In673 : ByteArray, ∃ r_Read674 : Int, ∃ r_Status675 : Int, ∃ r_Code676 : Int, w666.cell? ⟨b13, 0, none⟩ = some (.int .i64 r_Ip667) ∧ w666.cell? ⟨b13, 1, none⟩ = some (.int .i64 r_Handler668) ∧ w666.cell? ⟨b13, 2, none⟩ = some (r_Stack669.val) ∧ w666.cell? ⟨b13, 3, none⟩ = some (r_Back670.val) ∧ w666.cell? ⟨b13, 4, none⟩ = some (r_Mem671.val) ∧ w666.cell? ⟨b13, 5, none⟩ = some (.string r_Out672) ∧ w666.cell? ⟨b13, 6, none⟩ = some (.string r_In673) ∧ w666.cell? ⟨b13, 7, none⟩ = some (.int .i64 r_Read674) ∧ w666.cell? ⟨b13, 8, none⟩ = some (.int .i64 r_Status675) ∧ w666.cell? ⟨b13, 9, none⟩ = some (.int .i64 r_Code676) ∧
 K (.agg #[.int .i64 r_Ip667, .int .i64 r_Handler668, r_Stack669.val, r_Back670.val, r_Mem671.val, .string r_Out672, .string r_In673, .int .i64 r_Read674, .int .i64 r_Status675, .int .i64 r_Code676]) w666)
 (wrOk w642 ⟨b59, 2, none⟩ 1 ∧ ∀ w677 : World, w677 = stW w642 ⟨b59, 2, none⟩ 0 [s408.val] →
 brB (n103 == (30 : Int))
 (∃ s678 : Sl, w677.cell? ⟨b59, 4, none⟩ = some (s678.val) ∧
 ∃ a679 : Addr, s678.ptr = some a679 ∧ 0 ≤ p413 ∧ p413 < (s678.len : Int) ∧
 ∃ n680 : Int, w677.cell? (Addr.add a679 (Int.toNat p413 * 1)) = some (.int .i64 n680) ∧
 ∀ (b681 : Nat) (w682 : World), b681 = w677.heap.size → w682 = World.alloc w677 (.cells #[.int .i64 n680] T_int) →
 ∃ s683 : Sl, ∃ w684 : World, (Builtin.append_ #[T_sl_int, T_sl_int] T_sl_int #[s408.val, .slice (some ⟨b681, 0, none⟩) 1 1]).run Tryz.prog w682 = .ok (s683.val) w684 ∧
 wrOk w684 ⟨b59, 2, none⟩ 1 ∧ ∀ w685 : World, w685 = stW w684 ⟨b59, 2, none⟩ 0 [s683.val] →
 J62  w685)
 (brB (n103 == (31 : Int))
 (∃ s686 : Sl, w677.cell? ⟨b59, 4, none⟩ = some (s686.val) ∧
 ∃ a687 : Addr, s686.ptr = some a687 ∧ 0 ≤ p413 ∧ p413 < (s686.len : Int) ∧
 wrOk w677 (Addr.add a687 (Int.toNat p413 * 1)) 1 ∧ ∀ w688 : World, w688 = stW w677 (Addr.add a687 (Int.toNat p413 * 1)) 0 [.int .i64 q412] →
 J62  w688)
 (∀ w689 : World, w689 = World.drew w677 →
 ∃ s690 : Sl, held (Lw w689) ⟨b59, 4, none⟩ (s690.val) ∧
 ∃ s691 : Sl, held (Lw w689) ⟨b59, 4, none⟩ (s691.val) ∧
 ∃ a692 : Addr, s691.ptr = some a692 ∧ 0 ≤ p413 ∧ p413 < (s691.len : Int) ∧
 ∃ n693 : Int, held (Lw w689) (Addr.add a692 (Int.toNat p413 * 1)) (.int .i64 n693) ∧
 ∃ a694 : Addr, s690.ptr = some a694 ∧ 0 ≤ p413 ∧ p413 < (s690.len : Int) ∧
 wrOk w689 (Addr.add a694 (Int.toNat p413 * 1)) 1 ∧ ∀ w695 : World, w695 = stW w689 (Addr.add a694 (Int.toNat p413 * 1)) 0 [.int .i64 (wr (n693 + q412))] →
 J62  w695)))) ∧
 brB (decide (p413 < (0 : Int)))
 (J92 true w639)
 (∃ s641 : Sl, w639.cell? ⟨b59, 4, none⟩ = some (s641.val) ∧
 J92 (decide (p413 ≥ (s641.len : Int))) w639))
 (brB (n103 == (33 : Int))
 (wrOk w639 ⟨b59, 2, none⟩ 1 ∧ ∀ w696 : World, w696 = stW w639 ⟨b59, 2, none⟩ 0 [s408.val] →
 ∃ s697 : Sl, w696.cell? ⟨b59, 3, none⟩ = some (s697.val) ∧
 ∀ (b698 : Nat) (w699 : World), b698 = w696.heap.size → w699 = World.alloc w696 (.cells #[.int .i64 p413] T_int) →
 ∃ s700 : Sl, ∃ w701 : World, (Builtin.append_ #[T_sl_int, T_sl_int] T_sl_int #[s697.val, .slice (some ⟨b698, 0, none⟩) 1 1]).run Tryz.prog w699 = .ok (s700.val) w701 ∧
 wrOk w701 ⟨b59, 3, none⟩ 1 ∧ ∀ w702 : World, w702 = stW w701 ⟨b59, 3, none⟩ 0 [s700.val] →
 J62  w702)
 (brB (n103 == (34 : Int))
 (∃ s703 : Sl, w639.cell? ⟨b59, 3, none⟩ = some (s703.val) ∧
 ∃ a704 : Addr, s703.ptr = some a704 ∧ 0 ≤ (wr ((s254.len : Int) - (1 : Int))) ∧ (wr ((s254.len : Int) - (1 : Int))) < (s703.len : Int) ∧
 ∃ n705 : Int, w639.cell? (Addr.add a704 (Int.toNat (wr ((s254.len : Int) - (1 : Int))) * 1)) = some (.int .i64 n705) ∧
 ∀ (b706 : Nat) (w707 : World), b706 = w639.heap.size → w707 = World.alloc w639 (.cells #[.int .i64 n705] T_int) →
 ∃ s708 : Sl, ∃ w709 : World, (Builtin.append_ #[T_sl_int, T_sl_int] T_sl_int #[s408.val, .slice (some ⟨b706, 0, none⟩) 1 1]).run Tryz.prog w707 = .ok (s708.val) w709 ∧
 wrOk w709 ⟨b59, 2, none⟩ 1 ∧ ∀ w710 : World, w710 = stW w709 ⟨b59, 2, none⟩ 0 [s708.val] →
 ∃ s711 : Sl, w710.cell? ⟨b59, 3, none⟩ = some (s711.val) ∧
 0 ≤ (wr ((s254.len : Int) - (1 : Int))) ∧ (wr ((s254.len : Int) - (1 : Int))) ≤ (s711.cap : Int) ∧ ∀ s712 : Sl, s712 = Sl.sub s711.ptr s711.cap 0 (Int.toNat (wr ((s254.len : Int) - (1 : Int)))) 1 →
 wrOk w710 ⟨b59, 3, none⟩ 1 ∧ ∀ w713 : World, w713 = stW w710 ⟨b59, 3, none⟩ 0 [s712.val] →
 J62  w713)
 (brB (n103 == (35 : Int))
 (∃ s714 : Sl, w639.cell? ⟨b59, 3, none⟩ = some (s714.val) ∧
 ∃ a715 : Addr, s714.ptr = some a715 ∧ 0 ≤ (wr ((s254.len : Int) - (1 : Int))) ∧ (wr ((s254.len : Int) - (1 : Int))) < (s714.len : Int) ∧
 ∃ n716 : Int, w639.cell? (Addr.add a715 (Int.toNat (wr ((s254.len : Int) - (1 : Int))) * 1)) = some (.int .i64 n716) ∧
 ∀ (b717 : Nat) (w718 : World), b717 = w639.heap.size → w718 = World.alloc w639 (.cells #[.int .i64 n716] T_int) →
 ∃ s719 : Sl, ∃ w720 : World, (Builtin.append_ #[T_sl_int, T_sl_int] T_sl_int #[s408.val, .slice (some ⟨b717, 0, none⟩) 1 1]).run Tryz.prog w718 = .ok (s719.val) w720 ∧
 wrOk w720 ⟨b59, 2, none⟩ 1 ∧ ∀ w721 : World, w721 = stW w720 ⟨b59, 2, none⟩ 0 [s719.val] →
 J62  w721)
 (brB (n103 == (36 : Int))
 (wrOk w639 ⟨b59, 2, none⟩ 1 ∧ ∀ w722 : World, w722 = stW w639 ⟨b59, 2, none⟩ 0 [s408.val] →
 ∃ s723 : Sl, w722.cell? ⟨b59, 3, none⟩ = some (s723.val) ∧
 ∀ (b724 : Nat) (w725 : World), b724 = w722.heap.size → w725 = World.alloc w722 (.cells #[.int .i64 q412, .int .i64 p413] T_int) →
 ∃ s726 : Sl, ∃ w727 : World, (Builtin.append_ #[T_sl_int, T_sl_int] T_sl_int #[s723.val, .slice (some ⟨b724, 0, none⟩) 2 2]).run Tryz.prog w725 = .ok (s726.val) w727 ∧
 wrOk w727 ⟨b59, 3, none⟩ 1 ∧ ∀ w728 : World, w728 = stW w727 ⟨b59, 3, none⟩ 0 [s726.val] →
 J62  w728)
 (∃ J105 : Bool → World → Prop, (∀ (b730 : Bool) (w729 : World), J105 b730 w729 →
 brB b730
 (wrOk w729 ⟨b59, 2, none⟩ 1 ∧ ∀ w731 : World, w731 = stW w729 ⟨b59, 2, none⟩ 0 [s408.val] →
 ∃ J109 : Int → World → Prop, (∀ (step740 : Int) (w732 : World), J109 step740 w732 →
 ∀ w733 : World, w733 = World.drew w732 →
 ∃ s734 : Sl, held (Lw w733) ⟨b59, 3, none⟩ (s734.val) ∧
 ∃ a735 : Addr, s734.ptr = some a735 ∧ 0 ≤ (wr ((s254.len : Int) - (1 : Int))) ∧ (wr ((s254.len : Int) - (1 : Int))) < (s734.len : Int) ∧
 ∃ n736 : Int, held (Lw w733) (Addr.add a735 (Int.toNat (wr ((s254.len : Int) - (1 : Int))) * 1)) (.int .i64 n736) ∧
 ∃ s737 : Sl, held (Lw w733) ⟨b59, 3, none⟩ (s737.val) ∧
 ∃ a738 : Addr, s737.ptr = some a738 ∧ 0 ≤ (wr ((s254.len : Int) - (2 : Int))) ∧ (wr ((s254.len : Int) - (2 : Int))) < (s737.len : Int) ∧
 ∃ n739 : Int, held (Lw w733) (Addr.add a738 (Int.toNat (wr ((s254.len : Int) - (2 : Int))) * 1)) (.int .i64 n739) ∧
 ∃ J113 : Bool → World → Prop, (∀ (ends745 : Bool) (w744 : World), J113 ends745 w744 →
 brB ends745
 (∃ s746 : Sl, w744.cell? ⟨b59, 3, none⟩ = some (s746.val) ∧
 0 ≤ (wr ((s254.len : Int) - (2 : Int))) ∧ (wr ((s254.len : Int) - (2 : Int))) ≤ (s746.cap : Int) ∧ ∀ s747 : Sl, s747 = Sl.sub s746.ptr s746.cap 0 (Int.toNat (wr ((s254.len : Int) - (2 : Int)))) 1 →
 wrOk w744 ⟨b59, 3, none⟩ 1 ∧ ∀ w748 : World, w748 = stW w744 ⟨b59, 3, none⟩ 0 [s747.val] →
 J62  w748)
 (∃ s749 : Sl, w744.cell? ⟨b59, 3, none⟩ = some (s749.val) ∧
 ∃ a750 : Addr, s749.ptr = some a750 ∧ 0 ≤ (wr ((s254.len : Int) - (1 : Int))) ∧ (wr ((s254.len : Int) - (1 : Int))) < (s749.len : Int) ∧
 wrOk w744 (Addr.add a750 (Int.toNat (wr ((s254.len : Int) - (1 : Int))) * 1)) 1 ∧ ∀ w751 : World, w751 = stW w744 (Addr.add a750 (Int.toNat (wr ((s254.len : Int) - (1 : Int))) * 1)) 0 [.int .i64 (wr (n736 + step740))] →
 wrOk w751 ⟨b59, 0, none⟩ 1 ∧ ∀ w752 : World, w752 = stW w751 ⟨b59, 0, none⟩ 0 [.int .i64 arg601] →
 J62  w752)) ∧
 brB (n103 == (38 : Int))
 (Calls Tryz.prog fn_hollowayref1_Crosses #[.int .i64 (wr (n736 - n739)), .int .i64 step740] w733 fun e741 w742 => ∃ b743 : Bool, e741 = .returned (.bool b743) ∧
 J113 b743 w742)
 (J113 ((wr (n736 + step740)) == n739) w733)) ∧
 brB (n103 == (38 : Int))
 (J109 p413 w731)
 (J109 (1 : Int) w731))
 (brB (n103 == (39 : Int))
 (∃ s753 : Sl, w729.cell? ⟨b59, 3, none⟩ = some (s753.val) ∧
 ∃ a754 : Addr, s753.ptr = some a754 ∧ 0 ≤ (wr ((s254.len : Int) - (3 : Int))) ∧ (wr ((s254.len : Int) - (3 : Int))) < (s753.len : Int) ∧
 ∃ n755 : Int, w729.cell? (Addr.add a754 (Int.toNat (wr ((s254.len : Int) - (3 : Int))) * 1)) = some (.int .i64 n755) ∧
 ∀ (b756 : Nat) (w757 : World), b756 = w729.heap.size → w757 = World.alloc w729 (.cells #[.int .i64 n755] T_int) →
 ∃ s758 : Sl, ∃ w759 : World, (Builtin.append_ #[T_sl_int, T_sl_int] T_sl_int #[s408.val, .slice (some ⟨b756, 0, none⟩) 1 1]).run Tryz.prog w757 = .ok (s758.val) w759 ∧
 wrOk w759 ⟨b59, 2, none⟩ 1 ∧ ∀ w760 : World, w760 = stW w759 ⟨b59, 2, none⟩ 0 [s758.val] →
 J62  w760)
 (brB (n103 == (40 : Int))
 (∃ s761 : Sl, w729.cell? ⟨b59, 3, none⟩ = some (s761.val) ∧
 0 ≤ (wr ((s254.len : Int) - (2 : Int))) ∧ (wr ((s254.len : Int) - (2 : Int))) ≤ (s761.cap : Int) ∧ ∀ s762 : Sl, s762 = Sl.sub s761.ptr s761.cap 0 (Int.toNat (wr ((s254.len : Int) - (2 : Int)))) 1 →
 wrOk w729 ⟨b59, 3, none⟩ 1 ∧ ∀ w763 : World, w763 = stW w729 ⟨b59, 3, none⟩ 0 [s762.val] →
 J62  w763)
 (∃ J119 : Bool → World → Prop, (∀ (b765 : Bool) (w764 : World), J119 b765 w764 →
 brB b765
 (∀ (b766 : Nat) (w767 : World), b766 = w764.heap.size → w767 = World.alloc w764 (.cells #[.int .u8 (IntKind.wrap .u8 (iand .i64 p413 (255 : Int)))] T_uint8) →
 ∃ t768 : ByteArray, ∃ w769 : World, (convert T_sl_uint8 T_string (.slice (some ⟨b766, 0, none⟩) 1 1)).run Tryz.prog w767 = .ok (.string t768) w769 ∧
 ∃ J122 : ByteArray → World → Prop, (∀ (t775 : ByteArray) (w773 : World), J122 t775 w773 →
 ∃ t774 : ByteArray, w773.cell? ⟨b59, 5, none⟩ = some (.string t774) ∧
 brB (decide ((wr ((t774.size : Int) + (t775.size : Int))) > (2000 : Int)))
 (∃ n_Ip776 : Int, ∃ n_Handler777 : Int, ∃ s_Stack778 : Sl, ∃ s_Back779 : Sl, ∃ s_Mem780 : Sl, ∃ t_Out781 : ByteArray, ∃ t_In782 : ByteArray, ∃ n_Read783 : Int, ∃ n_Status784 : Int, ∃ n_Code785 : Int, w773.cell? ⟨b11, 0, none⟩ = some (.int .i64 n_Ip776) ∧ w773.cell? ⟨b11, 1, none⟩ = some (.int .i64 n_Handler777) ∧ w773.cell? ⟨b11, 2, none⟩ = some (s_Stack778.val) ∧ w773.cell? ⟨b11, 3, none⟩ = some (s_Back779.val) ∧ w773.cell? ⟨b11, 4, none⟩ = some (s_Mem780.val) ∧ w773.cell? ⟨b11, 5, none⟩ = some (.string t_Out781) ∧ w773.cell? ⟨b11, 6, none⟩ = some (.string t_In782) ∧ w773.cell? ⟨b11, 7, none⟩ = some (.int .i64 n_Read783) ∧ w773.cell? ⟨b11, 8, none⟩ = some (.int .i64 n_Status784) ∧ w773.cell? ⟨b11, 9, none⟩ = some (.int .i64 n_Code785) ∧
 Calls Tryz.prog fn_hollowayref9_Fault #[.agg #[.int .i64 n_Ip776, .int .i64 n_Handler777, s_Stack778.val, s_Back779.val, s_Mem780.val, .string t_Out781, .string t_In782, .int .i64 n_Read783, .int .i64 n_Status784, .int .i64 n_Code785], .int .i64 (-57 : Int)] w773 fun e786 w787 => ∃ n_Ip788 : Int, ∃ n_Handler789 : Int, ∃ s_Stack790 : Sl, ∃ s_Back791 : Sl, ∃ s_Mem792 : Sl, ∃ t_Out793 : ByteArray, ∃ t_In794 : ByteArray, ∃ n_Read795 : Int, ∃ n_Status796 : Int, ∃ n_Code797 : Int, e786 = .returned (.agg #[.int .i64 n_Ip788, .int .i64 n_Handler789, s_Stack790.val, s_Back791.val, s_Mem792.val, .string t_Out793, .string t_In794, .int .i64 n_Read795, .int .i64 n_Status796, .int .i64 n_Code797]) ∧
 wrOk w787 ⟨b13, 0, none⟩ 10 ∧ ∀ w798 : World, w798 = stW w787 ⟨b13, 0, none⟩ 0 [.int .i64 n_Ip788, .int .i64 n_Handler789, s_Stack790.val, s_Back791.val, s_Mem792.val, .string t_Out793, .string t_In794, .int .i64 n_Read795, .int .i64 n_Status796, .int .i64 n_Code797] →
 ∃ r_Ip799 : Int, ∃ r_Handler800 : Int, ∃ r_Stack801 : Sl, ∃ r_Back802 : Sl, ∃ r_Mem803 : Sl, ∃ r_Out804 : ByteArray, ∃ r_In805 : ByteArray, ∃ r_Read806 : Int, ∃ r_Status807 : Int, ∃ r_Code808 : Int, w798.cell? ⟨b13, 0, none⟩ = some (.int .i64 r_Ip799) ∧ w798.cell? ⟨b13, 1, none⟩ = some (.int .i64 r_Handler800) ∧ w798.cell? ⟨b13, 2, none⟩ = some (r_Stack801.val) ∧ w798.cell? ⟨b13, 3, none⟩ = some (r_Back802.val) ∧ w798.cell? ⟨b13, 4, none⟩ = some (r_Mem803.val) ∧ w798.cell? ⟨b13, 5, none⟩ = some (.string r_Out804) ∧ w798.cell? ⟨b13, 6, none⟩ = some (.string r_In805) ∧ w798.cell? ⟨b13, 7, none⟩ = some (.int .i64 r_Read806) ∧ w798.cell? ⟨b13, 8, none⟩ = some (.int .i64 r_Status807) ∧ w798.cell? ⟨b13, 9, none⟩ = some (.int .i64 r_Code808) ∧
 K (.agg #[.int .i64 r_Ip799, .int .i64 r_Handler800, r_Stack801.val, r_Back802.val, r_Mem803.val, .string r_Out804, .string r_In805, .int .i64 r_Read806, .int .i64 r_Status807, .int .i64 r_Code808]) w798)
 (wrOk w773 ⟨b59, 2, none⟩ 1 ∧ ∀ w809 : World, w809 = stW w773 ⟨b59, 2, none⟩ 0 [s408.val] →
 ∃ t810 : ByteArray, w809.cell? ⟨b59, 5, none⟩ = some (.string t810) ∧
 ((t810).size : Int) + ((t775).size : Int) ≤ 9223372036854775807 ∧ wrOk w809 ⟨b59, 5, none⟩ 1 ∧ ∀ w811 : World, w811 = stW w809 ⟨b59, 5, none⟩ 0 [.string (t810 ++ t775)] →
 J62  w811)) ∧
 brB (n103 == (42 : Int))
 (Calls Tryz.prog fn_hollowayref1_Put #[.int .i64 p413, .int .i64 (10 : Int)] w769 fun e770 w771 => ∃ t772 : ByteArray, e770 = .returned (.string t772) ∧
 ((t772).size : Int) + (((bs [32])).size : Int) ≤ 9223372036854775807 ∧ J122 (t772 ++ (bs [32])) w771)
 (J122 t768 w769))
 (brB (n103 == (43 : Int))
 (∃ J130 : Int → World → Prop, (∀ (v819 : Int) (w818 : World), J130 v819 w818 →
 ∀ (b820 : Nat) (w821 : World), b820 = w818.heap.size → w821 = World.alloc w818 (.cells #[.int .i64 v819] T_int) →
 ∃ s822 : Sl, ∃ w823 : World, (Builtin.append_ #[T_sl_int, T_sl_int] T_sl_int #[s408.val, .slice (some ⟨b820, 0, none⟩) 1 1]).run Tryz.prog w821 = .ok (s822.val) w823 ∧
 wrOk w823 ⟨b59, 2, none⟩ 1 ∧ ∀ w824 : World, w824 = stW w823 ⟨b59, 2, none⟩ 0 [s822.val] →
 J62  w824) ∧
 ∃ n812 : Int, w764.cell? ⟨b59, 7, none⟩ = some (.int .i64 n812) ∧
 ∃ t813 : ByteArray, w764.cell? ⟨b59, 6, none⟩ = some (.string t813) ∧
 brB (decide (n812 < (t813.size : Int)))
 (∃ t814 : ByteArray, w764.cell? ⟨b59, 6, none⟩ = some (.string t814) ∧
 ∃ n815 : Int, w764.cell? ⟨b59, 7, none⟩ = some (.int .i64 n815) ∧
 0 ≤ n815 ∧ n815 < (t814.size : Int) ∧
 ∃ n816 : Int, w764.cell? ⟨b59, 7, none⟩ = some (.int .i64 n816) ∧
 wrOk w764 ⟨b59, 7, none⟩ 1 ∧ ∀ w817 : World, w817 = stW w764 ⟨b59, 7, none⟩ 0 [.int .i64 (wr (n816 + (1 : Int)))] →
 J130 (wr (sb t814 n815)) w817)
 (J130 (-1 : Int) w764))
 (brB (n103 == (44 : Int))
 (∃ J135 : Bool → World → Prop, (∀ (b827 : Bool) (w826 : World), J135 b827 w826 →
 brB b827
 (∃ n_Ip828 : Int, ∃ n_Handler829 : Int, ∃ s_Stack830 : Sl, ∃ s_Back831 : Sl, ∃ s_Mem832 : Sl, ∃ t_Out833 : ByteArray, ∃ t_In834 : ByteArray, ∃ n_Read835 : Int, ∃ n_Status836 : Int, ∃ n_Code837 : Int, w826.cell? ⟨b11, 0, none⟩ = some (.int .i64 n_Ip828) ∧ w826.cell? ⟨b11, 1, none⟩ = some (.int .i64 n_Handler829) ∧ w826.cell? ⟨b11, 2, none⟩ = some (s_Stack830.val) ∧ w826.cell? ⟨b11, 3, none⟩ = some (s_Back831.val) ∧ w826.cell? ⟨b11, 4, none⟩ = some (s_Mem832.val) ∧ w826.cell? ⟨b11, 5, none⟩ = some (.string t_Out833) ∧ w826.cell? ⟨b11, 6, none⟩ = some (.string t_In834) ∧ w826.cell? ⟨b11, 7, none⟩ = some (.int .i64 n_Read835) ∧ w826.cell? ⟨b11, 8, none⟩ = some (.int .i64 n_Status836) ∧ w826.cell? ⟨b11, 9, none⟩ = some (.int .i64 n_Code837) ∧
 Calls Tryz.prog fn_hollowayref9_Fault #[.agg #[.int .i64 n_Ip828, .int .i64 n_Handler829, s_Stack830.val, s_Back831.val, s_Mem832.val, .string t_Out833, .string t_In834, .int .i64 n_Read835, .int .i64 n_Status836, .int .i64 n_Code837], .int .i64 (-13 : Int)] w826 fun e838 w839 => ∃ n_Ip840 : Int, ∃ n_Handler841 : Int, ∃ s_Stack842 : Sl, ∃ s_Back843 : Sl, ∃ s_Mem844 : Sl, ∃ t_Out845 : ByteArray, ∃ t_In846 : ByteArray, ∃ n_Read847 : Int, ∃ n_Status848 : Int, ∃ n_Code849 : Int, e838 = .returned (.agg #[.int .i64 n_Ip840, .int .i64 n_Handler841, s_Stack842.val, s_Back843.val, s_Mem844.val, .string t_Out845, .string t_In846, .int .i64 n_Read847, .int .i64 n_Status848, .int .i64 n_Code849]) ∧
 wrOk w839 ⟨b13, 0, none⟩ 10 ∧ ∀ w850 : World, w850 = stW w839 ⟨b13, 0, none⟩ 0 [.int .i64 n_Ip840, .int .i64 n_Handler841, s_Stack842.val, s_Back843.val, s_Mem844.val, .string t_Out845, .string t_In846, .int .i64 n_Read847, .int .i64 n_Status848, .int .i64 n_Code849] →
 ∃ r_Ip851 : Int, ∃ r_Handler852 : Int, ∃ r_Stack853 : Sl, ∃ r_Back854 : Sl, ∃ r_Mem855 : Sl, ∃ r_Out856 : ByteArray, ∃ r_In857 : ByteArray, ∃ r_Read858 : Int, ∃ r_Status859 : Int, ∃ r_Code860 : Int, w850.cell? ⟨b13, 0, none⟩ = some (.int .i64 r_Ip851) ∧ w850.cell? ⟨b13, 1, none⟩ = some (.int .i64 r_Handler852) ∧ w850.cell? ⟨b13, 2, none⟩ = some (r_Stack853.val) ∧ w850.cell? ⟨b13, 3, none⟩ = some (r_Back854.val) ∧ w850.cell? ⟨b13, 4, none⟩ = some (r_Mem855.val) ∧ w850.cell? ⟨b13, 5, none⟩ = some (.string r_Out856) ∧ w850.cell? ⟨b13, 6, none⟩ = some (.string r_In857) ∧ w850.cell? ⟨b13, 7, none⟩ = some (.int .i64 r_Read858) ∧ w850.cell? ⟨b13, 8, none⟩ = some (.int .i64 r_Status859) ∧ w850.cell? ⟨b13, 9, none⟩ = some (.int .i64 r_Code860) ∧
 K (.agg #[.int .i64 r_Ip851, .int .i64 r_Handler852, r_Stack853.val, r_Back854.val, r_Mem855.val, .string r_Out856, .string r_In857, .int .i64 r_Read858, .int .i64 r_Status859, .int .i64 r_Code860]) w850)
 (wrOk w826 ⟨b59, 2, none⟩ 1 ∧ ∀ w861 : World, w861 = stW w826 ⟨b59, 2, none⟩ 0 [s408.val] →
 ∃ s862 : Sl, w861.cell? ⟨b59, 3, none⟩ = some (s862.val) ∧
 ∃ n863 : Int, w861.cell? ⟨b59, 0, none⟩ = some (.int .i64 n863) ∧
 ∀ (b864 : Nat) (w865 : World), b864 = w861.heap.size → w865 = World.alloc w861 (.cells #[.int .i64 n863] T_int) →
 ∃ s866 : Sl, ∃ w867 : World, (Builtin.append_ #[T_sl_int, T_sl_int] T_sl_int #[s862.val, .slice (some ⟨b864, 0, none⟩) 1 1]).run Tryz.prog w865 = .ok (s866.val) w867 ∧
 wrOk w867 ⟨b59, 3, none⟩ 1 ∧ ∀ w868 : World, w868 = stW w867 ⟨b59, 3, none⟩ 0 [s866.val] →
 wrOk w868 ⟨b59, 0, none⟩ 1 ∧ ∀ w869 : World, w869 = stW w868 ⟨b59, 0, none⟩ 0 [.int .i64 p413] →
 J62  w869)) ∧
 brB (decide (p413 < (64 : Int)))
 (J135 true w764)
 (∃ s825 : Sl, w764.cell? ⟨b59, 4, none⟩ = some (s825.val) ∧
 J135 (decide (p413 ≥ (s825.len : Int))) w764))
 (brB (n103 == (45 : Int))
 (wrOk w764 ⟨b59, 2, none⟩ 1 ∧ ∀ w870 : World, w870 = stW w764 ⟨b59, 2, none⟩ 0 [s408.val] →
 brB (p413 != (0 : Int))
 (∃ n871 : Int, w870.cell? ⟨b11, 0, none⟩ = some (.int .i64 n871) ∧
 wrOk w870 ⟨b59, 0, none⟩ 1 ∧ ∀ w872 : World, w872 = stW w870 ⟨b59, 0, none⟩ 0 [.int .i64 n871] →
 ∃ n_Ip873 : Int, ∃ n_Handler874 : Int, ∃ s_Stack875 : Sl, ∃ s_Back876 : Sl, ∃ s_Mem877 : Sl, ∃ t_Out878 : ByteArray, ∃ t_In879 : ByteArray, ∃ n_Read880 : Int, ∃ n_Status881 : Int, ∃ n_Code882 : Int, w872.cell? ⟨b59, 0, none⟩ = some (.int .i64 n_Ip873) ∧ w872.cell? ⟨b59, 1, none⟩ = some (.int .i64 n_Handler874) ∧ w872.cell? ⟨b59, 2, none⟩ = some (s_Stack875.val) ∧ w872.cell? ⟨b59, 3, none⟩ = some (s_Back876.val) ∧ w872.cell? ⟨b59, 4, none⟩ = some (s_Mem877.val) ∧ w872.cell? ⟨b59, 5, none⟩ = some (.string t_Out878) ∧ w872.cell? ⟨b59, 6, none⟩ = some (.string t_In879) ∧ w872.cell? ⟨b59, 7, none⟩ = some (.int .i64 n_Read880) ∧ w872.cell? ⟨b59, 8, none⟩ = some (.int .i64 n_Status881) ∧ w872.cell? ⟨b59, 9, none⟩ = some (.int .i64 n_Code882) ∧
 Calls Tryz.prog fn_hollowayref9_Fault #[.agg #[.int .i64 n_Ip873, .int .i64 n_Handler874, s_Stack875.val, s_Back876.val, s_Mem877.val, .string t_Out878, .string t_In879, .int .i64 n_Read880, .int .i64 n_Status881, .int .i64 n_Code882], .int .i64 p413] w872 fun e883 w884 => ∃ n_Ip885 : Int, ∃ n_Handler886 : Int, ∃ s_Stack887 : Sl, ∃ s_Back888 : Sl, ∃ s_Mem889 : Sl, ∃ t_Out890 : ByteArray, ∃ t_In891 : ByteArray, ∃ n_Read892 : Int, ∃ n_Status893 : Int, ∃ n_Code894 : Int, e883 = .returned (.agg #[.int .i64 n_Ip885, .int .i64 n_Handler886, s_Stack887.val, s_Back888.val, s_Mem889.val, .string t_Out890, .string t_In891, .int .i64 n_Read892, .int .i64 n_Status893, .int .i64 n_Code894]) ∧
 wrOk w884 ⟨b13, 0, none⟩ 10 ∧ ∀ w895 : World, w895 = stW w884 ⟨b13, 0, none⟩ 0 [.int .i64 n_Ip885, .int .i64 n_Handler886, s_Stack887.val, s_Back888.val, s_Mem889.val, .string t_Out890, .string t_In891, .int .i64 n_Read892, .int .i64 n_Status893, .int .i64 n_Code894] →
 ∃ r_Ip896 : Int, ∃ r_Handler897 : Int, ∃ r_Stack898 : Sl, ∃ r_Back899 : Sl, ∃ r_Mem900 : Sl, ∃ r_Out901 : ByteArray, ∃ r_In902 : ByteArray, ∃ r_Read903 : Int, ∃ r_Status904 : Int, ∃ r_Code905 : Int, w895.cell? ⟨b13, 0, none⟩ = some (.int .i64 r_Ip896) ∧ w895.cell? ⟨b13, 1, none⟩ = some (.int .i64 r_Handler897) ∧ w895.cell? ⟨b13, 2, none⟩ = some (r_Stack898.val) ∧ w895.cell? ⟨b13, 3, none⟩ = some (r_Back899.val) ∧ w895.cell? ⟨b13, 4, none⟩ = some (r_Mem900.val) ∧ w895.cell? ⟨b13, 5, none⟩ = some (.string r_Out901) ∧ w895.cell? ⟨b13, 6, none⟩ = some (.string r_In902) ∧ w895.cell? ⟨b13, 7, none⟩ = some (.int .i64 r_Read903) ∧ w895.cell? ⟨b13, 8, none⟩ = some (.int .i64 r_Status904) ∧ w895.cell? ⟨b13, 9, none⟩ = some (.int .i64 r_Code905) ∧
 K (.agg #[.int .i64 r_Ip896, .int .i64 r_Handler897, r_Stack898.val, r_Back899.val, r_Mem900.val, .string r_Out901, .string r_In902, .int .i64 r_Read903, .int .i64 r_Status904, .int .i64 r_Code905]) w895)
 (J62  w870))
 (brB (n103 == (46 : Int))
 (wrOk w764 ⟨b59, 2, none⟩ 1 ∧ ∀ w906 : World, w906 = stW w764 ⟨b59, 2, none⟩ 0 [s408.val] →
 ∃ s907 : Sl, w906.cell? ⟨b59, 3, none⟩ = some (s907.val) ∧
 ∃ n908 : Int, w906.cell? ⟨b59, 0, none⟩ = some (.int .i64 n908) ∧
 ∃ n909 : Int, w906.cell? ⟨b59, 1, none⟩ = some (.int .i64 n909) ∧
 ∀ (b910 : Nat) (w911 : World), b910 = w906.heap.size → w911 = World.alloc w906 (.cells #[.int .i64 n908, .int .i64 n909, .int .i64 (s408.len : Int)] T_int) →
 ∃ s912 : Sl, ∃ w913 : World, (Builtin.append_ #[T_sl_int, T_sl_int] T_sl_int #[s907.val, .slice (some ⟨b910, 0, none⟩) 3 3]).run Tryz.prog w911 = .ok (s912.val) w913 ∧
 wrOk w913 ⟨b59, 3, none⟩ 1 ∧ ∀ w914 : World, w914 = stW w913 ⟨b59, 3, none⟩ 0 [s912.val] →
 ∃ s915 : Sl, w914.cell? ⟨b59, 3, none⟩ = some (s915.val) ∧
 wrOk w914 ⟨b59, 1, none⟩ 1 ∧ ∀ w916 : World, w916 = stW w914 ⟨b59, 1, none⟩ 0 [.int .i64 (s915.len : Int)] →
 ∃ s917 : Sl, w916.cell? ⟨b59, 3, none⟩ = some (s917.val) ∧
 ∀ (b918 : Nat) (w919 : World), b918 = w916.heap.size → w919 = World.alloc w916 (.cells #[.int .i64 (1 : Int)] T_int) →
 ∃ s920 : Sl, ∃ w921 : World, (Builtin.append_ #[T_sl_int, T_sl_int] T_sl_int #[s917.val, .slice (some ⟨b918, 0, none⟩) 1 1]).run Tryz.prog w919 = .ok (s920.val) w921 ∧
 wrOk w921 ⟨b59, 3, none⟩ 1 ∧ ∀ w922 : World, w922 = stW w921 ⟨b59, 3, none⟩ 0 [s920.val] →
 wrOk w922 ⟨b59, 0, none⟩ 1 ∧ ∀ w923 : World, w923 = stW w922 ⟨b59, 0, none⟩ 0 [.int .i64 p413] →
 J62  w923)
 (J62  w764)))))) ∧
 brB (n103 == (41 : Int))
 (J119 (n103 == (41 : Int)) w729)
 (J119 (n103 == (42 : Int)) w729))))) ∧
 brB (n103 == (37 : Int))
 (J105 (n103 == (37 : Int)) w639)
 (J105 (n103 == (38 : Int)) w639))))))) ∧
 brB (n103 == (30 : Int))
 (J88 (n103 == (30 : Int)) w478)
 (brB (n103 == (31 : Int))
 (J88 (n103 == (31 : Int)) w478)
 (J88 (n103 == (32 : Int)) w478)))))))))))))))) ∧
 Calls Tryz.prog fn_hollowayref1_Arg #[.int .i64 n103] w400 fun e401 w402 => ∃ b403 : Bool, e401 = .returned (.bool b403) ∧
 brB b403
 (∃ n404 : Int, w402.cell? ⟨b59, 0, none⟩ = some (.int .i64 n404) ∧
 wrOk w402 ⟨b59, 0, none⟩ 1 ∧ ∀ w405 : World, w405 = stW w402 ⟨b59, 0, none⟩ 0 [.int .i64 (wr (n404 + (1 : Int)))] →
 J46  w405)
 (J46  w402)) ∧
 brB (decide ((s253.len : Int) > (2 : Int)))
 (∃ s395 : Sl, w394.cell? ⟨b59, 2, none⟩ = some (s395.val) ∧
 ∃ a396 : Addr, s395.ptr = some a396 ∧ 0 ≤ (wr ((s253.len : Int) - (3 : Int))) ∧ (wr ((s253.len : Int) - (3 : Int))) < (s395.len : Int) ∧
 ∃ n397 : Int, w394.cell? (Addr.add a396 (Int.toNat (wr ((s253.len : Int) - (3 : Int))) * 1)) = some (.int .i64 n397) ∧
 J43 n397 w394)
 (J43 (0 : Int) w394)) ∧
 brB (decide ((s253.len : Int) > (1 : Int)))
 (∃ s391 : Sl, w390.cell? ⟨b59, 2, none⟩ = some (s391.val) ∧
 ∃ a392 : Addr, s391.ptr = some a392 ∧ 0 ≤ (wr ((s253.len : Int) - (2 : Int))) ∧ (wr ((s253.len : Int) - (2 : Int))) < (s391.len : Int) ∧
 ∃ n393 : Int, w390.cell? (Addr.add a392 (Int.toNat (wr ((s253.len : Int) - (2 : Int))) * 1)) = some (.int .i64 n393) ∧
 J41 n393 w390)
 (J41 (0 : Int) w390)) ∧
 brB (decide ((s253.len : Int) > (0 : Int)))
 (∃ s387 : Sl, w252.cell? ⟨b59, 2, none⟩ = some (s387.val) ∧
 ∃ a388 : Addr, s387.ptr = some a388 ∧ 0 ≤ (wr ((s253.len : Int) - (1 : Int))) ∧ (wr ((s253.len : Int) - (1 : Int))) < (s387.len : Int) ∧
 ∃ n389 : Int, w252.cell? (Addr.add a388 (Int.toNat (wr ((s253.len : Int) - (1 : Int))) * 1)) = some (.int .i64 n389) ∧
 J39 n389 w252)
 (J39 (0 : Int) w252)))))) ∧
 Calls Tryz.prog fn_hollowayref1_Arg #[.int .i64 n103] w168 fun e203 w204 => ∃ b205 : Bool, e203 = .returned (.bool b205) ∧
 brB b205
 (∃ n206 : Int, w204.cell? ⟨b59, 0, none⟩ = some (.int .i64 n206) ∧
 ∃ s207 : Sl, w204.cell? ⟨b59, 4, none⟩ = some (s207.val) ∧
 brB (decide ((wr (n206 + (1 : Int))) ≥ (s207.len : Int)))
 (∃ n_Ip208 : Int, ∃ n_Handler209 : Int, ∃ s_Stack210 : Sl, ∃ s_Back211 : Sl, ∃ s_Mem212 : Sl, ∃ t_Out213 : ByteArray, ∃ t_In214 : ByteArray, ∃ n_Read215 : Int, ∃ n_Status216 : Int, ∃ n_Code217 : Int, w204.cell? ⟨b11, 0, none⟩ = some (.int .i64 n_Ip208) ∧ w204.cell? ⟨b11, 1, none⟩ = some (.int .i64 n_Handler209) ∧ w204.cell? ⟨b11, 2, none⟩ = some (s_Stack210.val) ∧ w204.cell? ⟨b11, 3, none⟩ = some (s_Back211.val) ∧ w204.cell? ⟨b11, 4, none⟩ = some (s_Mem212.val) ∧ w204.cell? ⟨b11, 5, none⟩ = some (.string t_Out213) ∧ w204.cell? ⟨b11, 6, none⟩ = some (.string t_In214) ∧ w204.cell? ⟨b11, 7, none⟩ = some (.int .i64 n_Read215) ∧ w204.cell? ⟨b11, 8, none⟩ = some (.int .i64 n_Status216) ∧ w204.cell? ⟨b11, 9, none⟩ = some (.int .i64 n_Code217) ∧
 Calls Tryz.prog fn_hollowayref9_Fault #[.agg #[.int .i64 n_Ip208, .int .i64 n_Handler209, s_Stack210.val, s_Back211.val, s_Mem212.val, .string t_Out213, .string t_In214, .int .i64 n_Read215, .int .i64 n_Status216, .int .i64 n_Code217], .int .i64 (-9 : Int)] w204 fun e218 w219 => ∃ n_Ip220 : Int, ∃ n_Handler221 : Int, ∃ s_Stack222 : Sl, ∃ s_Back223 : Sl, ∃ s_Mem224 : Sl, ∃ t_Out225 : ByteArray, ∃ t_In226 : ByteArray, ∃ n_Read227 : Int, ∃ n_Status228 : Int, ∃ n_Code229 : Int, e218 = .returned (.agg #[.int .i64 n_Ip220, .int .i64 n_Handler221, s_Stack222.val, s_Back223.val, s_Mem224.val, .string t_Out225, .string t_In226, .int .i64 n_Read227, .int .i64 n_Status228, .int .i64 n_Code229]) ∧
 wrOk w219 ⟨b13, 0, none⟩ 10 ∧ ∀ w230 : World, w230 = stW w219 ⟨b13, 0, none⟩ 0 [.int .i64 n_Ip220, .int .i64 n_Handler221, s_Stack222.val, s_Back223.val, s_Mem224.val, .string t_Out225, .string t_In226, .int .i64 n_Read227, .int .i64 n_Status228, .int .i64 n_Code229] →
 ∃ r_Ip231 : Int, ∃ r_Handler232 : Int, ∃ r_Stack233 : Sl, ∃ r_Back234 : Sl, ∃ r_Mem235 : Sl, ∃ r_Out236 : ByteArray, ∃ r_In237 : ByteArray, ∃ r_Read238 : Int, ∃ r_Status239 : Int, ∃ r_Code240 : Int, w230.cell? ⟨b13, 0, none⟩ = some (.int .i64 r_Ip231) ∧ w230.cell? ⟨b13, 1, none⟩ = some (.int .i64 r_Handler232) ∧ w230.cell? ⟨b13, 2, none⟩ = some (r_Stack233.val) ∧ w230.cell? ⟨b13, 3, none⟩ = some (r_Back234.val) ∧ w230.cell? ⟨b13, 4, none⟩ = some (r_Mem235.val) ∧ w230.cell? ⟨b13, 5, none⟩ = some (.string r_Out236) ∧ w230.cell? ⟨b13, 6, none⟩ = some (.string r_In237) ∧ w230.cell? ⟨b13, 7, none⟩ = some (.int .i64 r_Read238) ∧ w230.cell? ⟨b13, 8, none⟩ = some (.int .i64 r_Status239) ∧ w230.cell? ⟨b13, 9, none⟩ = some (.int .i64 r_Code240) ∧
 K (.agg #[.int .i64 r_Ip231, .int .i64 r_Handler232, r_Stack233.val, r_Back234.val, r_Mem235.val, .string r_Out236, .string r_In237, .int .i64 r_Read238, .int .i64 r_Status239, .int .i64 r_Code240]) w230)
 (∃ s241 : Sl, w204.cell? ⟨b59, 4, none⟩ = some (s241.val) ∧
 ∃ n242 : Int, w204.cell? ⟨b59, 0, none⟩ = some (.int .i64 n242) ∧
 ∃ a243 : Addr, s241.ptr = some a243 ∧ 0 ≤ (wr (n242 + (1 : Int))) ∧ (wr (n242 + (1 : Int))) < (s241.len : Int) ∧
 ∃ n244 : Int, w204.cell? (Addr.add a243 (Int.toNat (wr (n242 + (1 : Int))) * 1)) = some (.int .i64 n244) ∧
 J22 n244 w204))
 (J22 (0 : Int) w204))))) ∧
 ∃ n62 : Int, w61.cell? ⟨b59, 0, none⟩ = some (.int .i64 n62) ∧
 brB (decide (n62 < (0 : Int)))
 (J7 true w61)
 (∃ n63 : Int, w61.cell? ⟨b59, 0, none⟩ = some (.int .i64 n63) ∧
 ∃ s64 : Sl, w61.cell? ⟨b59, 4, none⟩ = some (s64.val) ∧
 J7 (decide (n63 ≥ (s64.len : Int))) w61))
def hollowayref9_Step_an : An := ⟨[], [(21, (8, .st 0 (.st 1 (.st 2 (.st 3 (.st 4 (.st 5 (.st 6 (.st 7 .done))))))), 0)), (61, (14, .st 0 (.st 1 (.st 2 (.st 3 (.st 4 (.st 5 (.st 6 (.st 7 (.st 8 (.st 9 (.st 10 (.st 11 (.st 12 (.ef 13 .done))))))))))))), 1)), (92, (11, .st 0 (.st 1 (.st 2 (.st 3 (.st 4 (.st 5 (.st 6 (.st 7 (.st 8 (.st 9 (.st 10 .done)))))))))), 0)), (114, (14, .st 0 (.st 1 (.st 2 (.st 3 (.st 4 (.st 5 (.st 6 (.st 7 (.st 8 (.st 9 (.st 10 (.st 11 (.st 12 (.st 13 .done))))))))))))), 0))], [(5, [(43, .bool)]), (58, [(228, .bool)]), (89, [(344, .bool)]), (118, [(24, .bool)]), (114, [(21, .int .i64)]), (131, [(25, .str)]), (140, [(26, .int .i64)]), (143, [(561, .bool)]), (128, [(499, .bool)]), (110, [(430, .bool)]), (88, [(332, .bool)]), (158, []), (40, []), (37, [(14, .int .i64)]), (35, [(13, .int .i64)]), (33, [(12, .int .i64)]), (20, [(5, .int .i64)])]⟩
theorem hollowayref9_Step_lift {was_Ip1 : Int} {was_Handler2 : Int} {was_Stack3 : Sl} {was_Back4 : Sl} {was_Mem5 : Sl} {was_Out6 : ByteArray} {was_In7 : ByteArray} {was_Read8 : Int} {was_Status9 : Int} {was_Code10 : Int} {w : World} {K : Value → World → Prop} (h : hollowayref9_Step_sh was_Ip1 was_Handler2 was_Stack3 was_Back4 was_Mem5 was_Out6 was_In7 was_Read8 was_Status9 was_Code10 w K) : Calls Tryz.prog fn_hollowayref9_Step #[.agg #[.int .i64 was_Ip1, .int .i64 was_Handler2, was_Stack3.val, was_Back4.val, was_Mem5.val, .string was_Out6, .string was_In7, .int .i64 was_Read8, .int .i64 was_Status9, .int .i64 was_Code10]] w fun e w' => ∃ v, e = .returned v ∧ K v w' :=
   lift_calls (A := hollowayref9_Step_an) (c := bodyOf Tryz.f25) (args := [.agg #[.int .i64 was_Ip1, .int .i64 was_Handler2, was_Stack3.val, was_Back4.val, was_Mem5.val, .string was_Out6, .string was_In7, .int .i64 was_Read8, .int .i64 was_Status9, .int .i64 was_Code10]]) orc orc_wide Tryz.func25 (by kernel_rfl) (by kernel_rfl) (Eq.mp (by kernel_rfl : hollowayref9_Step_sh was_Ip1 was_Handler2 was_Stack3 was_Back4 was_Mem5 was_Out6 was_In7 was_Read8 was_Status9 was_Code10 w K = wpc orc Tryz.f25.ntmps hollowayref9_Step_an (bodyOf Tryz.f25) (argl 0 [.agg #[.int .i64 was_Ip1, .int .i64 was_Handler2, was_Stack3.val, was_Back4.val, was_Mem5.val, .string was_Out6, .string was_In7, .int .i64 was_Read8, .int .i64 was_Status9, .int .i64 was_Code10]]) w (retQ orc Tryz.f25.results.toList K)) h)

-- holloway/hollowayref9.Run
def hollowayref9_Run_j1 (b12 : Nat) (I1 : Int → World → Prop) (fuel18 : Int) (μ1 : Int → World → Nat) (w16 : World) (b14 : Nat) (b22 : Bool) (w21 : World) (K : Value → World → Prop) : Prop :=
 brB b22
 (∃ n_Ip23 : Int, ∃ n_Handler24 : Int, ∃ s_Stack25 : Sl, ∃ s_Back26 : Sl, ∃ s_Mem27 : Sl, ∃ t_Out28 : ByteArray, ∃ t_In29 : ByteArray, ∃ n_Read30 : Int, ∃ n_Status31 : Int, ∃ n_Code32 : Int, w21.cell? ⟨b12, 0, none⟩ = some (.int .i64 n_Ip23) ∧ w21.cell? ⟨b12, 1, none⟩ = some (.int .i64 n_Handler24) ∧ w21.cell? ⟨b12, 2, none⟩ = some (s_Stack25.val) ∧ w21.cell? ⟨b12, 3, none⟩ = some (s_Back26.val) ∧ w21.cell? ⟨b12, 4, none⟩ = some (s_Mem27.val) ∧ w21.cell? ⟨b12, 5, none⟩ = some (.string t_Out28) ∧ w21.cell? ⟨b12, 6, none⟩ = some (.string t_In29) ∧ w21.cell? ⟨b12, 7, none⟩ = some (.int .i64 n_Read30) ∧ w21.cell? ⟨b12, 8, none⟩ = some (.int .i64 n_Status31) ∧ w21.cell? ⟨b12, 9, none⟩ = some (.int .i64 n_Code32) ∧
 Calls Tryz.prog fn_hollowayref9_Step #[.agg #[.int .i64 n_Ip23, .int .i64 n_Handler24, s_Stack25.val, s_Back26.val, s_Mem27.val, .string t_Out28, .string t_In29, .int .i64 n_Read30, .int .i64 n_Status31, .int .i64 n_Code32]] w21 fun e33 w34 => ∃ n_Ip35 : Int, ∃ n_Handler36 : Int, ∃ s_Stack37 : Sl, ∃ s_Back38 : Sl, ∃ s_Mem39 : Sl, ∃ t_Out40 : ByteArray, ∃ t_In41 : ByteArray, ∃ n_Read42 : Int, ∃ n_Status43 : Int, ∃ n_Code44 : Int, e33 = .returned (.agg #[.int .i64 n_Ip35, .int .i64 n_Handler36, s_Stack37.val, s_Back38.val, s_Mem39.val, .string t_Out40, .string t_In41, .int .i64 n_Read42, .int .i64 n_Status43, .int .i64 n_Code44]) ∧
 wrOk w34 ⟨b12, 0, none⟩ 10 ∧ ∀ w45 : World, w45 = stW w34 ⟨b12, 0, none⟩ 0 [.int .i64 n_Ip35, .int .i64 n_Handler36, s_Stack37.val, s_Back38.val, s_Mem39.val, .string t_Out40, .string t_In41, .int .i64 n_Read42, .int .i64 n_Status43, .int .i64 n_Code44] →
 I1 (wr (fuel18 - (1 : Int))) w45 ∧ μ1 (wr (fuel18 - (1 : Int))) w45 < μ1 fuel18 w16)
 (∃ n_Ip46 : Int, ∃ n_Handler47 : Int, ∃ s_Stack48 : Sl, ∃ s_Back49 : Sl, ∃ s_Mem50 : Sl, ∃ t_Out51 : ByteArray, ∃ t_In52 : ByteArray, ∃ n_Read53 : Int, ∃ n_Status54 : Int, ∃ n_Code55 : Int, w21.cell? ⟨b12, 0, none⟩ = some (.int .i64 n_Ip46) ∧ w21.cell? ⟨b12, 1, none⟩ = some (.int .i64 n_Handler47) ∧ w21.cell? ⟨b12, 2, none⟩ = some (s_Stack48.val) ∧ w21.cell? ⟨b12, 3, none⟩ = some (s_Back49.val) ∧ w21.cell? ⟨b12, 4, none⟩ = some (s_Mem50.val) ∧ w21.cell? ⟨b12, 5, none⟩ = some (.string t_Out51) ∧ w21.cell? ⟨b12, 6, none⟩ = some (.string t_In52) ∧ w21.cell? ⟨b12, 7, none⟩ = some (.int .i64 n_Read53) ∧ w21.cell? ⟨b12, 8, none⟩ = some (.int .i64 n_Status54) ∧ w21.cell? ⟨b12, 9, none⟩ = some (.int .i64 n_Code55) ∧
 wrOk w21 ⟨b14, 0, none⟩ 10 ∧ ∀ w56 : World, w56 = stW w21 ⟨b14, 0, none⟩ 0 [.int .i64 n_Ip46, .int .i64 n_Handler47, s_Stack48.val, s_Back49.val, s_Mem50.val, .string t_Out51, .string t_In52, .int .i64 n_Read53, .int .i64 n_Status54, .int .i64 n_Code55] →
 ∃ r_Ip57 : Int, ∃ r_Handler58 : Int, ∃ r_Stack59 : Sl, ∃ r_Back60 : Sl, ∃ r_Mem61 : Sl, ∃ r_Out62 : ByteArray, ∃ r_In63 : ByteArray, ∃ r_Read64 : Int, ∃ r_Status65 : Int, ∃ r_Code66 : Int, w56.cell? ⟨b14, 0, none⟩ = some (.int .i64 r_Ip57) ∧ w56.cell? ⟨b14, 1, none⟩ = some (.int .i64 r_Handler58) ∧ w56.cell? ⟨b14, 2, none⟩ = some (r_Stack59.val) ∧ w56.cell? ⟨b14, 3, none⟩ = some (r_Back60.val) ∧ w56.cell? ⟨b14, 4, none⟩ = some (r_Mem61.val) ∧ w56.cell? ⟨b14, 5, none⟩ = some (.string r_Out62) ∧ w56.cell? ⟨b14, 6, none⟩ = some (.string r_In63) ∧ w56.cell? ⟨b14, 7, none⟩ = some (.int .i64 r_Read64) ∧ w56.cell? ⟨b14, 8, none⟩ = some (.int .i64 r_Status65) ∧ w56.cell? ⟨b14, 9, none⟩ = some (.int .i64 r_Code66) ∧
 K (.tuple #[.agg #[.int .i64 r_Ip57, .int .i64 r_Handler58, r_Stack59.val, r_Back60.val, r_Mem61.val, .string r_Out62, .string r_In63, .int .i64 r_Read64, .int .i64 r_Status65, .int .i64 r_Code66], .int .i64 fuel18]) w56)
def hollowayref9_Run_sh (s__Ip1 : Int) (s__Handler2 : Int) (s__Stack3 : Sl) (s__Back4 : Sl) (s__Mem5 : Sl) (s__Out6 : ByteArray) (s__In7 : ByteArray) (s__Read8 : Int) (s__Status9 : Int) (s__Code10 : Int) (fuel11 : Int) (w : World) (K : Value → World → Prop) : Prop :=
 ∀ (b12 : Nat) (w13 : World), b12 = w.heap.size → w13 = World.alloc w (.cells #[.int .i64 s__Ip1, .int .i64 s__Handler2, s__Stack3.val, s__Back4.val, s__Mem5.val, .string s__Out6, .string s__In7, .int .i64 s__Read8, .int .i64 s__Status9, .int .i64 s__Code10] T_api_State) →
 ∀ (b14 : Nat) (w15 : World), b14 = w13.heap.size → w15 = World.alloc w13 (.cells #[.int .i64 (0 : Int), .int .i64 (0 : Int), .slice none 0 0, .slice none 0 0, .slice none 0 0, .string (bs []), .string (bs []), .int .i64 (0 : Int), .int .i64 (0 : Int), .int .i64 (0 : Int)] T_api_State) →
 ∃ (I1 : Int → World → Prop) (μ1 : Int → World → Nat), I1 fuel11 w15 ∧ ∀ (fuel18 : Int) (w16 : World), I1 fuel18 w16 →
 ∃ n17 : Int, w16.cell? ⟨b12, 8, none⟩ = some (.int .i64 n17) ∧
 brB (n17 == (0 : Int))
 (hollowayref9_Run_j1 b12 I1 fuel18 (μ1) w16 b14 (decide (fuel18 > (0 : Int))) w16 K)
 (hollowayref9_Run_j1 b12 I1 fuel18 (μ1) w16 b14 false w16 K)
def hollowayref9_Run_an : An := ⟨[(1, [(1, .int .i64)])], [], []⟩
theorem hollowayref9_Run_lift {s__Ip1 : Int} {s__Handler2 : Int} {s__Stack3 : Sl} {s__Back4 : Sl} {s__Mem5 : Sl} {s__Out6 : ByteArray} {s__In7 : ByteArray} {s__Read8 : Int} {s__Status9 : Int} {s__Code10 : Int} {fuel11 : Int} {w : World} {K : Value → World → Prop} (h : hollowayref9_Run_sh s__Ip1 s__Handler2 s__Stack3 s__Back4 s__Mem5 s__Out6 s__In7 s__Read8 s__Status9 s__Code10 fuel11 w K) : Calls Tryz.prog fn_hollowayref9_Run #[.agg #[.int .i64 s__Ip1, .int .i64 s__Handler2, s__Stack3.val, s__Back4.val, s__Mem5.val, .string s__Out6, .string s__In7, .int .i64 s__Read8, .int .i64 s__Status9, .int .i64 s__Code10], .int .i64 fuel11] w fun e w' => ∃ v, e = .returned v ∧ K v w' :=
   lift_calls (A := hollowayref9_Run_an) (c := bodyOf Tryz.f27) (args := [.agg #[.int .i64 s__Ip1, .int .i64 s__Handler2, s__Stack3.val, s__Back4.val, s__Mem5.val, .string s__Out6, .string s__In7, .int .i64 s__Read8, .int .i64 s__Status9, .int .i64 s__Code10], .int .i64 fuel11]) orc orc_wide Tryz.func27 (by kernel_rfl) (by kernel_rfl) (Eq.mp (by kernel_rfl : hollowayref9_Run_sh s__Ip1 s__Handler2 s__Stack3 s__Back4 s__Mem5 s__Out6 s__In7 s__Read8 s__Status9 s__Code10 fuel11 w K = wpc orc Tryz.f27.ntmps hollowayref9_Run_an (bodyOf Tryz.f27) (argl 0 [.agg #[.int .i64 s__Ip1, .int .i64 s__Handler2, s__Stack3.val, s__Back4.val, s__Mem5.val, .string s__Out6, .string s__In7, .int .i64 s__Read8, .int .i64 s__Status9, .int .i64 s__Code10], .int .i64 fuel11]) w (retQ orc Tryz.f27.results.toList K)) h)

-- holloway/hollowayref9.Copy
def hollowayref9_Copy_sh (s__Ip1 : Int) (s__Handler2 : Int) (s__Stack3 : Sl) (s__Back4 : Sl) (s__Mem5 : Sl) (s__Out6 : ByteArray) (s__In7 : ByteArray) (s__Read8 : Int) (s__Status9 : Int) (s__Code10 : Int) (w : World) (K : Value → World → Prop) : Prop :=
 ∀ (b11 : Nat) (w12 : World), b11 = w.heap.size → w12 = World.alloc w (.cells #[.int .i64 s__Ip1, .int .i64 s__Handler2, s__Stack3.val, s__Back4.val, s__Mem5.val, .string s__Out6, .string s__In7, .int .i64 s__Read8, .int .i64 s__Status9, .int .i64 s__Code10] T_api_State) →
 ∀ (b13 : Nat) (w14 : World), b13 = w12.heap.size → w14 = World.alloc w12 (.cells #[.int .i64 (0 : Int), .int .i64 (0 : Int), .slice none 0 0, .slice none 0 0, .slice none 0 0, .string (bs []), .string (bs []), .int .i64 (0 : Int), .int .i64 (0 : Int), .int .i64 (0 : Int)] T_api_State) →
 ∃ s15 : Sl, w14.cell? ⟨b11, 2, none⟩ = some (s15.val) ∧
 ∃ s16 : Sl, ∃ w17 : World, (Builtin.append_ #[T_sl_int, T_sl_int] T_sl_int #[.slice none 0 0, s15.val]).run Tryz.prog w14 = .ok (s16.val) w17 ∧
 wrOk w17 ⟨b11, 2, none⟩ 1 ∧ ∀ w18 : World, w18 = stW w17 ⟨b11, 2, none⟩ 0 [s16.val] →
 ∃ s19 : Sl, w18.cell? ⟨b11, 3, none⟩ = some (s19.val) ∧
 ∃ s20 : Sl, ∃ w21 : World, (Builtin.append_ #[T_sl_int, T_sl_int] T_sl_int #[.slice none 0 0, s19.val]).run Tryz.prog w18 = .ok (s20.val) w21 ∧
 wrOk w21 ⟨b11, 3, none⟩ 1 ∧ ∀ w22 : World, w22 = stW w21 ⟨b11, 3, none⟩ 0 [s20.val] →
 ∃ s23 : Sl, w22.cell? ⟨b11, 4, none⟩ = some (s23.val) ∧
 ∃ s24 : Sl, ∃ w25 : World, (Builtin.append_ #[T_sl_int, T_sl_int] T_sl_int #[.slice none 0 0, s23.val]).run Tryz.prog w22 = .ok (s24.val) w25 ∧
 wrOk w25 ⟨b11, 4, none⟩ 1 ∧ ∀ w26 : World, w26 = stW w25 ⟨b11, 4, none⟩ 0 [s24.val] →
 ∃ n_Ip27 : Int, ∃ n_Handler28 : Int, ∃ s_Stack29 : Sl, ∃ s_Back30 : Sl, ∃ s_Mem31 : Sl, ∃ t_Out32 : ByteArray, ∃ t_In33 : ByteArray, ∃ n_Read34 : Int, ∃ n_Status35 : Int, ∃ n_Code36 : Int, w26.cell? ⟨b11, 0, none⟩ = some (.int .i64 n_Ip27) ∧ w26.cell? ⟨b11, 1, none⟩ = some (.int .i64 n_Handler28) ∧ w26.cell? ⟨b11, 2, none⟩ = some (s_Stack29.val) ∧ w26.cell? ⟨b11, 3, none⟩ = some (s_Back30.val) ∧ w26.cell? ⟨b11, 4, none⟩ = some (s_Mem31.val) ∧ w26.cell? ⟨b11, 5, none⟩ = some (.string t_Out32) ∧ w26.cell? ⟨b11, 6, none⟩ = some (.string t_In33) ∧ w26.cell? ⟨b11, 7, none⟩ = some (.int .i64 n_Read34) ∧ w26.cell? ⟨b11, 8, none⟩ = some (.int .i64 n_Status35) ∧ w26.cell? ⟨b11, 9, none⟩ = some (.int .i64 n_Code36) ∧
 wrOk w26 ⟨b13, 0, none⟩ 10 ∧ ∀ w37 : World, w37 = stW w26 ⟨b13, 0, none⟩ 0 [.int .i64 n_Ip27, .int .i64 n_Handler28, s_Stack29.val, s_Back30.val, s_Mem31.val, .string t_Out32, .string t_In33, .int .i64 n_Read34, .int .i64 n_Status35, .int .i64 n_Code36] →
 ∃ r_Ip38 : Int, ∃ r_Handler39 : Int, ∃ r_Stack40 : Sl, ∃ r_Back41 : Sl, ∃ r_Mem42 : Sl, ∃ r_Out43 : ByteArray, ∃ r_In44 : ByteArray, ∃ r_Read45 : Int, ∃ r_Status46 : Int, ∃ r_Code47 : Int, w37.cell? ⟨b13, 0, none⟩ = some (.int .i64 r_Ip38) ∧ w37.cell? ⟨b13, 1, none⟩ = some (.int .i64 r_Handler39) ∧ w37.cell? ⟨b13, 2, none⟩ = some (r_Stack40.val) ∧ w37.cell? ⟨b13, 3, none⟩ = some (r_Back41.val) ∧ w37.cell? ⟨b13, 4, none⟩ = some (r_Mem42.val) ∧ w37.cell? ⟨b13, 5, none⟩ = some (.string r_Out43) ∧ w37.cell? ⟨b13, 6, none⟩ = some (.string r_In44) ∧ w37.cell? ⟨b13, 7, none⟩ = some (.int .i64 r_Read45) ∧ w37.cell? ⟨b13, 8, none⟩ = some (.int .i64 r_Status46) ∧ w37.cell? ⟨b13, 9, none⟩ = some (.int .i64 r_Code47) ∧
 K (.agg #[.int .i64 r_Ip38, .int .i64 r_Handler39, r_Stack40.val, r_Back41.val, r_Mem42.val, .string r_Out43, .string r_In44, .int .i64 r_Read45, .int .i64 r_Status46, .int .i64 r_Code47]) w37
def hollowayref9_Copy_an : An := ⟨[], [], []⟩
theorem hollowayref9_Copy_lift {s__Ip1 : Int} {s__Handler2 : Int} {s__Stack3 : Sl} {s__Back4 : Sl} {s__Mem5 : Sl} {s__Out6 : ByteArray} {s__In7 : ByteArray} {s__Read8 : Int} {s__Status9 : Int} {s__Code10 : Int} {w : World} {K : Value → World → Prop} (h : hollowayref9_Copy_sh s__Ip1 s__Handler2 s__Stack3 s__Back4 s__Mem5 s__Out6 s__In7 s__Read8 s__Status9 s__Code10 w K) : Calls Tryz.prog fn_hollowayref9_Copy #[.agg #[.int .i64 s__Ip1, .int .i64 s__Handler2, s__Stack3.val, s__Back4.val, s__Mem5.val, .string s__Out6, .string s__In7, .int .i64 s__Read8, .int .i64 s__Status9, .int .i64 s__Code10]] w fun e w' => ∃ v, e = .returned v ∧ K v w' :=
   lift_calls (A := hollowayref9_Copy_an) (c := bodyOf Tryz.f31) (args := [.agg #[.int .i64 s__Ip1, .int .i64 s__Handler2, s__Stack3.val, s__Back4.val, s__Mem5.val, .string s__Out6, .string s__In7, .int .i64 s__Read8, .int .i64 s__Status9, .int .i64 s__Code10]]) orc orc_wide Tryz.func31 (by kernel_rfl) (by kernel_rfl) (Eq.mp (by kernel_rfl : hollowayref9_Copy_sh s__Ip1 s__Handler2 s__Stack3 s__Back4 s__Mem5 s__Out6 s__In7 s__Read8 s__Status9 s__Code10 w K = wpc orc Tryz.f31.ntmps hollowayref9_Copy_an (bodyOf Tryz.f31) (argl 0 [.agg #[.int .i64 s__Ip1, .int .i64 s__Handler2, s__Stack3.val, s__Back4.val, s__Mem5.val, .string s__Out6, .string s__In7, .int .i64 s__Read8, .int .i64 s__Status9, .int .i64 s__Code10]]) w (retQ orc Tryz.f31.results.toList K)) h)

-- holloway/hollowayref9.Record
-- holloway/hollowayref9.Cells
-- holloway/hollowayref9.faults
end Go.Proofs.YtkjpmkopnkkbmaaGreatDoor

/- Functions of Hollowaylaw9, read without their frames; that each is enough. Printed by a program of mine (wip/lift/gen.py). -/
set_option maxRecDepth 100000
namespace Go.Proofs.YtkjpmkopnkkbmaaGreatDoor
open Go.RowKit

-- holloway/hollowaylaw9.InnerBegins
-- holloway/hollowaylaw9.InnerSteps
-- holloway/hollowaylaw9.InnerSteps: not lifted: load at ('optr', 'x79')

-- holloway/hollowaylaw9.alive
-- holloway/hollowaylaw9.Light
def hollowaylaw9_Light_sh (s__Ip1 : Int) (s__Handler2 : Int) (s__Stack3 : Sl) (s__Back4 : Sl) (s__Mem5 : Sl) (s__Out6 : ByteArray) (s__In7 : ByteArray) (s__Read8 : Int) (s__Status9 : Int) (s__Code10 : Int) (w : World) (K : Value → World → Prop) : Prop :=
 ∀ (b11 : Nat) (w12 : World), b11 = w.heap.size → w12 = World.alloc w (.cells #[.int .i64 s__Ip1, .int .i64 s__Handler2, s__Stack3.val, s__Back4.val, s__Mem5.val, .string s__Out6, .string s__In7, .int .i64 s__Read8, .int .i64 s__Status9, .int .i64 s__Code10] T_api_State) →
 ∃ s13 : Sl, w12.cell? ⟨b11, 4, none⟩ = some (s13.val) ∧
 brB (decide ((s13.len : Int) ≤ (700 : Int)))
 (∃ t14 : ByteArray, w12.cell? ⟨b11, 6, none⟩ = some (.string t14) ∧
 brB (decide ((t14.size : Int) ≤ (300 : Int)))
 (∃ n_Ip15 : Int, ∃ n_Handler16 : Int, ∃ s_Stack17 : Sl, ∃ s_Back18 : Sl, ∃ s_Mem19 : Sl, ∃ t_Out20 : ByteArray, ∃ t_In21 : ByteArray, ∃ n_Read22 : Int, ∃ n_Status23 : Int, ∃ n_Code24 : Int, w12.cell? ⟨b11, 0, none⟩ = some (.int .i64 n_Ip15) ∧ w12.cell? ⟨b11, 1, none⟩ = some (.int .i64 n_Handler16) ∧ w12.cell? ⟨b11, 2, none⟩ = some (s_Stack17.val) ∧ w12.cell? ⟨b11, 3, none⟩ = some (s_Back18.val) ∧ w12.cell? ⟨b11, 4, none⟩ = some (s_Mem19.val) ∧ w12.cell? ⟨b11, 5, none⟩ = some (.string t_Out20) ∧ w12.cell? ⟨b11, 6, none⟩ = some (.string t_In21) ∧ w12.cell? ⟨b11, 7, none⟩ = some (.int .i64 n_Read22) ∧ w12.cell? ⟨b11, 8, none⟩ = some (.int .i64 n_Status23) ∧ w12.cell? ⟨b11, 9, none⟩ = some (.int .i64 n_Code24) ∧
 Calls Tryz.prog fn_hollowayref9_Right #[.agg #[.int .i64 n_Ip15, .int .i64 n_Handler16, s_Stack17.val, s_Back18.val, s_Mem19.val, .string t_Out20, .string t_In21, .int .i64 n_Read22, .int .i64 n_Status23, .int .i64 n_Code24]] w12 fun e25 w26 => ∃ b27 : Bool, e25 = .returned (.bool b27) ∧
 K (.bool b27) w26)
 (K (.bool false) w12))
 (K (.bool false) w12)
def hollowaylaw9_Light_an : An := ⟨[], [], []⟩
theorem hollowaylaw9_Light_lift {s__Ip1 : Int} {s__Handler2 : Int} {s__Stack3 : Sl} {s__Back4 : Sl} {s__Mem5 : Sl} {s__Out6 : ByteArray} {s__In7 : ByteArray} {s__Read8 : Int} {s__Status9 : Int} {s__Code10 : Int} {w : World} {K : Value → World → Prop} (h : hollowaylaw9_Light_sh s__Ip1 s__Handler2 s__Stack3 s__Back4 s__Mem5 s__Out6 s__In7 s__Read8 s__Status9 s__Code10 w K) : Calls Tryz.prog fn_hollowaylaw9_Light #[.agg #[.int .i64 s__Ip1, .int .i64 s__Handler2, s__Stack3.val, s__Back4.val, s__Mem5.val, .string s__Out6, .string s__In7, .int .i64 s__Read8, .int .i64 s__Status9, .int .i64 s__Code10]] w fun e w' => ∃ v, e = .returned v ∧ K v w' :=
   lift_calls (A := hollowaylaw9_Light_an) (c := bodyOf Tryz.f23) (args := [.agg #[.int .i64 s__Ip1, .int .i64 s__Handler2, s__Stack3.val, s__Back4.val, s__Mem5.val, .string s__Out6, .string s__In7, .int .i64 s__Read8, .int .i64 s__Status9, .int .i64 s__Code10]]) orc orc_wide Tryz.func23 (by kernel_rfl) (by kernel_rfl) (Eq.mp (by kernel_rfl : hollowaylaw9_Light_sh s__Ip1 s__Handler2 s__Stack3 s__Back4 s__Mem5 s__Out6 s__In7 s__Read8 s__Status9 s__Code10 w K = wpc orc Tryz.f23.ntmps hollowaylaw9_Light_an (bodyOf Tryz.f23) (argl 0 [.agg #[.int .i64 s__Ip1, .int .i64 s__Handler2, s__Stack3.val, s__Back4.val, s__Mem5.val, .string s__Out6, .string s__In7, .int .i64 s__Read8, .int .i64 s__Status9, .int .i64 s__Code10]]) w (retQ orc Tryz.f23.results.toList K)) h)

end Go.Proofs.YtkjpmkopnkkbmaaGreatDoor

/- Functions of Hollowayref1, read without their frames; that each is enough. Printed by a program of mine (wip/lift/gen.py). -/
set_option maxRecDepth 100000
namespace Go.Proofs.YtkjpmkopnkkbmaaGreatDoor
open Go.RowKit

-- holloway/hollowayref1.Op
def hollowayref1_Op_sh (op1 : Int) (w : World) (K : Value → World → Prop) : Prop :=
 brB (decide (op1 ≥ (0 : Int)))
 (K (.bool (decide (op1 < (48 : Int)))) w)
 (K (.bool false) w)
def hollowayref1_Op_an : An := ⟨[], [], []⟩
theorem hollowayref1_Op_lift {op1 : Int} {w : World} {K : Value → World → Prop} (h : hollowayref1_Op_sh op1 w K) : Calls Tryz.prog fn_hollowayref1_Op #[.int .i64 op1] w fun e w' => ∃ v, e = .returned v ∧ K v w' :=
   lift_calls (A := hollowayref1_Op_an) (c := bodyOf Tryz.f70) (args := [.int .i64 op1]) orc orc_wide Tryz.func70 (by kernel_rfl) (by kernel_rfl) (Eq.mp (by kernel_rfl : hollowayref1_Op_sh op1 w K = wpc orc Tryz.f70.ntmps hollowayref1_Op_an (bodyOf Tryz.f70) (argl 0 [.int .i64 op1]) w (retQ orc Tryz.f70.results.toList K)) h)

-- holloway/hollowayref1.Arg
def hollowayref1_Arg_sh (op1 : Int) (w : World) (K : Value → World → Prop) : Prop :=
 brB (op1 == (2 : Int))
 (K (.bool true) w)
 (brB (op1 == (3 : Int))
 (K (.bool true) w)
 (brB (op1 == (4 : Int))
 (K (.bool true) w)
 (brB (op1 == (37 : Int))
 (K (.bool true) w)
 (K (.bool (op1 == (38 : Int))) w))))
def hollowayref1_Arg_an : An := ⟨[], [], []⟩
theorem hollowayref1_Arg_lift {op1 : Int} {w : World} {K : Value → World → Prop} (h : hollowayref1_Arg_sh op1 w K) : Calls Tryz.prog fn_hollowayref1_Arg #[.int .i64 op1] w fun e w' => ∃ v, e = .returned v ∧ K v w' :=
   lift_calls (A := hollowayref1_Arg_an) (c := bodyOf Tryz.f71) (args := [.int .i64 op1]) orc orc_wide Tryz.func71 (by kernel_rfl) (by kernel_rfl) (Eq.mp (by kernel_rfl : hollowayref1_Arg_sh op1 w K = wpc orc Tryz.f71.ntmps hollowayref1_Arg_an (bodyOf Tryz.f71) (argl 0 [.int .i64 op1]) w (retQ orc Tryz.f71.results.toList K)) h)

-- holloway/hollowayref1.Moves
def hollowayref1_Moves_sh (op1 : Int) (w : World) (K : Value → World → Prop) : Prop :=
 Calls Tryz.prog fn_hollowayref1_IsTwo #[.int .i64 op1] w fun e2 w3 => ∃ b4 : Bool, e2 = .returned (.bool b4) ∧
 brB b4
 (K (.tuple #[.int .i64 (2 : Int), .int .i64 (0 : Int), .int .i64 (1 : Int), .int .i64 (0 : Int)]) w3)
 (Calls Tryz.prog fn_hollowayref1_IsOne #[.int .i64 op1] w3 fun e5 w6 => ∃ b7 : Bool, e5 = .returned (.bool b7) ∧
 brB b7
 (K (.tuple #[.int .i64 (1 : Int), .int .i64 (0 : Int), .int .i64 (1 : Int), .int .i64 (0 : Int)]) w6)
 (brB (op1 == (5 : Int))
 (K (.tuple #[.int .i64 (0 : Int), .int .i64 (1 : Int), .int .i64 (0 : Int), .int .i64 (0 : Int)]) w6)
 (∃ J12 : Bool → World → Prop, (∀ (b9 : Bool) (w8 : World), J12 b9 w8 →
 brB b9
 (K (.tuple #[.int .i64 (0 : Int), .int .i64 (0 : Int), .int .i64 (1 : Int), .int .i64 (0 : Int)]) w8)
 (∃ J15 : Bool → World → Prop, (∀ (b11 : Bool) (w10 : World), J15 b11 w10 →
 brB b11
 (K (.tuple #[.int .i64 (1 : Int), .int .i64 (0 : Int), .int .i64 (0 : Int), .int .i64 (0 : Int)]) w10)
 (brB (op1 == (6 : Int))
 (K (.tuple #[.int .i64 (1 : Int), .int .i64 (0 : Int), .int .i64 (2 : Int), .int .i64 (0 : Int)]) w10)
 (brB (op1 == (8 : Int))
 (K (.tuple #[.int .i64 (2 : Int), .int .i64 (0 : Int), .int .i64 (2 : Int), .int .i64 (0 : Int)]) w10)
 (brB (op1 == (9 : Int))
 (K (.tuple #[.int .i64 (2 : Int), .int .i64 (0 : Int), .int .i64 (3 : Int), .int .i64 (0 : Int)]) w10)
 (brB (op1 == (10 : Int))
 (K (.tuple #[.int .i64 (3 : Int), .int .i64 (0 : Int), .int .i64 (3 : Int), .int .i64 (0 : Int)]) w10)
 (brB (op1 == (30 : Int))
 (K (.tuple #[.int .i64 (1 : Int), .int .i64 (0 : Int), .int .i64 (1 : Int), .int .i64 (0 : Int)]) w10)
 (∃ J31 : Bool → World → Prop, (∀ (b13 : Bool) (w12 : World), J31 b13 w12 →
 brB b13
 (K (.tuple #[.int .i64 (2 : Int), .int .i64 (0 : Int), .int .i64 (0 : Int), .int .i64 (0 : Int)]) w12)
 (∃ J34 : Bool → World → Prop, (∀ (b15 : Bool) (w14 : World), J34 b15 w14 →
 brB b15
 (K (.tuple #[.int .i64 (1 : Int), .int .i64 (0 : Int), .int .i64 (0 : Int), .int .i64 (1 : Int)]) w14)
 (brB (op1 == (34 : Int))
 (K (.tuple #[.int .i64 (0 : Int), .int .i64 (1 : Int), .int .i64 (1 : Int), .int .i64 (0 : Int)]) w14)
 (brB (op1 == (35 : Int))
 (K (.tuple #[.int .i64 (0 : Int), .int .i64 (1 : Int), .int .i64 (1 : Int), .int .i64 (1 : Int)]) w14)
 (brB (op1 == (36 : Int))
 (K (.tuple #[.int .i64 (2 : Int), .int .i64 (0 : Int), .int .i64 (0 : Int), .int .i64 (2 : Int)]) w14)
 (brB (op1 == (37 : Int))
 (K (.tuple #[.int .i64 (0 : Int), .int .i64 (2 : Int), .int .i64 (0 : Int), .int .i64 (2 : Int)]) w14)
 (brB (op1 == (38 : Int))
 (K (.tuple #[.int .i64 (1 : Int), .int .i64 (2 : Int), .int .i64 (0 : Int), .int .i64 (2 : Int)]) w14)
 (brB (op1 == (39 : Int))
 (K (.tuple #[.int .i64 (0 : Int), .int .i64 (3 : Int), .int .i64 (1 : Int), .int .i64 (3 : Int)]) w14)
 (brB (op1 == (40 : Int))
 (K (.tuple #[.int .i64 (0 : Int), .int .i64 (2 : Int), .int .i64 (0 : Int), .int .i64 (0 : Int)]) w14)
 (brB (op1 == (46 : Int))
 (K (.tuple #[.int .i64 (1 : Int), .int .i64 (0 : Int), .int .i64 (0 : Int), .int .i64 (4 : Int)]) w14)
 (K (.tuple #[.int .i64 (0 : Int), .int .i64 (0 : Int), .int .i64 (0 : Int), .int .i64 (0 : Int)]) w14)))))))))) ∧
 brB (op1 == (33 : Int))
 (J34 (op1 == (33 : Int)) w12)
 (J34 (op1 == (44 : Int)) w12))) ∧
 brB (op1 == (31 : Int))
 (J31 (op1 == (31 : Int)) w10)
 (J31 (op1 == (32 : Int)) w10)))))))) ∧
 brB (op1 == (4 : Int))
 (J15 (op1 == (4 : Int)) w8)
 (brB (op1 == (7 : Int))
 (J15 (op1 == (7 : Int)) w8)
 (brB (op1 == (41 : Int))
 (J15 (op1 == (41 : Int)) w8)
 (brB (op1 == (42 : Int))
 (J15 (op1 == (42 : Int)) w8)
 (J15 (op1 == (45 : Int)) w8)))))) ∧
 brB (op1 == (2 : Int))
 (J12 (op1 == (2 : Int)) w6)
 (J12 (op1 == (43 : Int)) w6))))
def hollowayref1_Moves_an : An := ⟨[], [], [(32, [(35, .bool)]), (29, [(32, .bool)]), (16, [(16, .bool)]), (10, [(13, .bool)])]⟩
theorem hollowayref1_Moves_lift {op1 : Int} {w : World} {K : Value → World → Prop} (h : hollowayref1_Moves_sh op1 w K) : Calls Tryz.prog fn_hollowayref1_Moves #[.int .i64 op1] w fun e w' => ∃ v, e = .returned v ∧ K v w' :=
   lift_calls (A := hollowayref1_Moves_an) (c := bodyOf Tryz.f72) (args := [.int .i64 op1]) orc orc_wide Tryz.func72 (by kernel_rfl) (by kernel_rfl) (Eq.mp (by kernel_rfl : hollowayref1_Moves_sh op1 w K = wpc orc Tryz.f72.ntmps hollowayref1_Moves_an (bodyOf Tryz.f72) (argl 0 [.int .i64 op1]) w (retQ orc Tryz.f72.results.toList K)) h)

-- holloway/hollowayref1.IsTwo
def hollowayref1_IsTwo_sh (op1 : Int) (w : World) (K : Value → World → Prop) : Prop :=
 brB (decide (op1 ≥ (11 : Int)))
 (brB (decide (op1 ≤ (15 : Int)))
 (K (.bool true) w)
 (brB (decide (op1 ≥ (17 : Int)))
 (brB (decide (op1 ≤ (19 : Int)))
 (K (.bool true) w)
 (brB (decide (op1 ≥ (21 : Int)))
 (brB (decide (op1 ≤ (25 : Int)))
 (K (.bool true) w)
 (brB (op1 == (28 : Int))
 (K (.bool true) w)
 (K (.bool (op1 == (29 : Int))) w)))
 (brB (op1 == (28 : Int))
 (K (.bool true) w)
 (K (.bool (op1 == (29 : Int))) w))))
 (brB (decide (op1 ≥ (21 : Int)))
 (brB (decide (op1 ≤ (25 : Int)))
 (K (.bool true) w)
 (brB (op1 == (28 : Int))
 (K (.bool true) w)
 (K (.bool (op1 == (29 : Int))) w)))
 (brB (op1 == (28 : Int))
 (K (.bool true) w)
 (K (.bool (op1 == (29 : Int))) w)))))
 (brB (decide (op1 ≥ (17 : Int)))
 (brB (decide (op1 ≤ (19 : Int)))
 (K (.bool true) w)
 (brB (decide (op1 ≥ (21 : Int)))
 (brB (decide (op1 ≤ (25 : Int)))
 (K (.bool true) w)
 (brB (op1 == (28 : Int))
 (K (.bool true) w)
 (K (.bool (op1 == (29 : Int))) w)))
 (brB (op1 == (28 : Int))
 (K (.bool true) w)
 (K (.bool (op1 == (29 : Int))) w))))
 (brB (decide (op1 ≥ (21 : Int)))
 (brB (decide (op1 ≤ (25 : Int)))
 (K (.bool true) w)
 (brB (op1 == (28 : Int))
 (K (.bool true) w)
 (K (.bool (op1 == (29 : Int))) w)))
 (brB (op1 == (28 : Int))
 (K (.bool true) w)
 (K (.bool (op1 == (29 : Int))) w))))
def hollowayref1_IsTwo_an : An := ⟨[], [], []⟩
theorem hollowayref1_IsTwo_lift {op1 : Int} {w : World} {K : Value → World → Prop} (h : hollowayref1_IsTwo_sh op1 w K) : Calls Tryz.prog fn_hollowayref1_IsTwo #[.int .i64 op1] w fun e w' => ∃ v, e = .returned v ∧ K v w' :=
   lift_calls (A := hollowayref1_IsTwo_an) (c := bodyOf Tryz.f73) (args := [.int .i64 op1]) orc orc_wide Tryz.func73 (by kernel_rfl) (by kernel_rfl) (Eq.mp (by kernel_rfl : hollowayref1_IsTwo_sh op1 w K = wpc orc Tryz.f73.ntmps hollowayref1_IsTwo_an (bodyOf Tryz.f73) (argl 0 [.int .i64 op1]) w (retQ orc Tryz.f73.results.toList K)) h)

-- holloway/hollowayref1.Two
def hollowayref1_Two_sh (op1 : Int) (a_2 : Int) (b_3 : Int) (w : World) (K : Value → World → Prop) : Prop :=
 Calls Tryz.prog fn_hollowayref1_IsTwo #[.int .i64 op1] w fun e4 w5 => ∃ b6 : Bool, e4 = .returned (.bool b6) ∧
 brB (!b6)
 (K (.tuple #[.int .i64 (0 : Int), .bool false]) w5)
 (brB (op1 == (11 : Int))
 (K (.tuple #[.int .i64 (wr (a_2 + b_3)), .bool true]) w5)
 (brB (op1 == (12 : Int))
 (K (.tuple #[.int .i64 (wr (a_2 - b_3)), .bool true]) w5)
 (brB (op1 == (13 : Int))
 (K (.tuple #[.int .i64 (wr (a_2 * b_3)), .bool true]) w5)
 (∃ J13 : Bool → World → Prop, (∀ (b8 : Bool) (w7 : World), J13 b8 w7 →
 brB b8
 (brB (b_3 == (0 : Int))
 (K (.tuple #[.int .i64 (0 : Int), .bool false]) w7)
 (Calls Tryz.prog fn_hollowayref1_Floor #[.int .i64 a_2, .int .i64 b_3] w7 fun e9 w10 => ∃ n11 : Int, ∃ n12 : Int, e9 = .returned (.tuple #[.int .i64 n11, .int .i64 n12]) ∧
 brB (op1 == (14 : Int))
 (K (.tuple #[.int .i64 n11, .bool true]) w10)
 (K (.tuple #[.int .i64 n12, .bool true]) w10)))
 (brB (op1 == (17 : Int))
 (K (.tuple #[.int .i64 (iand .i64 a_2 b_3), .bool true]) w7)
 (brB (op1 == (18 : Int))
 (K (.tuple #[.int .i64 (ior .i64 a_2 b_3), .bool true]) w7)
 (brB (op1 == (19 : Int))
 (K (.tuple #[.int .i64 (ixor .i64 a_2 b_3), .bool true]) w7)
 (∃ J29 : Bool → World → Prop, (∀ (b14 : Bool) (w13 : World), J29 b14 w13 →
 brB b14
 (∃ J32 : Bool → World → Prop, (∀ (b16 : Bool) (w15 : World), J32 b16 w15 →
 brB b16
 (K (.tuple #[.int .i64 (0 : Int), .bool true]) w15)
 (∃ (I1 : Int → Int → World → Prop) (μ1 : Int → Int → World → Nat), I1 (IntKind.wrap .u64 a_2) (0 : Int) w15 ∧ ∀ (x19 : Int) (k18 : Int) (w17 : World), I1 x19 k18 w17 →
 brB (decide (k18 < b_3))
 (∃ J39 : Int → World → Prop, (∀ (x30 : Int) (w20 : World), J39 x30 w20 →
 I1 x30 (wr (k18 + (1 : Int))) w20 ∧ μ1 x30 (wr (k18 + (1 : Int))) w20 < μ1 x19 k18 w17) ∧
 brB (op1 == (21 : Int))
 (J39 (IntKind.wrap .u64 (x19 * (2 : Int))) w17)
 ((2 : Int) ≠ 0 ∧ J39 (IntKind.wrap .u64 (Int.tdiv x19 (2 : Int))) w17))
 (K (.tuple #[.int .i64 (wr x19), .bool true]) w17))) ∧
 brB (decide (b_3 < (0 : Int)))
 (J32 true w13)
 (J32 (decide (b_3 > (63 : Int))) w13))
 (brB (op1 == (23 : Int))
 (Calls Tryz.prog fn_hollowayref1_Flag #[.bool (a_2 == b_3)] w13 fun e21 w22 => ∃ n23 : Int, e21 = .returned (.int .i64 n23) ∧
 K (.tuple #[.int .i64 n23, .bool true]) w22)
 (brB (op1 == (24 : Int))
 (Calls Tryz.prog fn_hollowayref1_Flag #[.bool (decide (a_2 < b_3))] w13 fun e24 w25 => ∃ n26 : Int, e24 = .returned (.int .i64 n26) ∧
 K (.tuple #[.int .i64 n26, .bool true]) w25)
 (brB (op1 == (25 : Int))
 (Calls Tryz.prog fn_hollowayref1_Flag #[.bool (decide ((IntKind.wrap .u64 a_2) < (IntKind.wrap .u64 b_3)))] w13 fun e27 w28 => ∃ n29 : Int, e27 = .returned (.int .i64 n29) ∧
 K (.tuple #[.int .i64 n29, .bool true]) w28)
 (brB (op1 == (28 : Int))
 (K (.tuple #[.int .i64 (imin a_2 b_3), .bool true]) w13)
 (K (.tuple #[.int .i64 (imax a_2 b_3), .bool true]) w13)))))) ∧
 brB (op1 == (21 : Int))
 (J29 (op1 == (21 : Int)) w7)
 (J29 (op1 == (22 : Int)) w7)))))) ∧
 brB (op1 == (14 : Int))
 (J13 (op1 == (14 : Int)) w5)
 (J13 (op1 == (15 : Int)) w5)))))
def hollowayref1_Two_an : An := ⟨[(30, [(10, .int .u64), (11, .int .i64)])], [], [(27, [(69, .bool)]), (31, [(10, .int .u64)]), (26, [(61, .bool)]), (12, [(31, .bool)])]⟩
theorem hollowayref1_Two_lift {op1 : Int} {a_2 : Int} {b_3 : Int} {w : World} {K : Value → World → Prop} (h : hollowayref1_Two_sh op1 a_2 b_3 w K) : Calls Tryz.prog fn_hollowayref1_Two #[.int .i64 op1, .int .i64 a_2, .int .i64 b_3] w fun e w' => ∃ v, e = .returned v ∧ K v w' :=
   lift_calls (A := hollowayref1_Two_an) (c := bodyOf Tryz.f74) (args := [.int .i64 op1, .int .i64 a_2, .int .i64 b_3]) orc orc_wide Tryz.func74 (by kernel_rfl) (by kernel_rfl) (Eq.mp (by kernel_rfl : hollowayref1_Two_sh op1 a_2 b_3 w K = wpc orc Tryz.f74.ntmps hollowayref1_Two_an (bodyOf Tryz.f74) (argl 0 [.int .i64 op1, .int .i64 a_2, .int .i64 b_3]) w (retQ orc Tryz.f74.results.toList K)) h)

-- holloway/hollowayref1.IsOne
def hollowayref1_IsOne_sh (op1 : Int) (w : World) (K : Value → World → Prop) : Prop :=
 brB (op1 == (16 : Int))
 (K (.bool true) w)
 (brB (op1 == (20 : Int))
 (K (.bool true) w)
 (brB (op1 == (26 : Int))
 (K (.bool true) w)
 (K (.bool (op1 == (27 : Int))) w)))
def hollowayref1_IsOne_an : An := ⟨[], [], []⟩
theorem hollowayref1_IsOne_lift {op1 : Int} {w : World} {K : Value → World → Prop} (h : hollowayref1_IsOne_sh op1 w K) : Calls Tryz.prog fn_hollowayref1_IsOne #[.int .i64 op1] w fun e w' => ∃ v, e = .returned v ∧ K v w' :=
   lift_calls (A := hollowayref1_IsOne_an) (c := bodyOf Tryz.f75) (args := [.int .i64 op1]) orc orc_wide Tryz.func75 (by kernel_rfl) (by kernel_rfl) (Eq.mp (by kernel_rfl : hollowayref1_IsOne_sh op1 w K = wpc orc Tryz.f75.ntmps hollowayref1_IsOne_an (bodyOf Tryz.f75) (argl 0 [.int .i64 op1]) w (retQ orc Tryz.f75.results.toList K)) h)

-- holloway/hollowayref1.One
def hollowayref1_One_sh (op1 : Int) (a_2 : Int) (w : World) (K : Value → World → Prop) : Prop :=
 brB (op1 == (16 : Int))
 (K (.tuple #[.int .i64 (wr (0 - a_2)), .bool true]) w)
 (brB (op1 == (20 : Int))
 (K (.tuple #[.int .i64 (wr ((-1 : Int) - a_2)), .bool true]) w)
 (brB (op1 == (26 : Int))
 (Calls Tryz.prog fn_hollowayref1_Flag #[.bool (a_2 == (0 : Int))] w fun e3 w4 => ∃ n5 : Int, e3 = .returned (.int .i64 n5) ∧
 K (.tuple #[.int .i64 n5, .bool true]) w4)
 (brB (op1 == (27 : Int))
 (Calls Tryz.prog fn_hollowayref1_Flag #[.bool (decide (a_2 < (0 : Int)))] w fun e6 w7 => ∃ n8 : Int, e6 = .returned (.int .i64 n8) ∧
 K (.tuple #[.int .i64 n8, .bool true]) w7)
 (K (.tuple #[.int .i64 (0 : Int), .bool false]) w))))
def hollowayref1_One_an : An := ⟨[], [], []⟩
theorem hollowayref1_One_lift {op1 : Int} {a_2 : Int} {w : World} {K : Value → World → Prop} (h : hollowayref1_One_sh op1 a_2 w K) : Calls Tryz.prog fn_hollowayref1_One #[.int .i64 op1, .int .i64 a_2] w fun e w' => ∃ v, e = .returned v ∧ K v w' :=
   lift_calls (A := hollowayref1_One_an) (c := bodyOf Tryz.f76) (args := [.int .i64 op1, .int .i64 a_2]) orc orc_wide Tryz.func76 (by kernel_rfl) (by kernel_rfl) (Eq.mp (by kernel_rfl : hollowayref1_One_sh op1 a_2 w K = wpc orc Tryz.f76.ntmps hollowayref1_One_an (bodyOf Tryz.f76) (argl 0 [.int .i64 op1, .int .i64 a_2]) w (retQ orc Tryz.f76.results.toList K)) h)

-- holloway/hollowayref1.Crosses
def hollowayref1_Crosses_sh (x_1 : Int) (n_2 : Int) (w : World) (K : Value → World → Prop) : Prop :=
 K (.bool (decide ((iand .i64 (ixor .i64 x_1 (wr (x_1 + n_2))) (ixor .i64 x_1 n_2)) < (0 : Int)))) w
def hollowayref1_Crosses_an : An := ⟨[], [], []⟩
theorem hollowayref1_Crosses_lift {x_1 : Int} {n_2 : Int} {w : World} {K : Value → World → Prop} (h : hollowayref1_Crosses_sh x_1 n_2 w K) : Calls Tryz.prog fn_hollowayref1_Crosses #[.int .i64 x_1, .int .i64 n_2] w fun e w' => ∃ v, e = .returned v ∧ K v w' :=
   lift_calls (A := hollowayref1_Crosses_an) (c := bodyOf Tryz.f77) (args := [.int .i64 x_1, .int .i64 n_2]) orc orc_wide Tryz.func77 (by kernel_rfl) (by kernel_rfl) (Eq.mp (by kernel_rfl : hollowayref1_Crosses_sh x_1 n_2 w K = wpc orc Tryz.f77.ntmps hollowayref1_Crosses_an (bodyOf Tryz.f77) (argl 0 [.int .i64 x_1, .int .i64 n_2]) w (retQ orc Tryz.f77.results.toList K)) h)

-- holloway/hollowayref1.Put
def hollowayref1_Put_j1 (base2 : Int) (u7 : Int) (s8 : ByteArray) (I1 : Int → ByteArray → World → Prop) (μ1 : Int → ByteArray → World → Nat) (w6 : World) (v_1 : Int) (b12 : Bool) (w11 : World) (K : Value → World → Prop) : Prop :=
 brB b12
 ((IntKind.wrap .u64 base2) ≠ 0 ∧ 0 ≤ (wr (Int.tmod u7 (IntKind.wrap .u64 base2))) ∧ (wr (Int.tmod u7 (IntKind.wrap .u64 base2))) ≤ (wr ((wr (Int.tmod u7 (IntKind.wrap .u64 base2))) + (1 : Int))) ∧ (wr ((wr (Int.tmod u7 (IntKind.wrap .u64 base2))) + (1 : Int))) ≤ ((bs [48, 49, 50, 51, 52, 53, 54, 55, 56, 57, 65, 66, 67, 68, 69, 70, 71, 72, 73, 74, 75, 76, 77, 78, 79, 80, 81, 82, 83, 84, 85, 86, 87, 88, 89, 90]).size : Int) ∧ 
 (((ByteArray.extract (bs [48, 49, 50, 51, 52, 53, 54, 55, 56, 57, 65, 66, 67, 68, 69, 70, 71, 72, 73, 74, 75, 76, 77, 78, 79, 80, 81, 82, 83, 84, 85, 86, 87, 88, 89, 90]) (Int.toNat (wr (Int.tmod u7 (IntKind.wrap .u64 base2)))) (Int.toNat (wr ((wr (Int.tmod u7 (IntKind.wrap .u64 base2))) + (1 : Int)))))).size : Int) + ((s8).size : Int) ≤ 9223372036854775807 ∧ (IntKind.wrap .u64 base2) ≠ 0 ∧ I1 (IntKind.wrap .u64 (Int.tdiv u7 (IntKind.wrap .u64 base2))) ((ByteArray.extract (bs [48, 49, 50, 51, 52, 53, 54, 55, 56, 57, 65, 66, 67, 68, 69, 70, 71, 72, 73, 74, 75, 76, 77, 78, 79, 80, 81, 82, 83, 84, 85, 86, 87, 88, 89, 90]) (Int.toNat (wr (Int.tmod u7 (IntKind.wrap .u64 base2)))) (Int.toNat (wr ((wr (Int.tmod u7 (IntKind.wrap .u64 base2))) + (1 : Int))))) ++ s8) w11 ∧ μ1 (IntKind.wrap .u64 (Int.tdiv u7 (IntKind.wrap .u64 base2))) ((ByteArray.extract (bs [48, 49, 50, 51, 52, 53, 54, 55, 56, 57, 65, 66, 67, 68, 69, 70, 71, 72, 73, 74, 75, 76, 77, 78, 79, 80, 81, 82, 83, 84, 85, 86, 87, 88, 89, 90]) (Int.toNat (wr (Int.tmod u7 (IntKind.wrap .u64 base2)))) (Int.toNat (wr ((wr (Int.tmod u7 (IntKind.wrap .u64 base2))) + (1 : Int))))) ++ s8) w11 < μ1 u7 s8 w6)
 (brB (decide (v_1 < (0 : Int)))
 ((((bs [45])).size : Int) + ((s8).size : Int) ≤ 9223372036854775807 ∧ K (.string ((bs [45]) ++ s8)) w11)
 (K (.string s8) w11))
def hollowayref1_Put_sh (v_1 : Int) (base2 : Int) (w : World) (K : Value → World → Prop) : Prop :=
 ∃ J3 : Bool → World → Prop, (∀ (b4 : Bool) (w3 : World), J3 b4 w3 →
 brB b4
 (K (.string (bs [])) w3)
 (∃ J6 : Int → World → Prop, (∀ (u13 : Int) (w5 : World), J6 u13 w5 →
 ∃ (I1 : Int → ByteArray → World → Prop) (μ1 : Int → ByteArray → World → Nat), I1 u13 (bs []) w5 ∧ ∀ (u7 : Int) (s8 : ByteArray) (w6 : World), I1 u7 s8 w6 →
 brB (decide (u7 > (0 : Int)))
 (hollowayref1_Put_j1 base2 u7 s8 I1 (μ1) w6 v_1 true w6 K)
 (hollowayref1_Put_j1 base2 u7 s8 I1 (μ1) w6 v_1 (s8.toList == (bs []).toList) w6 K)) ∧
 brB (decide (v_1 < (0 : Int)))
 (J6 (IntKind.wrap .u64 (0 - (IntKind.wrap .u64 v_1))) w3)
 (J6 (IntKind.wrap .u64 v_1) w3))) ∧
 brB (decide (base2 < (2 : Int)))
 (J3 true w)
 (J3 (decide (base2 > (36 : Int))) w)
def hollowayref1_Put_an : An := ⟨[(7, [(5, .int .u64), (6, .str)])], [], [(2, [(13, .bool)]), (6, [(5, .int .u64)])]⟩
theorem hollowayref1_Put_lift {v_1 : Int} {base2 : Int} {w : World} {K : Value → World → Prop} (h : hollowayref1_Put_sh v_1 base2 w K) : Calls Tryz.prog fn_hollowayref1_Put #[.int .i64 v_1, .int .i64 base2] w fun e w' => ∃ v, e = .returned v ∧ K v w' :=
   lift_calls (A := hollowayref1_Put_an) (c := bodyOf Tryz.f78) (args := [.int .i64 v_1, .int .i64 base2]) orc orc_wide Tryz.func78 (by kernel_rfl) (by kernel_rfl) (Eq.mp (by kernel_rfl : hollowayref1_Put_sh v_1 base2 w K = wpc orc Tryz.f78.ntmps hollowayref1_Put_an (bodyOf Tryz.f78) (argl 0 [.int .i64 v_1, .int .i64 base2]) w (retQ orc Tryz.f78.results.toList K)) h)

-- holloway/hollowayref1.Plain
-- holloway/hollowayref1.Floor
def hollowayref1_Floor_sh (a_1 : Int) (b_2 : Int) (w : World) (K : Value → World → Prop) : Prop :=
 b_2 ≠ 0 ∧ ∃ J5 : Bool → World → Prop, (∀ (b4 : Bool) (w3 : World), J5 b4 w3 →
 brB b4
 (K (.tuple #[.int .i64 (wr ((wr (Int.tdiv a_1 b_2)) - (1 : Int))), .int .i64 (wr ((wr (a_1 - (wr ((wr (Int.tdiv a_1 b_2)) * b_2)))) + b_2))]) w3)
 (K (.tuple #[.int .i64 (wr (Int.tdiv a_1 b_2)), .int .i64 (wr (a_1 - (wr ((wr (Int.tdiv a_1 b_2)) * b_2))))]) w3)) ∧
 brB ((wr (a_1 - (wr ((wr (Int.tdiv a_1 b_2)) * b_2)))) != (0 : Int))
 (J5 (!((decide ((wr (a_1 - (wr ((wr (Int.tdiv a_1 b_2)) * b_2)))) < (0 : Int))) == (decide (b_2 < (0 : Int))))) w)
 (J5 false w)
def hollowayref1_Floor_an : An := ⟨[], [], [(4, [(24, .bool)])]⟩
theorem hollowayref1_Floor_lift {a_1 : Int} {b_2 : Int} {w : World} {K : Value → World → Prop} (h : hollowayref1_Floor_sh a_1 b_2 w K) : Calls Tryz.prog fn_hollowayref1_Floor #[.int .i64 a_1, .int .i64 b_2] w fun e w' => ∃ v, e = .returned v ∧ K v w' :=
   lift_calls (A := hollowayref1_Floor_an) (c := bodyOf Tryz.f100) (args := [.int .i64 a_1, .int .i64 b_2]) orc orc_wide Tryz.func100 (by kernel_rfl) (by kernel_rfl) (Eq.mp (by kernel_rfl : hollowayref1_Floor_sh a_1 b_2 w K = wpc orc Tryz.f100.ntmps hollowayref1_Floor_an (bodyOf Tryz.f100) (argl 0 [.int .i64 a_1, .int .i64 b_2]) w (retQ orc Tryz.f100.results.toList K)) h)

-- holloway/hollowayref1.Flag
def hollowayref1_Flag_sh (is1 : Bool) (w : World) (K : Value → World → Prop) : Prop :=
 brB is1
 (K (.int .i64 (-1 : Int)) w)
 (K (.int .i64 (0 : Int)) w)
def hollowayref1_Flag_an : An := ⟨[], [], []⟩
theorem hollowayref1_Flag_lift {is1 : Bool} {w : World} {K : Value → World → Prop} (h : hollowayref1_Flag_sh is1 w K) : Calls Tryz.prog fn_hollowayref1_Flag #[.bool is1] w fun e w' => ∃ v, e = .returned v ∧ K v w' :=
   lift_calls (A := hollowayref1_Flag_an) (c := bodyOf Tryz.f101) (args := [.bool is1]) orc orc_wide Tryz.func101 (by kernel_rfl) (by kernel_rfl) (Eq.mp (by kernel_rfl : hollowayref1_Flag_sh is1 w K = wpc orc Tryz.f101.ntmps hollowayref1_Flag_an (bodyOf Tryz.f101) (argl 0 [.bool is1]) w (retQ orc Tryz.f101.results.toList K)) h)

end Go.Proofs.YtkjpmkopnkkbmaaGreatDoor
