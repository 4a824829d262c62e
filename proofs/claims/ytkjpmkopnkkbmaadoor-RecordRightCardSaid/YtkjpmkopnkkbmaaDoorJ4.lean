/- The lifted texts of small packages. -/
import Derived.Test.YtkjpmkopnkkbmaaDoorProg
import Derived.Test.YtkjpmkopnkkbmaaDoorJ1
import Derived.Test.YtkjpmkopnkkbmaaDoorJ2

/- What the lift is told of the program: types and functions, each fact proved. Printed by a program of mine (wip/lift/gen.py). -/
set_option maxRecDepth 100000
namespace Go.Proofs.YtkjpmkopnkkbmaaDoor
open Go.RowKit

@[reducible] def T_int : TypeId := 3
@[reducible] def T_bool : TypeId := 4
@[reducible] def T_uint8 : TypeId := 5
@[reducible] def T_string : TypeId := 9
@[reducible] def T_interface : TypeId := 20
@[reducible] def T_sl_int : TypeId := 22
@[reducible] def T_api_State : TypeId := 24
@[reducible] def T_sl_sl_int : TypeId := 33
@[reducible] def T_sl_uint8 : TypeId := 39
@[reducible] def T_sl_api_Seen : TypeId := 42
@[reducible] def T_api_Recording : TypeId := 44
@[reducible] def T_inner_machine : TypeId := 53
@[reducible] def T_api_Seen : TypeId := 56
@[reducible] def T_error : TypeId := 63
@[reducible] def T_fault_fault : TypeId := 77
@[reducible] def T_p_fault_seen : TypeId := 85
@[reducible] def T_fault_seen : TypeId := 87
@[reducible] def T_op_row : TypeId := 89
@[reducible] def T_p_fault_fault : TypeId := 91
@[reducible] def T_p_p_fault_fault : TypeId := 93
@[reducible] def T_48_op_row : TypeId := 98
@[reducible] def T_uint64 : TypeId := 112
@[reducible] def T_uint : TypeId := 130
@[reducible] def T_p_error : TypeId := 159
@[reducible] def fn_hollowaylaw9_InnerFuel : FuncId := 3
@[reducible] def fn_hollowaylaw9_InnerCalls : FuncId := 4
@[reducible] def fn_hollowaylaw9_InnerStacks : FuncId := 5
@[reducible] def fn_hollowaylaw9_InnerMemory : FuncId := 6
@[reducible] def fn_hollowaylaw9_InnerCatch : FuncId := 7
@[reducible] def fn_hollowaylaw9_InnerLoops : FuncId := 8
@[reducible] def fn_hollowaylaw9_InnerTalks : FuncId := 9
@[reducible] def fn_hollowaylaw9_InnerFaults : FuncId := 10
@[reducible] def fn_hollowaylaw13_RecordRight : FuncId := 11
@[reducible] def fn_hollowaylaw13_RecordMost : FuncId := 12
@[reducible] def fn_hollowaylaw9_Light : FuncId := 13
@[reducible] def fn_hollowaylaw9_alive : FuncId := 14
@[reducible] def fn_inner_Run : FuncId := 15
@[reducible] def fn_hollowaybook_SameState : FuncId := 16
@[reducible] def fn_inner_Copy : FuncId := 17
@[reducible] def fn_hollowaybook_SameInts : FuncId := 18
@[reducible] def fn_hollowaylaw9_plain : FuncId := 19
@[reducible] def fn_hollowayref9_Boot : FuncId := 20
@[reducible] def fn_inner_Step : FuncId := 21
@[reducible] def fn_hollowaylaw13_alive : FuncId := 22
@[reducible] def fn_hollowaybook_LentSeens : FuncId := 23
@[reducible] def fn_record_Right : FuncId := 24
@[reducible] def fn_hollowayref9_Recorded : FuncId := 25
@[reducible] def fn_hollowaybook_StaysSeens : FuncId := 26
@[reducible] def fn_record_Loop : FuncId := 27
@[reducible] def fn_hollowaybook_SameSeens : FuncId := 28
@[reducible] def fn_hollowaylaw13_same : FuncId := 29
@[reducible] def fn_hollowayref9_Right : FuncId := 30
@[reducible] def fn_inner_Boot : FuncId := 31
@[reducible] def fn_inner_Enter : FuncId := 32
@[reducible] def fn_inner_machine_advance : FuncId := 33
@[reducible] def fn_slices_Clone_sl_int_int : FuncId := 34
@[reducible] def fn_hollowayref9_Enter : FuncId := 35
@[reducible] def fn_hollowaybook_copySeens : FuncId := 36
@[reducible] def fn_record_single : FuncId := 37
@[reducible] def fn_hollowayref1_Plain : FuncId := 38
@[reducible] def fn_hollowayref1_Arg : FuncId := 39
@[reducible] def fn_record_next : FuncId := 40
@[reducible] def fn_inner_Boot_1 : FuncId := 41
@[reducible] def fn_inner_machine_step : FuncId := 42
@[reducible] def fn_inner_faulty : FuncId := 43
@[reducible] def fn_fault_Code : FuncId := 44
@[reducible] def fn_record_arg : FuncId := 45
@[reducible] def fn_record_plain : FuncId := 46
@[reducible] def fn_record_place : FuncId := 47
@[reducible] def fn_hollowayref1_Op : FuncId := 48
@[reducible] def fn_record_load : FuncId := 49
@[reducible] def fn_inner_machine_load : FuncId := 50
@[reducible] def fn_inner_machine_call : FuncId := 51
@[reducible] def fn_op_Right : FuncId := 52
@[reducible] def fn_inner_machine_fails : FuncId := 53
@[reducible] def fn_op_Arg : FuncId := 54
@[reducible] def fn_inner_room : FuncId := 55
@[reducible] def fn_inner_machine_do : FuncId := 56
@[reducible] def fn_fault_Wrap : FuncId := 57
@[reducible] def fn_op_Name : FuncId := 58
@[reducible] def fn_inner_caught : FuncId := 59
@[reducible] def fn_fault_inner : FuncId := 60
@[reducible] def fn_op_Plain : FuncId := 61
@[reducible] def fn_inner_machine_back : FuncId := 62
@[reducible] def fn_fault_New : FuncId := 63
@[reducible] def fn_op_Takes : FuncId := 64
@[reducible] def fn_op_Gives : FuncId := 65
@[reducible] def fn_inner_machine_push : FuncId := 66
@[reducible] def fn_inner_machine_pop : FuncId := 67
@[reducible] def fn_inner_machine_popBack : FuncId := 68
@[reducible] def fn_inner_machine_shuffle : FuncId := 69
@[reducible] def fn_inner_machine_memory : FuncId := 70
@[reducible] def fn_inner_machine_backs : FuncId := 71
@[reducible] def fn_inner_machine_loop : FuncId := 72
@[reducible] def fn_inner_machine_say : FuncId := 73
@[reducible] def fn_inner_machine_key : FuncId := 74
@[reducible] def fn_inner_machine_flow : FuncId := 75
@[reducible] def fn_inner_machine_reckon : FuncId := 76
@[reducible] def fn_op_of : FuncId := 77
@[reducible] def fn_errors_As : FuncId := 78
@[reducible] def fn_inner_machine_swapped : FuncId := 79
@[reducible] def fn_cell_Crosses : FuncId := 80
@[reducible] def fn_digits_Put : FuncId := 81
@[reducible] def fn_inner_machine_endCatch : FuncId := 82
@[reducible] def fn_cell_One : FuncId := 83
@[reducible] def fn_cell_Two : FuncId := 84
@[reducible] def fn_op_table : FuncId := 85
@[reducible] def fn_digits_Right : FuncId := 90
@[reducible] def fn_cell_Flag : FuncId := 91
@[reducible] def fn_cell_Floor : FuncId := 92
@[reducible] def fn_cell_shift : FuncId := 93
@[reducible] def fn_cell_compare : FuncId := 94
@[reducible] def fn_internal_reflectlite_TypeOf : FuncId := 95
@[reducible] def fn_fault_seen_Unwrap : FuncId := 116
def orc_ts : List (Nat × Ti) := [(3, ⟨.int .i64, false, [.int .i64]⟩),
  (4, ⟨.bool, false, [.bool]⟩),
  (5, ⟨.int .u8, false, [.int .u8]⟩),
  (9, ⟨.str, false, [.str]⟩),
  (20, ⟨.other, false, [.val]⟩),
  (22, ⟨.sl 3, false, [.sl]⟩),
  (24, ⟨.st [(0, 3), (1, 3), (2, 22), (3, 22), (4, 22), (5, 9), (6, 9), (7, 3), (8, 3), (9, 3)], true, [.int .i64, .int .i64, .sl, .sl, .sl, .str, .str, .int .i64, .int .i64, .int .i64]⟩),
  (33, ⟨.sl 22, false, [.sl]⟩),
  (39, ⟨.sl 5, false, [.sl]⟩),
  (42, ⟨.sl 56, false, [.sl]⟩),
  (44, ⟨.st [(0, 3), (1, 3), (2, 4), (3, 42)], true, [.int .i64, .int .i64, .bool, .sl]⟩),
  (53, ⟨.st [(0, 24), (10, 4)], true, [.int .i64, .int .i64, .sl, .sl, .sl, .str, .str, .int .i64, .int .i64, .int .i64, .bool]⟩),
  (56, ⟨.st [(0, 3), (1, 3), (2, 3), (3, 3)], true, [.int .i64, .int .i64, .int .i64, .int .i64]⟩),
  (63, ⟨.other, false, [.val]⟩),
  (77, ⟨.st [(0, 3), (1, 3)], true, [.int .i64, .int .i64]⟩),
  (85, ⟨.ptr, false, [.ptr]⟩),
  (87, ⟨.st [(0, 9), (1, 63)], true, [.str, .val]⟩),
  (89, ⟨.st [(0, 9), (1, 3), (2, 3), (3, 3), (4, 3)], true, [.str, .int .i64, .int .i64, .int .i64, .int .i64]⟩),
  (91, ⟨.ptr, false, [.ptr]⟩),
  (93, ⟨.ptr, false, [.ptr]⟩),
  (98, ⟨.arr 48 89, true, [.str, .int .i64, .int .i64, .int .i64, .int .i64, .str, .int .i64, .int .i64, .int .i64, .int .i64, .str, .int .i64, .int .i64, .int .i64, .int .i64, .str, .int .i64, .int .i64, .int .i64, .int .i64, .str, .int .i64, .int .i64, .int .i64, .int .i64, .str, .int .i64, .int .i64, .int .i64, .int .i64, .str, .int .i64, .int .i64, .int .i64, .int .i64, .str, .int .i64, .int .i64, .int .i64, .int .i64, .str, .int .i64, .int .i64, .int .i64, .int .i64, .str, .int .i64, .int .i64, .int .i64, .int .i64, .str, .int .i64, .int .i64, .int .i64, .int .i64, .str, .int .i64, .int .i64, .int .i64, .int .i64, .str, .int .i64, .int .i64, .int .i64, .int .i64, .str, .int .i64, .int .i64, .int .i64, .int .i64, .str, .int .i64, .int .i64, .int .i64, .int .i64, .str, .int .i64, .int .i64, .int .i64, .int .i64, .str, .int .i64, .int .i64, .int .i64, .int .i64, .str, .int .i64, .int .i64, .int .i64, .int .i64, .str, .int .i64, .int .i64, .int .i64, .int .i64, .str, .int .i64, .int .i64, .int .i64, .int .i64, .str, .int .i64, .int .i64, .int .i64, .int .i64, .str, .int .i64, .int .i64, .int .i64, .int .i64, .str, .int .i64, .int .i64, .int .i64, .int .i64, .str, .int .i64, .int .i64, .int .i64, .int .i64, .str, .int .i64, .int .i64, .int .i64, .int .i64, .str, .int .i64, .int .i64, .int .i64, .int .i64, .str, .int .i64, .int .i64, .int .i64, .int .i64, .str, .int .i64, .int .i64, .int .i64, .int .i64, .str, .int .i64, .int .i64, .int .i64, .int .i64, .str, .int .i64, .int .i64, .int .i64, .int .i64, .str, .int .i64, .int .i64, .int .i64, .int .i64, .str, .int .i64, .int .i64, .int .i64, .int .i64, .str, .int .i64, .int .i64, .int .i64, .int .i64, .str, .int .i64, .int .i64, .int .i64, .int .i64, .str, .int .i64, .int .i64, .int .i64, .int .i64, .str, .int .i64, .int .i64, .int .i64, .int .i64, .str, .int .i64, .int .i64, .int .i64, .int .i64, .str, .int .i64, .int .i64, .int .i64, .int .i64, .str, .int .i64, .int .i64, .int .i64, .int .i64, .str, .int .i64, .int .i64, .int .i64, .int .i64, .str, .int .i64, .int .i64, .int .i64, .int .i64, .str, .int .i64, .int .i64, .int .i64, .int .i64, .str, .int .i64, .int .i64, .int .i64, .int .i64, .str, .int .i64, .int .i64, .int .i64, .int .i64, .str, .int .i64, .int .i64, .int .i64, .int .i64, .str, .int .i64, .int .i64, .int .i64, .int .i64, .str, .int .i64, .int .i64, .int .i64, .int .i64, .str, .int .i64, .int .i64, .int .i64, .int .i64]⟩),
  (112, ⟨.int .u64, false, [.int .u64]⟩),
  (130, ⟨.int .u64, false, [.int .u64]⟩),
  (159, ⟨.ptr, false, [.ptr]⟩)]
theorem orc_tok : AllTi Tryd.prog orc_ts := ⟨⟨⟨_, Tryd.runUnderlying3, rfl⟩, Tryd.isAgg3, Tryd.sizeOf3⟩,
  ⟨⟨_, Tryd.runUnderlying4, rfl⟩, Tryd.isAgg4, Tryd.sizeOf4⟩,
  ⟨⟨_, Tryd.runUnderlying5, rfl⟩, Tryd.isAgg5, Tryd.sizeOf5⟩,
  ⟨⟨_, Tryd.runUnderlying9, rfl⟩, Tryd.isAgg9, Tryd.sizeOf9⟩,
  ⟨⟨_, Tryd.runUnderlying20, trivial⟩, Tryd.isAgg20, Tryd.sizeOf20⟩,
  ⟨⟨_, Tryd.runUnderlying22, rfl⟩, Tryd.isAgg22, Tryd.sizeOf22⟩,
  ⟨⟨_, Tryd.runUnderlying24, ⟨_, rfl, rfl⟩⟩, Tryd.isAgg24, Tryd.sizeOf24⟩,
  ⟨⟨_, Tryd.runUnderlying33, rfl⟩, Tryd.isAgg33, Tryd.sizeOf33⟩,
  ⟨⟨_, Tryd.runUnderlying39, rfl⟩, Tryd.isAgg39, Tryd.sizeOf39⟩,
  ⟨⟨_, Tryd.runUnderlying42, rfl⟩, Tryd.isAgg42, Tryd.sizeOf42⟩,
  ⟨⟨_, Tryd.runUnderlying44, ⟨_, rfl, rfl⟩⟩, Tryd.isAgg44, Tryd.sizeOf44⟩,
  ⟨⟨_, Tryd.runUnderlying53, ⟨_, rfl, rfl⟩⟩, Tryd.isAgg53, Tryd.sizeOf53⟩,
  ⟨⟨_, Tryd.runUnderlying56, ⟨_, rfl, rfl⟩⟩, Tryd.isAgg56, Tryd.sizeOf56⟩,
  ⟨⟨_, Tryd.runUnderlying63, trivial⟩, Tryd.isAgg63, Tryd.sizeOf63⟩,
  ⟨⟨_, Tryd.runUnderlying77, ⟨_, rfl, rfl⟩⟩, Tryd.isAgg77, Tryd.sizeOf77⟩,
  ⟨⟨_, Tryd.runUnderlying85, ⟨_, rfl⟩⟩, Tryd.isAgg85, Tryd.sizeOf85⟩,
  ⟨⟨_, Tryd.runUnderlying87, ⟨_, rfl, rfl⟩⟩, Tryd.isAgg87, Tryd.sizeOf87⟩,
  ⟨⟨_, Tryd.runUnderlying89, ⟨_, rfl, rfl⟩⟩, Tryd.isAgg89, Tryd.sizeOf89⟩,
  ⟨⟨_, Tryd.runUnderlying91, ⟨_, rfl⟩⟩, Tryd.isAgg91, Tryd.sizeOf91⟩,
  ⟨⟨_, Tryd.runUnderlying93, ⟨_, rfl⟩⟩, Tryd.isAgg93, Tryd.sizeOf93⟩,
  ⟨⟨_, Tryd.runUnderlying98, rfl⟩, Tryd.isAgg98, Tryd.sizeOf98⟩,
  ⟨⟨_, Tryd.runUnderlying112, rfl⟩, Tryd.isAgg112, Tryd.sizeOf112⟩,
  ⟨⟨_, Tryd.runUnderlying130, rfl⟩, Tryd.isAgg130, Tryd.sizeOf130⟩,
  ⟨⟨_, Tryd.runUnderlying159, ⟨_, rfl⟩⟩, Tryd.isAgg159, Tryd.sizeOf159⟩, trivial⟩
def orc_sg : List (Nat × List (Bool × List Kd)) := [(3, [(false, [.bool])]),
  (4, [(false, [.bool])]),
  (5, [(false, [.bool])]),
  (6, [(false, [.bool])]),
  (7, [(false, [.bool])]),
  (8, [(false, [.bool])]),
  (9, [(false, [.bool])]),
  (10, [(false, [.bool])]),
  (11, [(false, [.bool])]),
  (12, [(false, [.bool])]),
  (13, [(false, [.bool])]),
  (14, [(false, [.bool])]),
  (15, [(true, [.int .i64, .int .i64, .sl, .sl, .sl, .str, .str, .int .i64, .int .i64, .int .i64]), (false, [.int .i64])]),
  (16, [(false, [.bool])]),
  (17, [(true, [.int .i64, .int .i64, .sl, .sl, .sl, .str, .str, .int .i64, .int .i64, .int .i64])]),
  (18, [(false, [.bool])]),
  (19, [(true, [.int .i64, .int .i64, .sl, .sl, .sl, .str, .str, .int .i64, .int .i64, .int .i64])]),
  (20, [(true, [.int .i64, .int .i64, .sl, .sl, .sl, .str, .str, .int .i64, .int .i64, .int .i64])]),
  (21, [(true, [.int .i64, .int .i64, .sl, .sl, .sl, .str, .str, .int .i64, .int .i64, .int .i64])]),
  (22, [(false, [.bool])]),
  (23, [(false, [.sl])]),
  (24, [(false, [.bool])]),
  (25, [(false, [.bool])]),
  (26, [(false, [.bool])]),
  (27, [(true, [.int .i64, .int .i64, .bool, .sl])]),
  (28, [(false, [.bool])]),
  (29, [(false, [.bool])]),
  (30, [(false, [.bool])]),
  (31, [(true, [.int .i64, .int .i64, .sl, .sl, .sl, .str, .str, .int .i64, .int .i64, .int .i64])]),
  (32, [(true, [.int .i64, .int .i64, .sl, .sl, .sl, .str, .str, .int .i64, .int .i64, .int .i64])]),
  (33, []),
  (34, [(false, [.sl])]),
  (35, [(true, [.int .i64, .int .i64, .sl, .sl, .sl, .str, .str, .int .i64, .int .i64, .int .i64])]),
  (36, [(false, [.sl])]),
  (37, [(false, [.bool])]),
  (38, [(false, [.bool])]),
  (39, [(false, [.bool])]),
  (40, [(true, [.int .i64, .int .i64, .int .i64, .int .i64]), (true, [.int .i64, .int .i64, .sl, .sl, .sl, .str, .str, .int .i64, .int .i64, .int .i64]), (false, [.bool])]),
  (41, []),
  (42, [(false, [.val])]),
  (43, [(true, [.int .i64, .int .i64, .sl, .sl, .sl, .str, .str, .int .i64, .int .i64, .int .i64])]),
  (44, [(false, [.int .i64])]),
  (45, [(false, [.bool])]),
  (46, [(false, [.bool])]),
  (47, [(false, [.bool])]),
  (48, [(false, [.bool])]),
  (49, [(false, [.int .i64]), (false, [.bool])]),
  (50, [(false, [.int .i64]), (false, [.val])]),
  (51, [(false, [.val])]),
  (52, [(false, [.bool])]),
  (53, [(false, [.val])]),
  (54, [(false, [.bool])]),
  (55, [(false, [.int .i64])]),
  (56, [(false, [.val])]),
  (57, [(false, [.val])]),
  (58, [(false, [.str])]),
  (59, [(false, [.int .i64]), (false, [.bool])]),
  (60, [(true, [.int .i64, .int .i64])]),
  (61, [(false, [.bool])]),
  (62, []),
  (63, [(false, [.val])]),
  (64, [(false, [.int .i64]), (false, [.int .i64])]),
  (65, [(false, [.int .i64]), (false, [.int .i64])]),
  (66, []),
  (67, [(false, [.int .i64])]),
  (68, [(false, [.int .i64])]),
  (69, []),
  (70, [(false, [.val])]),
  (71, []),
  (72, []),
  (73, [(false, [.val])]),
  (74, []),
  (75, [(false, [.val])]),
  (76, [(false, [.val])]),
  (77, [(true, [.str, .int .i64, .int .i64, .int .i64, .int .i64])]),
  (78, [(false, [.bool])]),
  (79, [(false, [.int .i64])]),
  (80, [(false, [.bool])]),
  (81, [(false, [.str])]),
  (82, [(false, [.val])]),
  (83, [(false, [.int .i64]), (false, [.bool])]),
  (84, [(false, [.int .i64]), (false, [.bool])]),
  (85, [(false, [.val])]),
  (90, [(false, [.bool])]),
  (91, [(false, [.int .i64])]),
  (92, [(false, [.int .i64]), (false, [.int .i64]), (false, [.bool])]),
  (93, [(false, [.int .i64])]),
  (94, [(false, [.int .i64])]),
  (116, [(false, [.val])])]
theorem orc_sok : AllSg Tryd.prog orc_sg := ⟨Tryd.call3,
  Tryd.call4,
  Tryd.call5,
  Tryd.call6,
  Tryd.call7,
  Tryd.call8,
  Tryd.call9,
  Tryd.call10,
  Tryd.call11,
  Tryd.call12,
  Tryd.call13,
  Tryd.call14,
  Tryd.call15,
  Tryd.call16,
  Tryd.call17,
  Tryd.call18,
  Tryd.call19,
  Tryd.call20,
  Tryd.call21,
  Tryd.call22,
  Tryd.call23,
  Tryd.call24,
  Tryd.call25,
  Tryd.call26,
  Tryd.call27,
  Tryd.call28,
  Tryd.call29,
  Tryd.call30,
  Tryd.call31,
  Tryd.call32,
  Tryd.call33,
  Tryd.call34,
  Tryd.call35,
  Tryd.call36,
  Tryd.call37,
  Tryd.call38,
  Tryd.call39,
  Tryd.call40,
  Tryd.call41,
  Tryd.call42,
  Tryd.call43,
  Tryd.call44,
  Tryd.call45,
  Tryd.call46,
  Tryd.call47,
  Tryd.call48,
  Tryd.call49,
  Tryd.call50,
  Tryd.call51,
  Tryd.call52,
  Tryd.call53,
  Tryd.call54,
  Tryd.call55,
  Tryd.call56,
  Tryd.call57,
  Tryd.call58,
  Tryd.call59,
  Tryd.call60,
  Tryd.call61,
  Tryd.call62,
  Tryd.call63,
  Tryd.call64,
  Tryd.call65,
  Tryd.call66,
  Tryd.call67,
  Tryd.call68,
  Tryd.call69,
  Tryd.call70,
  Tryd.call71,
  Tryd.call72,
  Tryd.call73,
  Tryd.call74,
  Tryd.call75,
  Tryd.call76,
  Tryd.call77,
  Tryd.call78,
  Tryd.call79,
  Tryd.call80,
  Tryd.call81,
  Tryd.call82,
  Tryd.call83,
  Tryd.call84,
  Tryd.call85,
  Tryd.call90,
  Tryd.call91,
  Tryd.call92,
  Tryd.call93,
  Tryd.call94,
  Tryd.call116, trivial⟩
def orc : Orc Tryd.prog := ⟨orc_ts, allTi_of orc_tok, orc_sg, allSg_of orc_sok⟩
theorem orc_wide : Tryd.prog.follows .mixedOrders = true := by kernel_rfl
end Go.Proofs.YtkjpmkopnkkbmaaDoor

/- Functions of Slices, read without their frames; that each is enough. Printed by a program of mine (wip/lift/gen.py). -/
set_option maxRecDepth 100000
namespace Go.Proofs.YtkjpmkopnkkbmaaDoor
open Go.RowKit

-- slices.Clone[[]int,int]
def slices_Clone_sl_int_int_sh (s_1 : Sl) (w : World) (K : Value → World → Prop) : Prop :=
 brB (Option.isNone s_1.ptr)
 (K (.slice none 0 0) w)
 (∀ (b2 : Nat) (w3 : World), b2 = w.heap.size → w3 = World.alloc w (.cells #[] T_int) →
 ∃ s4 : Sl, ∃ w5 : World, (Builtin.append_ #[T_sl_int, T_sl_int] T_sl_int #[.slice (some ⟨b2, 0, none⟩) 0 0, s_1.val]).run Tryd.prog w3 = .ok (s4.val) w5 ∧
 K (s4.val) w5)
def slices_Clone_sl_int_int_an : An := ⟨[], [], []⟩
theorem slices_Clone_sl_int_int_lift {s_1 : Sl} {w : World} {K : Value → World → Prop} (h : slices_Clone_sl_int_int_sh s_1 w K) : Calls Tryd.prog fn_slices_Clone_sl_int_int #[s_1.val] w fun e w' => ∃ v, e = .returned v ∧ K v w' :=
   lift_calls (A := slices_Clone_sl_int_int_an) (c := bodyOf Tryd.f34) (args := [s_1.val]) orc orc_wide Tryd.func34 (by kernel_rfl) (by kernel_rfl) (Eq.mp (by kernel_rfl : slices_Clone_sl_int_int_sh s_1 w K = wpc orc Tryd.f34.ntmps slices_Clone_sl_int_int_an (bodyOf Tryd.f34) (argl 0 [s_1.val]) w (retQ orc Tryd.f34.results.toList K)) h)

end Go.Proofs.YtkjpmkopnkkbmaaDoor

/- Numbers as elements of lists; slices.Clone. -/
set_option maxRecDepth 100000
namespace Go.Proofs.YtkjpmkopnkkbmaaDoor
open Go.RowKit

def intE : Enc Int := ⟨T_int, 1, 8, fun n => [.int .i64 n], by intro x; rfl, by intro x u hu; simp at hu; subst hu; rfl, by decide⟩
theorem intOk : EncOk Tryd.prog intE T_sl_int := EncOk.of (z := .int .i64 0) (by kernel_rfl) (by kernel_rfl) (by kernel_rfl)
/-! ### slices.Clone -/
theorem Rd.none {α : Type} {E : Enc α} {w : World} {s : Sl} {xs : List α} (h : Rd E w s xs) (hp : s.ptr = none) : xs = [] ∧ s.cap = 0 := by
  obtain ⟨ao, cap, he, _, _, h5, _⟩ := h
  have hq : s.ptr = ao ∧ s.cap = cap := by cases s; simp [Sl.val] at he; exact ⟨he.1, he.2.2⟩
  have := h5 (hq.1.symm.trans hp)
  exact ⟨List.eq_nil_of_length_eq_zero this.1, hq.2.trans this.2⟩
theorem clone_core {α : Type} {P : Program} {E : Enc α} {T : TypeId} (ok : EncOk P E T) (hby : E.bytes ≤ 1000) {w : World} {s : Sl} {xs : List α} (h : Rd E w s xs) (hsm : xs.length ≤ 1000000000) {K : Value → World → Prop}
    (k : ∀ (s' : Sl) (w' : World), Ow E w' s' xs → Chg No w w' → (∀ k, s'.blk = some k → w.heap.size ≤ k) → (s.ptr = none → s' = nilS) → K s'.val w') :
    brB (Option.isNone s.ptr) (K (.slice none 0 0) w) (∀ (b2 : Nat) (w3 : World), b2 = w.heap.size → w3 = World.alloc w (.cells #[] E.t) →
      ∃ s4 : Sl, ∃ w5 : World, (Builtin.append_ #[T, T] T #[.slice (some ⟨b2, 0, none⟩) 0 0, s.val]).run P w3 = .ok (s4.val) w5 ∧ K (s4.val) w5) := by
  refine brB_of (fun hp => ?_) (fun hp => ?_)
  · have hp : s.ptr = Option.none := by cases h : s.ptr with
      | none => rfl
      | some a => rw [h] at hp; cases hp
    obtain ⟨rfl, _⟩ := h.none hp
    exact k nilS w (Ow.nil E w) (Chg.refl _ _) (fun k hk => by cases hk) (fun _ => rfl)
  · intro b2 w3 hb hw
    have hne : s.ptr ≠ Option.none := fun e => by rw [e] at hp; cases hp
    have hc : Chg No w w3 := by rw [hw]; exact Chg.alloc _ _ _
    have hlit : Ow E w3 ⟨some ⟨b2, 0, Option.none⟩, 0, 0⟩ [] := by
      rw [hw, hb]; exact Ow.lit w [] [] rfl (Nat.zero_le _)
    have hs3 : w.heap.size < w3.heap.size := by rw [hw]; simp
    refine app_ok ok rfl rfl hlit (h.no hc) (by
      have : (xs.length) * E.bytes ≤ 1000000000 * 1000 := Nat.mul_le_mul hsm hby
      simp only [List.length_nil, Nat.zero_add]; omega) (by simp only [List.length_nil, Nat.zero_add]; unfold maxLen; omega) ?_
    intro s' w5 h5 hc5 hbk
    refine k s' w5 (by simpa using h5) (hc.trans hc5 (fun _ _ h => h) (fun j hj he => ?_)) (fun j hj => ?_) (fun e => absurd e hne)
    · have : some b2 = some j := he
      cases this; omega
    · rcases hbk with hk | hk
      · have : (⟨some ⟨b2, 0, Option.none⟩, 0, 0⟩ : Sl).blk = some b2 := rfl
        rw [hk, this] at hj; cases hj; omega
      · rw [hk] at hj; cases hj; omega
theorem clone_ints {w : World} {s : Sl} {xs : List Int} (h : Rd intE w s xs) (hsm : xs.length ≤ 1000000000) : Calls Tryd.prog fn_slices_Clone_sl_int_int #[s.val] w fun e w' => ∃ s' : Sl, e = .returned s'.val ∧ Ow intE w' s' xs ∧ Chg No w w' ∧ (∀ k, s'.blk = some k → w.heap.size ≤ k) ∧ (s.ptr = none → s' = nilS) := by
  refine (slices_Clone_sl_int_int_lift (K := fun v w' => ∃ s' : Sl, v = s'.val ∧ Ow intE w' s' xs ∧ Chg No w w' ∧ (∀ k, s'.blk = some k → w.heap.size ≤ k) ∧ (s.ptr = none → s' = nilS)) ?_).mono (by rintro e w' ⟨v, rfl, s', rfl, h⟩; exact ⟨s', rfl, h⟩)
  unfold slices_Clone_sl_int_int_sh
  exact clone_core (K := fun v w' => ∃ s' : Sl, v = s'.val ∧ Ow intE w' s' xs ∧ Chg No w w' ∧ (∀ k, s'.blk = some k → w.heap.size ≤ k) ∧ (s.ptr = none → s' = nilS)) intOk (by decide) h hsm fun s' w' h1 h2 h3 h4 => ⟨s', rfl, h1, h2, h3, h4⟩
end Go.Proofs.YtkjpmkopnkkbmaaDoor

/- Functions of Inner, read without their frames; that each is enough. Printed by a program of mine (wip/lift/gen.py). -/
set_option maxRecDepth 100000
namespace Go.Proofs.YtkjpmkopnkkbmaaDoor
open Go.RowKit

-- holloway/inner.Run
def inner_Run_j1 (b38 : Nat) (I1 : Int → World → Prop) (fuel42 : Int) (μ1 : Int → World → Nat) (w40 : World) (b14 : Nat) (b46 : Bool) (w45 : World) (K : Value → World → Prop) : Prop :=
 brB b46
 (Calls Tryd.prog fn_inner_machine_advance #[.pointer (some ⟨b38, 0, none⟩)] w45 fun e47 w48 => e47 = .returned (.tuple #[]) ∧
 I1 (wr (fuel42 - (1 : Int))) w48 ∧ μ1 (wr (fuel42 - (1 : Int))) w48 < μ1 fuel42 w40)
 (∃ n_Ip49 : Int, ∃ n_Handler50 : Int, ∃ s_Stack51 : Sl, ∃ s_Back52 : Sl, ∃ s_Mem53 : Sl, ∃ t_Out54 : ByteArray, ∃ t_In55 : ByteArray, ∃ n_Read56 : Int, ∃ n_Status57 : Int, ∃ n_Code58 : Int, w45.cell? ⟨b38, 0, none⟩ = some (.int .i64 n_Ip49) ∧ w45.cell? ⟨b38, 1, none⟩ = some (.int .i64 n_Handler50) ∧ w45.cell? ⟨b38, 2, none⟩ = some (s_Stack51.val) ∧ w45.cell? ⟨b38, 3, none⟩ = some (s_Back52.val) ∧ w45.cell? ⟨b38, 4, none⟩ = some (s_Mem53.val) ∧ w45.cell? ⟨b38, 5, none⟩ = some (.string t_Out54) ∧ w45.cell? ⟨b38, 6, none⟩ = some (.string t_In55) ∧ w45.cell? ⟨b38, 7, none⟩ = some (.int .i64 n_Read56) ∧ w45.cell? ⟨b38, 8, none⟩ = some (.int .i64 n_Status57) ∧ w45.cell? ⟨b38, 9, none⟩ = some (.int .i64 n_Code58) ∧
 wrOk w45 ⟨b14, 0, none⟩ 10 ∧ ∀ w59 : World, w59 = stW w45 ⟨b14, 0, none⟩ 0 [.int .i64 n_Ip49, .int .i64 n_Handler50, s_Stack51.val, s_Back52.val, s_Mem53.val, .string t_Out54, .string t_In55, .int .i64 n_Read56, .int .i64 n_Status57, .int .i64 n_Code58] →
 ∃ r_Ip60 : Int, ∃ r_Handler61 : Int, ∃ r_Stack62 : Sl, ∃ r_Back63 : Sl, ∃ r_Mem64 : Sl, ∃ r_Out65 : ByteArray, ∃ r_In66 : ByteArray, ∃ r_Read67 : Int, ∃ r_Status68 : Int, ∃ r_Code69 : Int, w59.cell? ⟨b14, 0, none⟩ = some (.int .i64 r_Ip60) ∧ w59.cell? ⟨b14, 1, none⟩ = some (.int .i64 r_Handler61) ∧ w59.cell? ⟨b14, 2, none⟩ = some (r_Stack62.val) ∧ w59.cell? ⟨b14, 3, none⟩ = some (r_Back63.val) ∧ w59.cell? ⟨b14, 4, none⟩ = some (r_Mem64.val) ∧ w59.cell? ⟨b14, 5, none⟩ = some (.string r_Out65) ∧ w59.cell? ⟨b14, 6, none⟩ = some (.string r_In66) ∧ w59.cell? ⟨b14, 7, none⟩ = some (.int .i64 r_Read67) ∧ w59.cell? ⟨b14, 8, none⟩ = some (.int .i64 r_Status68) ∧ w59.cell? ⟨b14, 9, none⟩ = some (.int .i64 r_Code69) ∧
 K (.tuple #[.agg #[.int .i64 r_Ip60, .int .i64 r_Handler61, r_Stack62.val, r_Back63.val, r_Mem64.val, .string r_Out65, .string r_In66, .int .i64 r_Read67, .int .i64 r_Status68, .int .i64 r_Code69], .int .i64 fuel42]) w59)
def inner_Run_sh (s__Ip1 : Int) (s__Handler2 : Int) (s__Stack3 : Sl) (s__Back4 : Sl) (s__Mem5 : Sl) (s__Out6 : ByteArray) (s__In7 : ByteArray) (s__Read8 : Int) (s__Status9 : Int) (s__Code10 : Int) (fuel11 : Int) (w : World) (K : Value → World → Prop) : Prop :=
 ∀ (b12 : Nat) (w13 : World), b12 = w.heap.size → w13 = World.alloc w (.cells #[.int .i64 s__Ip1, .int .i64 s__Handler2, s__Stack3.val, s__Back4.val, s__Mem5.val, .string s__Out6, .string s__In7, .int .i64 s__Read8, .int .i64 s__Status9, .int .i64 s__Code10] T_api_State) →
 ∀ (b14 : Nat) (w15 : World), b14 = w13.heap.size → w15 = World.alloc w13 (.cells #[.int .i64 (0 : Int), .int .i64 (0 : Int), .slice none 0 0, .slice none 0 0, .slice none 0 0, .string (bs []), .string (bs []), .int .i64 (0 : Int), .int .i64 (0 : Int), .int .i64 (0 : Int)] T_api_State) →
 ∃ n_Ip16 : Int, ∃ n_Handler17 : Int, ∃ s_Stack18 : Sl, ∃ s_Back19 : Sl, ∃ s_Mem20 : Sl, ∃ t_Out21 : ByteArray, ∃ t_In22 : ByteArray, ∃ n_Read23 : Int, ∃ n_Status24 : Int, ∃ n_Code25 : Int, w15.cell? ⟨b12, 0, none⟩ = some (.int .i64 n_Ip16) ∧ w15.cell? ⟨b12, 1, none⟩ = some (.int .i64 n_Handler17) ∧ w15.cell? ⟨b12, 2, none⟩ = some (s_Stack18.val) ∧ w15.cell? ⟨b12, 3, none⟩ = some (s_Back19.val) ∧ w15.cell? ⟨b12, 4, none⟩ = some (s_Mem20.val) ∧ w15.cell? ⟨b12, 5, none⟩ = some (.string t_Out21) ∧ w15.cell? ⟨b12, 6, none⟩ = some (.string t_In22) ∧ w15.cell? ⟨b12, 7, none⟩ = some (.int .i64 n_Read23) ∧ w15.cell? ⟨b12, 8, none⟩ = some (.int .i64 n_Status24) ∧ w15.cell? ⟨b12, 9, none⟩ = some (.int .i64 n_Code25) ∧
 Calls Tryd.prog fn_inner_Copy #[.agg #[.int .i64 n_Ip16, .int .i64 n_Handler17, s_Stack18.val, s_Back19.val, s_Mem20.val, .string t_Out21, .string t_In22, .int .i64 n_Read23, .int .i64 n_Status24, .int .i64 n_Code25]] w15 fun e26 w27 => ∃ n_Ip28 : Int, ∃ n_Handler29 : Int, ∃ s_Stack30 : Sl, ∃ s_Back31 : Sl, ∃ s_Mem32 : Sl, ∃ t_Out33 : ByteArray, ∃ t_In34 : ByteArray, ∃ n_Read35 : Int, ∃ n_Status36 : Int, ∃ n_Code37 : Int, e26 = .returned (.agg #[.int .i64 n_Ip28, .int .i64 n_Handler29, s_Stack30.val, s_Back31.val, s_Mem32.val, .string t_Out33, .string t_In34, .int .i64 n_Read35, .int .i64 n_Status36, .int .i64 n_Code37]) ∧
 ∀ (b38 : Nat) (w39 : World), b38 = w27.heap.size → w39 = World.alloc w27 (.cells #[.int .i64 n_Ip28, .int .i64 n_Handler29, s_Stack30.val, s_Back31.val, s_Mem32.val, .string t_Out33, .string t_In34, .int .i64 n_Read35, .int .i64 n_Status36, .int .i64 n_Code37, .bool false] T_inner_machine) →
 ∃ (I1 : Int → World → Prop) (μ1 : Int → World → Nat), I1 fuel11 w39 ∧ ∀ (fuel42 : Int) (w40 : World), I1 fuel42 w40 →
 ∃ n41 : Int, w40.cell? ⟨b38, 8, none⟩ = some (.int .i64 n41) ∧
 brB (n41 == (0 : Int))
 (inner_Run_j1 b38 I1 fuel42 (μ1) w40 b14 (decide (fuel42 > (0 : Int))) w40 K)
 (inner_Run_j1 b38 I1 fuel42 (μ1) w40 b14 false w40 K)
def inner_Run_an : An := ⟨[(2, [(1, .int .i64)])], [], []⟩
theorem inner_Run_lift {s__Ip1 : Int} {s__Handler2 : Int} {s__Stack3 : Sl} {s__Back4 : Sl} {s__Mem5 : Sl} {s__Out6 : ByteArray} {s__In7 : ByteArray} {s__Read8 : Int} {s__Status9 : Int} {s__Code10 : Int} {fuel11 : Int} {w : World} {K : Value → World → Prop} (h : inner_Run_sh s__Ip1 s__Handler2 s__Stack3 s__Back4 s__Mem5 s__Out6 s__In7 s__Read8 s__Status9 s__Code10 fuel11 w K) : Calls Tryd.prog fn_inner_Run #[.agg #[.int .i64 s__Ip1, .int .i64 s__Handler2, s__Stack3.val, s__Back4.val, s__Mem5.val, .string s__Out6, .string s__In7, .int .i64 s__Read8, .int .i64 s__Status9, .int .i64 s__Code10], .int .i64 fuel11] w fun e w' => ∃ v, e = .returned v ∧ K v w' :=
   lift_calls (A := inner_Run_an) (c := bodyOf Tryd.f15) (args := [.agg #[.int .i64 s__Ip1, .int .i64 s__Handler2, s__Stack3.val, s__Back4.val, s__Mem5.val, .string s__Out6, .string s__In7, .int .i64 s__Read8, .int .i64 s__Status9, .int .i64 s__Code10], .int .i64 fuel11]) orc orc_wide Tryd.func15 (by kernel_rfl) (by kernel_rfl) (Eq.mp (by kernel_rfl : inner_Run_sh s__Ip1 s__Handler2 s__Stack3 s__Back4 s__Mem5 s__Out6 s__In7 s__Read8 s__Status9 s__Code10 fuel11 w K = wpc orc Tryd.f15.ntmps inner_Run_an (bodyOf Tryd.f15) (argl 0 [.agg #[.int .i64 s__Ip1, .int .i64 s__Handler2, s__Stack3.val, s__Back4.val, s__Mem5.val, .string s__Out6, .string s__In7, .int .i64 s__Read8, .int .i64 s__Status9, .int .i64 s__Code10], .int .i64 fuel11]) w (retQ orc Tryd.f15.results.toList K)) h)

-- holloway/inner.Copy
def inner_Copy_sh (s__Ip1 : Int) (s__Handler2 : Int) (s__Stack3 : Sl) (s__Back4 : Sl) (s__Mem5 : Sl) (s__Out6 : ByteArray) (s__In7 : ByteArray) (s__Read8 : Int) (s__Status9 : Int) (s__Code10 : Int) (w : World) (K : Value → World → Prop) : Prop :=
 ∀ (b11 : Nat) (w12 : World), b11 = w.heap.size → w12 = World.alloc w (.cells #[.int .i64 s__Ip1, .int .i64 s__Handler2, s__Stack3.val, s__Back4.val, s__Mem5.val, .string s__Out6, .string s__In7, .int .i64 s__Read8, .int .i64 s__Status9, .int .i64 s__Code10] T_api_State) →
 ∀ (b13 : Nat) (w14 : World), b13 = w12.heap.size → w14 = World.alloc w12 (.cells #[.int .i64 (0 : Int), .int .i64 (0 : Int), .slice none 0 0, .slice none 0 0, .slice none 0 0, .string (bs []), .string (bs []), .int .i64 (0 : Int), .int .i64 (0 : Int), .int .i64 (0 : Int)] T_api_State) →
 ∀ w15 : World, w15 = World.drew w14 →
 ∃ S16 : World → Prop, S16 w15 ∧
 ∃ s17 : Sl, held S16 ⟨b11, 2, none⟩ (s17.val) ∧
 ∃ s18 : Sl, held S16 ⟨b11, 3, none⟩ (s18.val) ∧
 ∃ s19 : Sl, held S16 ⟨b11, 4, none⟩ (s19.val) ∧
 Calls Tryd.prog fn_slices_Clone_sl_int_int #[s17.val] w15 fun e20 w21 => ∃ s22 : Sl, e20 = .returned (s22.val) ∧
 S16 w21 ∧
 Calls Tryd.prog fn_slices_Clone_sl_int_int #[s18.val] w21 fun e23 w24 => ∃ s25 : Sl, e23 = .returned (s25.val) ∧
 S16 w24 ∧
 Calls Tryd.prog fn_slices_Clone_sl_int_int #[s19.val] w24 fun e26 w27 => ∃ s28 : Sl, e26 = .returned (s28.val) ∧
 S16 w27 ∧
 wrOk w27 ⟨b11, 2, none⟩ 1 ∧ ∀ w29 : World, w29 = stW w27 ⟨b11, 2, none⟩ 0 [s22.val] →
 wrOk w29 ⟨b11, 3, none⟩ 1 ∧ ∀ w30 : World, w30 = stW w29 ⟨b11, 3, none⟩ 0 [s25.val] →
 wrOk w30 ⟨b11, 4, none⟩ 1 ∧ ∀ w31 : World, w31 = stW w30 ⟨b11, 4, none⟩ 0 [s28.val] →
 ∃ n_Ip32 : Int, ∃ n_Handler33 : Int, ∃ s_Stack34 : Sl, ∃ s_Back35 : Sl, ∃ s_Mem36 : Sl, ∃ t_Out37 : ByteArray, ∃ t_In38 : ByteArray, ∃ n_Read39 : Int, ∃ n_Status40 : Int, ∃ n_Code41 : Int, w31.cell? ⟨b11, 0, none⟩ = some (.int .i64 n_Ip32) ∧ w31.cell? ⟨b11, 1, none⟩ = some (.int .i64 n_Handler33) ∧ w31.cell? ⟨b11, 2, none⟩ = some (s_Stack34.val) ∧ w31.cell? ⟨b11, 3, none⟩ = some (s_Back35.val) ∧ w31.cell? ⟨b11, 4, none⟩ = some (s_Mem36.val) ∧ w31.cell? ⟨b11, 5, none⟩ = some (.string t_Out37) ∧ w31.cell? ⟨b11, 6, none⟩ = some (.string t_In38) ∧ w31.cell? ⟨b11, 7, none⟩ = some (.int .i64 n_Read39) ∧ w31.cell? ⟨b11, 8, none⟩ = some (.int .i64 n_Status40) ∧ w31.cell? ⟨b11, 9, none⟩ = some (.int .i64 n_Code41) ∧
 wrOk w31 ⟨b13, 0, none⟩ 10 ∧ ∀ w42 : World, w42 = stW w31 ⟨b13, 0, none⟩ 0 [.int .i64 n_Ip32, .int .i64 n_Handler33, s_Stack34.val, s_Back35.val, s_Mem36.val, .string t_Out37, .string t_In38, .int .i64 n_Read39, .int .i64 n_Status40, .int .i64 n_Code41] →
 ∃ r_Ip43 : Int, ∃ r_Handler44 : Int, ∃ r_Stack45 : Sl, ∃ r_Back46 : Sl, ∃ r_Mem47 : Sl, ∃ r_Out48 : ByteArray, ∃ r_In49 : ByteArray, ∃ r_Read50 : Int, ∃ r_Status51 : Int, ∃ r_Code52 : Int, w42.cell? ⟨b13, 0, none⟩ = some (.int .i64 r_Ip43) ∧ w42.cell? ⟨b13, 1, none⟩ = some (.int .i64 r_Handler44) ∧ w42.cell? ⟨b13, 2, none⟩ = some (r_Stack45.val) ∧ w42.cell? ⟨b13, 3, none⟩ = some (r_Back46.val) ∧ w42.cell? ⟨b13, 4, none⟩ = some (r_Mem47.val) ∧ w42.cell? ⟨b13, 5, none⟩ = some (.string r_Out48) ∧ w42.cell? ⟨b13, 6, none⟩ = some (.string r_In49) ∧ w42.cell? ⟨b13, 7, none⟩ = some (.int .i64 r_Read50) ∧ w42.cell? ⟨b13, 8, none⟩ = some (.int .i64 r_Status51) ∧ w42.cell? ⟨b13, 9, none⟩ = some (.int .i64 r_Code52) ∧
 K (.agg #[.int .i64 r_Ip43, .int .i64 r_Handler44, r_Stack45.val, r_Back46.val, r_Mem47.val, .string r_Out48, .string r_In49, .int .i64 r_Read50, .int .i64 r_Status51, .int .i64 r_Code52]) w42
def inner_Copy_an : An := ⟨[], [(1, (10, .st 0 (.st 1 (.st 3 (.st 4 (.st 6 (.st 7 (.ef 2 (.st 9 (.ef 5 (.ef 8 .done))))))))), 1))], []⟩
theorem inner_Copy_lift {s__Ip1 : Int} {s__Handler2 : Int} {s__Stack3 : Sl} {s__Back4 : Sl} {s__Mem5 : Sl} {s__Out6 : ByteArray} {s__In7 : ByteArray} {s__Read8 : Int} {s__Status9 : Int} {s__Code10 : Int} {w : World} {K : Value → World → Prop} (h : inner_Copy_sh s__Ip1 s__Handler2 s__Stack3 s__Back4 s__Mem5 s__Out6 s__In7 s__Read8 s__Status9 s__Code10 w K) : Calls Tryd.prog fn_inner_Copy #[.agg #[.int .i64 s__Ip1, .int .i64 s__Handler2, s__Stack3.val, s__Back4.val, s__Mem5.val, .string s__Out6, .string s__In7, .int .i64 s__Read8, .int .i64 s__Status9, .int .i64 s__Code10]] w fun e w' => ∃ v, e = .returned v ∧ K v w' :=
   lift_calls (A := inner_Copy_an) (c := bodyOf Tryd.f17) (args := [.agg #[.int .i64 s__Ip1, .int .i64 s__Handler2, s__Stack3.val, s__Back4.val, s__Mem5.val, .string s__Out6, .string s__In7, .int .i64 s__Read8, .int .i64 s__Status9, .int .i64 s__Code10]]) orc orc_wide Tryd.func17 (by kernel_rfl) (by kernel_rfl) (Eq.mp (by kernel_rfl : inner_Copy_sh s__Ip1 s__Handler2 s__Stack3 s__Back4 s__Mem5 s__Out6 s__In7 s__Read8 s__Status9 s__Code10 w K = wpc orc Tryd.f17.ntmps inner_Copy_an (bodyOf Tryd.f17) (argl 0 [.agg #[.int .i64 s__Ip1, .int .i64 s__Handler2, s__Stack3.val, s__Back4.val, s__Mem5.val, .string s__Out6, .string s__In7, .int .i64 s__Read8, .int .i64 s__Status9, .int .i64 s__Code10]]) w (retQ orc Tryd.f17.results.toList K)) h)

-- holloway/inner.Step
def inner_Step_sh (s__Ip1 : Int) (s__Handler2 : Int) (s__Stack3 : Sl) (s__Back4 : Sl) (s__Mem5 : Sl) (s__Out6 : ByteArray) (s__In7 : ByteArray) (s__Read8 : Int) (s__Status9 : Int) (s__Code10 : Int) (w : World) (K : Value → World → Prop) : Prop :=
 ∀ (b11 : Nat) (w12 : World), b11 = w.heap.size → w12 = World.alloc w (.cells #[.int .i64 s__Ip1, .int .i64 s__Handler2, s__Stack3.val, s__Back4.val, s__Mem5.val, .string s__Out6, .string s__In7, .int .i64 s__Read8, .int .i64 s__Status9, .int .i64 s__Code10] T_api_State) →
 ∀ (b13 : Nat) (w14 : World), b13 = w12.heap.size → w14 = World.alloc w12 (.cells #[.int .i64 (0 : Int), .int .i64 (0 : Int), .slice none 0 0, .slice none 0 0, .slice none 0 0, .string (bs []), .string (bs []), .int .i64 (0 : Int), .int .i64 (0 : Int), .int .i64 (0 : Int)] T_api_State) →
 ∃ n_Ip15 : Int, ∃ n_Handler16 : Int, ∃ s_Stack17 : Sl, ∃ s_Back18 : Sl, ∃ s_Mem19 : Sl, ∃ t_Out20 : ByteArray, ∃ t_In21 : ByteArray, ∃ n_Read22 : Int, ∃ n_Status23 : Int, ∃ n_Code24 : Int, w14.cell? ⟨b11, 0, none⟩ = some (.int .i64 n_Ip15) ∧ w14.cell? ⟨b11, 1, none⟩ = some (.int .i64 n_Handler16) ∧ w14.cell? ⟨b11, 2, none⟩ = some (s_Stack17.val) ∧ w14.cell? ⟨b11, 3, none⟩ = some (s_Back18.val) ∧ w14.cell? ⟨b11, 4, none⟩ = some (s_Mem19.val) ∧ w14.cell? ⟨b11, 5, none⟩ = some (.string t_Out20) ∧ w14.cell? ⟨b11, 6, none⟩ = some (.string t_In21) ∧ w14.cell? ⟨b11, 7, none⟩ = some (.int .i64 n_Read22) ∧ w14.cell? ⟨b11, 8, none⟩ = some (.int .i64 n_Status23) ∧ w14.cell? ⟨b11, 9, none⟩ = some (.int .i64 n_Code24) ∧
 Calls Tryd.prog fn_inner_Run #[.agg #[.int .i64 n_Ip15, .int .i64 n_Handler16, s_Stack17.val, s_Back18.val, s_Mem19.val, .string t_Out20, .string t_In21, .int .i64 n_Read22, .int .i64 n_Status23, .int .i64 n_Code24], .int .i64 (1 : Int)] w14 fun e25 w26 => ∃ n_Ip27 : Int, ∃ n_Handler28 : Int, ∃ s_Stack29 : Sl, ∃ s_Back30 : Sl, ∃ s_Mem31 : Sl, ∃ t_Out32 : ByteArray, ∃ t_In33 : ByteArray, ∃ n_Read34 : Int, ∃ n_Status35 : Int, ∃ n_Code36 : Int, ∃ n37 : Int, e25 = .returned (.tuple #[.agg #[.int .i64 n_Ip27, .int .i64 n_Handler28, s_Stack29.val, s_Back30.val, s_Mem31.val, .string t_Out32, .string t_In33, .int .i64 n_Read34, .int .i64 n_Status35, .int .i64 n_Code36], .int .i64 n37]) ∧
 ∀ (b38 : Nat) (w39 : World), b38 = w26.heap.size → w39 = World.alloc w26 (.cells #[.int .i64 (0 : Int), .int .i64 (0 : Int), .slice none 0 0, .slice none 0 0, .slice none 0 0, .string (bs []), .string (bs []), .int .i64 (0 : Int), .int .i64 (0 : Int), .int .i64 (0 : Int)] T_api_State) →
 wrOk w39 ⟨b38, 0, none⟩ 10 ∧ ∀ w40 : World, w40 = stW w39 ⟨b38, 0, none⟩ 0 [.int .i64 n_Ip27, .int .i64 n_Handler28, s_Stack29.val, s_Back30.val, s_Mem31.val, .string t_Out32, .string t_In33, .int .i64 n_Read34, .int .i64 n_Status35, .int .i64 n_Code36] →
 ∃ n_Ip41 : Int, ∃ n_Handler42 : Int, ∃ s_Stack43 : Sl, ∃ s_Back44 : Sl, ∃ s_Mem45 : Sl, ∃ t_Out46 : ByteArray, ∃ t_In47 : ByteArray, ∃ n_Read48 : Int, ∃ n_Status49 : Int, ∃ n_Code50 : Int, w40.cell? ⟨b38, 0, none⟩ = some (.int .i64 n_Ip41) ∧ w40.cell? ⟨b38, 1, none⟩ = some (.int .i64 n_Handler42) ∧ w40.cell? ⟨b38, 2, none⟩ = some (s_Stack43.val) ∧ w40.cell? ⟨b38, 3, none⟩ = some (s_Back44.val) ∧ w40.cell? ⟨b38, 4, none⟩ = some (s_Mem45.val) ∧ w40.cell? ⟨b38, 5, none⟩ = some (.string t_Out46) ∧ w40.cell? ⟨b38, 6, none⟩ = some (.string t_In47) ∧ w40.cell? ⟨b38, 7, none⟩ = some (.int .i64 n_Read48) ∧ w40.cell? ⟨b38, 8, none⟩ = some (.int .i64 n_Status49) ∧ w40.cell? ⟨b38, 9, none⟩ = some (.int .i64 n_Code50) ∧
 wrOk w40 ⟨b13, 0, none⟩ 10 ∧ ∀ w51 : World, w51 = stW w40 ⟨b13, 0, none⟩ 0 [.int .i64 n_Ip41, .int .i64 n_Handler42, s_Stack43.val, s_Back44.val, s_Mem45.val, .string t_Out46, .string t_In47, .int .i64 n_Read48, .int .i64 n_Status49, .int .i64 n_Code50] →
 ∃ r_Ip52 : Int, ∃ r_Handler53 : Int, ∃ r_Stack54 : Sl, ∃ r_Back55 : Sl, ∃ r_Mem56 : Sl, ∃ r_Out57 : ByteArray, ∃ r_In58 : ByteArray, ∃ r_Read59 : Int, ∃ r_Status60 : Int, ∃ r_Code61 : Int, w51.cell? ⟨b13, 0, none⟩ = some (.int .i64 r_Ip52) ∧ w51.cell? ⟨b13, 1, none⟩ = some (.int .i64 r_Handler53) ∧ w51.cell? ⟨b13, 2, none⟩ = some (r_Stack54.val) ∧ w51.cell? ⟨b13, 3, none⟩ = some (r_Back55.val) ∧ w51.cell? ⟨b13, 4, none⟩ = some (r_Mem56.val) ∧ w51.cell? ⟨b13, 5, none⟩ = some (.string r_Out57) ∧ w51.cell? ⟨b13, 6, none⟩ = some (.string r_In58) ∧ w51.cell? ⟨b13, 7, none⟩ = some (.int .i64 r_Read59) ∧ w51.cell? ⟨b13, 8, none⟩ = some (.int .i64 r_Status60) ∧ w51.cell? ⟨b13, 9, none⟩ = some (.int .i64 r_Code61) ∧
 K (.agg #[.int .i64 r_Ip52, .int .i64 r_Handler53, r_Stack54.val, r_Back55.val, r_Mem56.val, .string r_Out57, .string r_In58, .int .i64 r_Read59, .int .i64 r_Status60, .int .i64 r_Code61]) w51
def inner_Step_an : An := ⟨[], [], []⟩
theorem inner_Step_lift {s__Ip1 : Int} {s__Handler2 : Int} {s__Stack3 : Sl} {s__Back4 : Sl} {s__Mem5 : Sl} {s__Out6 : ByteArray} {s__In7 : ByteArray} {s__Read8 : Int} {s__Status9 : Int} {s__Code10 : Int} {w : World} {K : Value → World → Prop} (h : inner_Step_sh s__Ip1 s__Handler2 s__Stack3 s__Back4 s__Mem5 s__Out6 s__In7 s__Read8 s__Status9 s__Code10 w K) : Calls Tryd.prog fn_inner_Step #[.agg #[.int .i64 s__Ip1, .int .i64 s__Handler2, s__Stack3.val, s__Back4.val, s__Mem5.val, .string s__Out6, .string s__In7, .int .i64 s__Read8, .int .i64 s__Status9, .int .i64 s__Code10]] w fun e w' => ∃ v, e = .returned v ∧ K v w' :=
   lift_calls (A := inner_Step_an) (c := bodyOf Tryd.f21) (args := [.agg #[.int .i64 s__Ip1, .int .i64 s__Handler2, s__Stack3.val, s__Back4.val, s__Mem5.val, .string s__Out6, .string s__In7, .int .i64 s__Read8, .int .i64 s__Status9, .int .i64 s__Code10]]) orc orc_wide Tryd.func21 (by kernel_rfl) (by kernel_rfl) (Eq.mp (by kernel_rfl : inner_Step_sh s__Ip1 s__Handler2 s__Stack3 s__Back4 s__Mem5 s__Out6 s__In7 s__Read8 s__Status9 s__Code10 w K = wpc orc Tryd.f21.ntmps inner_Step_an (bodyOf Tryd.f21) (argl 0 [.agg #[.int .i64 s__Ip1, .int .i64 s__Handler2, s__Stack3.val, s__Back4.val, s__Mem5.val, .string s__Out6, .string s__In7, .int .i64 s__Read8, .int .i64 s__Status9, .int .i64 s__Code10]]) w (retQ orc Tryd.f21.results.toList K)) h)

-- holloway/inner.Boot
def inner_Boot_sh (n_1 : Int) (in_2 : ByteArray) (w : World) (K : Value → World → Prop) : Prop :=
 ∀ (b3 : Nat) (w4 : World), b3 = w.heap.size → w4 = World.alloc w (.cells #[.int .i64 (0 : Int), .int .i64 (0 : Int), .slice none 0 0, .slice none 0 0, .slice none 0 0, .string (bs []), .string (bs []), .int .i64 (0 : Int), .int .i64 (0 : Int), .int .i64 (0 : Int)] T_api_State) →
 ∃ s5 : Sl, ∃ w6 : World, (Instr.makeSlice T_sl_int (.int .i64 (imin (imax n_1 (0 : Int)) (3000 : Int))) (.int .i64 (imin (imax n_1 (0 : Int)) (3000 : Int)))).run Tryd.prog w4 = .ok s5.val w6 ∧
 ∀ (b7 : Nat) (w8 : World), b7 = w6.heap.size → w8 = World.alloc w6 (.cells #[.int .i64 (0 : Int), .int .i64 (0 : Int), .slice none 0 0, .slice none 0 0, .slice none 0 0, .string (bs []), .string (bs []), .int .i64 (0 : Int), .int .i64 (0 : Int), .int .i64 (0 : Int)] T_api_State) →
 wrOk w8 ⟨b7, 0, none⟩ 10 ∧ ∀ w9 : World, w9 = stW w8 ⟨b7, 0, none⟩ 0 [.int .i64 (0 : Int), .int .i64 (0 : Int), .slice none 0 0, .slice none 0 0, s5.val, .string (bs []), .string in_2, .int .i64 (0 : Int), .int .i64 (1 : Int), .int .i64 (0 : Int)] →
 ∃ (g10 : FuncId) (fs11 cs12 : Array Value), (.func (.func fn_inner_Boot_1) #[] #[.pointer (some ⟨b7, 0, none⟩)] : Value) = .func (.func g10) fs11 cs12 ∧ (∀ args w, (callFunc g10 args).run Tryd.prog w = .ok (.enter g10 args) w) ∧
 Calls Tryd.prog g10 (((fs11.toList ++ [(.int .i64 (0 : Int) : Value)]) ++ [(.int .i64 (0 : Int) : Value)]) ++ cs12.toList).toArray w9 fun e13 w14 => e13 = .returned (.tuple #[]) ∧
 ∃ (g15 : FuncId) (fs16 cs17 : Array Value), (.func (.func fn_inner_Boot_1) #[] #[.pointer (some ⟨b7, 0, none⟩)] : Value) = .func (.func g15) fs16 cs17 ∧ (∀ args w, (callFunc g15 args).run Tryd.prog w = .ok (.enter g15 args) w) ∧
 Calls Tryd.prog g15 (((fs16.toList ++ [(.int .i64 (1 : Int) : Value)]) ++ [(.int .i64 (1 : Int) : Value)]) ++ cs17.toList).toArray w14 fun e18 w19 => e18 = .returned (.tuple #[]) ∧
 ∃ (I1 : Int → World → Prop) (μ1 : Int → World → Nat), I1 (0 : Int) w19 ∧ ∀ (n21 : Int) (w20 : World), I1 n21 w20 →
 brB (decide (n21 < (48 : Int)))
 (∃ (g22 : FuncId) (fs23 cs24 : Array Value), (.func (.func fn_inner_Boot_1) #[] #[.pointer (some ⟨b7, 0, none⟩)] : Value) = .func (.func g22) fs23 cs24 ∧ (∀ args w, (callFunc g22 args).run Tryd.prog w = .ok (.enter g22 args) w) ∧
 Calls Tryd.prog g22 (((fs23.toList ++ [(.int .i64 (wr ((64 : Int) + (wr ((2 : Int) * n21)))) : Value)]) ++ [(.int .i64 n21 : Value)]) ++ cs24.toList).toArray w20 fun e25 w26 => e25 = .returned (.tuple #[]) ∧
 ∃ (g27 : FuncId) (fs28 cs29 : Array Value), (.func (.func fn_inner_Boot_1) #[] #[.pointer (some ⟨b7, 0, none⟩)] : Value) = .func (.func g27) fs28 cs29 ∧ (∀ args w, (callFunc g27 args).run Tryd.prog w = .ok (.enter g27 args) w) ∧
 Calls Tryd.prog g27 (((fs28.toList ++ [(.int .i64 (wr ((wr ((64 : Int) + (wr ((2 : Int) * n21)))) + (1 : Int))) : Value)]) ++ [(.int .i64 (5 : Int) : Value)]) ++ cs29.toList).toArray w26 fun e30 w31 => e30 = .returned (.tuple #[]) ∧
 I1 (wr (n21 + (1 : Int))) w31 ∧ μ1 (wr (n21 + (1 : Int))) w31 < μ1 n21 w20)
 (∃ n_Ip32 : Int, ∃ n_Handler33 : Int, ∃ s_Stack34 : Sl, ∃ s_Back35 : Sl, ∃ s_Mem36 : Sl, ∃ t_Out37 : ByteArray, ∃ t_In38 : ByteArray, ∃ n_Read39 : Int, ∃ n_Status40 : Int, ∃ n_Code41 : Int, w20.cell? ⟨b7, 0, none⟩ = some (.int .i64 n_Ip32) ∧ w20.cell? ⟨b7, 1, none⟩ = some (.int .i64 n_Handler33) ∧ w20.cell? ⟨b7, 2, none⟩ = some (s_Stack34.val) ∧ w20.cell? ⟨b7, 3, none⟩ = some (s_Back35.val) ∧ w20.cell? ⟨b7, 4, none⟩ = some (s_Mem36.val) ∧ w20.cell? ⟨b7, 5, none⟩ = some (.string t_Out37) ∧ w20.cell? ⟨b7, 6, none⟩ = some (.string t_In38) ∧ w20.cell? ⟨b7, 7, none⟩ = some (.int .i64 n_Read39) ∧ w20.cell? ⟨b7, 8, none⟩ = some (.int .i64 n_Status40) ∧ w20.cell? ⟨b7, 9, none⟩ = some (.int .i64 n_Code41) ∧
 wrOk w20 ⟨b3, 0, none⟩ 10 ∧ ∀ w42 : World, w42 = stW w20 ⟨b3, 0, none⟩ 0 [.int .i64 n_Ip32, .int .i64 n_Handler33, s_Stack34.val, s_Back35.val, s_Mem36.val, .string t_Out37, .string t_In38, .int .i64 n_Read39, .int .i64 n_Status40, .int .i64 n_Code41] →
 ∃ r_Ip43 : Int, ∃ r_Handler44 : Int, ∃ r_Stack45 : Sl, ∃ r_Back46 : Sl, ∃ r_Mem47 : Sl, ∃ r_Out48 : ByteArray, ∃ r_In49 : ByteArray, ∃ r_Read50 : Int, ∃ r_Status51 : Int, ∃ r_Code52 : Int, w42.cell? ⟨b3, 0, none⟩ = some (.int .i64 r_Ip43) ∧ w42.cell? ⟨b3, 1, none⟩ = some (.int .i64 r_Handler44) ∧ w42.cell? ⟨b3, 2, none⟩ = some (r_Stack45.val) ∧ w42.cell? ⟨b3, 3, none⟩ = some (r_Back46.val) ∧ w42.cell? ⟨b3, 4, none⟩ = some (r_Mem47.val) ∧ w42.cell? ⟨b3, 5, none⟩ = some (.string r_Out48) ∧ w42.cell? ⟨b3, 6, none⟩ = some (.string r_In49) ∧ w42.cell? ⟨b3, 7, none⟩ = some (.int .i64 r_Read50) ∧ w42.cell? ⟨b3, 8, none⟩ = some (.int .i64 r_Status51) ∧ w42.cell? ⟨b3, 9, none⟩ = some (.int .i64 r_Code52) ∧
 K (.agg #[.int .i64 r_Ip43, .int .i64 r_Handler44, r_Stack45.val, r_Back46.val, r_Mem47.val, .string r_Out48, .string r_In49, .int .i64 r_Read50, .int .i64 r_Status51, .int .i64 r_Code52]) w42)
def inner_Boot_an : An := ⟨[(6, [(19, .int .i64)])], [], []⟩
theorem inner_Boot_lift {n_1 : Int} {in_2 : ByteArray} {w : World} {K : Value → World → Prop} (h : inner_Boot_sh n_1 in_2 w K) : Calls Tryd.prog fn_inner_Boot #[.int .i64 n_1, .string in_2] w fun e w' => ∃ v, e = .returned v ∧ K v w' :=
   lift_calls (A := inner_Boot_an) (c := bodyOf Tryd.f31) (args := [.int .i64 n_1, .string in_2]) orc orc_wide Tryd.func31 (by kernel_rfl) (by kernel_rfl) (Eq.mp (by kernel_rfl : inner_Boot_sh n_1 in_2 w K = wpc orc Tryd.f31.ntmps inner_Boot_an (bodyOf Tryd.f31) (argl 0 [.int .i64 n_1, .string in_2]) w (retQ orc Tryd.f31.results.toList K)) h)

-- holloway/inner.Enter
def inner_Enter_sh (s__Ip1 : Int) (s__Handler2 : Int) (s__Stack3 : Sl) (s__Back4 : Sl) (s__Mem5 : Sl) (s__Out6 : ByteArray) (s__In7 : ByteArray) (s__Read8 : Int) (s__Status9 : Int) (s__Code10 : Int) (xt11 : Int) (w : World) (K : Value → World → Prop) : Prop :=
 ∀ (b12 : Nat) (w13 : World), b12 = w.heap.size → w13 = World.alloc w (.cells #[.int .i64 s__Ip1, .int .i64 s__Handler2, s__Stack3.val, s__Back4.val, s__Mem5.val, .string s__Out6, .string s__In7, .int .i64 s__Read8, .int .i64 s__Status9, .int .i64 s__Code10] T_api_State) →
 ∀ (b14 : Nat) (w15 : World), b14 = w13.heap.size → w15 = World.alloc w13 (.cells #[.int .i64 (0 : Int), .int .i64 (0 : Int), .slice none 0 0, .slice none 0 0, .slice none 0 0, .string (bs []), .string (bs []), .int .i64 (0 : Int), .int .i64 (0 : Int), .int .i64 (0 : Int)] T_api_State) →
 ∃ n_Ip16 : Int, ∃ n_Handler17 : Int, ∃ s_Stack18 : Sl, ∃ s_Back19 : Sl, ∃ s_Mem20 : Sl, ∃ t_Out21 : ByteArray, ∃ t_In22 : ByteArray, ∃ n_Read23 : Int, ∃ n_Status24 : Int, ∃ n_Code25 : Int, w15.cell? ⟨b12, 0, none⟩ = some (.int .i64 n_Ip16) ∧ w15.cell? ⟨b12, 1, none⟩ = some (.int .i64 n_Handler17) ∧ w15.cell? ⟨b12, 2, none⟩ = some (s_Stack18.val) ∧ w15.cell? ⟨b12, 3, none⟩ = some (s_Back19.val) ∧ w15.cell? ⟨b12, 4, none⟩ = some (s_Mem20.val) ∧ w15.cell? ⟨b12, 5, none⟩ = some (.string t_Out21) ∧ w15.cell? ⟨b12, 6, none⟩ = some (.string t_In22) ∧ w15.cell? ⟨b12, 7, none⟩ = some (.int .i64 n_Read23) ∧ w15.cell? ⟨b12, 8, none⟩ = some (.int .i64 n_Status24) ∧ w15.cell? ⟨b12, 9, none⟩ = some (.int .i64 n_Code25) ∧
 Calls Tryd.prog fn_inner_Copy #[.agg #[.int .i64 n_Ip16, .int .i64 n_Handler17, s_Stack18.val, s_Back19.val, s_Mem20.val, .string t_Out21, .string t_In22, .int .i64 n_Read23, .int .i64 n_Status24, .int .i64 n_Code25]] w15 fun e26 w27 => ∃ n_Ip28 : Int, ∃ n_Handler29 : Int, ∃ s_Stack30 : Sl, ∃ s_Back31 : Sl, ∃ s_Mem32 : Sl, ∃ t_Out33 : ByteArray, ∃ t_In34 : ByteArray, ∃ n_Read35 : Int, ∃ n_Status36 : Int, ∃ n_Code37 : Int, e26 = .returned (.agg #[.int .i64 n_Ip28, .int .i64 n_Handler29, s_Stack30.val, s_Back31.val, s_Mem32.val, .string t_Out33, .string t_In34, .int .i64 n_Read35, .int .i64 n_Status36, .int .i64 n_Code37]) ∧
 wrOk w27 ⟨b12, 0, none⟩ 10 ∧ ∀ w38 : World, w38 = stW w27 ⟨b12, 0, none⟩ 0 [.int .i64 n_Ip28, .int .i64 n_Handler29, s_Stack30.val, s_Back31.val, s_Mem32.val, .string t_Out33, .string t_In34, .int .i64 n_Read35, .int .i64 n_Status36, .int .i64 n_Code37] →
 ∀ (b39 : Nat) (w40 : World), b39 = w38.heap.size → w40 = World.alloc w38 (.cells #[.int .i64 (0 : Int)] T_int) →
 wrOk w40 ⟨b12, 0, none⟩ 1 ∧ ∀ w41 : World, w41 = stW w40 ⟨b12, 0, none⟩ 0 [.int .i64 xt11] →
 wrOk w41 ⟨b12, 1, none⟩ 1 ∧ ∀ w42 : World, w42 = stW w41 ⟨b12, 1, none⟩ 0 [.int .i64 (0 : Int)] →
 wrOk w42 ⟨b12, 3, none⟩ 1 ∧ ∀ w43 : World, w43 = stW w42 ⟨b12, 3, none⟩ 0 [.slice (some ⟨b39, 0, none⟩) 1 1] →
 wrOk w43 ⟨b12, 8, none⟩ 1 ∧ ∀ w44 : World, w44 = stW w43 ⟨b12, 8, none⟩ 0 [.int .i64 (0 : Int)] →
 wrOk w44 ⟨b12, 9, none⟩ 1 ∧ ∀ w45 : World, w45 = stW w44 ⟨b12, 9, none⟩ 0 [.int .i64 (0 : Int)] →
 ∃ n_Ip46 : Int, ∃ n_Handler47 : Int, ∃ s_Stack48 : Sl, ∃ s_Back49 : Sl, ∃ s_Mem50 : Sl, ∃ t_Out51 : ByteArray, ∃ t_In52 : ByteArray, ∃ n_Read53 : Int, ∃ n_Status54 : Int, ∃ n_Code55 : Int, w45.cell? ⟨b12, 0, none⟩ = some (.int .i64 n_Ip46) ∧ w45.cell? ⟨b12, 1, none⟩ = some (.int .i64 n_Handler47) ∧ w45.cell? ⟨b12, 2, none⟩ = some (s_Stack48.val) ∧ w45.cell? ⟨b12, 3, none⟩ = some (s_Back49.val) ∧ w45.cell? ⟨b12, 4, none⟩ = some (s_Mem50.val) ∧ w45.cell? ⟨b12, 5, none⟩ = some (.string t_Out51) ∧ w45.cell? ⟨b12, 6, none⟩ = some (.string t_In52) ∧ w45.cell? ⟨b12, 7, none⟩ = some (.int .i64 n_Read53) ∧ w45.cell? ⟨b12, 8, none⟩ = some (.int .i64 n_Status54) ∧ w45.cell? ⟨b12, 9, none⟩ = some (.int .i64 n_Code55) ∧
 wrOk w45 ⟨b14, 0, none⟩ 10 ∧ ∀ w56 : World, w56 = stW w45 ⟨b14, 0, none⟩ 0 [.int .i64 n_Ip46, .int .i64 n_Handler47, s_Stack48.val, s_Back49.val, s_Mem50.val, .string t_Out51, .string t_In52, .int .i64 n_Read53, .int .i64 n_Status54, .int .i64 n_Code55] →
 ∃ r_Ip57 : Int, ∃ r_Handler58 : Int, ∃ r_Stack59 : Sl, ∃ r_Back60 : Sl, ∃ r_Mem61 : Sl, ∃ r_Out62 : ByteArray, ∃ r_In63 : ByteArray, ∃ r_Read64 : Int, ∃ r_Status65 : Int, ∃ r_Code66 : Int, w56.cell? ⟨b14, 0, none⟩ = some (.int .i64 r_Ip57) ∧ w56.cell? ⟨b14, 1, none⟩ = some (.int .i64 r_Handler58) ∧ w56.cell? ⟨b14, 2, none⟩ = some (r_Stack59.val) ∧ w56.cell? ⟨b14, 3, none⟩ = some (r_Back60.val) ∧ w56.cell? ⟨b14, 4, none⟩ = some (r_Mem61.val) ∧ w56.cell? ⟨b14, 5, none⟩ = some (.string r_Out62) ∧ w56.cell? ⟨b14, 6, none⟩ = some (.string r_In63) ∧ w56.cell? ⟨b14, 7, none⟩ = some (.int .i64 r_Read64) ∧ w56.cell? ⟨b14, 8, none⟩ = some (.int .i64 r_Status65) ∧ w56.cell? ⟨b14, 9, none⟩ = some (.int .i64 r_Code66) ∧
 K (.agg #[.int .i64 r_Ip57, .int .i64 r_Handler58, r_Stack59.val, r_Back60.val, r_Mem61.val, .string r_Out62, .string r_In63, .int .i64 r_Read64, .int .i64 r_Status65, .int .i64 r_Code66]) w56
def inner_Enter_an : An := ⟨[], [], []⟩
theorem inner_Enter_lift {s__Ip1 : Int} {s__Handler2 : Int} {s__Stack3 : Sl} {s__Back4 : Sl} {s__Mem5 : Sl} {s__Out6 : ByteArray} {s__In7 : ByteArray} {s__Read8 : Int} {s__Status9 : Int} {s__Code10 : Int} {xt11 : Int} {w : World} {K : Value → World → Prop} (h : inner_Enter_sh s__Ip1 s__Handler2 s__Stack3 s__Back4 s__Mem5 s__Out6 s__In7 s__Read8 s__Status9 s__Code10 xt11 w K) : Calls Tryd.prog fn_inner_Enter #[.agg #[.int .i64 s__Ip1, .int .i64 s__Handler2, s__Stack3.val, s__Back4.val, s__Mem5.val, .string s__Out6, .string s__In7, .int .i64 s__Read8, .int .i64 s__Status9, .int .i64 s__Code10], .int .i64 xt11] w fun e w' => ∃ v, e = .returned v ∧ K v w' :=
   lift_calls (A := inner_Enter_an) (c := bodyOf Tryd.f32) (args := [.agg #[.int .i64 s__Ip1, .int .i64 s__Handler2, s__Stack3.val, s__Back4.val, s__Mem5.val, .string s__Out6, .string s__In7, .int .i64 s__Read8, .int .i64 s__Status9, .int .i64 s__Code10], .int .i64 xt11]) orc orc_wide Tryd.func32 (by kernel_rfl) (by kernel_rfl) (Eq.mp (by kernel_rfl : inner_Enter_sh s__Ip1 s__Handler2 s__Stack3 s__Back4 s__Mem5 s__Out6 s__In7 s__Read8 s__Status9 s__Code10 xt11 w K = wpc orc Tryd.f32.ntmps inner_Enter_an (bodyOf Tryd.f32) (argl 0 [.agg #[.int .i64 s__Ip1, .int .i64 s__Handler2, s__Stack3.val, s__Back4.val, s__Mem5.val, .string s__Out6, .string s__In7, .int .i64 s__Read8, .int .i64 s__Status9, .int .i64 s__Code10], .int .i64 xt11]) w (retQ orc Tryd.f32.results.toList K)) h)

-- (*holloway/inner.machine).advance
def inner_machine_advance_sh (m_1 : Nat) (w : World) (K : Value → World → Prop) : Prop :=
 ∃ n_Ip2 : Int, ∃ n_Handler3 : Int, ∃ s_Stack4 : Sl, ∃ s_Back5 : Sl, ∃ s_Mem6 : Sl, ∃ t_Out7 : ByteArray, ∃ t_In8 : ByteArray, ∃ n_Read9 : Int, ∃ n_Status10 : Int, ∃ n_Code11 : Int, w.cell? ⟨m_1, 0, none⟩ = some (.int .i64 n_Ip2) ∧ w.cell? ⟨m_1, 1, none⟩ = some (.int .i64 n_Handler3) ∧ w.cell? ⟨m_1, 2, none⟩ = some (s_Stack4.val) ∧ w.cell? ⟨m_1, 3, none⟩ = some (s_Back5.val) ∧ w.cell? ⟨m_1, 4, none⟩ = some (s_Mem6.val) ∧ w.cell? ⟨m_1, 5, none⟩ = some (.string t_Out7) ∧ w.cell? ⟨m_1, 6, none⟩ = some (.string t_In8) ∧ w.cell? ⟨m_1, 7, none⟩ = some (.int .i64 n_Read9) ∧ w.cell? ⟨m_1, 8, none⟩ = some (.int .i64 n_Status10) ∧ w.cell? ⟨m_1, 9, none⟩ = some (.int .i64 n_Code11) ∧
 ∀ (b12 : Nat) (w13 : World), b12 = w.heap.size → w13 = World.alloc w (.cells #[.int .i64 (0 : Int), .int .i64 (0 : Int), .slice none 0 0, .slice none 0 0, .slice none 0 0, .string (bs []), .string (bs []), .int .i64 (0 : Int), .int .i64 (0 : Int), .int .i64 (0 : Int)] T_api_State) →
 wrOk w13 ⟨b12, 0, none⟩ 10 ∧ ∀ w14 : World, w14 = stW w13 ⟨b12, 0, none⟩ 0 [.int .i64 n_Ip2, .int .i64 n_Handler3, s_Stack4.val, s_Back5.val, s_Mem6.val, .string t_Out7, .string t_In8, .int .i64 n_Read9, .int .i64 n_Status10, .int .i64 n_Code11] →
 ∀ w15 : World, w15 = World.drew w14 →
 ∃ S16 : World → Prop, S16 w15 ∧
 ∃ s17 : Sl, held S16 ⟨m_1, 2, none⟩ (s17.val) ∧
 ∃ s18 : Sl, held S16 ⟨m_1, 3, none⟩ (s18.val) ∧
 Calls Tryd.prog fn_slices_Clone_sl_int_int #[s17.val] w15 fun e19 w20 => ∃ s21 : Sl, e19 = .returned (s21.val) ∧
 S16 w20 ∧
 Calls Tryd.prog fn_slices_Clone_sl_int_int #[s18.val] w20 fun e22 w23 => ∃ s24 : Sl, e22 = .returned (s24.val) ∧
 S16 w23 ∧
 wrOk w23 ⟨b12, 2, none⟩ 1 ∧ ∀ w25 : World, w25 = stW w23 ⟨b12, 2, none⟩ 0 [s21.val] →
 wrOk w25 ⟨b12, 3, none⟩ 1 ∧ ∀ w26 : World, w26 = stW w25 ⟨b12, 3, none⟩ 0 [s24.val] →
 wrOk w26 ⟨m_1, 10, none⟩ 1 ∧ ∀ w27 : World, w27 = stW w26 ⟨m_1, 10, none⟩ 0 [.bool false] →
 Calls Tryd.prog fn_inner_machine_step #[.pointer (some ⟨m_1, 0, none⟩)] w27 fun e28 w29 => ∃ v30 : Value, e28 = .returned (v30) ∧
 ∃ b31 : Bool, ∃ w32 : World, ((do eqGuard .eql T_error (.tmp 27) (.const (.nilIface)) (v30) (.nilIface); binOp .eql T_error (v30) (.nilIface) : Sem Value)).run Tryd.prog w29 = .ok (.bool b31) w32 ∧
 brB b31
 (K (.tuple #[]) w32)
 (∃ J7 : World → Prop, (∀ (w38 : World), J7  w38 →
 ∀ w39 : World, w39 = World.drew w38 →
 ∃ S40 : World → Prop, S40 w39 ∧
 ∃ n_Ip41 : Int, ∃ n_Handler42 : Int, ∃ s_Stack43 : Sl, ∃ s_Back44 : Sl, ∃ s_Mem45 : Sl, ∃ t_Out46 : ByteArray, ∃ t_In47 : ByteArray, ∃ n_Read48 : Int, ∃ n_Status49 : Int, ∃ n_Code50 : Int, held S40 ⟨b12, 0, none⟩ (.int .i64 n_Ip41) ∧ held S40 ⟨b12, 1, none⟩ (.int .i64 n_Handler42) ∧ held S40 ⟨b12, 2, none⟩ (s_Stack43.val) ∧ held S40 ⟨b12, 3, none⟩ (s_Back44.val) ∧ held S40 ⟨b12, 4, none⟩ (s_Mem45.val) ∧ held S40 ⟨b12, 5, none⟩ (.string t_Out46) ∧ held S40 ⟨b12, 6, none⟩ (.string t_In47) ∧ held S40 ⟨b12, 7, none⟩ (.int .i64 n_Read48) ∧ held S40 ⟨b12, 8, none⟩ (.int .i64 n_Status49) ∧ held S40 ⟨b12, 9, none⟩ (.int .i64 n_Code50) ∧
 Calls Tryd.prog fn_fault_Code #[v30] w39 fun e51 w52 => ∃ n53 : Int, e51 = .returned (.int .i64 n53) ∧
 S40 w52 ∧
 Calls Tryd.prog fn_inner_faulty #[.agg #[.int .i64 n_Ip41, .int .i64 n_Handler42, s_Stack43.val, s_Back44.val, s_Mem45.val, .string t_Out46, .string t_In47, .int .i64 n_Read48, .int .i64 n_Status49, .int .i64 n_Code50], .int .i64 n53] w52 fun e54 w55 => ∃ n_Ip56 : Int, ∃ n_Handler57 : Int, ∃ s_Stack58 : Sl, ∃ s_Back59 : Sl, ∃ s_Mem60 : Sl, ∃ t_Out61 : ByteArray, ∃ t_In62 : ByteArray, ∃ n_Read63 : Int, ∃ n_Status64 : Int, ∃ n_Code65 : Int, e54 = .returned (.agg #[.int .i64 n_Ip56, .int .i64 n_Handler57, s_Stack58.val, s_Back59.val, s_Mem60.val, .string t_Out61, .string t_In62, .int .i64 n_Read63, .int .i64 n_Status64, .int .i64 n_Code65]) ∧
 S40 w55 ∧
 wrOk w55 ⟨m_1, 0, none⟩ 10 ∧ ∀ w66 : World, w66 = stW w55 ⟨m_1, 0, none⟩ 0 [.int .i64 n_Ip56, .int .i64 n_Handler57, s_Stack58.val, s_Back59.val, s_Mem60.val, .string t_Out61, .string t_In62, .int .i64 n_Read63, .int .i64 n_Status64, .int .i64 n_Code65] →
 K (.tuple #[]) w66) ∧
 ∃ b33 : Bool, w32.cell? ⟨m_1, 10, none⟩ = some (.bool b33) ∧
 brB b33
 (∃ s34 : Sl, w32.cell? ⟨b12, 2, none⟩ = some (s34.val) ∧
 ∃ s35 : Sl, w32.cell? ⟨b12, 2, none⟩ = some (s35.val) ∧
 0 ≤ (wr ((s35.len : Int) - (1 : Int))) ∧ (wr ((s35.len : Int) - (1 : Int))) ≤ (s34.cap : Int) ∧ ∀ s36 : Sl, s36 = Sl.sub s34.ptr s34.cap 0 (Int.toNat (wr ((s35.len : Int) - (1 : Int)))) 1 →
 wrOk w32 ⟨b12, 2, none⟩ 1 ∧ ∀ w37 : World, w37 = stW w32 ⟨b12, 2, none⟩ 0 [s36.val] →
 J7  w37)
 (J7  w32))
def inner_machine_advance_an : An := ⟨[], [(1, (13, .st 0 (.st 1 (.st 2 (.st 3 (.st 4 (.st 6 (.st 7 (.st 8 (.st 9 (.st 10 (.ef 5 (.st 12 (.ef 11 .done)))))))))))), 1)), (7, (5, .st 0 (.st 1 (.st 2 (.ef 3 (.ef 4 .done)))), 1))], [(7, [])]⟩
theorem inner_machine_advance_lift {m_1 : Nat} {w : World} {K : Value → World → Prop} (h : inner_machine_advance_sh m_1 w K) : Calls Tryd.prog fn_inner_machine_advance #[.pointer (some ⟨m_1, 0, none⟩)] w fun e w' => ∃ v, e = .returned v ∧ K v w' :=
   lift_calls (A := inner_machine_advance_an) (c := bodyOf Tryd.f33) (args := [.pointer (some ⟨m_1, 0, none⟩)]) orc orc_wide Tryd.func33 (by kernel_rfl) (by kernel_rfl) (Eq.mp (by kernel_rfl : inner_machine_advance_sh m_1 w K = wpc orc Tryd.f33.ntmps inner_machine_advance_an (bodyOf Tryd.f33) (argl 0 [.pointer (some ⟨m_1, 0, none⟩)]) w (retQ orc Tryd.f33.results.toList K)) h)

-- holloway/inner.Boot$1
def inner_Boot_1_sh (a_1 : Int) (v_2 : Int) (c3 : Nat) (w : World) (K : Value → World → Prop) : Prop :=
 ∃ s4 : Sl, w.cell? ⟨c3, 4, none⟩ = some (s4.val) ∧
 brB (decide (a_1 < (s4.len : Int)))
 (∃ s5 : Sl, w.cell? ⟨c3, 4, none⟩ = some (s5.val) ∧
 ∃ a6 : Addr, s5.ptr = some a6 ∧ 0 ≤ a_1 ∧ a_1 < (s5.len : Int) ∧
 wrOk w (Addr.add a6 (Int.toNat a_1 * 1)) 1 ∧ ∀ w7 : World, w7 = stW w (Addr.add a6 (Int.toNat a_1 * 1)) 0 [.int .i64 v_2] →
 K (.tuple #[]) w7)
 (K (.tuple #[]) w)
def inner_Boot_1_an : An := ⟨[], [], []⟩
theorem inner_Boot_1_lift {a_1 : Int} {v_2 : Int} {c3 : Nat} {w : World} {K : Value → World → Prop} (h : inner_Boot_1_sh a_1 v_2 c3 w K) : Calls Tryd.prog fn_inner_Boot_1 #[.int .i64 a_1, .int .i64 v_2, .pointer (some ⟨c3, 0, none⟩)] w fun e w' => ∃ v, e = .returned v ∧ K v w' :=
   lift_calls (A := inner_Boot_1_an) (c := bodyOf Tryd.f41) (args := [.int .i64 a_1, .int .i64 v_2, .pointer (some ⟨c3, 0, none⟩)]) orc orc_wide Tryd.func41 (by kernel_rfl) (by kernel_rfl) (Eq.mp (by kernel_rfl : inner_Boot_1_sh a_1 v_2 c3 w K = wpc orc Tryd.f41.ntmps inner_Boot_1_an (bodyOf Tryd.f41) (argl 0 [.int .i64 a_1, .int .i64 v_2, .pointer (some ⟨c3, 0, none⟩)]) w (retQ orc Tryd.f41.results.toList K)) h)

-- (*holloway/inner.machine).step
def inner_machine_step_sh (m_1 : Nat) (w : World) (K : Value → World → Prop) : Prop :=
 ∃ n2 : Int, w.cell? ⟨m_1, 0, none⟩ = some (.int .i64 n2) ∧
 Calls Tryd.prog fn_inner_machine_load #[.pointer (some ⟨m_1, 0, none⟩), .int .i64 n2] w fun e3 w4 => ∃ n5 : Int, ∃ v6 : Value, e3 = .returned (.tuple #[.int .i64 n5, v6]) ∧
 ∃ b7 : Bool, ∃ w8 : World, ((do eqGuard .neq T_error (.tmp 20) (.const (.nilIface)) (v6) (.nilIface); binOp .neq T_error (v6) (.nilIface) : Sem Value)).run Tryd.prog w4 = .ok (.bool b7) w8 ∧
 brB b7
 (K (v6) w8)
 (brB (decide (n5 ≥ (64 : Int)))
 (Calls Tryd.prog fn_inner_machine_call #[.pointer (some ⟨m_1, 0, none⟩), .int .i64 n5] w8 fun e9 w10 => ∃ v11 : Value, e9 = .returned (v11) ∧
 K (v11) w10)
 (Calls Tryd.prog fn_op_Right #[.int .i64 n5] w8 fun e12 w13 => ∃ b14 : Bool, e12 = .returned (.bool b14) ∧
 brB (!b14)
 (Calls Tryd.prog fn_inner_machine_fails #[.pointer (some ⟨m_1, 0, none⟩), .int .i64 (-13 : Int)] w13 fun e15 w16 => ∃ v17 : Value, e15 = .returned (v17) ∧
 K (v17) w16)
 (∀ w18 : World, w18 = World.drew w13 →
 ∃ n19 : Int, held (Lw w18) ⟨m_1, 0, none⟩ (.int .i64 n19) ∧
 ∃ J13 : Int → Int → World → Prop, (∀ (arg49 : Int) (next47 : Int) (w29 : World), J13 arg49 next47 w29 →
 ∃ n_Ip30 : Int, ∃ n_Handler31 : Int, ∃ s_Stack32 : Sl, ∃ s_Back33 : Sl, ∃ s_Mem34 : Sl, ∃ t_Out35 : ByteArray, ∃ t_In36 : ByteArray, ∃ n_Read37 : Int, ∃ n_Status38 : Int, ∃ n_Code39 : Int, w29.cell? ⟨m_1, 0, none⟩ = some (.int .i64 n_Ip30) ∧ w29.cell? ⟨m_1, 1, none⟩ = some (.int .i64 n_Handler31) ∧ w29.cell? ⟨m_1, 2, none⟩ = some (s_Stack32.val) ∧ w29.cell? ⟨m_1, 3, none⟩ = some (s_Back33.val) ∧ w29.cell? ⟨m_1, 4, none⟩ = some (s_Mem34.val) ∧ w29.cell? ⟨m_1, 5, none⟩ = some (.string t_Out35) ∧ w29.cell? ⟨m_1, 6, none⟩ = some (.string t_In36) ∧ w29.cell? ⟨m_1, 7, none⟩ = some (.int .i64 n_Read37) ∧ w29.cell? ⟨m_1, 8, none⟩ = some (.int .i64 n_Status38) ∧ w29.cell? ⟨m_1, 9, none⟩ = some (.int .i64 n_Code39) ∧
 Calls Tryd.prog fn_inner_room #[.agg #[.int .i64 n_Ip30, .int .i64 n_Handler31, s_Stack32.val, s_Back33.val, s_Mem34.val, .string t_Out35, .string t_In36, .int .i64 n_Read37, .int .i64 n_Status38, .int .i64 n_Code39], .int .i64 n5] w29 fun e40 w41 => ∃ n42 : Int, e40 = .returned (.int .i64 n42) ∧
 brB (n42 != (0 : Int))
 (Calls Tryd.prog fn_inner_machine_fails #[.pointer (some ⟨m_1, 0, none⟩), .int .i64 n42] w41 fun e43 w44 => ∃ v45 : Value, e43 = .returned (v45) ∧
 K (v45) w44)
 (∃ n46 : Int, w41.cell? ⟨m_1, 0, none⟩ = some (.int .i64 n46) ∧
 wrOk w41 ⟨m_1, 0, none⟩ 1 ∧ ∀ w48 : World, w48 = stW w41 ⟨m_1, 0, none⟩ 0 [.int .i64 next47] →
 Calls Tryd.prog fn_inner_machine_do #[.pointer (some ⟨m_1, 0, none⟩), .int .i64 n5, .int .i64 arg49, .int .i64 n46] w48 fun e50 w51 => ∃ v52 : Value, e50 = .returned (v52) ∧
 ∃ b53 : Bool, ∃ w54 : World, ((do eqGuard .neq T_error (.tmp 78) (.const (.nilIface)) (v52) (.nilIface); binOp .neq T_error (v52) (.nilIface) : Sem Value)).run Tryd.prog w51 = .ok (.bool b53) w54 ∧
 brB b53
 (Calls Tryd.prog fn_op_Name #[.int .i64 n5] w54 fun e55 w56 => ∃ t57 : ByteArray, e55 = .returned (.string t57) ∧
 Calls Tryd.prog fn_fault_Wrap #[v52, .string t57] w56 fun e58 w59 => ∃ v60 : Value, e58 = .returned (v60) ∧
 K (v60) w59)
 (K (.nilIface) w54))) ∧
 Calls Tryd.prog fn_op_Arg #[.int .i64 n5] w18 fun e20 w21 => ∃ b22 : Bool, e20 = .returned (.bool b22) ∧
 brB b22
 (Calls Tryd.prog fn_inner_machine_load #[.pointer (some ⟨m_1, 0, none⟩), .int .i64 (wr (n19 + (1 : Int)))] w21 fun e23 w24 => ∃ n25 : Int, ∃ v26 : Value, e23 = .returned (.tuple #[.int .i64 n25, v26]) ∧
 ∃ b27 : Bool, ∃ w28 : World, ((do eqGuard .neq T_error (.tmp 47) (.const (.nilIface)) (v26) (.nilIface); binOp .neq T_error (v26) (.nilIface) : Sem Value)).run Tryd.prog w24 = .ok (.bool b27) w28 ∧
 brB b27
 (K (v26) w28)
 (J13 n25 (wr ((wr (n19 + (1 : Int))) + (1 : Int))) w28))
 (J13 (0 : Int) (wr (n19 + (1 : Int))) w21))))
def inner_machine_step_an : An := ⟨[], [(8, (8, .st 0 (.st 1 (.st 2 (.st 3 (.st 4 (.st 5 (.st 6 (.st 7 .done))))))), 0))], [(14, [(5, .int .i64), (6, .int .i64)])]⟩
theorem inner_machine_step_lift {m_1 : Nat} {w : World} {K : Value → World → Prop} (h : inner_machine_step_sh m_1 w K) : Calls Tryd.prog fn_inner_machine_step #[.pointer (some ⟨m_1, 0, none⟩)] w fun e w' => ∃ v, e = .returned v ∧ K v w' :=
   lift_calls (A := inner_machine_step_an) (c := bodyOf Tryd.f42) (args := [.pointer (some ⟨m_1, 0, none⟩)]) orc orc_wide Tryd.func42 (by kernel_rfl) (by kernel_rfl) (Eq.mp (by kernel_rfl : inner_machine_step_sh m_1 w K = wpc orc Tryd.f42.ntmps inner_machine_step_an (bodyOf Tryd.f42) (argl 0 [.pointer (some ⟨m_1, 0, none⟩)]) w (retQ orc Tryd.f42.results.toList K)) h)

-- holloway/inner.faulty
def inner_faulty_sh (s__Ip1 : Int) (s__Handler2 : Int) (s__Stack3 : Sl) (s__Back4 : Sl) (s__Mem5 : Sl) (s__Out6 : ByteArray) (s__In7 : ByteArray) (s__Read8 : Int) (s__Status9 : Int) (s__Code10 : Int) (code11 : Int) (w : World) (K : Value → World → Prop) : Prop :=
 ∀ (b12 : Nat) (w13 : World), b12 = w.heap.size → w13 = World.alloc w (.cells #[.int .i64 s__Ip1, .int .i64 s__Handler2, s__Stack3.val, s__Back4.val, s__Mem5.val, .string s__Out6, .string s__In7, .int .i64 s__Read8, .int .i64 s__Status9, .int .i64 s__Code10] T_api_State) →
 ∀ (b14 : Nat) (w15 : World), b14 = w13.heap.size → w15 = World.alloc w13 (.cells #[.int .i64 (0 : Int), .int .i64 (0 : Int), .slice none 0 0, .slice none 0 0, .slice none 0 0, .string (bs []), .string (bs []), .int .i64 (0 : Int), .int .i64 (0 : Int), .int .i64 (0 : Int)] T_api_State) →
 ∃ n_Ip16 : Int, ∃ n_Handler17 : Int, ∃ s_Stack18 : Sl, ∃ s_Back19 : Sl, ∃ s_Mem20 : Sl, ∃ t_Out21 : ByteArray, ∃ t_In22 : ByteArray, ∃ n_Read23 : Int, ∃ n_Status24 : Int, ∃ n_Code25 : Int, w15.cell? ⟨b12, 0, none⟩ = some (.int .i64 n_Ip16) ∧ w15.cell? ⟨b12, 1, none⟩ = some (.int .i64 n_Handler17) ∧ w15.cell? ⟨b12, 2, none⟩ = some (s_Stack18.val) ∧ w15.cell? ⟨b12, 3, none⟩ = some (s_Back19.val) ∧ w15.cell? ⟨b12, 4, none⟩ = some (s_Mem20.val) ∧ w15.cell? ⟨b12, 5, none⟩ = some (.string t_Out21) ∧ w15.cell? ⟨b12, 6, none⟩ = some (.string t_In22) ∧ w15.cell? ⟨b12, 7, none⟩ = some (.int .i64 n_Read23) ∧ w15.cell? ⟨b12, 8, none⟩ = some (.int .i64 n_Status24) ∧ w15.cell? ⟨b12, 9, none⟩ = some (.int .i64 n_Code25) ∧
 Calls Tryd.prog fn_inner_caught #[.agg #[.int .i64 n_Ip16, .int .i64 n_Handler17, s_Stack18.val, s_Back19.val, s_Mem20.val, .string t_Out21, .string t_In22, .int .i64 n_Read23, .int .i64 n_Status24, .int .i64 n_Code25]] w15 fun e26 w27 => ∃ n28 : Int, ∃ b29 : Bool, e26 = .returned (.tuple #[.int .i64 n28, .bool b29]) ∧
 brB (!b29)
 (wrOk w27 ⟨b12, 8, none⟩ 1 ∧ ∀ w30 : World, w30 = stW w27 ⟨b12, 8, none⟩ 0 [.int .i64 (2 : Int)] →
 wrOk w30 ⟨b12, 9, none⟩ 1 ∧ ∀ w31 : World, w31 = stW w30 ⟨b12, 9, none⟩ 0 [.int .i64 code11] →
 ∃ n_Ip32 : Int, ∃ n_Handler33 : Int, ∃ s_Stack34 : Sl, ∃ s_Back35 : Sl, ∃ s_Mem36 : Sl, ∃ t_Out37 : ByteArray, ∃ t_In38 : ByteArray, ∃ n_Read39 : Int, ∃ n_Status40 : Int, ∃ n_Code41 : Int, w31.cell? ⟨b12, 0, none⟩ = some (.int .i64 n_Ip32) ∧ w31.cell? ⟨b12, 1, none⟩ = some (.int .i64 n_Handler33) ∧ w31.cell? ⟨b12, 2, none⟩ = some (s_Stack34.val) ∧ w31.cell? ⟨b12, 3, none⟩ = some (s_Back35.val) ∧ w31.cell? ⟨b12, 4, none⟩ = some (s_Mem36.val) ∧ w31.cell? ⟨b12, 5, none⟩ = some (.string t_Out37) ∧ w31.cell? ⟨b12, 6, none⟩ = some (.string t_In38) ∧ w31.cell? ⟨b12, 7, none⟩ = some (.int .i64 n_Read39) ∧ w31.cell? ⟨b12, 8, none⟩ = some (.int .i64 n_Status40) ∧ w31.cell? ⟨b12, 9, none⟩ = some (.int .i64 n_Code41) ∧
 wrOk w31 ⟨b14, 0, none⟩ 10 ∧ ∀ w42 : World, w42 = stW w31 ⟨b14, 0, none⟩ 0 [.int .i64 n_Ip32, .int .i64 n_Handler33, s_Stack34.val, s_Back35.val, s_Mem36.val, .string t_Out37, .string t_In38, .int .i64 n_Read39, .int .i64 n_Status40, .int .i64 n_Code41] →
 ∃ r_Ip43 : Int, ∃ r_Handler44 : Int, ∃ r_Stack45 : Sl, ∃ r_Back46 : Sl, ∃ r_Mem47 : Sl, ∃ r_Out48 : ByteArray, ∃ r_In49 : ByteArray, ∃ r_Read50 : Int, ∃ r_Status51 : Int, ∃ r_Code52 : Int, w42.cell? ⟨b14, 0, none⟩ = some (.int .i64 r_Ip43) ∧ w42.cell? ⟨b14, 1, none⟩ = some (.int .i64 r_Handler44) ∧ w42.cell? ⟨b14, 2, none⟩ = some (r_Stack45.val) ∧ w42.cell? ⟨b14, 3, none⟩ = some (r_Back46.val) ∧ w42.cell? ⟨b14, 4, none⟩ = some (r_Mem47.val) ∧ w42.cell? ⟨b14, 5, none⟩ = some (.string r_Out48) ∧ w42.cell? ⟨b14, 6, none⟩ = some (.string r_In49) ∧ w42.cell? ⟨b14, 7, none⟩ = some (.int .i64 r_Read50) ∧ w42.cell? ⟨b14, 8, none⟩ = some (.int .i64 r_Status51) ∧ w42.cell? ⟨b14, 9, none⟩ = some (.int .i64 r_Code52) ∧
 K (.agg #[.int .i64 r_Ip43, .int .i64 r_Handler44, r_Stack45.val, r_Back46.val, r_Mem47.val, .string r_Out48, .string r_In49, .int .i64 r_Read50, .int .i64 r_Status51, .int .i64 r_Code52]) w42)
 (∃ n53 : Int, w27.cell? ⟨b12, 1, none⟩ = some (.int .i64 n53) ∧
 ∀ w54 : World, w54 = World.drew w27 →
 ∃ S55 : World → Prop, S55 w54 ∧
 ∃ s56 : Sl, held S55 ⟨b12, 3, none⟩ (s56.val) ∧
 ∃ a57 : Addr, s56.ptr = some a57 ∧ 0 ≤ (wr (n53 - (3 : Int))) ∧ (wr (n53 - (3 : Int))) < (s56.len : Int) ∧
 ∃ n58 : Int, held S55 (Addr.add a57 (Int.toNat (wr (n53 - (3 : Int))) * 1)) (.int .i64 n58) ∧
 ∃ s59 : Sl, held S55 ⟨b12, 3, none⟩ (s59.val) ∧
 ∃ a60 : Addr, s59.ptr = some a60 ∧ 0 ≤ (wr ((wr (n53 - (3 : Int))) + (1 : Int))) ∧ (wr ((wr (n53 - (3 : Int))) + (1 : Int))) < (s59.len : Int) ∧
 ∃ n61 : Int, held S55 (Addr.add a60 (Int.toNat (wr ((wr (n53 - (3 : Int))) + (1 : Int))) * 1)) (.int .i64 n61) ∧
 ∃ s62 : Sl, held S55 ⟨b12, 3, none⟩ (s62.val) ∧
 0 ≤ (wr (n53 - (3 : Int))) ∧ (wr (n53 - (3 : Int))) ≤ (s62.cap : Int) ∧ 
 wrOk w54 ⟨b12, 0, none⟩ 1 ∧ ∀ w63 : World, w63 = stW w54 ⟨b12, 0, none⟩ 0 [.int .i64 n58] →
 S55 w63 ∧
 wrOk w63 ⟨b12, 1, none⟩ 1 ∧ ∀ w64 : World, w64 = stW w63 ⟨b12, 1, none⟩ 0 [.int .i64 n61] →
 S55 w64 ∧
 wrOk w64 ⟨b12, 3, none⟩ 1 ∧ ∀ w65 : World, w65 = stW w64 ⟨b12, 3, none⟩ 0 [(Sl.sub s62.ptr s62.cap 0 (Int.toNat (wr (n53 - (3 : Int)))) 1).val] →
 ∃ s66 : Sl, w65.cell? ⟨b12, 2, none⟩ = some (s66.val) ∧
 ∃ s67 : Sl, w65.cell? ⟨b12, 2, none⟩ = some (s67.val) ∧
 0 ≤ (imin n28 (s67.len : Int)) ∧ (imin n28 (s67.len : Int)) ≤ (s66.cap : Int) ∧ ∀ s68 : Sl, s68 = Sl.sub s66.ptr s66.cap 0 (Int.toNat (imin n28 (s67.len : Int))) 1 →
 Calls Tryd.prog fn_slices_Clone_sl_int_int #[s68.val] w65 fun e69 w70 => ∃ s71 : Sl, e69 = .returned (s71.val) ∧
 wrOk w70 ⟨b12, 2, none⟩ 1 ∧ ∀ w72 : World, w72 = stW w70 ⟨b12, 2, none⟩ 0 [s71.val] →
 ∃ (I1 : World → Prop) (μ1 : World → Nat), I1  w72 ∧ ∀ (w73 : World), I1  w73 →
 ∃ s74 : Sl, w73.cell? ⟨b12, 2, none⟩ = some (s74.val) ∧
 brB (decide ((s74.len : Int) < n28))
 (∃ s75 : Sl, w73.cell? ⟨b12, 2, none⟩ = some (s75.val) ∧
 ∀ (b76 : Nat) (w77 : World), b76 = w73.heap.size → w77 = World.alloc w73 (.cells #[.int .i64 (0 : Int)] T_int) →
 ∃ s78 : Sl, ∃ w79 : World, (Builtin.append_ #[T_sl_int, T_sl_int] T_sl_int #[s75.val, .slice (some ⟨b76, 0, none⟩) 1 1]).run Tryd.prog w77 = .ok (s78.val) w79 ∧
 wrOk w79 ⟨b12, 2, none⟩ 1 ∧ ∀ w80 : World, w80 = stW w79 ⟨b12, 2, none⟩ 0 [s78.val] →
 I1  w80 ∧ μ1  w80 < μ1  w73)
 (∃ s81 : Sl, w73.cell? ⟨b12, 2, none⟩ = some (s81.val) ∧
 ∀ (b82 : Nat) (w83 : World), b82 = w73.heap.size → w83 = World.alloc w73 (.cells #[.int .i64 code11] T_int) →
 ∃ s84 : Sl, ∃ w85 : World, (Builtin.append_ #[T_sl_int, T_sl_int] T_sl_int #[s81.val, .slice (some ⟨b82, 0, none⟩) 1 1]).run Tryd.prog w83 = .ok (s84.val) w85 ∧
 wrOk w85 ⟨b12, 2, none⟩ 1 ∧ ∀ w86 : World, w86 = stW w85 ⟨b12, 2, none⟩ 0 [s84.val] →
 ∃ n_Ip87 : Int, ∃ n_Handler88 : Int, ∃ s_Stack89 : Sl, ∃ s_Back90 : Sl, ∃ s_Mem91 : Sl, ∃ t_Out92 : ByteArray, ∃ t_In93 : ByteArray, ∃ n_Read94 : Int, ∃ n_Status95 : Int, ∃ n_Code96 : Int, w86.cell? ⟨b12, 0, none⟩ = some (.int .i64 n_Ip87) ∧ w86.cell? ⟨b12, 1, none⟩ = some (.int .i64 n_Handler88) ∧ w86.cell? ⟨b12, 2, none⟩ = some (s_Stack89.val) ∧ w86.cell? ⟨b12, 3, none⟩ = some (s_Back90.val) ∧ w86.cell? ⟨b12, 4, none⟩ = some (s_Mem91.val) ∧ w86.cell? ⟨b12, 5, none⟩ = some (.string t_Out92) ∧ w86.cell? ⟨b12, 6, none⟩ = some (.string t_In93) ∧ w86.cell? ⟨b12, 7, none⟩ = some (.int .i64 n_Read94) ∧ w86.cell? ⟨b12, 8, none⟩ = some (.int .i64 n_Status95) ∧ w86.cell? ⟨b12, 9, none⟩ = some (.int .i64 n_Code96) ∧
 wrOk w86 ⟨b14, 0, none⟩ 10 ∧ ∀ w97 : World, w97 = stW w86 ⟨b14, 0, none⟩ 0 [.int .i64 n_Ip87, .int .i64 n_Handler88, s_Stack89.val, s_Back90.val, s_Mem91.val, .string t_Out92, .string t_In93, .int .i64 n_Read94, .int .i64 n_Status95, .int .i64 n_Code96] →
 ∃ r_Ip98 : Int, ∃ r_Handler99 : Int, ∃ r_Stack100 : Sl, ∃ r_Back101 : Sl, ∃ r_Mem102 : Sl, ∃ r_Out103 : ByteArray, ∃ r_In104 : ByteArray, ∃ r_Read105 : Int, ∃ r_Status106 : Int, ∃ r_Code107 : Int, w97.cell? ⟨b14, 0, none⟩ = some (.int .i64 r_Ip98) ∧ w97.cell? ⟨b14, 1, none⟩ = some (.int .i64 r_Handler99) ∧ w97.cell? ⟨b14, 2, none⟩ = some (r_Stack100.val) ∧ w97.cell? ⟨b14, 3, none⟩ = some (r_Back101.val) ∧ w97.cell? ⟨b14, 4, none⟩ = some (r_Mem102.val) ∧ w97.cell? ⟨b14, 5, none⟩ = some (.string r_Out103) ∧ w97.cell? ⟨b14, 6, none⟩ = some (.string r_In104) ∧ w97.cell? ⟨b14, 7, none⟩ = some (.int .i64 r_Read105) ∧ w97.cell? ⟨b14, 8, none⟩ = some (.int .i64 r_Status106) ∧ w97.cell? ⟨b14, 9, none⟩ = some (.int .i64 r_Code107) ∧
 K (.agg #[.int .i64 r_Ip98, .int .i64 r_Handler99, r_Stack100.val, r_Back101.val, r_Mem102.val, .string r_Out103, .string r_In104, .int .i64 r_Read105, .int .i64 r_Status106, .int .i64 r_Code107]) w97))
def inner_faulty_an : An := ⟨[(8, [])], [(6, (19, .st 0 (.st 1 (.st 2 (.st 3 (.st 4 (.st 5 (.st 6 (.st 7 (.st 8 (.st 9 (.st 10 (.st 11 (.st 12 (.st 13 (.st 14 (.st 15 (.ef 16 (.st 17 (.ef 18 .done)))))))))))))))))), 1))], []⟩
theorem inner_faulty_lift {s__Ip1 : Int} {s__Handler2 : Int} {s__Stack3 : Sl} {s__Back4 : Sl} {s__Mem5 : Sl} {s__Out6 : ByteArray} {s__In7 : ByteArray} {s__Read8 : Int} {s__Status9 : Int} {s__Code10 : Int} {code11 : Int} {w : World} {K : Value → World → Prop} (h : inner_faulty_sh s__Ip1 s__Handler2 s__Stack3 s__Back4 s__Mem5 s__Out6 s__In7 s__Read8 s__Status9 s__Code10 code11 w K) : Calls Tryd.prog fn_inner_faulty #[.agg #[.int .i64 s__Ip1, .int .i64 s__Handler2, s__Stack3.val, s__Back4.val, s__Mem5.val, .string s__Out6, .string s__In7, .int .i64 s__Read8, .int .i64 s__Status9, .int .i64 s__Code10], .int .i64 code11] w fun e w' => ∃ v, e = .returned v ∧ K v w' :=
   lift_calls (A := inner_faulty_an) (c := bodyOf Tryd.f43) (args := [.agg #[.int .i64 s__Ip1, .int .i64 s__Handler2, s__Stack3.val, s__Back4.val, s__Mem5.val, .string s__Out6, .string s__In7, .int .i64 s__Read8, .int .i64 s__Status9, .int .i64 s__Code10], .int .i64 code11]) orc orc_wide Tryd.func43 (by kernel_rfl) (by kernel_rfl) (Eq.mp (by kernel_rfl : inner_faulty_sh s__Ip1 s__Handler2 s__Stack3 s__Back4 s__Mem5 s__Out6 s__In7 s__Read8 s__Status9 s__Code10 code11 w K = wpc orc Tryd.f43.ntmps inner_faulty_an (bodyOf Tryd.f43) (argl 0 [.agg #[.int .i64 s__Ip1, .int .i64 s__Handler2, s__Stack3.val, s__Back4.val, s__Mem5.val, .string s__Out6, .string s__In7, .int .i64 s__Read8, .int .i64 s__Status9, .int .i64 s__Code10], .int .i64 code11]) w (retQ orc Tryd.f43.results.toList K)) h)

-- (*holloway/inner.machine).load
def inner_machine_load_sh (m_1 : Nat) (a_2 : Int) (w : World) (K : Value → World → Prop) : Prop :=
 ∃ J3 : Bool → World → Prop, (∀ (b5 : Bool) (w4 : World), J3 b5 w4 →
 brB b5
 (Calls Tryd.prog fn_inner_machine_fails #[.pointer (some ⟨m_1, 0, none⟩), .int .i64 (-9 : Int)] w4 fun e6 w7 => ∃ v8 : Value, e6 = .returned (v8) ∧
 Calls Tryd.prog fn_fault_Wrap #[v8, .string (bs [99, 101, 108, 108])] w7 fun e9 w10 => ∃ v11 : Value, e9 = .returned (v11) ∧
 K (.tuple #[.int .i64 (0 : Int), v11]) w10)
 (∃ s12 : Sl, w4.cell? ⟨m_1, 4, none⟩ = some (s12.val) ∧
 ∃ a13 : Addr, s12.ptr = some a13 ∧ 0 ≤ a_2 ∧ a_2 < (s12.len : Int) ∧
 ∃ n14 : Int, w4.cell? (Addr.add a13 (Int.toNat a_2 * 1)) = some (.int .i64 n14) ∧
 K (.tuple #[.int .i64 n14, .nilIface]) w4)) ∧
 brB (decide (a_2 < (0 : Int)))
 (J3 true w)
 (∃ s3 : Sl, w.cell? ⟨m_1, 4, none⟩ = some (s3.val) ∧
 J3 (decide (a_2 ≥ (s3.len : Int))) w)
def inner_machine_load_an : An := ⟨[], [], [(2, [(17, .bool)])]⟩
theorem inner_machine_load_lift {m_1 : Nat} {a_2 : Int} {w : World} {K : Value → World → Prop} (h : inner_machine_load_sh m_1 a_2 w K) : Calls Tryd.prog fn_inner_machine_load #[.pointer (some ⟨m_1, 0, none⟩), .int .i64 a_2] w fun e w' => ∃ v, e = .returned v ∧ K v w' :=
   lift_calls (A := inner_machine_load_an) (c := bodyOf Tryd.f50) (args := [.pointer (some ⟨m_1, 0, none⟩), .int .i64 a_2]) orc orc_wide Tryd.func50 (by kernel_rfl) (by kernel_rfl) (Eq.mp (by kernel_rfl : inner_machine_load_sh m_1 a_2 w K = wpc orc Tryd.f50.ntmps inner_machine_load_an (bodyOf Tryd.f50) (argl 0 [.pointer (some ⟨m_1, 0, none⟩), .int .i64 a_2]) w (retQ orc Tryd.f50.results.toList K)) h)

-- (*holloway/inner.machine).call
def inner_machine_call_sh (m_1 : Nat) (xt2 : Int) (w : World) (K : Value → World → Prop) : Prop :=
 ∃ s3 : Sl, w.cell? ⟨m_1, 3, none⟩ = some (s3.val) ∧
 brB (decide ((s3.len : Int) ≥ (48 : Int)))
 (Calls Tryd.prog fn_inner_machine_fails #[.pointer (some ⟨m_1, 0, none⟩), .int .i64 (-5 : Int)] w fun e4 w5 => ∃ v6 : Value, e4 = .returned (v6) ∧
 K (v6) w5)
 (∃ n7 : Int, w.cell? ⟨m_1, 0, none⟩ = some (.int .i64 n7) ∧
 ∀ (b8 : Nat) (w9 : World), b8 = w.heap.size → w9 = World.alloc w (.cells #[.int .i64 (wr (n7 + (1 : Int)))] T_int) →
 Calls Tryd.prog fn_inner_machine_back #[.pointer (some ⟨m_1, 0, none⟩), .slice (some ⟨b8, 0, none⟩) 1 1] w9 fun e10 w11 => e10 = .returned (.tuple #[]) ∧
 wrOk w11 ⟨m_1, 0, none⟩ 1 ∧ ∀ w12 : World, w12 = stW w11 ⟨m_1, 0, none⟩ 0 [.int .i64 xt2] →
 K (.nilIface) w12)
def inner_machine_call_an : An := ⟨[], [], []⟩
theorem inner_machine_call_lift {m_1 : Nat} {xt2 : Int} {w : World} {K : Value → World → Prop} (h : inner_machine_call_sh m_1 xt2 w K) : Calls Tryd.prog fn_inner_machine_call #[.pointer (some ⟨m_1, 0, none⟩), .int .i64 xt2] w fun e w' => ∃ v, e = .returned v ∧ K v w' :=
   lift_calls (A := inner_machine_call_an) (c := bodyOf Tryd.f51) (args := [.pointer (some ⟨m_1, 0, none⟩), .int .i64 xt2]) orc orc_wide Tryd.func51 (by kernel_rfl) (by kernel_rfl) (Eq.mp (by kernel_rfl : inner_machine_call_sh m_1 xt2 w K = wpc orc Tryd.f51.ntmps inner_machine_call_an (bodyOf Tryd.f51) (argl 0 [.pointer (some ⟨m_1, 0, none⟩), .int .i64 xt2]) w (retQ orc Tryd.f51.results.toList K)) h)

-- (*holloway/inner.machine).fails
def inner_machine_fails_sh (m_1 : Nat) (code2 : Int) (w : World) (K : Value → World → Prop) : Prop :=
 ∃ n3 : Int, w.cell? ⟨m_1, 0, none⟩ = some (.int .i64 n3) ∧
 Calls Tryd.prog fn_fault_New #[.int .i64 code2, .int .i64 n3] w fun e4 w5 => ∃ v6 : Value, e4 = .returned (v6) ∧
 K (v6) w5
def inner_machine_fails_an : An := ⟨[], [], []⟩
theorem inner_machine_fails_lift {m_1 : Nat} {code2 : Int} {w : World} {K : Value → World → Prop} (h : inner_machine_fails_sh m_1 code2 w K) : Calls Tryd.prog fn_inner_machine_fails #[.pointer (some ⟨m_1, 0, none⟩), .int .i64 code2] w fun e w' => ∃ v, e = .returned v ∧ K v w' :=
   lift_calls (A := inner_machine_fails_an) (c := bodyOf Tryd.f53) (args := [.pointer (some ⟨m_1, 0, none⟩), .int .i64 code2]) orc orc_wide Tryd.func53 (by kernel_rfl) (by kernel_rfl) (Eq.mp (by kernel_rfl : inner_machine_fails_sh m_1 code2 w K = wpc orc Tryd.f53.ntmps inner_machine_fails_an (bodyOf Tryd.f53) (argl 0 [.pointer (some ⟨m_1, 0, none⟩), .int .i64 code2]) w (retQ orc Tryd.f53.results.toList K)) h)

-- holloway/inner.room
def inner_room_sh (s__Ip1 : Int) (s__Handler2 : Int) (s__Stack3 : Sl) (s__Back4 : Sl) (s__Mem5 : Sl) (s__Out6 : ByteArray) (s__In7 : ByteArray) (s__Read8 : Int) (s__Status9 : Int) (s__Code10 : Int) (o_11 : Int) (w : World) (K : Value → World → Prop) : Prop :=
 ∀ (b12 : Nat) (w13 : World), b12 = w.heap.size → w13 = World.alloc w (.cells #[.int .i64 s__Ip1, .int .i64 s__Handler2, s__Stack3.val, s__Back4.val, s__Mem5.val, .string s__Out6, .string s__In7, .int .i64 s__Read8, .int .i64 s__Status9, .int .i64 s__Code10] T_api_State) →
 Calls Tryd.prog fn_op_Takes #[.int .i64 o_11] w13 fun e14 w15 => ∃ n16 : Int, ∃ n17 : Int, e14 = .returned (.tuple #[.int .i64 n16, .int .i64 n17]) ∧
 Calls Tryd.prog fn_op_Gives #[.int .i64 o_11] w15 fun e18 w19 => ∃ n20 : Int, ∃ n21 : Int, e18 = .returned (.tuple #[.int .i64 n20, .int .i64 n21]) ∧
 ∃ s22 : Sl, w19.cell? ⟨b12, 2, none⟩ = some (s22.val) ∧
 brB (decide ((s22.len : Int) < n16))
 (K (.int .i64 (-4 : Int)) w19)
 (∃ s23 : Sl, w19.cell? ⟨b12, 3, none⟩ = some (s23.val) ∧
 brB (decide ((s23.len : Int) < n17))
 (K (.int .i64 (-6 : Int)) w19)
 (∃ s24 : Sl, w19.cell? ⟨b12, 2, none⟩ = some (s24.val) ∧
 brB (decide ((wr ((wr ((s24.len : Int) - n16)) + n20)) > (48 : Int)))
 (K (.int .i64 (-3 : Int)) w19)
 (∃ s25 : Sl, w19.cell? ⟨b12, 3, none⟩ = some (s25.val) ∧
 brB (decide ((wr ((wr ((s25.len : Int) - n17)) + n21)) > (48 : Int)))
 (K (.int .i64 (-5 : Int)) w19)
 (K (.int .i64 (0 : Int)) w19))))
def inner_room_an : An := ⟨[], [], []⟩
theorem inner_room_lift {s__Ip1 : Int} {s__Handler2 : Int} {s__Stack3 : Sl} {s__Back4 : Sl} {s__Mem5 : Sl} {s__Out6 : ByteArray} {s__In7 : ByteArray} {s__Read8 : Int} {s__Status9 : Int} {s__Code10 : Int} {o_11 : Int} {w : World} {K : Value → World → Prop} (h : inner_room_sh s__Ip1 s__Handler2 s__Stack3 s__Back4 s__Mem5 s__Out6 s__In7 s__Read8 s__Status9 s__Code10 o_11 w K) : Calls Tryd.prog fn_inner_room #[.agg #[.int .i64 s__Ip1, .int .i64 s__Handler2, s__Stack3.val, s__Back4.val, s__Mem5.val, .string s__Out6, .string s__In7, .int .i64 s__Read8, .int .i64 s__Status9, .int .i64 s__Code10], .int .i64 o_11] w fun e w' => ∃ v, e = .returned v ∧ K v w' :=
   lift_calls (A := inner_room_an) (c := bodyOf Tryd.f55) (args := [.agg #[.int .i64 s__Ip1, .int .i64 s__Handler2, s__Stack3.val, s__Back4.val, s__Mem5.val, .string s__Out6, .string s__In7, .int .i64 s__Read8, .int .i64 s__Status9, .int .i64 s__Code10], .int .i64 o_11]) orc orc_wide Tryd.func55 (by kernel_rfl) (by kernel_rfl) (Eq.mp (by kernel_rfl : inner_room_sh s__Ip1 s__Handler2 s__Stack3 s__Back4 s__Mem5 s__Out6 s__In7 s__Read8 s__Status9 s__Code10 o_11 w K = wpc orc Tryd.f55.ntmps inner_room_an (bodyOf Tryd.f55) (argl 0 [.agg #[.int .i64 s__Ip1, .int .i64 s__Handler2, s__Stack3.val, s__Back4.val, s__Mem5.val, .string s__Out6, .string s__In7, .int .i64 s__Read8, .int .i64 s__Status9, .int .i64 s__Code10], .int .i64 o_11]) w (retQ orc Tryd.f55.results.toList K)) h)

-- (*holloway/inner.machine).do
def inner_machine_do_j1 (m_1 : Nat) (c_2 : Int) (b28 : Bool) (w27 : World) (K : Value → World → Prop) : Prop :=
 brB b28
 (Calls Tryd.prog fn_inner_machine_flow #[.pointer (some ⟨m_1, 0, none⟩), .int .i64 c_2] w27 fun e58 w59 => ∃ v60 : Value, e58 = .returned (v60) ∧
 K (v60) w59)
 (brB (c_2 == (47 : Int))
 (K (.nilIface) w27)
 (Calls Tryd.prog fn_inner_machine_reckon #[.pointer (some ⟨m_1, 0, none⟩), .int .i64 c_2] w27 fun e61 w62 => ∃ v63 : Value, e61 = .returned (v63) ∧
 K (v63) w62))
def inner_machine_do_j2 (m_1 : Nat) (c_2 : Int) (b24 : Bool) (w23 : World) (K : Value → World → Prop) : Prop :=
 brB b24
 (Calls Tryd.prog fn_inner_machine_say #[.pointer (some ⟨m_1, 0, none⟩), .int .i64 c_2] w23 fun e53 w54 => ∃ v55 : Value, e53 = .returned (v55) ∧
 K (v55) w54)
 (brB (c_2 == (43 : Int))
 (Calls Tryd.prog fn_inner_machine_key #[.pointer (some ⟨m_1, 0, none⟩)] w23 fun e56 w57 => e56 = .returned (.tuple #[]) ∧
 K (.nilIface) w57)
 (brB (c_2 == (44 : Int))
 (inner_machine_do_j1 m_1 c_2 (c_2 == (44 : Int)) w23 K)
 (brB (c_2 == (45 : Int))
 (inner_machine_do_j1 m_1 c_2 (c_2 == (45 : Int)) w23 K)
 (brB (c_2 == (46 : Int))
 (inner_machine_do_j1 m_1 c_2 (c_2 == (46 : Int)) w23 K)
 (inner_machine_do_j1 m_1 c_2 (c_2 == (1 : Int)) w23 K)))))
def inner_machine_do_j3 (m_1 : Nat) (c_2 : Int) (arg3 : Int) (b20 : Bool) (w19 : World) (K : Value → World → Prop) : Prop :=
 brB b20
 (Calls Tryd.prog fn_inner_machine_loop #[.pointer (some ⟨m_1, 0, none⟩), .int .i64 c_2, .int .i64 arg3] w19 fun e51 w52 => e51 = .returned (.tuple #[]) ∧
 K (.nilIface) w52)
 (brB (c_2 == (41 : Int))
 (inner_machine_do_j2 m_1 c_2 (c_2 == (41 : Int)) w19 K)
 (inner_machine_do_j2 m_1 c_2 (c_2 == (42 : Int)) w19 K))
def inner_machine_do_j4 (m_1 : Nat) (c_2 : Int) (arg3 : Int) (b16 : Bool) (w15 : World) (K : Value → World → Prop) : Prop :=
 brB b16
 (Calls Tryd.prog fn_inner_machine_backs #[.pointer (some ⟨m_1, 0, none⟩), .int .i64 c_2] w15 fun e49 w50 => e49 = .returned (.tuple #[]) ∧
 K (.nilIface) w50)
 (brB (c_2 == (37 : Int))
 (inner_machine_do_j3 m_1 c_2 arg3 (c_2 == (37 : Int)) w15 K)
 (inner_machine_do_j3 m_1 c_2 arg3 (c_2 == (38 : Int)) w15 K))
def inner_machine_do_j5 (m_1 : Nat) (c_2 : Int) (arg3 : Int) (b12 : Bool) (w11 : World) (K : Value → World → Prop) : Prop :=
 brB b12
 (Calls Tryd.prog fn_inner_machine_memory #[.pointer (some ⟨m_1, 0, none⟩), .int .i64 c_2] w11 fun e46 w47 => ∃ v48 : Value, e46 = .returned (v48) ∧
 K (v48) w47)
 (brB (c_2 == (33 : Int))
 (inner_machine_do_j4 m_1 c_2 arg3 (c_2 == (33 : Int)) w11 K)
 (brB (c_2 == (34 : Int))
 (inner_machine_do_j4 m_1 c_2 arg3 (c_2 == (34 : Int)) w11 K)
 (brB (c_2 == (35 : Int))
 (inner_machine_do_j4 m_1 c_2 arg3 (c_2 == (35 : Int)) w11 K)
 (brB (c_2 == (36 : Int))
 (inner_machine_do_j4 m_1 c_2 arg3 (c_2 == (36 : Int)) w11 K)
 (brB (c_2 == (39 : Int))
 (inner_machine_do_j4 m_1 c_2 arg3 (c_2 == (39 : Int)) w11 K)
 (inner_machine_do_j4 m_1 c_2 arg3 (c_2 == (40 : Int)) w11 K))))))
def inner_machine_do_j6 (m_1 : Nat) (c_2 : Int) (arg3 : Int) (b8 : Bool) (w7 : World) (K : Value → World → Prop) : Prop :=
 brB b8
 (Calls Tryd.prog fn_inner_machine_shuffle #[.pointer (some ⟨m_1, 0, none⟩), .int .i64 c_2] w7 fun e44 w45 => e44 = .returned (.tuple #[]) ∧
 K (.nilIface) w45)
 (brB (c_2 == (30 : Int))
 (inner_machine_do_j5 m_1 c_2 arg3 (c_2 == (30 : Int)) w7 K)
 (brB (c_2 == (31 : Int))
 (inner_machine_do_j5 m_1 c_2 arg3 (c_2 == (31 : Int)) w7 K)
 (inner_machine_do_j5 m_1 c_2 arg3 (c_2 == (32 : Int)) w7 K)))
def inner_machine_do_sh (m_1 : Nat) (c_2 : Int) (arg3 : Int) (was4 : Int) (w : World) (K : Value → World → Prop) : Prop :=
 ∃ J14 : World → Prop, (∀ (w38 : World), J14  w38 →
 wrOk w38 ⟨m_1, 0, none⟩ 1 ∧ ∀ w39 : World, w39 = stW w38 ⟨m_1, 0, none⟩ 0 [.int .i64 arg3] →
 K (.nilIface) w39) ∧
 brB (c_2 == (0 : Int))
 (wrOk w ⟨m_1, 0, none⟩ 1 ∧ ∀ w29 : World, w29 = stW w ⟨m_1, 0, none⟩ 0 [.int .i64 was4] →
 wrOk w29 ⟨m_1, 8, none⟩ 1 ∧ ∀ w30 : World, w30 = stW w29 ⟨m_1, 8, none⟩ 0 [.int .i64 (1 : Int)] →
 K (.nilIface) w30)
 (brB (c_2 == (2 : Int))
 (∀ (b31 : Nat) (w32 : World), b31 = w.heap.size → w32 = World.alloc w (.cells #[.int .i64 arg3] T_int) →
 Calls Tryd.prog fn_inner_machine_push #[.pointer (some ⟨m_1, 0, none⟩), .slice (some ⟨b31, 0, none⟩) 1 1] w32 fun e33 w34 => e33 = .returned (.tuple #[]) ∧
 K (.nilIface) w34)
 (brB (c_2 == (4 : Int))
 (Calls Tryd.prog fn_inner_machine_pop #[.pointer (some ⟨m_1, 0, none⟩)] w fun e35 w36 => ∃ n37 : Int, e35 = .returned (.int .i64 n37) ∧
 brB (n37 != (0 : Int))
 (K (.nilIface) w36)
 (J14  w36))
 (brB (c_2 == (3 : Int))
 (J14  w)
 (brB (c_2 == (5 : Int))
 (Calls Tryd.prog fn_inner_machine_popBack #[.pointer (some ⟨m_1, 0, none⟩)] w fun e40 w41 => ∃ n42 : Int, e40 = .returned (.int .i64 n42) ∧
 wrOk w41 ⟨m_1, 0, none⟩ 1 ∧ ∀ w43 : World, w43 = stW w41 ⟨m_1, 0, none⟩ 0 [.int .i64 n42] →
 K (.nilIface) w43)
 (brB (c_2 == (6 : Int))
 (inner_machine_do_j6 m_1 c_2 arg3 (c_2 == (6 : Int)) w K)
 (brB (c_2 == (7 : Int))
 (inner_machine_do_j6 m_1 c_2 arg3 (c_2 == (7 : Int)) w K)
 (brB (c_2 == (8 : Int))
 (inner_machine_do_j6 m_1 c_2 arg3 (c_2 == (8 : Int)) w K)
 (brB (c_2 == (9 : Int))
 (inner_machine_do_j6 m_1 c_2 arg3 (c_2 == (9 : Int)) w K)
 (inner_machine_do_j6 m_1 c_2 arg3 (c_2 == (10 : Int)) w K)))))))))
def inner_machine_do_an : An := ⟨[], [], [(35, [])]⟩
theorem inner_machine_do_lift {m_1 : Nat} {c_2 : Int} {arg3 : Int} {was4 : Int} {w : World} {K : Value → World → Prop} (h : inner_machine_do_sh m_1 c_2 arg3 was4 w K) : Calls Tryd.prog fn_inner_machine_do #[.pointer (some ⟨m_1, 0, none⟩), .int .i64 c_2, .int .i64 arg3, .int .i64 was4] w fun e w' => ∃ v, e = .returned v ∧ K v w' :=
   lift_calls (A := inner_machine_do_an) (c := bodyOf Tryd.f56) (args := [.pointer (some ⟨m_1, 0, none⟩), .int .i64 c_2, .int .i64 arg3, .int .i64 was4]) orc orc_wide Tryd.func56 (by kernel_rfl) (by kernel_rfl) (Eq.mp (by kernel_rfl : inner_machine_do_sh m_1 c_2 arg3 was4 w K = wpc orc Tryd.f56.ntmps inner_machine_do_an (bodyOf Tryd.f56) (argl 0 [.pointer (some ⟨m_1, 0, none⟩), .int .i64 c_2, .int .i64 arg3, .int .i64 was4]) w (retQ orc Tryd.f56.results.toList K)) h)

-- holloway/inner.caught
def inner_caught_sh (s__Ip1 : Int) (s__Handler2 : Int) (s__Stack3 : Sl) (s__Back4 : Sl) (s__Mem5 : Sl) (s__Out6 : ByteArray) (s__In7 : ByteArray) (s__Read8 : Int) (s__Status9 : Int) (s__Code10 : Int) (w : World) (K : Value → World → Prop) : Prop :=
 ∀ (b11 : Nat) (w12 : World), b11 = w.heap.size → w12 = World.alloc w (.cells #[.int .i64 s__Ip1, .int .i64 s__Handler2, s__Stack3.val, s__Back4.val, s__Mem5.val, .string s__Out6, .string s__In7, .int .i64 s__Read8, .int .i64 s__Status9, .int .i64 s__Code10] T_api_State) →
 ∃ J3 : Bool → World → Prop, (∀ (b17 : Bool) (w16 : World), J3 b17 w16 →
 brB b17
 (K (.tuple #[.int .i64 (0 : Int), .bool false]) w16)
 (∃ s18 : Sl, w16.cell? ⟨b11, 3, none⟩ = some (s18.val) ∧
 ∃ n19 : Int, w16.cell? ⟨b11, 1, none⟩ = some (.int .i64 n19) ∧
 ∃ a20 : Addr, s18.ptr = some a20 ∧ 0 ≤ (wr (n19 - (1 : Int))) ∧ (wr (n19 - (1 : Int))) < (s18.len : Int) ∧
 ∃ n21 : Int, w16.cell? (Addr.add a20 (Int.toNat (wr (n19 - (1 : Int))) * 1)) = some (.int .i64 n21) ∧
 brB (decide (n21 ≥ (0 : Int)))
 (K (.tuple #[.int .i64 n21, .bool (decide (n21 < (48 : Int)))]) w16)
 (K (.tuple #[.int .i64 n21, .bool false]) w16))) ∧
 ∃ n13 : Int, w12.cell? ⟨b11, 1, none⟩ = some (.int .i64 n13) ∧
 brB (decide (n13 < (3 : Int)))
 (J3 true w12)
 (∃ n14 : Int, w12.cell? ⟨b11, 1, none⟩ = some (.int .i64 n14) ∧
 ∃ s15 : Sl, w12.cell? ⟨b11, 3, none⟩ = some (s15.val) ∧
 J3 (decide (n14 > (s15.len : Int))) w12)
def inner_caught_an : An := ⟨[], [], [(2, [(15, .bool)])]⟩
theorem inner_caught_lift {s__Ip1 : Int} {s__Handler2 : Int} {s__Stack3 : Sl} {s__Back4 : Sl} {s__Mem5 : Sl} {s__Out6 : ByteArray} {s__In7 : ByteArray} {s__Read8 : Int} {s__Status9 : Int} {s__Code10 : Int} {w : World} {K : Value → World → Prop} (h : inner_caught_sh s__Ip1 s__Handler2 s__Stack3 s__Back4 s__Mem5 s__Out6 s__In7 s__Read8 s__Status9 s__Code10 w K) : Calls Tryd.prog fn_inner_caught #[.agg #[.int .i64 s__Ip1, .int .i64 s__Handler2, s__Stack3.val, s__Back4.val, s__Mem5.val, .string s__Out6, .string s__In7, .int .i64 s__Read8, .int .i64 s__Status9, .int .i64 s__Code10]] w fun e w' => ∃ v, e = .returned v ∧ K v w' :=
   lift_calls (A := inner_caught_an) (c := bodyOf Tryd.f59) (args := [.agg #[.int .i64 s__Ip1, .int .i64 s__Handler2, s__Stack3.val, s__Back4.val, s__Mem5.val, .string s__Out6, .string s__In7, .int .i64 s__Read8, .int .i64 s__Status9, .int .i64 s__Code10]]) orc orc_wide Tryd.func59 (by kernel_rfl) (by kernel_rfl) (Eq.mp (by kernel_rfl : inner_caught_sh s__Ip1 s__Handler2 s__Stack3 s__Back4 s__Mem5 s__Out6 s__In7 s__Read8 s__Status9 s__Code10 w K = wpc orc Tryd.f59.ntmps inner_caught_an (bodyOf Tryd.f59) (argl 0 [.agg #[.int .i64 s__Ip1, .int .i64 s__Handler2, s__Stack3.val, s__Back4.val, s__Mem5.val, .string s__Out6, .string s__In7, .int .i64 s__Read8, .int .i64 s__Status9, .int .i64 s__Code10]]) w (retQ orc Tryd.f59.results.toList K)) h)

-- (*holloway/inner.machine).back
def inner_machine_back_sh (m_1 : Nat) (l_2 : Sl) (w : World) (K : Value → World → Prop) : Prop :=
 ∃ s3 : Sl, w.cell? ⟨m_1, 3, none⟩ = some (s3.val) ∧
 ∃ s4 : Sl, ∃ w5 : World, (Builtin.append_ #[T_sl_int, T_sl_int] T_sl_int #[s3.val, l_2.val]).run Tryd.prog w = .ok (s4.val) w5 ∧
 wrOk w5 ⟨m_1, 3, none⟩ 1 ∧ ∀ w6 : World, w6 = stW w5 ⟨m_1, 3, none⟩ 0 [s4.val] →
 K (.tuple #[]) w6
def inner_machine_back_an : An := ⟨[], [], []⟩
theorem inner_machine_back_lift {m_1 : Nat} {l_2 : Sl} {w : World} {K : Value → World → Prop} (h : inner_machine_back_sh m_1 l_2 w K) : Calls Tryd.prog fn_inner_machine_back #[.pointer (some ⟨m_1, 0, none⟩), l_2.val] w fun e w' => ∃ v, e = .returned v ∧ K v w' :=
   lift_calls (A := inner_machine_back_an) (c := bodyOf Tryd.f62) (args := [.pointer (some ⟨m_1, 0, none⟩), l_2.val]) orc orc_wide Tryd.func62 (by kernel_rfl) (by kernel_rfl) (Eq.mp (by kernel_rfl : inner_machine_back_sh m_1 l_2 w K = wpc orc Tryd.f62.ntmps inner_machine_back_an (bodyOf Tryd.f62) (argl 0 [.pointer (some ⟨m_1, 0, none⟩), l_2.val]) w (retQ orc Tryd.f62.results.toList K)) h)

-- (*holloway/inner.machine).push
def inner_machine_push_sh (m_1 : Nat) (l_2 : Sl) (w : World) (K : Value → World → Prop) : Prop :=
 ∃ s3 : Sl, w.cell? ⟨m_1, 2, none⟩ = some (s3.val) ∧
 ∃ s4 : Sl, ∃ w5 : World, (Builtin.append_ #[T_sl_int, T_sl_int] T_sl_int #[s3.val, l_2.val]).run Tryd.prog w = .ok (s4.val) w5 ∧
 wrOk w5 ⟨m_1, 2, none⟩ 1 ∧ ∀ w6 : World, w6 = stW w5 ⟨m_1, 2, none⟩ 0 [s4.val] →
 K (.tuple #[]) w6
def inner_machine_push_an : An := ⟨[], [], []⟩
theorem inner_machine_push_lift {m_1 : Nat} {l_2 : Sl} {w : World} {K : Value → World → Prop} (h : inner_machine_push_sh m_1 l_2 w K) : Calls Tryd.prog fn_inner_machine_push #[.pointer (some ⟨m_1, 0, none⟩), l_2.val] w fun e w' => ∃ v, e = .returned v ∧ K v w' :=
   lift_calls (A := inner_machine_push_an) (c := bodyOf Tryd.f66) (args := [.pointer (some ⟨m_1, 0, none⟩), l_2.val]) orc orc_wide Tryd.func66 (by kernel_rfl) (by kernel_rfl) (Eq.mp (by kernel_rfl : inner_machine_push_sh m_1 l_2 w K = wpc orc Tryd.f66.ntmps inner_machine_push_an (bodyOf Tryd.f66) (argl 0 [.pointer (some ⟨m_1, 0, none⟩), l_2.val]) w (retQ orc Tryd.f66.results.toList K)) h)

-- (*holloway/inner.machine).pop
def inner_machine_pop_sh (m_1 : Nat) (w : World) (K : Value → World → Prop) : Prop :=
 ∃ s2 : Sl, w.cell? ⟨m_1, 2, none⟩ = some (s2.val) ∧
 ∃ s3 : Sl, w.cell? ⟨m_1, 2, none⟩ = some (s3.val) ∧
 ∃ a4 : Addr, s3.ptr = some a4 ∧ 0 ≤ (wr ((s2.len : Int) - (1 : Int))) ∧ (wr ((s2.len : Int) - (1 : Int))) < (s3.len : Int) ∧
 ∃ n5 : Int, w.cell? (Addr.add a4 (Int.toNat (wr ((s2.len : Int) - (1 : Int))) * 1)) = some (.int .i64 n5) ∧
 ∃ s6 : Sl, w.cell? ⟨m_1, 2, none⟩ = some (s6.val) ∧
 0 ≤ (wr ((s2.len : Int) - (1 : Int))) ∧ (wr ((s2.len : Int) - (1 : Int))) ≤ (s6.cap : Int) ∧ ∀ s7 : Sl, s7 = Sl.sub s6.ptr s6.cap 0 (Int.toNat (wr ((s2.len : Int) - (1 : Int)))) 1 →
 wrOk w ⟨m_1, 2, none⟩ 1 ∧ ∀ w8 : World, w8 = stW w ⟨m_1, 2, none⟩ 0 [s7.val] →
 K (.int .i64 n5) w8
def inner_machine_pop_an : An := ⟨[], [], []⟩
theorem inner_machine_pop_lift {m_1 : Nat} {w : World} {K : Value → World → Prop} (h : inner_machine_pop_sh m_1 w K) : Calls Tryd.prog fn_inner_machine_pop #[.pointer (some ⟨m_1, 0, none⟩)] w fun e w' => ∃ v, e = .returned v ∧ K v w' :=
   lift_calls (A := inner_machine_pop_an) (c := bodyOf Tryd.f67) (args := [.pointer (some ⟨m_1, 0, none⟩)]) orc orc_wide Tryd.func67 (by kernel_rfl) (by kernel_rfl) (Eq.mp (by kernel_rfl : inner_machine_pop_sh m_1 w K = wpc orc Tryd.f67.ntmps inner_machine_pop_an (bodyOf Tryd.f67) (argl 0 [.pointer (some ⟨m_1, 0, none⟩)]) w (retQ orc Tryd.f67.results.toList K)) h)

-- (*holloway/inner.machine).popBack
def inner_machine_popBack_sh (m_1 : Nat) (w : World) (K : Value → World → Prop) : Prop :=
 ∃ s2 : Sl, w.cell? ⟨m_1, 3, none⟩ = some (s2.val) ∧
 ∃ s3 : Sl, w.cell? ⟨m_1, 3, none⟩ = some (s3.val) ∧
 ∃ a4 : Addr, s3.ptr = some a4 ∧ 0 ≤ (wr ((s2.len : Int) - (1 : Int))) ∧ (wr ((s2.len : Int) - (1 : Int))) < (s3.len : Int) ∧
 ∃ n5 : Int, w.cell? (Addr.add a4 (Int.toNat (wr ((s2.len : Int) - (1 : Int))) * 1)) = some (.int .i64 n5) ∧
 ∃ s6 : Sl, w.cell? ⟨m_1, 3, none⟩ = some (s6.val) ∧
 0 ≤ (wr ((s2.len : Int) - (1 : Int))) ∧ (wr ((s2.len : Int) - (1 : Int))) ≤ (s6.cap : Int) ∧ ∀ s7 : Sl, s7 = Sl.sub s6.ptr s6.cap 0 (Int.toNat (wr ((s2.len : Int) - (1 : Int)))) 1 →
 wrOk w ⟨m_1, 3, none⟩ 1 ∧ ∀ w8 : World, w8 = stW w ⟨m_1, 3, none⟩ 0 [s7.val] →
 K (.int .i64 n5) w8
def inner_machine_popBack_an : An := ⟨[], [], []⟩
theorem inner_machine_popBack_lift {m_1 : Nat} {w : World} {K : Value → World → Prop} (h : inner_machine_popBack_sh m_1 w K) : Calls Tryd.prog fn_inner_machine_popBack #[.pointer (some ⟨m_1, 0, none⟩)] w fun e w' => ∃ v, e = .returned v ∧ K v w' :=
   lift_calls (A := inner_machine_popBack_an) (c := bodyOf Tryd.f68) (args := [.pointer (some ⟨m_1, 0, none⟩)]) orc orc_wide Tryd.func68 (by kernel_rfl) (by kernel_rfl) (Eq.mp (by kernel_rfl : inner_machine_popBack_sh m_1 w K = wpc orc Tryd.f68.ntmps inner_machine_popBack_an (bodyOf Tryd.f68) (argl 0 [.pointer (some ⟨m_1, 0, none⟩)]) w (retQ orc Tryd.f68.results.toList K)) h)

-- (*holloway/inner.machine).shuffle
def inner_machine_shuffle_sh (m_1 : Nat) (c_2 : Int) (w : World) (K : Value → World → Prop) : Prop :=
 Calls Tryd.prog fn_inner_machine_pop #[.pointer (some ⟨m_1, 0, none⟩)] w fun e3 w4 => ∃ n5 : Int, e3 = .returned (.int .i64 n5) ∧
 brB (c_2 == (6 : Int))
 (∀ (b6 : Nat) (w7 : World), b6 = w4.heap.size → w7 = World.alloc w4 (.cells #[.int .i64 n5, .int .i64 n5] T_int) →
 Calls Tryd.prog fn_inner_machine_push #[.pointer (some ⟨m_1, 0, none⟩), .slice (some ⟨b6, 0, none⟩) 2 2] w7 fun e8 w9 => e8 = .returned (.tuple #[]) ∧
 K (.tuple #[]) w9)
 (brB (c_2 == (8 : Int))
 (Calls Tryd.prog fn_inner_machine_swapped #[.pointer (some ⟨m_1, 0, none⟩)] w4 fun e10 w11 => ∃ n12 : Int, e10 = .returned (.int .i64 n12) ∧
 ∀ (b13 : Nat) (w14 : World), b13 = w11.heap.size → w14 = World.alloc w11 (.cells #[.int .i64 n5, .int .i64 n12] T_int) →
 Calls Tryd.prog fn_inner_machine_push #[.pointer (some ⟨m_1, 0, none⟩), .slice (some ⟨b13, 0, none⟩) 2 2] w14 fun e15 w16 => e15 = .returned (.tuple #[]) ∧
 K (.tuple #[]) w16)
 (brB (c_2 == (9 : Int))
 (Calls Tryd.prog fn_inner_machine_pop #[.pointer (some ⟨m_1, 0, none⟩)] w4 fun e17 w18 => ∃ n19 : Int, e17 = .returned (.int .i64 n19) ∧
 ∀ (b20 : Nat) (w21 : World), b20 = w18.heap.size → w21 = World.alloc w18 (.cells #[.int .i64 n19, .int .i64 n5, .int .i64 n19] T_int) →
 Calls Tryd.prog fn_inner_machine_push #[.pointer (some ⟨m_1, 0, none⟩), .slice (some ⟨b20, 0, none⟩) 3 3] w21 fun e22 w23 => e22 = .returned (.tuple #[]) ∧
 K (.tuple #[]) w23)
 (brB (c_2 == (10 : Int))
 (Calls Tryd.prog fn_inner_machine_pop #[.pointer (some ⟨m_1, 0, none⟩)] w4 fun e24 w25 => ∃ n26 : Int, e24 = .returned (.int .i64 n26) ∧
 Calls Tryd.prog fn_inner_machine_pop #[.pointer (some ⟨m_1, 0, none⟩)] w25 fun e27 w28 => ∃ n29 : Int, e27 = .returned (.int .i64 n29) ∧
 ∀ (b30 : Nat) (w31 : World), b30 = w28.heap.size → w31 = World.alloc w28 (.cells #[.int .i64 n26, .int .i64 n5, .int .i64 n29] T_int) →
 Calls Tryd.prog fn_inner_machine_push #[.pointer (some ⟨m_1, 0, none⟩), .slice (some ⟨b30, 0, none⟩) 3 3] w31 fun e32 w33 => e32 = .returned (.tuple #[]) ∧
 K (.tuple #[]) w33)
 (K (.tuple #[]) w4))))
def inner_machine_shuffle_an : An := ⟨[], [], []⟩
theorem inner_machine_shuffle_lift {m_1 : Nat} {c_2 : Int} {w : World} {K : Value → World → Prop} (h : inner_machine_shuffle_sh m_1 c_2 w K) : Calls Tryd.prog fn_inner_machine_shuffle #[.pointer (some ⟨m_1, 0, none⟩), .int .i64 c_2] w fun e w' => ∃ v, e = .returned v ∧ K v w' :=
   lift_calls (A := inner_machine_shuffle_an) (c := bodyOf Tryd.f69) (args := [.pointer (some ⟨m_1, 0, none⟩), .int .i64 c_2]) orc orc_wide Tryd.func69 (by kernel_rfl) (by kernel_rfl) (Eq.mp (by kernel_rfl : inner_machine_shuffle_sh m_1 c_2 w K = wpc orc Tryd.f69.ntmps inner_machine_shuffle_an (bodyOf Tryd.f69) (argl 0 [.pointer (some ⟨m_1, 0, none⟩), .int .i64 c_2]) w (retQ orc Tryd.f69.results.toList K)) h)

-- (*holloway/inner.machine).memory
def inner_machine_memory_sh (m_1 : Nat) (c_2 : Int) (w : World) (K : Value → World → Prop) : Prop :=
 Calls Tryd.prog fn_inner_machine_pop #[.pointer (some ⟨m_1, 0, none⟩)] w fun e3 w4 => ∃ n5 : Int, e3 = .returned (.int .i64 n5) ∧
 Calls Tryd.prog fn_inner_machine_load #[.pointer (some ⟨m_1, 0, none⟩), .int .i64 n5] w4 fun e6 w7 => ∃ n8 : Int, ∃ v9 : Value, e6 = .returned (.tuple #[.int .i64 n8, v9]) ∧
 ∃ b10 : Bool, ∃ w11 : World, ((do eqGuard .neq T_error (.tmp 16) (.const (.nilIface)) (v9) (.nilIface); binOp .neq T_error (v9) (.nilIface) : Sem Value)).run Tryd.prog w7 = .ok (.bool b10) w11 ∧
 brB b10
 (K (v9) w11)
 (∃ J9 : Int → World → Prop, (∀ (v20 : Int) (w16 : World), J9 v20 w16 →
 ∀ w17 : World, w17 = World.drew w16 →
 ∃ S18 : World → Prop, S18 w17 ∧
 ∃ s19 : Sl, held S18 ⟨m_1, 4, none⟩ (s19.val) ∧
 Calls Tryd.prog fn_inner_machine_pop #[.pointer (some ⟨m_1, 0, none⟩)] w17 fun e21 w22 => ∃ n23 : Int, e21 = .returned (.int .i64 n23) ∧
 S18 w22 ∧
 ∃ a24 : Addr, s19.ptr = some a24 ∧ 0 ≤ n5 ∧ n5 < (s19.len : Int) ∧
 wrOk w22 (Addr.add a24 (Int.toNat n5 * 1)) 1 ∧ ∀ w25 : World, w25 = stW w22 (Addr.add a24 (Int.toNat n5 * 1)) 0 [.int .i64 (wr (v20 + n23))] →
 K (.nilIface) w25) ∧
 brB (c_2 == (30 : Int))
 (∀ (b12 : Nat) (w13 : World), b12 = w11.heap.size → w13 = World.alloc w11 (.cells #[.int .i64 n8] T_int) →
 Calls Tryd.prog fn_inner_machine_push #[.pointer (some ⟨m_1, 0, none⟩), .slice (some ⟨b12, 0, none⟩) 1 1] w13 fun e14 w15 => e14 = .returned (.tuple #[]) ∧
 K (.nilIface) w15)
 (brB (c_2 == (31 : Int))
 (J9 (0 : Int) w11)
 (J9 n8 w11)))
def inner_machine_memory_an : An := ⟨[], [(11, (10, .st 0 (.st 1 (.st 2 (.st 3 (.st 4 (.st 5 (.st 6 (.st 7 (.ef 8 (.st 9 .done))))))))), 1))], [(11, [(6, .int .i64)])]⟩
theorem inner_machine_memory_lift {m_1 : Nat} {c_2 : Int} {w : World} {K : Value → World → Prop} (h : inner_machine_memory_sh m_1 c_2 w K) : Calls Tryd.prog fn_inner_machine_memory #[.pointer (some ⟨m_1, 0, none⟩), .int .i64 c_2] w fun e w' => ∃ v, e = .returned v ∧ K v w' :=
   lift_calls (A := inner_machine_memory_an) (c := bodyOf Tryd.f70) (args := [.pointer (some ⟨m_1, 0, none⟩), .int .i64 c_2]) orc orc_wide Tryd.func70 (by kernel_rfl) (by kernel_rfl) (Eq.mp (by kernel_rfl : inner_machine_memory_sh m_1 c_2 w K = wpc orc Tryd.f70.ntmps inner_machine_memory_an (bodyOf Tryd.f70) (argl 0 [.pointer (some ⟨m_1, 0, none⟩), .int .i64 c_2]) w (retQ orc Tryd.f70.results.toList K)) h)

-- (*holloway/inner.machine).backs
def inner_machine_backs_sh (m_1 : Nat) (c_2 : Int) (w : World) (K : Value → World → Prop) : Prop :=
 brB (c_2 == (33 : Int))
 (Calls Tryd.prog fn_inner_machine_pop #[.pointer (some ⟨m_1, 0, none⟩)] w fun e3 w4 => ∃ n5 : Int, e3 = .returned (.int .i64 n5) ∧
 ∀ (b6 : Nat) (w7 : World), b6 = w4.heap.size → w7 = World.alloc w4 (.cells #[.int .i64 n5] T_int) →
 Calls Tryd.prog fn_inner_machine_back #[.pointer (some ⟨m_1, 0, none⟩), .slice (some ⟨b6, 0, none⟩) 1 1] w7 fun e8 w9 => e8 = .returned (.tuple #[]) ∧
 K (.tuple #[]) w9)
 (brB (c_2 == (34 : Int))
 (Calls Tryd.prog fn_inner_machine_popBack #[.pointer (some ⟨m_1, 0, none⟩)] w fun e10 w11 => ∃ n12 : Int, e10 = .returned (.int .i64 n12) ∧
 ∀ (b13 : Nat) (w14 : World), b13 = w11.heap.size → w14 = World.alloc w11 (.cells #[.int .i64 n12] T_int) →
 Calls Tryd.prog fn_inner_machine_push #[.pointer (some ⟨m_1, 0, none⟩), .slice (some ⟨b13, 0, none⟩) 1 1] w14 fun e15 w16 => e15 = .returned (.tuple #[]) ∧
 K (.tuple #[]) w16)
 (brB (c_2 == (35 : Int))
 (∀ w17 : World, w17 = World.drew w →
 ∃ S18 : World → Prop, S18 w17 ∧
 ∃ s19 : Sl, held S18 ⟨m_1, 3, none⟩ (s19.val) ∧
 ∃ s20 : Sl, held S18 ⟨m_1, 3, none⟩ (s20.val) ∧
 ∃ a21 : Addr, s19.ptr = some a21 ∧ 0 ≤ (wr ((s20.len : Int) - (1 : Int))) ∧ (wr ((s20.len : Int) - (1 : Int))) < (s19.len : Int) ∧
 ∃ n22 : Int, held S18 (Addr.add a21 (Int.toNat (wr ((s20.len : Int) - (1 : Int))) * 1)) (.int .i64 n22) ∧
 ∀ (b23 : Nat) (w24 : World), b23 = w17.heap.size → w24 = World.alloc w17 (.cells #[.int .i64 n22] T_int) →
 S18 w24 ∧
 Calls Tryd.prog fn_inner_machine_push #[.pointer (some ⟨m_1, 0, none⟩), .slice (some ⟨b23, 0, none⟩) 1 1] w24 fun e25 w26 => e25 = .returned (.tuple #[]) ∧
 K (.tuple #[]) w26)
 (brB (c_2 == (36 : Int))
 (Calls Tryd.prog fn_inner_machine_pop #[.pointer (some ⟨m_1, 0, none⟩)] w fun e27 w28 => ∃ n29 : Int, e27 = .returned (.int .i64 n29) ∧
 Calls Tryd.prog fn_inner_machine_pop #[.pointer (some ⟨m_1, 0, none⟩)] w28 fun e30 w31 => ∃ n32 : Int, e30 = .returned (.int .i64 n32) ∧
 ∀ (b33 : Nat) (w34 : World), b33 = w31.heap.size → w34 = World.alloc w31 (.cells #[.int .i64 n32, .int .i64 n29] T_int) →
 Calls Tryd.prog fn_inner_machine_back #[.pointer (some ⟨m_1, 0, none⟩), .slice (some ⟨b33, 0, none⟩) 2 2] w34 fun e35 w36 => e35 = .returned (.tuple #[]) ∧
 K (.tuple #[]) w36)
 (brB (c_2 == (39 : Int))
 (∀ w37 : World, w37 = World.drew w →
 ∃ S38 : World → Prop, S38 w37 ∧
 ∃ s39 : Sl, held S38 ⟨m_1, 3, none⟩ (s39.val) ∧
 ∃ s40 : Sl, held S38 ⟨m_1, 3, none⟩ (s40.val) ∧
 ∃ a41 : Addr, s39.ptr = some a41 ∧ 0 ≤ (wr ((s40.len : Int) - (3 : Int))) ∧ (wr ((s40.len : Int) - (3 : Int))) < (s39.len : Int) ∧
 ∃ n42 : Int, held S38 (Addr.add a41 (Int.toNat (wr ((s40.len : Int) - (3 : Int))) * 1)) (.int .i64 n42) ∧
 ∀ (b43 : Nat) (w44 : World), b43 = w37.heap.size → w44 = World.alloc w37 (.cells #[.int .i64 n42] T_int) →
 S38 w44 ∧
 Calls Tryd.prog fn_inner_machine_push #[.pointer (some ⟨m_1, 0, none⟩), .slice (some ⟨b43, 0, none⟩) 1 1] w44 fun e45 w46 => e45 = .returned (.tuple #[]) ∧
 K (.tuple #[]) w46)
 (∀ w47 : World, w47 = World.drew w →
 ∃ s48 : Sl, held (Lw w47) ⟨m_1, 3, none⟩ (s48.val) ∧
 ∃ s49 : Sl, held (Lw w47) ⟨m_1, 3, none⟩ (s49.val) ∧
 0 ≤ (wr ((s49.len : Int) - (2 : Int))) ∧ (wr ((s49.len : Int) - (2 : Int))) ≤ (s48.cap : Int) ∧ 
 wrOk w47 ⟨m_1, 3, none⟩ 1 ∧ ∀ w50 : World, w50 = stW w47 ⟨m_1, 3, none⟩ 0 [(Sl.sub s48.ptr s48.cap 0 (Int.toNat (wr ((s49.len : Int) - (2 : Int)))) 1).val] →
 K (.tuple #[]) w50)))))
def inner_machine_backs_an : An := ⟨[], [(1, (17, .st 0 (.st 1 (.st 2 (.st 3 (.st 4 (.st 5 (.st 6 (.st 7 (.st 8 (.st 9 (.st 10 (.st 11 (.st 12 (.st 13 (.st 14 (.st 15 (.st 16 .done)))))))))))))))), 0)), (7, (16, .st 0 (.st 1 (.st 2 (.st 3 (.st 4 (.st 5 (.st 6 (.st 7 (.st 8 (.st 9 (.st 10 (.st 11 (.st 12 (.st 13 (.st 14 (.ef 15 .done))))))))))))))), 1)), (12, (16, .st 0 (.st 1 (.st 2 (.st 3 (.st 4 (.st 5 (.st 6 (.st 7 (.st 8 (.st 9 (.st 10 (.st 11 (.st 12 (.st 13 (.st 14 (.ef 15 .done))))))))))))))), 1))], []⟩
theorem inner_machine_backs_lift {m_1 : Nat} {c_2 : Int} {w : World} {K : Value → World → Prop} (h : inner_machine_backs_sh m_1 c_2 w K) : Calls Tryd.prog fn_inner_machine_backs #[.pointer (some ⟨m_1, 0, none⟩), .int .i64 c_2] w fun e w' => ∃ v, e = .returned v ∧ K v w' :=
   lift_calls (A := inner_machine_backs_an) (c := bodyOf Tryd.f71) (args := [.pointer (some ⟨m_1, 0, none⟩), .int .i64 c_2]) orc orc_wide Tryd.func71 (by kernel_rfl) (by kernel_rfl) (Eq.mp (by kernel_rfl : inner_machine_backs_sh m_1 c_2 w K = wpc orc Tryd.f71.ntmps inner_machine_backs_an (bodyOf Tryd.f71) (argl 0 [.pointer (some ⟨m_1, 0, none⟩), .int .i64 c_2]) w (retQ orc Tryd.f71.results.toList K)) h)

-- (*holloway/inner.machine).loop
def inner_machine_loop_sh (m_1 : Nat) (c_2 : Int) (arg3 : Int) (w : World) (K : Value → World → Prop) : Prop :=
 Calls Tryd.prog fn_inner_machine_popBack #[.pointer (some ⟨m_1, 0, none⟩)] w fun e4 w5 => ∃ n6 : Int, e4 = .returned (.int .i64 n6) ∧
 Calls Tryd.prog fn_inner_machine_popBack #[.pointer (some ⟨m_1, 0, none⟩)] w5 fun e7 w8 => ∃ n9 : Int, e7 = .returned (.int .i64 n9) ∧
 ∃ J4 : Int → Bool → World → Prop, (∀ (n18 : Int) (ends17 : Bool) (w16 : World), J4 n18 ends17 w16 →
 brB (!ends17)
 (∀ (b19 : Nat) (w20 : World), b19 = w16.heap.size → w20 = World.alloc w16 (.cells #[.int .i64 n9, .int .i64 (wr (n6 + n18))] T_int) →
 Calls Tryd.prog fn_inner_machine_back #[.pointer (some ⟨m_1, 0, none⟩), .slice (some ⟨b19, 0, none⟩) 2 2] w20 fun e21 w22 => e21 = .returned (.tuple #[]) ∧
 wrOk w22 ⟨m_1, 0, none⟩ 1 ∧ ∀ w23 : World, w23 = stW w22 ⟨m_1, 0, none⟩ 0 [.int .i64 arg3] →
 K (.tuple #[]) w23)
 (K (.tuple #[]) w16)) ∧
 brB (c_2 == (38 : Int))
 (Calls Tryd.prog fn_inner_machine_pop #[.pointer (some ⟨m_1, 0, none⟩)] w8 fun e10 w11 => ∃ n12 : Int, e10 = .returned (.int .i64 n12) ∧
 Calls Tryd.prog fn_cell_Crosses #[.int .i64 (wr (n6 - n9)), .int .i64 n12] w11 fun e13 w14 => ∃ b15 : Bool, e13 = .returned (.bool b15) ∧
 J4 n12 b15 w14)
 (J4 (1 : Int) ((wr (n6 + (1 : Int))) == n9) w8)
def inner_machine_loop_an : An := ⟨[], [], [(6, [(8, .int .i64), (9, .bool)])]⟩
theorem inner_machine_loop_lift {m_1 : Nat} {c_2 : Int} {arg3 : Int} {w : World} {K : Value → World → Prop} (h : inner_machine_loop_sh m_1 c_2 arg3 w K) : Calls Tryd.prog fn_inner_machine_loop #[.pointer (some ⟨m_1, 0, none⟩), .int .i64 c_2, .int .i64 arg3] w fun e w' => ∃ v, e = .returned v ∧ K v w' :=
   lift_calls (A := inner_machine_loop_an) (c := bodyOf Tryd.f72) (args := [.pointer (some ⟨m_1, 0, none⟩), .int .i64 c_2, .int .i64 arg3]) orc orc_wide Tryd.func72 (by kernel_rfl) (by kernel_rfl) (Eq.mp (by kernel_rfl : inner_machine_loop_sh m_1 c_2 arg3 w K = wpc orc Tryd.f72.ntmps inner_machine_loop_an (bodyOf Tryd.f72) (argl 0 [.pointer (some ⟨m_1, 0, none⟩), .int .i64 c_2, .int .i64 arg3]) w (retQ orc Tryd.f72.results.toList K)) h)

-- (*holloway/inner.machine).say
def inner_machine_say_sh (m_1 : Nat) (c_2 : Int) (w : World) (K : Value → World → Prop) : Prop :=
 Calls Tryd.prog fn_inner_machine_pop #[.pointer (some ⟨m_1, 0, none⟩)] w fun e3 w4 => ∃ n5 : Int, e3 = .returned (.int .i64 n5) ∧
 ∀ (b6 : Nat) (w7 : World), b6 = w4.heap.size → w7 = World.alloc w4 (.cells #[.int .u8 (IntKind.wrap .u8 n5)] T_uint8) →
 ∃ t8 : ByteArray, ∃ w9 : World, (convert T_sl_uint8 T_string (.slice (some ⟨b6, 0, none⟩) 1 1)).run Tryd.prog w7 = .ok (.string t8) w9 ∧
 ∃ J4 : ByteArray → World → Prop, (∀ (text15 : ByteArray) (w13 : World), J4 text15 w13 →
 ∃ t14 : ByteArray, w13.cell? ⟨m_1, 5, none⟩ = some (.string t14) ∧
 brB (decide ((wr ((t14.size : Int) + (text15.size : Int))) > (2000 : Int)))
 (Calls Tryd.prog fn_inner_machine_fails #[.pointer (some ⟨m_1, 0, none⟩), .int .i64 (-57 : Int)] w13 fun e16 w17 => ∃ v18 : Value, e16 = .returned (v18) ∧
 K (v18) w17)
 (∃ t19 : ByteArray, w13.cell? ⟨m_1, 5, none⟩ = some (.string t19) ∧
 ((t19).size : Int) + ((text15).size : Int) ≤ 9223372036854775807 ∧ wrOk w13 ⟨m_1, 5, none⟩ 1 ∧ ∀ w20 : World, w20 = stW w13 ⟨m_1, 5, none⟩ 0 [.string (t19 ++ text15)] →
 K (.nilIface) w20)) ∧
 brB (c_2 == (42 : Int))
 (Calls Tryd.prog fn_digits_Put #[.int .i64 n5, .int .i64 (10 : Int)] w9 fun e10 w11 => ∃ t12 : ByteArray, e10 = .returned (.string t12) ∧
 ((t12).size : Int) + (((bs [32])).size : Int) ≤ 9223372036854775807 ∧ J4 (t12 ++ (bs [32])) w11)
 (J4 t8 w9)
def inner_machine_say_an : An := ⟨[], [], [(5, [(6, .str)])]⟩
theorem inner_machine_say_lift {m_1 : Nat} {c_2 : Int} {w : World} {K : Value → World → Prop} (h : inner_machine_say_sh m_1 c_2 w K) : Calls Tryd.prog fn_inner_machine_say #[.pointer (some ⟨m_1, 0, none⟩), .int .i64 c_2] w fun e w' => ∃ v, e = .returned v ∧ K v w' :=
   lift_calls (A := inner_machine_say_an) (c := bodyOf Tryd.f73) (args := [.pointer (some ⟨m_1, 0, none⟩), .int .i64 c_2]) orc orc_wide Tryd.func73 (by kernel_rfl) (by kernel_rfl) (Eq.mp (by kernel_rfl : inner_machine_say_sh m_1 c_2 w K = wpc orc Tryd.f73.ntmps inner_machine_say_an (bodyOf Tryd.f73) (argl 0 [.pointer (some ⟨m_1, 0, none⟩), .int .i64 c_2]) w (retQ orc Tryd.f73.results.toList K)) h)

-- (*holloway/inner.machine).key
def inner_machine_key_sh (m_1 : Nat) (w : World) (K : Value → World → Prop) : Prop :=
 ∀ w2 : World, w2 = World.drew w →
 ∃ n3 : Int, held (Lw w2) ⟨m_1, 7, none⟩ (.int .i64 n3) ∧
 ∃ t4 : ByteArray, held (Lw w2) ⟨m_1, 6, none⟩ (.string t4) ∧
 brB (decide (n3 ≥ (t4.size : Int)))
 (∀ (b5 : Nat) (w6 : World), b5 = w2.heap.size → w6 = World.alloc w2 (.cells #[.int .i64 (-1 : Int)] T_int) →
 Calls Tryd.prog fn_inner_machine_push #[.pointer (some ⟨m_1, 0, none⟩), .slice (some ⟨b5, 0, none⟩) 1 1] w6 fun e7 w8 => e7 = .returned (.tuple #[]) ∧
 K (.tuple #[]) w8)
 (∀ w9 : World, w9 = World.drew w2 →
 ∃ S10 : World → Prop, S10 w9 ∧
 ∃ t11 : ByteArray, held S10 ⟨m_1, 6, none⟩ (.string t11) ∧
 ∃ n12 : Int, held S10 ⟨m_1, 7, none⟩ (.int .i64 n12) ∧
 0 ≤ n12 ∧ n12 < (t11.size : Int) ∧
 ∀ (b13 : Nat) (w14 : World), b13 = w9.heap.size → w14 = World.alloc w9 (.cells #[.int .i64 (wr (sb t11 n12))] T_int) →
 S10 w14 ∧
 Calls Tryd.prog fn_inner_machine_push #[.pointer (some ⟨m_1, 0, none⟩), .slice (some ⟨b13, 0, none⟩) 1 1] w14 fun e15 w16 => e15 = .returned (.tuple #[]) ∧
 ∃ n17 : Int, w16.cell? ⟨m_1, 7, none⟩ = some (.int .i64 n17) ∧
 wrOk w16 ⟨m_1, 7, none⟩ 1 ∧ ∀ w18 : World, w18 = stW w16 ⟨m_1, 7, none⟩ 0 [.int .i64 (wr (n17 + (1 : Int)))] →
 K (.tuple #[]) w18)
def inner_machine_key_an : An := ⟨[], [(0, (12, .st 0 (.st 1 (.st 2 (.st 3 (.st 4 (.st 5 (.st 6 (.st 7 (.st 8 (.st 9 (.st 10 (.st 11 .done))))))))))), 0)), (2, (14, .st 0 (.st 1 (.st 2 (.st 3 (.st 4 (.st 5 (.st 6 (.st 7 (.st 8 (.st 9 (.st 10 (.st 11 (.st 12 (.ef 13 .done))))))))))))), 1))], []⟩
theorem inner_machine_key_lift {m_1 : Nat} {w : World} {K : Value → World → Prop} (h : inner_machine_key_sh m_1 w K) : Calls Tryd.prog fn_inner_machine_key #[.pointer (some ⟨m_1, 0, none⟩)] w fun e w' => ∃ v, e = .returned v ∧ K v w' :=
   lift_calls (A := inner_machine_key_an) (c := bodyOf Tryd.f74) (args := [.pointer (some ⟨m_1, 0, none⟩)]) orc orc_wide Tryd.func74 (by kernel_rfl) (by kernel_rfl) (Eq.mp (by kernel_rfl : inner_machine_key_sh m_1 w K = wpc orc Tryd.f74.ntmps inner_machine_key_an (bodyOf Tryd.f74) (argl 0 [.pointer (some ⟨m_1, 0, none⟩)]) w (retQ orc Tryd.f74.results.toList K)) h)

-- (*holloway/inner.machine).flow
def inner_machine_flow_sh (m_1 : Nat) (c_2 : Int) (w : World) (K : Value → World → Prop) : Prop :=
 brB (c_2 == (44 : Int))
 (Calls Tryd.prog fn_inner_machine_pop #[.pointer (some ⟨m_1, 0, none⟩)] w fun e3 w4 => ∃ n5 : Int, e3 = .returned (.int .i64 n5) ∧
 ∃ J7 : Bool → World → Prop, (∀ (b8 : Bool) (w7 : World), J7 b8 w7 →
 brB b8
 (Calls Tryd.prog fn_inner_machine_fails #[.pointer (some ⟨m_1, 0, none⟩), .int .i64 (-13 : Int)] w7 fun e9 w10 => ∃ v11 : Value, e9 = .returned (v11) ∧
 K (v11) w10)
 (∃ n12 : Int, w7.cell? ⟨m_1, 0, none⟩ = some (.int .i64 n12) ∧
 ∀ (b13 : Nat) (w14 : World), b13 = w7.heap.size → w14 = World.alloc w7 (.cells #[.int .i64 n12] T_int) →
 Calls Tryd.prog fn_inner_machine_back #[.pointer (some ⟨m_1, 0, none⟩), .slice (some ⟨b13, 0, none⟩) 1 1] w14 fun e15 w16 => e15 = .returned (.tuple #[]) ∧
 wrOk w16 ⟨m_1, 0, none⟩ 1 ∧ ∀ w17 : World, w17 = stW w16 ⟨m_1, 0, none⟩ 0 [.int .i64 n5] →
 K (.nilIface) w17)) ∧
 brB (decide (n5 < (64 : Int)))
 (J7 true w4)
 (∃ s6 : Sl, w4.cell? ⟨m_1, 4, none⟩ = some (s6.val) ∧
 J7 (decide (n5 ≥ (s6.len : Int))) w4))
 (brB (c_2 == (45 : Int))
 (wrOk w ⟨m_1, 10, none⟩ 1 ∧ ∀ w18 : World, w18 = stW w ⟨m_1, 10, none⟩ 0 [.bool true] →
 ∀ w19 : World, w19 = World.drew w18 →
 ∃ S20 : World → Prop, S20 w19 ∧
 ∃ n21 : Int, held S20 ⟨m_1, 0, none⟩ (.int .i64 n21) ∧
 Calls Tryd.prog fn_inner_machine_pop #[.pointer (some ⟨m_1, 0, none⟩)] w19 fun e22 w23 => ∃ n24 : Int, e22 = .returned (.int .i64 n24) ∧
 S20 w23 ∧
 Calls Tryd.prog fn_fault_New #[.int .i64 n24, .int .i64 n21] w23 fun e25 w26 => ∃ v27 : Value, e25 = .returned (v27) ∧
 K (v27) w26)
 (brB (c_2 == (46 : Int))
 (Calls Tryd.prog fn_inner_machine_pop #[.pointer (some ⟨m_1, 0, none⟩)] w fun e28 w29 => ∃ n30 : Int, e28 = .returned (.int .i64 n30) ∧
 ∀ w31 : World, w31 = World.drew w29 →
 ∃ S32 : World → Prop, S32 w31 ∧
 ∃ n33 : Int, held S32 ⟨m_1, 0, none⟩ (.int .i64 n33) ∧
 ∃ n34 : Int, held S32 ⟨m_1, 1, none⟩ (.int .i64 n34) ∧
 ∃ s35 : Sl, held S32 ⟨m_1, 2, none⟩ (s35.val) ∧
 ∀ (b36 : Nat) (w37 : World), b36 = w31.heap.size → w37 = World.alloc w31 (.cells #[.int .i64 n33, .int .i64 n34, .int .i64 (s35.len : Int)] T_int) →
 S32 w37 ∧
 Calls Tryd.prog fn_inner_machine_back #[.pointer (some ⟨m_1, 0, none⟩), .slice (some ⟨b36, 0, none⟩) 3 3] w37 fun e38 w39 => e38 = .returned (.tuple #[]) ∧
 ∃ s40 : Sl, w39.cell? ⟨m_1, 3, none⟩ = some (s40.val) ∧
 wrOk w39 ⟨m_1, 1, none⟩ 1 ∧ ∀ w41 : World, w41 = stW w39 ⟨m_1, 1, none⟩ 0 [.int .i64 (s40.len : Int)] →
 ∀ (b42 : Nat) (w43 : World), b42 = w41.heap.size → w43 = World.alloc w41 (.cells #[.int .i64 (1 : Int)] T_int) →
 Calls Tryd.prog fn_inner_machine_back #[.pointer (some ⟨m_1, 0, none⟩), .slice (some ⟨b42, 0, none⟩) 1 1] w43 fun e44 w45 => e44 = .returned (.tuple #[]) ∧
 wrOk w45 ⟨m_1, 0, none⟩ 1 ∧ ∀ w46 : World, w46 = stW w45 ⟨m_1, 0, none⟩ 0 [.int .i64 n30] →
 K (.nilIface) w46)
 (Calls Tryd.prog fn_inner_machine_endCatch #[.pointer (some ⟨m_1, 0, none⟩)] w fun e47 w48 => ∃ v49 : Value, e47 = .returned (v49) ∧
 K (v49) w48)))
def inner_machine_flow_an : An := ⟨[], [(11, (7, .st 0 (.st 2 (.st 3 (.st 4 (.st 5 (.st 6 (.ef 1 .done)))))), 1)), (14, (18, .st 0 (.st 1 (.st 2 (.st 3 (.st 4 (.st 5 (.st 6 (.st 7 (.st 8 (.st 9 (.st 10 (.st 11 (.st 12 (.st 13 (.st 14 (.st 15 (.st 16 (.ef 17 .done))))))))))))))))), 1))], [(6, [(25, .bool)])]⟩
theorem inner_machine_flow_lift {m_1 : Nat} {c_2 : Int} {w : World} {K : Value → World → Prop} (h : inner_machine_flow_sh m_1 c_2 w K) : Calls Tryd.prog fn_inner_machine_flow #[.pointer (some ⟨m_1, 0, none⟩), .int .i64 c_2] w fun e w' => ∃ v, e = .returned v ∧ K v w' :=
   lift_calls (A := inner_machine_flow_an) (c := bodyOf Tryd.f75) (args := [.pointer (some ⟨m_1, 0, none⟩), .int .i64 c_2]) orc orc_wide Tryd.func75 (by kernel_rfl) (by kernel_rfl) (Eq.mp (by kernel_rfl : inner_machine_flow_sh m_1 c_2 w K = wpc orc Tryd.f75.ntmps inner_machine_flow_an (bodyOf Tryd.f75) (argl 0 [.pointer (some ⟨m_1, 0, none⟩), .int .i64 c_2]) w (retQ orc Tryd.f75.results.toList K)) h)

-- (*holloway/inner.machine).reckon
def inner_machine_reckon_sh (m_1 : Nat) (c_2 : Int) (w : World) (K : Value → World → Prop) : Prop :=
 Calls Tryd.prog fn_inner_machine_pop #[.pointer (some ⟨m_1, 0, none⟩)] w fun e3 w4 => ∃ n5 : Int, e3 = .returned (.int .i64 n5) ∧
 Calls Tryd.prog fn_cell_One #[.int .i64 c_2, .int .i64 n5] w4 fun e6 w7 => ∃ n8 : Int, ∃ b9 : Bool, e6 = .returned (.tuple #[.int .i64 n8, .bool b9]) ∧
 brB b9
 (∀ (b10 : Nat) (w11 : World), b10 = w7.heap.size → w11 = World.alloc w7 (.cells #[.int .i64 n8] T_int) →
 Calls Tryd.prog fn_inner_machine_push #[.pointer (some ⟨m_1, 0, none⟩), .slice (some ⟨b10, 0, none⟩) 1 1] w11 fun e12 w13 => e12 = .returned (.tuple #[]) ∧
 K (.nilIface) w13)
 (Calls Tryd.prog fn_inner_machine_pop #[.pointer (some ⟨m_1, 0, none⟩)] w7 fun e14 w15 => ∃ n16 : Int, e14 = .returned (.int .i64 n16) ∧
 Calls Tryd.prog fn_cell_Two #[.int .i64 c_2, .int .i64 n16, .int .i64 n5] w15 fun e17 w18 => ∃ n19 : Int, ∃ b20 : Bool, e17 = .returned (.tuple #[.int .i64 n19, .bool b20]) ∧
 brB (!b20)
 (Calls Tryd.prog fn_inner_machine_fails #[.pointer (some ⟨m_1, 0, none⟩), .int .i64 (-10 : Int)] w18 fun e21 w22 => ∃ v23 : Value, e21 = .returned (v23) ∧
 K (v23) w22)
 (∀ (b24 : Nat) (w25 : World), b24 = w18.heap.size → w25 = World.alloc w18 (.cells #[.int .i64 n19] T_int) →
 Calls Tryd.prog fn_inner_machine_push #[.pointer (some ⟨m_1, 0, none⟩), .slice (some ⟨b24, 0, none⟩) 1 1] w25 fun e26 w27 => e26 = .returned (.tuple #[]) ∧
 K (.nilIface) w27))
def inner_machine_reckon_an : An := ⟨[], [], []⟩
theorem inner_machine_reckon_lift {m_1 : Nat} {c_2 : Int} {w : World} {K : Value → World → Prop} (h : inner_machine_reckon_sh m_1 c_2 w K) : Calls Tryd.prog fn_inner_machine_reckon #[.pointer (some ⟨m_1, 0, none⟩), .int .i64 c_2] w fun e w' => ∃ v, e = .returned v ∧ K v w' :=
   lift_calls (A := inner_machine_reckon_an) (c := bodyOf Tryd.f76) (args := [.pointer (some ⟨m_1, 0, none⟩), .int .i64 c_2]) orc orc_wide Tryd.func76 (by kernel_rfl) (by kernel_rfl) (Eq.mp (by kernel_rfl : inner_machine_reckon_sh m_1 c_2 w K = wpc orc Tryd.f76.ntmps inner_machine_reckon_an (bodyOf Tryd.f76) (argl 0 [.pointer (some ⟨m_1, 0, none⟩), .int .i64 c_2]) w (retQ orc Tryd.f76.results.toList K)) h)

-- (*holloway/inner.machine).swapped
def inner_machine_swapped_sh (m_1 : Nat) (w : World) (K : Value → World → Prop) : Prop :=
 Calls Tryd.prog fn_inner_machine_pop #[.pointer (some ⟨m_1, 0, none⟩)] w fun e2 w3 => ∃ n4 : Int, e2 = .returned (.int .i64 n4) ∧
 K (.int .i64 n4) w3
def inner_machine_swapped_an : An := ⟨[], [], []⟩
theorem inner_machine_swapped_lift {m_1 : Nat} {w : World} {K : Value → World → Prop} (h : inner_machine_swapped_sh m_1 w K) : Calls Tryd.prog fn_inner_machine_swapped #[.pointer (some ⟨m_1, 0, none⟩)] w fun e w' => ∃ v, e = .returned v ∧ K v w' :=
   lift_calls (A := inner_machine_swapped_an) (c := bodyOf Tryd.f79) (args := [.pointer (some ⟨m_1, 0, none⟩)]) orc orc_wide Tryd.func79 (by kernel_rfl) (by kernel_rfl) (Eq.mp (by kernel_rfl : inner_machine_swapped_sh m_1 w K = wpc orc Tryd.f79.ntmps inner_machine_swapped_an (bodyOf Tryd.f79) (argl 0 [.pointer (some ⟨m_1, 0, none⟩)]) w (retQ orc Tryd.f79.results.toList K)) h)

-- (*holloway/inner.machine).endCatch
def inner_machine_endCatch_sh (m_1 : Nat) (w : World) (K : Value → World → Prop) : Prop :=
 ∃ J3 : Bool → World → Prop, (∀ (b7 : Bool) (w6 : World), J3 b7 w6 →
 brB b7
 (Calls Tryd.prog fn_inner_machine_fails #[.pointer (some ⟨m_1, 0, none⟩), .int .i64 (-25 : Int)] w6 fun e8 w9 => ∃ v10 : Value, e8 = .returned (v10) ∧
 K (v10) w9)
 (∃ s11 : Sl, w6.cell? ⟨m_1, 2, none⟩ = some (s11.val) ∧
 brB (decide ((s11.len : Int) ≥ (48 : Int)))
 (Calls Tryd.prog fn_inner_machine_fails #[.pointer (some ⟨m_1, 0, none⟩), .int .i64 (-3 : Int)] w6 fun e12 w13 => ∃ v14 : Value, e12 = .returned (v14) ∧
 K (v14) w13)
 (Calls Tryd.prog fn_inner_machine_popBack #[.pointer (some ⟨m_1, 0, none⟩)] w6 fun e15 w16 => ∃ n17 : Int, e15 = .returned (.int .i64 n17) ∧
 Calls Tryd.prog fn_inner_machine_popBack #[.pointer (some ⟨m_1, 0, none⟩)] w16 fun e18 w19 => ∃ n20 : Int, e18 = .returned (.int .i64 n20) ∧
 wrOk w19 ⟨m_1, 1, none⟩ 1 ∧ ∀ w21 : World, w21 = stW w19 ⟨m_1, 1, none⟩ 0 [.int .i64 n20] →
 Calls Tryd.prog fn_inner_machine_popBack #[.pointer (some ⟨m_1, 0, none⟩)] w21 fun e22 w23 => ∃ n24 : Int, e22 = .returned (.int .i64 n24) ∧
 wrOk w23 ⟨m_1, 0, none⟩ 1 ∧ ∀ w25 : World, w25 = stW w23 ⟨m_1, 0, none⟩ 0 [.int .i64 n24] →
 ∀ (b26 : Nat) (w27 : World), b26 = w25.heap.size → w27 = World.alloc w25 (.cells #[.int .i64 (0 : Int)] T_int) →
 Calls Tryd.prog fn_inner_machine_push #[.pointer (some ⟨m_1, 0, none⟩), .slice (some ⟨b26, 0, none⟩) 1 1] w27 fun e28 w29 => e28 = .returned (.tuple #[]) ∧
 K (.nilIface) w29))) ∧
 ∀ w2 : World, w2 = World.drew w →
 ∃ n3 : Int, held (Lw w2) ⟨m_1, 1, none⟩ (.int .i64 n3) ∧
 brB (decide (n3 < (3 : Int)))
 (J3 true w2)
 (∃ s4 : Sl, held (Lw w2) ⟨m_1, 3, none⟩ (s4.val) ∧
 ∃ n5 : Int, held (Lw w2) ⟨m_1, 1, none⟩ (.int .i64 n5) ∧
 J3 ((s4.len : Int) != n5) w2)
def inner_machine_endCatch_an : An := ⟨[], [(1, (20, .st 0 (.st 1 (.st 2 (.st 3 (.st 4 (.st 5 (.st 6 (.st 7 (.st 8 (.st 9 (.st 10 (.st 11 (.st 12 (.st 13 (.st 14 (.st 15 (.st 16 (.st 17 (.st 18 (.st 19 .done))))))))))))))))))), 0))], [(2, [(22, .bool)])]⟩
theorem inner_machine_endCatch_lift {m_1 : Nat} {w : World} {K : Value → World → Prop} (h : inner_machine_endCatch_sh m_1 w K) : Calls Tryd.prog fn_inner_machine_endCatch #[.pointer (some ⟨m_1, 0, none⟩)] w fun e w' => ∃ v, e = .returned v ∧ K v w' :=
   lift_calls (A := inner_machine_endCatch_an) (c := bodyOf Tryd.f82) (args := [.pointer (some ⟨m_1, 0, none⟩)]) orc orc_wide Tryd.func82 (by kernel_rfl) (by kernel_rfl) (Eq.mp (by kernel_rfl : inner_machine_endCatch_sh m_1 w K = wpc orc Tryd.f82.ntmps inner_machine_endCatch_an (bodyOf Tryd.f82) (argl 0 [.pointer (some ⟨m_1, 0, none⟩)]) w (retQ orc Tryd.f82.results.toList K)) h)

end Go.Proofs.YtkjpmkopnkkbmaaDoor

/- Functions of Digits, read without their frames; that each is enough. Printed by a program of mine (wip/lift/gen.py). -/
set_option maxRecDepth 100000
namespace Go.Proofs.YtkjpmkopnkkbmaaDoor
open Go.RowKit

-- holloway/digits.Put
def digits_Put_j1 (base2 : Int) (n8 : Int) (out9 : Sl) (I1 : Int → Sl → World → Prop) (μ1 : Int → Sl → World → Nat) (w7 : World) (v_1 : Int) (b13 : Bool) (w12 : World) (K : Value → World → Prop) : Prop :=
 brB b13
 ((IntKind.wrap .u64 base2) ≠ 0 ∧ 0 ≤ (Int.tmod n8 (IntKind.wrap .u64 base2)) ∧ (Int.tmod n8 (IntKind.wrap .u64 base2)) < ((bs [48, 49, 50, 51, 52, 53, 54, 55, 56, 57, 65, 66, 67, 68, 69, 70, 71, 72, 73, 74, 75, 76, 77, 78, 79, 80, 81, 82, 83, 84, 85, 86, 87, 88, 89, 90]).size : Int) ∧
 ∀ (b14 : Nat) (w15 : World), b14 = w12.heap.size → w15 = World.alloc w12 (.cells #[.int .u8 (sb (bs [48, 49, 50, 51, 52, 53, 54, 55, 56, 57, 65, 66, 67, 68, 69, 70, 71, 72, 73, 74, 75, 76, 77, 78, 79, 80, 81, 82, 83, 84, 85, 86, 87, 88, 89, 90]) (Int.tmod n8 (IntKind.wrap .u64 base2)))] T_uint8) →
 ∃ s16 : Sl, ∃ w17 : World, (Builtin.append_ #[T_sl_uint8, T_sl_uint8] T_sl_uint8 #[.slice (some ⟨b14, 0, none⟩) 1 1, out9.val]).run Tryd.prog w15 = .ok (s16.val) w17 ∧
 (IntKind.wrap .u64 base2) ≠ 0 ∧ I1 (IntKind.wrap .u64 (Int.tdiv n8 (IntKind.wrap .u64 base2))) s16 w17 ∧ μ1 (IntKind.wrap .u64 (Int.tdiv n8 (IntKind.wrap .u64 base2))) s16 w17 < μ1 n8 out9 w7)
 (brB (decide (v_1 < (0 : Int)))
 (∃ t18 : ByteArray, ∃ w19 : World, (convert T_sl_uint8 T_string (out9.val)).run Tryd.prog w12 = .ok (.string t18) w19 ∧
 (((bs [45])).size : Int) + ((t18).size : Int) ≤ 9223372036854775807 ∧ K (.string ((bs [45]) ++ t18)) w19)
 (∃ t20 : ByteArray, ∃ w21 : World, (convert T_sl_uint8 T_string (out9.val)).run Tryd.prog w12 = .ok (.string t20) w21 ∧
 K (.string t20) w21))
def digits_Put_sh (v_1 : Int) (base2 : Int) (w : World) (K : Value → World → Prop) : Prop :=
 Calls Tryd.prog fn_digits_Right #[.int .i64 base2] w fun e3 w4 => ∃ b5 : Bool, e3 = .returned (.bool b5) ∧
 brB (!b5)
 (K (.string (bs [])) w4)
 (∃ J6 : Int → World → Prop, (∀ (n22 : Int) (w6 : World), J6 n22 w6 →
 ∃ (I1 : Int → Sl → World → Prop) (μ1 : Int → Sl → World → Nat), I1 n22 (⟨none, 0, 0⟩ : Sl) w6 ∧ ∀ (n8 : Int) (out9 : Sl) (w7 : World), I1 n8 out9 w7 →
 brB (decide (n8 > (0 : Int)))
 (digits_Put_j1 base2 n8 out9 I1 (μ1) w7 v_1 true w7 K)
 (digits_Put_j1 base2 n8 out9 I1 (μ1) w7 v_1 ((out9.len : Int) == (0 : Int)) w7 K)) ∧
 brB (decide (v_1 < (0 : Int)))
 (J6 (IntKind.wrap .u64 (0 - (IntKind.wrap .u64 v_1))) w4)
 (J6 (IntKind.wrap .u64 v_1) w4))
def digits_Put_an : An := ⟨[(7, [(5, .int .u64), (6, .sl)])], [], [(6, [(5, .int .u64)])]⟩
theorem digits_Put_lift {v_1 : Int} {base2 : Int} {w : World} {K : Value → World → Prop} (h : digits_Put_sh v_1 base2 w K) : Calls Tryd.prog fn_digits_Put #[.int .i64 v_1, .int .i64 base2] w fun e w' => ∃ v, e = .returned v ∧ K v w' :=
   lift_calls (A := digits_Put_an) (c := bodyOf Tryd.f81) (args := [.int .i64 v_1, .int .i64 base2]) orc orc_wide Tryd.func81 (by kernel_rfl) (by kernel_rfl) (Eq.mp (by kernel_rfl : digits_Put_sh v_1 base2 w K = wpc orc Tryd.f81.ntmps digits_Put_an (bodyOf Tryd.f81) (argl 0 [.int .i64 v_1, .int .i64 base2]) w (retQ orc Tryd.f81.results.toList K)) h)

-- holloway/digits.Right
def digits_Right_sh (base1 : Int) (w : World) (K : Value → World → Prop) : Prop :=
 brB (decide (base1 ≥ (2 : Int)))
 (K (.bool (decide (base1 ≤ (36 : Int)))) w)
 (K (.bool false) w)
def digits_Right_an : An := ⟨[], [], []⟩
theorem digits_Right_lift {base1 : Int} {w : World} {K : Value → World → Prop} (h : digits_Right_sh base1 w K) : Calls Tryd.prog fn_digits_Right #[.int .i64 base1] w fun e w' => ∃ v, e = .returned v ∧ K v w' :=
   lift_calls (A := digits_Right_an) (c := bodyOf Tryd.f90) (args := [.int .i64 base1]) orc orc_wide Tryd.func90 (by kernel_rfl) (by kernel_rfl) (Eq.mp (by kernel_rfl : digits_Right_sh base1 w K = wpc orc Tryd.f90.ntmps digits_Right_an (bodyOf Tryd.f90) (argl 0 [.int .i64 base1]) w (retQ orc Tryd.f90.results.toList K)) h)

end Go.Proofs.YtkjpmkopnkkbmaaDoor

/- Functions of Cell, read without their frames; that each is enough. Printed by a program of mine (wip/lift/gen.py). -/
set_option maxRecDepth 100000
namespace Go.Proofs.YtkjpmkopnkkbmaaDoor
open Go.RowKit

-- holloway/cell.Crosses
def cell_Crosses_sh (x_1 : Int) (n_2 : Int) (w : World) (K : Value → World → Prop) : Prop :=
 K (.bool (decide ((iand .i64 (ixor .i64 x_1 (wr (x_1 + n_2))) (ixor .i64 x_1 n_2)) < (0 : Int)))) w
def cell_Crosses_an : An := ⟨[], [], []⟩
theorem cell_Crosses_lift {x_1 : Int} {n_2 : Int} {w : World} {K : Value → World → Prop} (h : cell_Crosses_sh x_1 n_2 w K) : Calls Tryd.prog fn_cell_Crosses #[.int .i64 x_1, .int .i64 n_2] w fun e w' => ∃ v, e = .returned v ∧ K v w' :=
   lift_calls (A := cell_Crosses_an) (c := bodyOf Tryd.f80) (args := [.int .i64 x_1, .int .i64 n_2]) orc orc_wide Tryd.func80 (by kernel_rfl) (by kernel_rfl) (Eq.mp (by kernel_rfl : cell_Crosses_sh x_1 n_2 w K = wpc orc Tryd.f80.ntmps cell_Crosses_an (bodyOf Tryd.f80) (argl 0 [.int .i64 x_1, .int .i64 n_2]) w (retQ orc Tryd.f80.results.toList K)) h)

-- holloway/cell.One
def cell_One_sh (op1 : Int) (a_2 : Int) (w : World) (K : Value → World → Prop) : Prop :=
 brB (op1 == (16 : Int))
 (K (.tuple #[.int .i64 (wr (0 - a_2)), .bool true]) w)
 (brB (op1 == (20 : Int))
 (K (.tuple #[.int .i64 (ixor .i64 (-1) a_2), .bool true]) w)
 (brB (op1 == (26 : Int))
 (Calls Tryd.prog fn_cell_Flag #[.bool (a_2 == (0 : Int))] w fun e3 w4 => ∃ n5 : Int, e3 = .returned (.int .i64 n5) ∧
 K (.tuple #[.int .i64 n5, .bool true]) w4)
 (brB (op1 == (27 : Int))
 (Calls Tryd.prog fn_cell_Flag #[.bool (decide (a_2 < (0 : Int)))] w fun e6 w7 => ∃ n8 : Int, e6 = .returned (.int .i64 n8) ∧
 K (.tuple #[.int .i64 n8, .bool true]) w7)
 (K (.tuple #[.int .i64 (0 : Int), .bool false]) w))))
def cell_One_an : An := ⟨[], [], []⟩
theorem cell_One_lift {op1 : Int} {a_2 : Int} {w : World} {K : Value → World → Prop} (h : cell_One_sh op1 a_2 w K) : Calls Tryd.prog fn_cell_One #[.int .i64 op1, .int .i64 a_2] w fun e w' => ∃ v, e = .returned v ∧ K v w' :=
   lift_calls (A := cell_One_an) (c := bodyOf Tryd.f83) (args := [.int .i64 op1, .int .i64 a_2]) orc orc_wide Tryd.func83 (by kernel_rfl) (by kernel_rfl) (Eq.mp (by kernel_rfl : cell_One_sh op1 a_2 w K = wpc orc Tryd.f83.ntmps cell_One_an (bodyOf Tryd.f83) (argl 0 [.int .i64 op1, .int .i64 a_2]) w (retQ orc Tryd.f83.results.toList K)) h)

-- holloway/cell.Two
def cell_Two_j1 (J6 : World → Prop) (op1 : Int) (a_2 : Int) (b_3 : Int) (b7 : Bool) (w6 : World) (K : Value → World → Prop) : Prop :=
 brB b7
 (J6  w6)
 (brB (op1 == (25 : Int))
 (J6  w6)
 (brB (op1 == (28 : Int))
 (K (.tuple #[.int .i64 (imin a_2 b_3), .bool true]) w6)
 (brB (op1 == (29 : Int))
 (K (.tuple #[.int .i64 (imax a_2 b_3), .bool true]) w6)
 (K (.tuple #[.int .i64 (0 : Int), .bool false]) w6))))
def cell_Two_sh (op1 : Int) (a_2 : Int) (b_3 : Int) (w : World) (K : Value → World → Prop) : Prop :=
 ∃ J6 : World → Prop, (∀ (w22 : World), J6  w22 →
 Calls Tryd.prog fn_cell_compare #[.int .i64 op1, .int .i64 a_2, .int .i64 b_3] w22 fun e23 w24 => ∃ n25 : Int, e23 = .returned (.int .i64 n25) ∧
 K (.tuple #[.int .i64 n25, .bool true]) w24) ∧
 ∃ J7 : World → Prop, (∀ (w18 : World), J7  w18 →
 Calls Tryd.prog fn_cell_shift #[.int .i64 op1, .int .i64 a_2, .int .i64 b_3] w18 fun e19 w20 => ∃ n21 : Int, e19 = .returned (.int .i64 n21) ∧
 K (.tuple #[.int .i64 n21, .bool true]) w20) ∧
 brB (op1 == (11 : Int))
 (K (.tuple #[.int .i64 (wr (a_2 + b_3)), .bool true]) w)
 (brB (op1 == (12 : Int))
 (K (.tuple #[.int .i64 (wr (a_2 - b_3)), .bool true]) w)
 (brB (op1 == (13 : Int))
 (K (.tuple #[.int .i64 (wr (a_2 * b_3)), .bool true]) w)
 (brB (op1 == (14 : Int))
 (Calls Tryd.prog fn_cell_Floor #[.int .i64 a_2, .int .i64 b_3] w fun e8 w9 => ∃ n10 : Int, ∃ n11 : Int, ∃ b12 : Bool, e8 = .returned (.tuple #[.int .i64 n10, .int .i64 n11, .bool b12]) ∧
 K (.tuple #[.int .i64 n10, .bool b12]) w9)
 (brB (op1 == (15 : Int))
 (Calls Tryd.prog fn_cell_Floor #[.int .i64 a_2, .int .i64 b_3] w fun e13 w14 => ∃ n15 : Int, ∃ n16 : Int, ∃ b17 : Bool, e13 = .returned (.tuple #[.int .i64 n15, .int .i64 n16, .bool b17]) ∧
 K (.tuple #[.int .i64 n16, .bool b17]) w14)
 (brB (op1 == (17 : Int))
 (K (.tuple #[.int .i64 (iand .i64 a_2 b_3), .bool true]) w)
 (brB (op1 == (18 : Int))
 (K (.tuple #[.int .i64 (ior .i64 a_2 b_3), .bool true]) w)
 (brB (op1 == (19 : Int))
 (K (.tuple #[.int .i64 (ixor .i64 a_2 b_3), .bool true]) w)
 (brB (op1 == (21 : Int))
 (J7  w)
 (brB (op1 == (22 : Int))
 (J7  w)
 (brB (op1 == (23 : Int))
 (cell_Two_j1 J6 op1 a_2 b_3 (op1 == (23 : Int)) w K)
 (cell_Two_j1 J6 op1 a_2 b_3 (op1 == (24 : Int)) w K)))))))))))
def cell_Two_an : An := ⟨[], [], [(27, []), (28, [])]⟩
theorem cell_Two_lift {op1 : Int} {a_2 : Int} {b_3 : Int} {w : World} {K : Value → World → Prop} (h : cell_Two_sh op1 a_2 b_3 w K) : Calls Tryd.prog fn_cell_Two #[.int .i64 op1, .int .i64 a_2, .int .i64 b_3] w fun e w' => ∃ v, e = .returned v ∧ K v w' :=
   lift_calls (A := cell_Two_an) (c := bodyOf Tryd.f84) (args := [.int .i64 op1, .int .i64 a_2, .int .i64 b_3]) orc orc_wide Tryd.func84 (by kernel_rfl) (by kernel_rfl) (Eq.mp (by kernel_rfl : cell_Two_sh op1 a_2 b_3 w K = wpc orc Tryd.f84.ntmps cell_Two_an (bodyOf Tryd.f84) (argl 0 [.int .i64 op1, .int .i64 a_2, .int .i64 b_3]) w (retQ orc Tryd.f84.results.toList K)) h)

-- holloway/cell.Flag
def cell_Flag_sh (is1 : Bool) (w : World) (K : Value → World → Prop) : Prop :=
 brB is1
 (K (.int .i64 (-1 : Int)) w)
 (K (.int .i64 (0 : Int)) w)
def cell_Flag_an : An := ⟨[], [], []⟩
theorem cell_Flag_lift {is1 : Bool} {w : World} {K : Value → World → Prop} (h : cell_Flag_sh is1 w K) : Calls Tryd.prog fn_cell_Flag #[.bool is1] w fun e w' => ∃ v, e = .returned v ∧ K v w' :=
   lift_calls (A := cell_Flag_an) (c := bodyOf Tryd.f91) (args := [.bool is1]) orc orc_wide Tryd.func91 (by kernel_rfl) (by kernel_rfl) (Eq.mp (by kernel_rfl : cell_Flag_sh is1 w K = wpc orc Tryd.f91.ntmps cell_Flag_an (bodyOf Tryd.f91) (argl 0 [.bool is1]) w (retQ orc Tryd.f91.results.toList K)) h)

-- holloway/cell.Floor
def cell_Floor_sh (a_1 : Int) (b_2 : Int) (w : World) (K : Value → World → Prop) : Prop :=
 brB (b_2 == (0 : Int))
 (K (.tuple #[.int .i64 (0 : Int), .int .i64 (0 : Int), .bool false]) w)
 (brB (b_2 == (-1 : Int))
 (K (.tuple #[.int .i64 (wr (0 - a_1)), .int .i64 (0 : Int), .bool true]) w)
 (∀ w3 : World, w3 = World.drew w →
 b_2 ≠ 0 ∧ b_2 ≠ 0 ∧ ∃ J10 : Bool → World → Prop, (∀ (b5 : Bool) (w4 : World), J10 b5 w4 →
 brB b5
 (K (.tuple #[.int .i64 (wr ((wr (Int.tdiv a_1 b_2)) - (1 : Int))), .int .i64 (wr ((Int.tmod a_1 b_2) + b_2)), .bool true]) w4)
 (K (.tuple #[.int .i64 (wr (Int.tdiv a_1 b_2)), .int .i64 (Int.tmod a_1 b_2), .bool true]) w4)) ∧
 brB ((Int.tmod a_1 b_2) != (0 : Int))
 (J10 (!((decide ((Int.tmod a_1 b_2) < (0 : Int))) == (decide (b_2 < (0 : Int))))) w3)
 (J10 false w3)))
def cell_Floor_an : An := ⟨[], [(6, (8, .st 0 (.st 1 (.st 2 (.st 3 (.st 4 (.st 5 (.st 6 (.st 7 .done))))))), 0))], [(8, [(30, .bool)])]⟩
theorem cell_Floor_lift {a_1 : Int} {b_2 : Int} {w : World} {K : Value → World → Prop} (h : cell_Floor_sh a_1 b_2 w K) : Calls Tryd.prog fn_cell_Floor #[.int .i64 a_1, .int .i64 b_2] w fun e w' => ∃ v, e = .returned v ∧ K v w' :=
   lift_calls (A := cell_Floor_an) (c := bodyOf Tryd.f92) (args := [.int .i64 a_1, .int .i64 b_2]) orc orc_wide Tryd.func92 (by kernel_rfl) (by kernel_rfl) (Eq.mp (by kernel_rfl : cell_Floor_sh a_1 b_2 w K = wpc orc Tryd.f92.ntmps cell_Floor_an (bodyOf Tryd.f92) (argl 0 [.int .i64 a_1, .int .i64 b_2]) w (retQ orc Tryd.f92.results.toList K)) h)

-- holloway/cell.shift
def cell_shift_sh (op1 : Int) (a_2 : Int) (b_3 : Int) (w : World) (K : Value → World → Prop) : Prop :=
 ∃ J3 : Bool → World → Prop, (∀ (b5 : Bool) (w4 : World), J3 b5 w4 →
 brB b5
 (K (.int .i64 (0 : Int)) w4)
 (brB (op1 == (21 : Int))
 (0 ≤ (IntKind.wrap .u64 b_3) ∧ K (.int .i64 (ishl .i64 a_2 (IntKind.wrap .u64 b_3))) w4)
 (0 ≤ (IntKind.wrap .u64 b_3) ∧ K (.int .i64 (wr (ishr .u64 (IntKind.wrap .u64 a_2) (IntKind.wrap .u64 b_3)))) w4))) ∧
 brB (decide (b_3 < (0 : Int)))
 (J3 true w)
 (J3 (decide (b_3 ≥ (64 : Int))) w)
def cell_shift_an : An := ⟨[], [], [(2, [(7, .bool)])]⟩
theorem cell_shift_lift {op1 : Int} {a_2 : Int} {b_3 : Int} {w : World} {K : Value → World → Prop} (h : cell_shift_sh op1 a_2 b_3 w K) : Calls Tryd.prog fn_cell_shift #[.int .i64 op1, .int .i64 a_2, .int .i64 b_3] w fun e w' => ∃ v, e = .returned v ∧ K v w' :=
   lift_calls (A := cell_shift_an) (c := bodyOf Tryd.f93) (args := [.int .i64 op1, .int .i64 a_2, .int .i64 b_3]) orc orc_wide Tryd.func93 (by kernel_rfl) (by kernel_rfl) (Eq.mp (by kernel_rfl : cell_shift_sh op1 a_2 b_3 w K = wpc orc Tryd.f93.ntmps cell_shift_an (bodyOf Tryd.f93) (argl 0 [.int .i64 op1, .int .i64 a_2, .int .i64 b_3]) w (retQ orc Tryd.f93.results.toList K)) h)

-- holloway/cell.compare
def cell_compare_sh (op1 : Int) (a_2 : Int) (b_3 : Int) (w : World) (K : Value → World → Prop) : Prop :=
 brB (op1 == (23 : Int))
 (Calls Tryd.prog fn_cell_Flag #[.bool (a_2 == b_3)] w fun e4 w5 => ∃ n6 : Int, e4 = .returned (.int .i64 n6) ∧
 K (.int .i64 n6) w5)
 (brB (op1 == (24 : Int))
 (Calls Tryd.prog fn_cell_Flag #[.bool (decide (a_2 < b_3))] w fun e7 w8 => ∃ n9 : Int, e7 = .returned (.int .i64 n9) ∧
 K (.int .i64 n9) w8)
 (Calls Tryd.prog fn_cell_Flag #[.bool (decide ((IntKind.wrap .u64 a_2) < (IntKind.wrap .u64 b_3)))] w fun e10 w11 => ∃ n12 : Int, e10 = .returned (.int .i64 n12) ∧
 K (.int .i64 n12) w11))
def cell_compare_an : An := ⟨[], [], []⟩
theorem cell_compare_lift {op1 : Int} {a_2 : Int} {b_3 : Int} {w : World} {K : Value → World → Prop} (h : cell_compare_sh op1 a_2 b_3 w K) : Calls Tryd.prog fn_cell_compare #[.int .i64 op1, .int .i64 a_2, .int .i64 b_3] w fun e w' => ∃ v, e = .returned v ∧ K v w' :=
   lift_calls (A := cell_compare_an) (c := bodyOf Tryd.f94) (args := [.int .i64 op1, .int .i64 a_2, .int .i64 b_3]) orc orc_wide Tryd.func94 (by kernel_rfl) (by kernel_rfl) (Eq.mp (by kernel_rfl : cell_compare_sh op1 a_2 b_3 w K = wpc orc Tryd.f94.ntmps cell_compare_an (bodyOf Tryd.f94) (argl 0 [.int .i64 op1, .int .i64 a_2, .int .i64 b_3]) w (retQ orc Tryd.f94.results.toList K)) h)

end Go.Proofs.YtkjpmkopnkkbmaaDoor

/- Functions of Hollowayref9, read without their frames; that each is enough. Printed by a program of mine (wip/lift/gen.py). -/
set_option maxRecDepth 100000
namespace Go.Proofs.YtkjpmkopnkkbmaaDoor
open Go.RowKit

-- holloway/hollowayref9.Boot
def hollowayref9_Boot_sh (n_1 : Int) (in_2 : ByteArray) (w : World) (K : Value → World → Prop) : Prop :=
 ∀ (b3 : Nat) (w4 : World), b3 = w.heap.size → w4 = World.alloc w (.cells #[.int .i64 (0 : Int), .int .i64 (0 : Int), .slice none 0 0, .slice none 0 0, .slice none 0 0, .string (bs []), .string (bs []), .int .i64 (0 : Int), .int .i64 (0 : Int), .int .i64 (0 : Int)] T_api_State) →
 ∃ s5 : Sl, ∃ w6 : World, (Instr.makeSlice T_sl_int (.int .i64 (imin (imax n_1 (0 : Int)) (3000 : Int))) (.int .i64 (imin (imax n_1 (0 : Int)) (3000 : Int)))).run Tryd.prog w4 = .ok s5.val w6 ∧
 ∃ (I1 : Int → World → Prop) (μ1 : Int → World → Nat), I1 (0 : Int) w6 ∧ ∀ (k8 : Int) (w7 : World), I1 k8 w7 →
 brB (decide (k8 < (s5.len : Int)))
 (∃ J7 : World → Prop, (∀ (w18 : World), J7  w18 →
 I1 (wr (k8 + (1 : Int))) w18 ∧ μ1 (wr (k8 + (1 : Int))) w18 < μ1 k8 w7) ∧
 ∃ J8 : World → Prop, (∀ (w11 : World), J8  w11 →
 ∃ J10 : Bool → World → Prop, (∀ (b13 : Bool) (w12 : World), J10 b13 w12 →
 brB b13
 (∃ a14 : Addr, s5.ptr = some a14 ∧ 0 ≤ k8 ∧ k8 < (s5.len : Int) ∧
 wrOk w12 (Addr.add a14 (Int.toNat k8 * 1)) 1 ∧ ∀ w15 : World, w15 = stW w12 (Addr.add a14 (Int.toNat k8 * 1)) 0 [.int .i64 (5 : Int)] →
 (2 : Int) ≠ 0 ∧ brB ((Int.tmod k8 (2 : Int)) == (0 : Int))
 ((2 : Int) ≠ 0 ∧ ∃ a16 : Addr, s5.ptr = some a16 ∧ 0 ≤ k8 ∧ k8 < (s5.len : Int) ∧
 wrOk w15 (Addr.add a16 (Int.toNat k8 * 1)) 1 ∧ ∀ w17 : World, w17 = stW w15 (Addr.add a16 (Int.toNat k8 * 1)) 0 [.int .i64 (wr (Int.tdiv (wr (k8 - (64 : Int))) (2 : Int)))] →
 J7  w17)
 (J7  w15))
 (J7  w12)) ∧
 brB (decide (k8 ≥ (64 : Int)))
 (J10 (decide (k8 < (160 : Int))) w11)
 (J10 false w11)) ∧
 brB (k8 == (1 : Int))
 (∃ a9 : Addr, s5.ptr = some a9 ∧ 0 ≤ k8 ∧ k8 < (s5.len : Int) ∧
 wrOk w7 (Addr.add a9 (Int.toNat k8 * 1)) 1 ∧ ∀ w10 : World, w10 = stW w7 (Addr.add a9 (Int.toNat k8 * 1)) 0 [.int .i64 (1 : Int)] →
 J8  w10)
 (J8  w7))
 (wrOk w7 ⟨b3, 0, none⟩ 10 ∧ ∀ w19 : World, w19 = stW w7 ⟨b3, 0, none⟩ 0 [.int .i64 (0 : Int), .int .i64 (0 : Int), .slice none 0 0, .slice none 0 0, s5.val, .string (bs []), .string in_2, .int .i64 (0 : Int), .int .i64 (1 : Int), .int .i64 (0 : Int)] →
 ∃ r_Ip20 : Int, ∃ r_Handler21 : Int, ∃ r_Stack22 : Sl, ∃ r_Back23 : Sl, ∃ r_Mem24 : Sl, ∃ r_Out25 : ByteArray, ∃ r_In26 : ByteArray, ∃ r_Read27 : Int, ∃ r_Status28 : Int, ∃ r_Code29 : Int, w19.cell? ⟨b3, 0, none⟩ = some (.int .i64 r_Ip20) ∧ w19.cell? ⟨b3, 1, none⟩ = some (.int .i64 r_Handler21) ∧ w19.cell? ⟨b3, 2, none⟩ = some (r_Stack22.val) ∧ w19.cell? ⟨b3, 3, none⟩ = some (r_Back23.val) ∧ w19.cell? ⟨b3, 4, none⟩ = some (r_Mem24.val) ∧ w19.cell? ⟨b3, 5, none⟩ = some (.string r_Out25) ∧ w19.cell? ⟨b3, 6, none⟩ = some (.string r_In26) ∧ w19.cell? ⟨b3, 7, none⟩ = some (.int .i64 r_Read27) ∧ w19.cell? ⟨b3, 8, none⟩ = some (.int .i64 r_Status28) ∧ w19.cell? ⟨b3, 9, none⟩ = some (.int .i64 r_Code29) ∧
 K (.agg #[.int .i64 r_Ip20, .int .i64 r_Handler21, r_Stack22.val, r_Back23.val, r_Mem24.val, .string r_Out25, .string r_In26, .int .i64 r_Read27, .int .i64 r_Status28, .int .i64 r_Code29]) w19)
def hollowayref9_Boot_an : An := ⟨[(3, [(6, .int .i64)])], [], [(8, [(27, .bool)]), (7, []), (4, [])]⟩
theorem hollowayref9_Boot_lift {n_1 : Int} {in_2 : ByteArray} {w : World} {K : Value → World → Prop} (h : hollowayref9_Boot_sh n_1 in_2 w K) : Calls Tryd.prog fn_hollowayref9_Boot #[.int .i64 n_1, .string in_2] w fun e w' => ∃ v, e = .returned v ∧ K v w' :=
   lift_calls (A := hollowayref9_Boot_an) (c := bodyOf Tryd.f20) (args := [.int .i64 n_1, .string in_2]) orc orc_wide Tryd.func20 (by kernel_rfl) (by kernel_rfl) (Eq.mp (by kernel_rfl : hollowayref9_Boot_sh n_1 in_2 w K = wpc orc Tryd.f20.ntmps hollowayref9_Boot_an (bodyOf Tryd.f20) (argl 0 [.int .i64 n_1, .string in_2]) w (retQ orc Tryd.f20.results.toList K)) h)

-- holloway/hollowayref9.Recorded
def hollowayref9_Recorded_sh (r__Start1 : Int) (r__End2 : Int) (r__Loop3 : Bool) (r__Steps4 : Sl) (w : World) (K : Value → World → Prop) : Prop :=
 ∀ (b5 : Nat) (w6 : World), b5 = w.heap.size → w6 = World.alloc w (.cells #[.int .i64 r__Start1, .int .i64 r__End2, .bool r__Loop3, r__Steps4.val] T_api_Recording) →
 ∃ s7 : Sl, w6.cell? ⟨b5, 3, none⟩ = some (s7.val) ∧
 ∃ J4 : Bool → World → Prop, (∀ (b16 : Bool) (w15 : World), J4 b16 w15 →
 brB b16
 (K (.bool false) w15)
 (∃ n17 : Int, w15.cell? ⟨b5, 0, none⟩ = some (.int .i64 n17) ∧
 ∃ (I1 : Int → Int → World → Prop) (μ1 : Int → Int → World → Nat), I1 n17 (0 : Int) w15 ∧ ∀ (at30 : Int) (i19 : Int) (w18 : World), I1 at30 i19 w18 →
 brB (decide (i19 < (s7.len : Int)))
 (∃ s20 : Sl, w18.cell? ⟨b5, 3, none⟩ = some (s20.val) ∧
 ∃ a21 : Addr, s20.ptr = some a21 ∧ 0 ≤ i19 ∧ i19 < (s20.len : Int) ∧
 ∃ n_Ip22 : Int, ∃ n_Cell23 : Int, ∃ n_Arg24 : Int, ∃ n_Next25 : Int, w18.cell? (Addr.add a21 (Int.toNat i19 * 4)) = some (.int .i64 n_Ip22) ∧ w18.cell? (Addr.add (Addr.add a21 (Int.toNat i19 * 4)) 1) = some (.int .i64 n_Cell23) ∧ w18.cell? (Addr.add (Addr.add a21 (Int.toNat i19 * 4)) 2) = some (.int .i64 n_Arg24) ∧ w18.cell? (Addr.add (Addr.add a21 (Int.toNat i19 * 4)) 3) = some (.int .i64 n_Next25) ∧
 ∀ (b26 : Nat) (w27 : World), b26 = w18.heap.size → w27 = World.alloc w18 (.cells #[.int .i64 (0 : Int), .int .i64 (0 : Int), .int .i64 (0 : Int), .int .i64 (0 : Int)] T_api_Seen) →
 wrOk w27 ⟨b26, 0, none⟩ 4 ∧ ∀ w28 : World, w28 = stW w27 ⟨b26, 0, none⟩ 0 [.int .i64 n_Ip22, .int .i64 n_Cell23, .int .i64 n_Arg24, .int .i64 n_Next25] →
 ∃ J14 : Bool → World → Prop, (∀ (b152 : Bool) (w151 : World), J14 b152 w151 →
 brB b152
 (K (.bool false) w151)
 (∃ n153 : Int, w151.cell? ⟨b26, 3, none⟩ = some (.int .i64 n153) ∧
 I1 n153 (wr (i19 + (1 : Int))) w151 ∧ μ1 n153 (wr (i19 + (1 : Int))) w151 < μ1 at30 i19 w18)) ∧
 ∃ n29 : Int, w28.cell? ⟨b26, 0, none⟩ = some (.int .i64 n29) ∧
 brB (n29 != at30)
 (J14 true w28)
 (brB (decide (i19 > (0 : Int)))
 (∃ n31 : Int, w28.cell? ⟨b26, 0, none⟩ = some (.int .i64 n31) ∧
 ∃ n32 : Int, w28.cell? ⟨b5, 0, none⟩ = some (.int .i64 n32) ∧
 brB (n31 == n32)
 (J14 true w28)
 (∃ n33 : Int, w28.cell? ⟨b26, 1, none⟩ = some (.int .i64 n33) ∧
 brB (decide (n33 < (64 : Int)))
 (∃ n34 : Int, w28.cell? ⟨b26, 1, none⟩ = some (.int .i64 n34) ∧
 Calls Tryd.prog fn_hollowayref1_Plain #[.int .i64 n34] w28 fun e35 w36 => ∃ b37 : Bool, e35 = .returned (.bool b37) ∧
 brB (!b37)
 (J14 true w36)
 (∃ n38 : Int, w36.cell? ⟨b26, 2, none⟩ = some (.int .i64 n38) ∧
 brB (n38 != (0 : Int))
 (∃ n39 : Int, w36.cell? ⟨b26, 1, none⟩ = some (.int .i64 n39) ∧
 Calls Tryd.prog fn_hollowayref1_Arg #[.int .i64 n39] w36 fun e40 w41 => ∃ b42 : Bool, e40 = .returned (.bool b42) ∧
 brB (!b42)
 (J14 true w41)
 (∃ n43 : Int, w41.cell? ⟨b26, 0, none⟩ = some (.int .i64 n43) ∧
 brB (decide (n43 < (0 : Int)))
 (J14 true w41)
 (∃ n44 : Int, w41.cell? ⟨b26, 0, none⟩ = some (.int .i64 n44) ∧
 brB (decide (n44 ≥ (3000 : Int)))
 (J14 true w41)
 (∃ n45 : Int, w41.cell? ⟨b26, 1, none⟩ = some (.int .i64 n45) ∧
 Calls Tryd.prog fn_hollowayref1_Arg #[.int .i64 n45] w41 fun e46 w47 => ∃ b48 : Bool, e46 = .returned (.bool b48) ∧
 brB b48
 (∃ n49 : Int, w47.cell? ⟨b26, 0, none⟩ = some (.int .i64 n49) ∧
 brB (decide (n49 ≥ (2999 : Int)))
 (J14 true w47)
 (∃ n50 : Int, w47.cell? ⟨b26, 3, none⟩ = some (.int .i64 n50) ∧
 brB (decide (n50 < (0 : Int)))
 (J14 true w47)
 (∃ n51 : Int, w47.cell? ⟨b26, 3, none⟩ = some (.int .i64 n51) ∧
 J14 (decide (n51 ≥ (3000 : Int))) w47)))
 (∃ n52 : Int, w47.cell? ⟨b26, 3, none⟩ = some (.int .i64 n52) ∧
 brB (decide (n52 < (0 : Int)))
 (J14 true w47)
 (∃ n53 : Int, w47.cell? ⟨b26, 3, none⟩ = some (.int .i64 n53) ∧
 J14 (decide (n53 ≥ (3000 : Int))) w47))))))
 (∃ n54 : Int, w36.cell? ⟨b26, 0, none⟩ = some (.int .i64 n54) ∧
 brB (decide (n54 < (0 : Int)))
 (J14 true w36)
 (∃ n55 : Int, w36.cell? ⟨b26, 0, none⟩ = some (.int .i64 n55) ∧
 brB (decide (n55 ≥ (3000 : Int)))
 (J14 true w36)
 (∃ n56 : Int, w36.cell? ⟨b26, 1, none⟩ = some (.int .i64 n56) ∧
 Calls Tryd.prog fn_hollowayref1_Arg #[.int .i64 n56] w36 fun e57 w58 => ∃ b59 : Bool, e57 = .returned (.bool b59) ∧
 brB b59
 (∃ n60 : Int, w58.cell? ⟨b26, 0, none⟩ = some (.int .i64 n60) ∧
 brB (decide (n60 ≥ (2999 : Int)))
 (J14 true w58)
 (∃ n61 : Int, w58.cell? ⟨b26, 3, none⟩ = some (.int .i64 n61) ∧
 brB (decide (n61 < (0 : Int)))
 (J14 true w58)
 (∃ n62 : Int, w58.cell? ⟨b26, 3, none⟩ = some (.int .i64 n62) ∧
 J14 (decide (n62 ≥ (3000 : Int))) w58)))
 (∃ n63 : Int, w58.cell? ⟨b26, 3, none⟩ = some (.int .i64 n63) ∧
 brB (decide (n63 < (0 : Int)))
 (J14 true w58)
 (∃ n64 : Int, w58.cell? ⟨b26, 3, none⟩ = some (.int .i64 n64) ∧
 J14 (decide (n64 ≥ (3000 : Int))) w58)))))))
 (∃ n65 : Int, w28.cell? ⟨b26, 2, none⟩ = some (.int .i64 n65) ∧
 brB (n65 != (0 : Int))
 (∃ n66 : Int, w28.cell? ⟨b26, 1, none⟩ = some (.int .i64 n66) ∧
 Calls Tryd.prog fn_hollowayref1_Arg #[.int .i64 n66] w28 fun e67 w68 => ∃ b69 : Bool, e67 = .returned (.bool b69) ∧
 brB (!b69)
 (J14 true w68)
 (∃ n70 : Int, w68.cell? ⟨b26, 0, none⟩ = some (.int .i64 n70) ∧
 brB (decide (n70 < (0 : Int)))
 (J14 true w68)
 (∃ n71 : Int, w68.cell? ⟨b26, 0, none⟩ = some (.int .i64 n71) ∧
 brB (decide (n71 ≥ (3000 : Int)))
 (J14 true w68)
 (∃ n72 : Int, w68.cell? ⟨b26, 1, none⟩ = some (.int .i64 n72) ∧
 Calls Tryd.prog fn_hollowayref1_Arg #[.int .i64 n72] w68 fun e73 w74 => ∃ b75 : Bool, e73 = .returned (.bool b75) ∧
 brB b75
 (∃ n76 : Int, w74.cell? ⟨b26, 0, none⟩ = some (.int .i64 n76) ∧
 brB (decide (n76 ≥ (2999 : Int)))
 (J14 true w74)
 (∃ n77 : Int, w74.cell? ⟨b26, 3, none⟩ = some (.int .i64 n77) ∧
 brB (decide (n77 < (0 : Int)))
 (J14 true w74)
 (∃ n78 : Int, w74.cell? ⟨b26, 3, none⟩ = some (.int .i64 n78) ∧
 J14 (decide (n78 ≥ (3000 : Int))) w74)))
 (∃ n79 : Int, w74.cell? ⟨b26, 3, none⟩ = some (.int .i64 n79) ∧
 brB (decide (n79 < (0 : Int)))
 (J14 true w74)
 (∃ n80 : Int, w74.cell? ⟨b26, 3, none⟩ = some (.int .i64 n80) ∧
 J14 (decide (n80 ≥ (3000 : Int))) w74))))))
 (∃ n81 : Int, w28.cell? ⟨b26, 0, none⟩ = some (.int .i64 n81) ∧
 brB (decide (n81 < (0 : Int)))
 (J14 true w28)
 (∃ n82 : Int, w28.cell? ⟨b26, 0, none⟩ = some (.int .i64 n82) ∧
 brB (decide (n82 ≥ (3000 : Int)))
 (J14 true w28)
 (∃ n83 : Int, w28.cell? ⟨b26, 1, none⟩ = some (.int .i64 n83) ∧
 Calls Tryd.prog fn_hollowayref1_Arg #[.int .i64 n83] w28 fun e84 w85 => ∃ b86 : Bool, e84 = .returned (.bool b86) ∧
 brB b86
 (∃ n87 : Int, w85.cell? ⟨b26, 0, none⟩ = some (.int .i64 n87) ∧
 brB (decide (n87 ≥ (2999 : Int)))
 (J14 true w85)
 (∃ n88 : Int, w85.cell? ⟨b26, 3, none⟩ = some (.int .i64 n88) ∧
 brB (decide (n88 < (0 : Int)))
 (J14 true w85)
 (∃ n89 : Int, w85.cell? ⟨b26, 3, none⟩ = some (.int .i64 n89) ∧
 J14 (decide (n89 ≥ (3000 : Int))) w85)))
 (∃ n90 : Int, w85.cell? ⟨b26, 3, none⟩ = some (.int .i64 n90) ∧
 brB (decide (n90 < (0 : Int)))
 (J14 true w85)
 (∃ n91 : Int, w85.cell? ⟨b26, 3, none⟩ = some (.int .i64 n91) ∧
 J14 (decide (n91 ≥ (3000 : Int))) w85))))))))
 (∃ n92 : Int, w28.cell? ⟨b26, 1, none⟩ = some (.int .i64 n92) ∧
 brB (decide (n92 < (64 : Int)))
 (∃ n93 : Int, w28.cell? ⟨b26, 1, none⟩ = some (.int .i64 n93) ∧
 Calls Tryd.prog fn_hollowayref1_Plain #[.int .i64 n93] w28 fun e94 w95 => ∃ b96 : Bool, e94 = .returned (.bool b96) ∧
 brB (!b96)
 (J14 true w95)
 (∃ n97 : Int, w95.cell? ⟨b26, 2, none⟩ = some (.int .i64 n97) ∧
 brB (n97 != (0 : Int))
 (∃ n98 : Int, w95.cell? ⟨b26, 1, none⟩ = some (.int .i64 n98) ∧
 Calls Tryd.prog fn_hollowayref1_Arg #[.int .i64 n98] w95 fun e99 w100 => ∃ b101 : Bool, e99 = .returned (.bool b101) ∧
 brB (!b101)
 (J14 true w100)
 (∃ n102 : Int, w100.cell? ⟨b26, 0, none⟩ = some (.int .i64 n102) ∧
 brB (decide (n102 < (0 : Int)))
 (J14 true w100)
 (∃ n103 : Int, w100.cell? ⟨b26, 0, none⟩ = some (.int .i64 n103) ∧
 brB (decide (n103 ≥ (3000 : Int)))
 (J14 true w100)
 (∃ n104 : Int, w100.cell? ⟨b26, 1, none⟩ = some (.int .i64 n104) ∧
 Calls Tryd.prog fn_hollowayref1_Arg #[.int .i64 n104] w100 fun e105 w106 => ∃ b107 : Bool, e105 = .returned (.bool b107) ∧
 brB b107
 (∃ n108 : Int, w106.cell? ⟨b26, 0, none⟩ = some (.int .i64 n108) ∧
 brB (decide (n108 ≥ (2999 : Int)))
 (J14 true w106)
 (∃ n109 : Int, w106.cell? ⟨b26, 3, none⟩ = some (.int .i64 n109) ∧
 brB (decide (n109 < (0 : Int)))
 (J14 true w106)
 (∃ n110 : Int, w106.cell? ⟨b26, 3, none⟩ = some (.int .i64 n110) ∧
 J14 (decide (n110 ≥ (3000 : Int))) w106)))
 (∃ n111 : Int, w106.cell? ⟨b26, 3, none⟩ = some (.int .i64 n111) ∧
 brB (decide (n111 < (0 : Int)))
 (J14 true w106)
 (∃ n112 : Int, w106.cell? ⟨b26, 3, none⟩ = some (.int .i64 n112) ∧
 J14 (decide (n112 ≥ (3000 : Int))) w106))))))
 (∃ n113 : Int, w95.cell? ⟨b26, 0, none⟩ = some (.int .i64 n113) ∧
 brB (decide (n113 < (0 : Int)))
 (J14 true w95)
 (∃ n114 : Int, w95.cell? ⟨b26, 0, none⟩ = some (.int .i64 n114) ∧
 brB (decide (n114 ≥ (3000 : Int)))
 (J14 true w95)
 (∃ n115 : Int, w95.cell? ⟨b26, 1, none⟩ = some (.int .i64 n115) ∧
 Calls Tryd.prog fn_hollowayref1_Arg #[.int .i64 n115] w95 fun e116 w117 => ∃ b118 : Bool, e116 = .returned (.bool b118) ∧
 brB b118
 (∃ n119 : Int, w117.cell? ⟨b26, 0, none⟩ = some (.int .i64 n119) ∧
 brB (decide (n119 ≥ (2999 : Int)))
 (J14 true w117)
 (∃ n120 : Int, w117.cell? ⟨b26, 3, none⟩ = some (.int .i64 n120) ∧
 brB (decide (n120 < (0 : Int)))
 (J14 true w117)
 (∃ n121 : Int, w117.cell? ⟨b26, 3, none⟩ = some (.int .i64 n121) ∧
 J14 (decide (n121 ≥ (3000 : Int))) w117)))
 (∃ n122 : Int, w117.cell? ⟨b26, 3, none⟩ = some (.int .i64 n122) ∧
 brB (decide (n122 < (0 : Int)))
 (J14 true w117)
 (∃ n123 : Int, w117.cell? ⟨b26, 3, none⟩ = some (.int .i64 n123) ∧
 J14 (decide (n123 ≥ (3000 : Int))) w117)))))))
 (∃ n124 : Int, w28.cell? ⟨b26, 2, none⟩ = some (.int .i64 n124) ∧
 brB (n124 != (0 : Int))
 (∃ n125 : Int, w28.cell? ⟨b26, 1, none⟩ = some (.int .i64 n125) ∧
 Calls Tryd.prog fn_hollowayref1_Arg #[.int .i64 n125] w28 fun e126 w127 => ∃ b128 : Bool, e126 = .returned (.bool b128) ∧
 brB (!b128)
 (J14 true w127)
 (∃ n129 : Int, w127.cell? ⟨b26, 0, none⟩ = some (.int .i64 n129) ∧
 brB (decide (n129 < (0 : Int)))
 (J14 true w127)
 (∃ n130 : Int, w127.cell? ⟨b26, 0, none⟩ = some (.int .i64 n130) ∧
 brB (decide (n130 ≥ (3000 : Int)))
 (J14 true w127)
 (∃ n131 : Int, w127.cell? ⟨b26, 1, none⟩ = some (.int .i64 n131) ∧
 Calls Tryd.prog fn_hollowayref1_Arg #[.int .i64 n131] w127 fun e132 w133 => ∃ b134 : Bool, e132 = .returned (.bool b134) ∧
 brB b134
 (∃ n135 : Int, w133.cell? ⟨b26, 0, none⟩ = some (.int .i64 n135) ∧
 brB (decide (n135 ≥ (2999 : Int)))
 (J14 true w133)
 (∃ n136 : Int, w133.cell? ⟨b26, 3, none⟩ = some (.int .i64 n136) ∧
 brB (decide (n136 < (0 : Int)))
 (J14 true w133)
 (∃ n137 : Int, w133.cell? ⟨b26, 3, none⟩ = some (.int .i64 n137) ∧
 J14 (decide (n137 ≥ (3000 : Int))) w133)))
 (∃ n138 : Int, w133.cell? ⟨b26, 3, none⟩ = some (.int .i64 n138) ∧
 brB (decide (n138 < (0 : Int)))
 (J14 true w133)
 (∃ n139 : Int, w133.cell? ⟨b26, 3, none⟩ = some (.int .i64 n139) ∧
 J14 (decide (n139 ≥ (3000 : Int))) w133))))))
 (∃ n140 : Int, w28.cell? ⟨b26, 0, none⟩ = some (.int .i64 n140) ∧
 brB (decide (n140 < (0 : Int)))
 (J14 true w28)
 (∃ n141 : Int, w28.cell? ⟨b26, 0, none⟩ = some (.int .i64 n141) ∧
 brB (decide (n141 ≥ (3000 : Int)))
 (J14 true w28)
 (∃ n142 : Int, w28.cell? ⟨b26, 1, none⟩ = some (.int .i64 n142) ∧
 Calls Tryd.prog fn_hollowayref1_Arg #[.int .i64 n142] w28 fun e143 w144 => ∃ b145 : Bool, e143 = .returned (.bool b145) ∧
 brB b145
 (∃ n146 : Int, w144.cell? ⟨b26, 0, none⟩ = some (.int .i64 n146) ∧
 brB (decide (n146 ≥ (2999 : Int)))
 (J14 true w144)
 (∃ n147 : Int, w144.cell? ⟨b26, 3, none⟩ = some (.int .i64 n147) ∧
 brB (decide (n147 < (0 : Int)))
 (J14 true w144)
 (∃ n148 : Int, w144.cell? ⟨b26, 3, none⟩ = some (.int .i64 n148) ∧
 J14 (decide (n148 ≥ (3000 : Int))) w144)))
 (∃ n149 : Int, w144.cell? ⟨b26, 3, none⟩ = some (.int .i64 n149) ∧
 brB (decide (n149 < (0 : Int)))
 (J14 true w144)
 (∃ n150 : Int, w144.cell? ⟨b26, 3, none⟩ = some (.int .i64 n150) ∧
 J14 (decide (n150 ≥ (3000 : Int))) w144)))))))))
 (∃ n154 : Int, w18.cell? ⟨b5, 1, none⟩ = some (.int .i64 n154) ∧
 K (.bool (at30 == n154)) w18))) ∧
 brB (decide ((s7.len : Int) > (120 : Int)))
 (J4 true w6)
 (∃ b8 : Bool, w6.cell? ⟨b5, 2, none⟩ = some (.bool b8) ∧
 brB (decide ((s7.len : Int) > (0 : Int)))
 (∃ n9 : Int, w6.cell? ⟨b5, 1, none⟩ = some (.int .i64 n9) ∧
 ∃ n10 : Int, w6.cell? ⟨b5, 0, none⟩ = some (.int .i64 n10) ∧
 brB (!(b8 == (n9 == n10)))
 (J4 true w6)
 (brB ((s7.len : Int) == (0 : Int))
 (∃ n11 : Int, w6.cell? ⟨b5, 1, none⟩ = some (.int .i64 n11) ∧
 ∃ n12 : Int, w6.cell? ⟨b5, 0, none⟩ = some (.int .i64 n12) ∧
 J4 (n11 != n12) w6)
 (J4 false w6)))
 (brB (!(b8 == false))
 (J4 true w6)
 (brB ((s7.len : Int) == (0 : Int))
 (∃ n13 : Int, w6.cell? ⟨b5, 1, none⟩ = some (.int .i64 n13) ∧
 ∃ n14 : Int, w6.cell? ⟨b5, 0, none⟩ = some (.int .i64 n14) ∧
 J4 (n13 != n14) w6)
 (J4 false w6))))
def hollowayref9_Recorded_an : An := ⟨[(6, [(4, .int .i64), (5, .int .i64)])], [], [(3, [(36, .bool)]), (10, [(115, .bool)])]⟩
theorem hollowayref9_Recorded_lift {r__Start1 : Int} {r__End2 : Int} {r__Loop3 : Bool} {r__Steps4 : Sl} {w : World} {K : Value → World → Prop} (h : hollowayref9_Recorded_sh r__Start1 r__End2 r__Loop3 r__Steps4 w K) : Calls Tryd.prog fn_hollowayref9_Recorded #[.agg #[.int .i64 r__Start1, .int .i64 r__End2, .bool r__Loop3, r__Steps4.val]] w fun e w' => ∃ v, e = .returned v ∧ K v w' :=
   lift_calls (A := hollowayref9_Recorded_an) (c := bodyOf Tryd.f25) (args := [.agg #[.int .i64 r__Start1, .int .i64 r__End2, .bool r__Loop3, r__Steps4.val]]) orc orc_wide Tryd.func25 (by kernel_rfl) (by kernel_rfl) (Eq.mp (by kernel_rfl : hollowayref9_Recorded_sh r__Start1 r__End2 r__Loop3 r__Steps4 w K = wpc orc Tryd.f25.ntmps hollowayref9_Recorded_an (bodyOf Tryd.f25) (argl 0 [.agg #[.int .i64 r__Start1, .int .i64 r__End2, .bool r__Loop3, r__Steps4.val]]) w (retQ orc Tryd.f25.results.toList K)) h)

-- holloway/hollowayref9.Right
def hollowayref9_Right_sh (s__Ip1 : Int) (s__Handler2 : Int) (s__Stack3 : Sl) (s__Back4 : Sl) (s__Mem5 : Sl) (s__Out6 : ByteArray) (s__In7 : ByteArray) (s__Read8 : Int) (s__Status9 : Int) (s__Code10 : Int) (w : World) (K : Value → World → Prop) : Prop :=
 ∀ (b11 : Nat) (w12 : World), b11 = w.heap.size → w12 = World.alloc w (.cells #[.int .i64 s__Ip1, .int .i64 s__Handler2, s__Stack3.val, s__Back4.val, s__Mem5.val, .string s__Out6, .string s__In7, .int .i64 s__Read8, .int .i64 s__Status9, .int .i64 s__Code10] T_api_State) →
 ∃ s13 : Sl, w12.cell? ⟨b11, 2, none⟩ = some (s13.val) ∧
 brB (decide ((s13.len : Int) ≤ (48 : Int)))
 (∃ s14 : Sl, w12.cell? ⟨b11, 3, none⟩ = some (s14.val) ∧
 brB (decide ((s14.len : Int) ≤ (48 : Int)))
 (∃ s15 : Sl, w12.cell? ⟨b11, 4, none⟩ = some (s15.val) ∧
 brB (decide ((s15.len : Int) ≤ (3000 : Int)))
 (∃ t16 : ByteArray, w12.cell? ⟨b11, 5, none⟩ = some (.string t16) ∧
 brB (decide ((t16.size : Int) ≤ (2000 : Int)))
 (∃ n17 : Int, w12.cell? ⟨b11, 7, none⟩ = some (.int .i64 n17) ∧
 brB (decide (n17 ≥ (0 : Int)))
 (∃ n18 : Int, w12.cell? ⟨b11, 7, none⟩ = some (.int .i64 n18) ∧
 ∃ t19 : ByteArray, w12.cell? ⟨b11, 6, none⟩ = some (.string t19) ∧
 brB (decide (n18 ≤ (t19.size : Int)))
 (∃ n20 : Int, w12.cell? ⟨b11, 8, none⟩ = some (.int .i64 n20) ∧
 brB (decide (n20 ≥ (0 : Int)))
 (∃ n21 : Int, w12.cell? ⟨b11, 8, none⟩ = some (.int .i64 n21) ∧
 K (.bool (decide (n21 ≤ (2 : Int)))) w12)
 (K (.bool false) w12))
 (K (.bool false) w12))
 (K (.bool false) w12))
 (K (.bool false) w12))
 (K (.bool false) w12))
 (K (.bool false) w12))
 (K (.bool false) w12)
def hollowayref9_Right_an : An := ⟨[], [], []⟩
theorem hollowayref9_Right_lift {s__Ip1 : Int} {s__Handler2 : Int} {s__Stack3 : Sl} {s__Back4 : Sl} {s__Mem5 : Sl} {s__Out6 : ByteArray} {s__In7 : ByteArray} {s__Read8 : Int} {s__Status9 : Int} {s__Code10 : Int} {w : World} {K : Value → World → Prop} (h : hollowayref9_Right_sh s__Ip1 s__Handler2 s__Stack3 s__Back4 s__Mem5 s__Out6 s__In7 s__Read8 s__Status9 s__Code10 w K) : Calls Tryd.prog fn_hollowayref9_Right #[.agg #[.int .i64 s__Ip1, .int .i64 s__Handler2, s__Stack3.val, s__Back4.val, s__Mem5.val, .string s__Out6, .string s__In7, .int .i64 s__Read8, .int .i64 s__Status9, .int .i64 s__Code10]] w fun e w' => ∃ v, e = .returned v ∧ K v w' :=
   lift_calls (A := hollowayref9_Right_an) (c := bodyOf Tryd.f30) (args := [.agg #[.int .i64 s__Ip1, .int .i64 s__Handler2, s__Stack3.val, s__Back4.val, s__Mem5.val, .string s__Out6, .string s__In7, .int .i64 s__Read8, .int .i64 s__Status9, .int .i64 s__Code10]]) orc orc_wide Tryd.func30 (by kernel_rfl) (by kernel_rfl) (Eq.mp (by kernel_rfl : hollowayref9_Right_sh s__Ip1 s__Handler2 s__Stack3 s__Back4 s__Mem5 s__Out6 s__In7 s__Read8 s__Status9 s__Code10 w K = wpc orc Tryd.f30.ntmps hollowayref9_Right_an (bodyOf Tryd.f30) (argl 0 [.agg #[.int .i64 s__Ip1, .int .i64 s__Handler2, s__Stack3.val, s__Back4.val, s__Mem5.val, .string s__Out6, .string s__In7, .int .i64 s__Read8, .int .i64 s__Status9, .int .i64 s__Code10]]) w (retQ orc Tryd.f30.results.toList K)) h)

-- holloway/hollowayref9.Enter
def hollowayref9_Enter_sh (s__Ip1 : Int) (s__Handler2 : Int) (s__Stack3 : Sl) (s__Back4 : Sl) (s__Mem5 : Sl) (s__Out6 : ByteArray) (s__In7 : ByteArray) (s__Read8 : Int) (s__Status9 : Int) (s__Code10 : Int) (xt11 : Int) (w : World) (K : Value → World → Prop) : Prop :=
 ∀ (b12 : Nat) (w13 : World), b12 = w.heap.size → w13 = World.alloc w (.cells #[.int .i64 s__Ip1, .int .i64 s__Handler2, s__Stack3.val, s__Back4.val, s__Mem5.val, .string s__Out6, .string s__In7, .int .i64 s__Read8, .int .i64 s__Status9, .int .i64 s__Code10] T_api_State) →
 ∀ (b14 : Nat) (w15 : World), b14 = w13.heap.size → w15 = World.alloc w13 (.cells #[.int .i64 (0 : Int), .int .i64 (0 : Int), .slice none 0 0, .slice none 0 0, .slice none 0 0, .string (bs []), .string (bs []), .int .i64 (0 : Int), .int .i64 (0 : Int), .int .i64 (0 : Int)] T_api_State) →
 ∀ (b16 : Nat) (w17 : World), b16 = w15.heap.size → w17 = World.alloc w15 (.cells #[.int .i64 (0 : Int)] T_int) →
 wrOk w17 ⟨b12, 0, none⟩ 1 ∧ ∀ w18 : World, w18 = stW w17 ⟨b12, 0, none⟩ 0 [.int .i64 xt11] →
 wrOk w18 ⟨b12, 1, none⟩ 1 ∧ ∀ w19 : World, w19 = stW w18 ⟨b12, 1, none⟩ 0 [.int .i64 (0 : Int)] →
 wrOk w19 ⟨b12, 3, none⟩ 1 ∧ ∀ w20 : World, w20 = stW w19 ⟨b12, 3, none⟩ 0 [.slice (some ⟨b16, 0, none⟩) 1 1] →
 wrOk w20 ⟨b12, 8, none⟩ 1 ∧ ∀ w21 : World, w21 = stW w20 ⟨b12, 8, none⟩ 0 [.int .i64 (0 : Int)] →
 wrOk w21 ⟨b12, 9, none⟩ 1 ∧ ∀ w22 : World, w22 = stW w21 ⟨b12, 9, none⟩ 0 [.int .i64 (0 : Int)] →
 ∃ n_Ip23 : Int, ∃ n_Handler24 : Int, ∃ s_Stack25 : Sl, ∃ s_Back26 : Sl, ∃ s_Mem27 : Sl, ∃ t_Out28 : ByteArray, ∃ t_In29 : ByteArray, ∃ n_Read30 : Int, ∃ n_Status31 : Int, ∃ n_Code32 : Int, w22.cell? ⟨b12, 0, none⟩ = some (.int .i64 n_Ip23) ∧ w22.cell? ⟨b12, 1, none⟩ = some (.int .i64 n_Handler24) ∧ w22.cell? ⟨b12, 2, none⟩ = some (s_Stack25.val) ∧ w22.cell? ⟨b12, 3, none⟩ = some (s_Back26.val) ∧ w22.cell? ⟨b12, 4, none⟩ = some (s_Mem27.val) ∧ w22.cell? ⟨b12, 5, none⟩ = some (.string t_Out28) ∧ w22.cell? ⟨b12, 6, none⟩ = some (.string t_In29) ∧ w22.cell? ⟨b12, 7, none⟩ = some (.int .i64 n_Read30) ∧ w22.cell? ⟨b12, 8, none⟩ = some (.int .i64 n_Status31) ∧ w22.cell? ⟨b12, 9, none⟩ = some (.int .i64 n_Code32) ∧
 wrOk w22 ⟨b14, 0, none⟩ 10 ∧ ∀ w33 : World, w33 = stW w22 ⟨b14, 0, none⟩ 0 [.int .i64 n_Ip23, .int .i64 n_Handler24, s_Stack25.val, s_Back26.val, s_Mem27.val, .string t_Out28, .string t_In29, .int .i64 n_Read30, .int .i64 n_Status31, .int .i64 n_Code32] →
 ∃ r_Ip34 : Int, ∃ r_Handler35 : Int, ∃ r_Stack36 : Sl, ∃ r_Back37 : Sl, ∃ r_Mem38 : Sl, ∃ r_Out39 : ByteArray, ∃ r_In40 : ByteArray, ∃ r_Read41 : Int, ∃ r_Status42 : Int, ∃ r_Code43 : Int, w33.cell? ⟨b14, 0, none⟩ = some (.int .i64 r_Ip34) ∧ w33.cell? ⟨b14, 1, none⟩ = some (.int .i64 r_Handler35) ∧ w33.cell? ⟨b14, 2, none⟩ = some (r_Stack36.val) ∧ w33.cell? ⟨b14, 3, none⟩ = some (r_Back37.val) ∧ w33.cell? ⟨b14, 4, none⟩ = some (r_Mem38.val) ∧ w33.cell? ⟨b14, 5, none⟩ = some (.string r_Out39) ∧ w33.cell? ⟨b14, 6, none⟩ = some (.string r_In40) ∧ w33.cell? ⟨b14, 7, none⟩ = some (.int .i64 r_Read41) ∧ w33.cell? ⟨b14, 8, none⟩ = some (.int .i64 r_Status42) ∧ w33.cell? ⟨b14, 9, none⟩ = some (.int .i64 r_Code43) ∧
 K (.agg #[.int .i64 r_Ip34, .int .i64 r_Handler35, r_Stack36.val, r_Back37.val, r_Mem38.val, .string r_Out39, .string r_In40, .int .i64 r_Read41, .int .i64 r_Status42, .int .i64 r_Code43]) w33
def hollowayref9_Enter_an : An := ⟨[], [], []⟩
theorem hollowayref9_Enter_lift {s__Ip1 : Int} {s__Handler2 : Int} {s__Stack3 : Sl} {s__Back4 : Sl} {s__Mem5 : Sl} {s__Out6 : ByteArray} {s__In7 : ByteArray} {s__Read8 : Int} {s__Status9 : Int} {s__Code10 : Int} {xt11 : Int} {w : World} {K : Value → World → Prop} (h : hollowayref9_Enter_sh s__Ip1 s__Handler2 s__Stack3 s__Back4 s__Mem5 s__Out6 s__In7 s__Read8 s__Status9 s__Code10 xt11 w K) : Calls Tryd.prog fn_hollowayref9_Enter #[.agg #[.int .i64 s__Ip1, .int .i64 s__Handler2, s__Stack3.val, s__Back4.val, s__Mem5.val, .string s__Out6, .string s__In7, .int .i64 s__Read8, .int .i64 s__Status9, .int .i64 s__Code10], .int .i64 xt11] w fun e w' => ∃ v, e = .returned v ∧ K v w' :=
   lift_calls (A := hollowayref9_Enter_an) (c := bodyOf Tryd.f35) (args := [.agg #[.int .i64 s__Ip1, .int .i64 s__Handler2, s__Stack3.val, s__Back4.val, s__Mem5.val, .string s__Out6, .string s__In7, .int .i64 s__Read8, .int .i64 s__Status9, .int .i64 s__Code10], .int .i64 xt11]) orc orc_wide Tryd.func35 (by kernel_rfl) (by kernel_rfl) (Eq.mp (by kernel_rfl : hollowayref9_Enter_sh s__Ip1 s__Handler2 s__Stack3 s__Back4 s__Mem5 s__Out6 s__In7 s__Read8 s__Status9 s__Code10 xt11 w K = wpc orc Tryd.f35.ntmps hollowayref9_Enter_an (bodyOf Tryd.f35) (argl 0 [.agg #[.int .i64 s__Ip1, .int .i64 s__Handler2, s__Stack3.val, s__Back4.val, s__Mem5.val, .string s__Out6, .string s__In7, .int .i64 s__Read8, .int .i64 s__Status9, .int .i64 s__Code10], .int .i64 xt11]) w (retQ orc Tryd.f35.results.toList K)) h)

end Go.Proofs.YtkjpmkopnkkbmaaDoor

/- Functions of Hollowaylaw9, read without their frames; that each is enough. Printed by a program of mine (wip/lift/gen.py). -/
set_option maxRecDepth 100000
namespace Go.Proofs.YtkjpmkopnkkbmaaDoor
open Go.RowKit

-- holloway/hollowaylaw9.InnerFuel
def hollowaylaw9_InnerFuel_sh (s__Ip1 : Int) (s__Handler2 : Int) (s__Stack3 : Sl) (s__Back4 : Sl) (s__Mem5 : Sl) (s__Out6 : ByteArray) (s__In7 : ByteArray) (s__Read8 : Int) (s__Status9 : Int) (s__Code10 : Int) (a_11 : Int) (b_12 : Int) (w : World) (K : Value → World → Prop) : Prop :=
 ∀ (b13 : Nat) (w14 : World), b13 = w.heap.size → w14 = World.alloc w (.cells #[.int .i64 s__Ip1, .int .i64 s__Handler2, s__Stack3.val, s__Back4.val, s__Mem5.val, .string s__Out6, .string s__In7, .int .i64 s__Read8, .int .i64 s__Status9, .int .i64 s__Code10] T_api_State) →
 ∃ J3 : Bool → World → Prop, (∀ (b32 : Bool) (w31 : World), J3 b32 w31 →
 brB b32
 (Calls Tryd.prog fn_hollowaylaw9_alive #[] w31 fun e33 w34 => ∃ b35 : Bool, e33 = .returned (.bool b35) ∧
 K (.bool b35) w34)
 (∃ n_Ip36 : Int, ∃ n_Handler37 : Int, ∃ s_Stack38 : Sl, ∃ s_Back39 : Sl, ∃ s_Mem40 : Sl, ∃ t_Out41 : ByteArray, ∃ t_In42 : ByteArray, ∃ n_Read43 : Int, ∃ n_Status44 : Int, ∃ n_Code45 : Int, w31.cell? ⟨b13, 0, none⟩ = some (.int .i64 n_Ip36) ∧ w31.cell? ⟨b13, 1, none⟩ = some (.int .i64 n_Handler37) ∧ w31.cell? ⟨b13, 2, none⟩ = some (s_Stack38.val) ∧ w31.cell? ⟨b13, 3, none⟩ = some (s_Back39.val) ∧ w31.cell? ⟨b13, 4, none⟩ = some (s_Mem40.val) ∧ w31.cell? ⟨b13, 5, none⟩ = some (.string t_Out41) ∧ w31.cell? ⟨b13, 6, none⟩ = some (.string t_In42) ∧ w31.cell? ⟨b13, 7, none⟩ = some (.int .i64 n_Read43) ∧ w31.cell? ⟨b13, 8, none⟩ = some (.int .i64 n_Status44) ∧ w31.cell? ⟨b13, 9, none⟩ = some (.int .i64 n_Code45) ∧
 Calls Tryd.prog fn_inner_Run #[.agg #[.int .i64 n_Ip36, .int .i64 n_Handler37, s_Stack38.val, s_Back39.val, s_Mem40.val, .string t_Out41, .string t_In42, .int .i64 n_Read43, .int .i64 n_Status44, .int .i64 n_Code45], .int .i64 a_11] w31 fun e46 w47 => ∃ n_Ip48 : Int, ∃ n_Handler49 : Int, ∃ s_Stack50 : Sl, ∃ s_Back51 : Sl, ∃ s_Mem52 : Sl, ∃ t_Out53 : ByteArray, ∃ t_In54 : ByteArray, ∃ n_Read55 : Int, ∃ n_Status56 : Int, ∃ n_Code57 : Int, ∃ n58 : Int, e46 = .returned (.tuple #[.agg #[.int .i64 n_Ip48, .int .i64 n_Handler49, s_Stack50.val, s_Back51.val, s_Mem52.val, .string t_Out53, .string t_In54, .int .i64 n_Read55, .int .i64 n_Status56, .int .i64 n_Code57], .int .i64 n58]) ∧
 ∀ (b59 : Nat) (w60 : World), b59 = w47.heap.size → w60 = World.alloc w47 (.cells #[.int .i64 (0 : Int), .int .i64 (0 : Int), .slice none 0 0, .slice none 0 0, .slice none 0 0, .string (bs []), .string (bs []), .int .i64 (0 : Int), .int .i64 (0 : Int), .int .i64 (0 : Int)] T_api_State) →
 wrOk w60 ⟨b59, 0, none⟩ 10 ∧ ∀ w61 : World, w61 = stW w60 ⟨b59, 0, none⟩ 0 [.int .i64 n_Ip48, .int .i64 n_Handler49, s_Stack50.val, s_Back51.val, s_Mem52.val, .string t_Out53, .string t_In54, .int .i64 n_Read55, .int .i64 n_Status56, .int .i64 n_Code57] →
 ∃ n_Ip62 : Int, ∃ n_Handler63 : Int, ∃ s_Stack64 : Sl, ∃ s_Back65 : Sl, ∃ s_Mem66 : Sl, ∃ t_Out67 : ByteArray, ∃ t_In68 : ByteArray, ∃ n_Read69 : Int, ∃ n_Status70 : Int, ∃ n_Code71 : Int, w61.cell? ⟨b59, 0, none⟩ = some (.int .i64 n_Ip62) ∧ w61.cell? ⟨b59, 1, none⟩ = some (.int .i64 n_Handler63) ∧ w61.cell? ⟨b59, 2, none⟩ = some (s_Stack64.val) ∧ w61.cell? ⟨b59, 3, none⟩ = some (s_Back65.val) ∧ w61.cell? ⟨b59, 4, none⟩ = some (s_Mem66.val) ∧ w61.cell? ⟨b59, 5, none⟩ = some (.string t_Out67) ∧ w61.cell? ⟨b59, 6, none⟩ = some (.string t_In68) ∧ w61.cell? ⟨b59, 7, none⟩ = some (.int .i64 n_Read69) ∧ w61.cell? ⟨b59, 8, none⟩ = some (.int .i64 n_Status70) ∧ w61.cell? ⟨b59, 9, none⟩ = some (.int .i64 n_Code71) ∧
 Calls Tryd.prog fn_inner_Run #[.agg #[.int .i64 n_Ip62, .int .i64 n_Handler63, s_Stack64.val, s_Back65.val, s_Mem66.val, .string t_Out67, .string t_In68, .int .i64 n_Read69, .int .i64 n_Status70, .int .i64 n_Code71], .int .i64 (wr (b_12 + n58))] w61 fun e72 w73 => ∃ n_Ip74 : Int, ∃ n_Handler75 : Int, ∃ s_Stack76 : Sl, ∃ s_Back77 : Sl, ∃ s_Mem78 : Sl, ∃ t_Out79 : ByteArray, ∃ t_In80 : ByteArray, ∃ n_Read81 : Int, ∃ n_Status82 : Int, ∃ n_Code83 : Int, ∃ n84 : Int, e72 = .returned (.tuple #[.agg #[.int .i64 n_Ip74, .int .i64 n_Handler75, s_Stack76.val, s_Back77.val, s_Mem78.val, .string t_Out79, .string t_In80, .int .i64 n_Read81, .int .i64 n_Status82, .int .i64 n_Code83], .int .i64 n84]) ∧
 ∀ (b85 : Nat) (w86 : World), b85 = w73.heap.size → w86 = World.alloc w73 (.cells #[.int .i64 (0 : Int), .int .i64 (0 : Int), .slice none 0 0, .slice none 0 0, .slice none 0 0, .string (bs []), .string (bs []), .int .i64 (0 : Int), .int .i64 (0 : Int), .int .i64 (0 : Int)] T_api_State) →
 wrOk w86 ⟨b85, 0, none⟩ 10 ∧ ∀ w87 : World, w87 = stW w86 ⟨b85, 0, none⟩ 0 [.int .i64 n_Ip74, .int .i64 n_Handler75, s_Stack76.val, s_Back77.val, s_Mem78.val, .string t_Out79, .string t_In80, .int .i64 n_Read81, .int .i64 n_Status82, .int .i64 n_Code83] →
 ∃ n_Ip88 : Int, ∃ n_Handler89 : Int, ∃ s_Stack90 : Sl, ∃ s_Back91 : Sl, ∃ s_Mem92 : Sl, ∃ t_Out93 : ByteArray, ∃ t_In94 : ByteArray, ∃ n_Read95 : Int, ∃ n_Status96 : Int, ∃ n_Code97 : Int, w87.cell? ⟨b13, 0, none⟩ = some (.int .i64 n_Ip88) ∧ w87.cell? ⟨b13, 1, none⟩ = some (.int .i64 n_Handler89) ∧ w87.cell? ⟨b13, 2, none⟩ = some (s_Stack90.val) ∧ w87.cell? ⟨b13, 3, none⟩ = some (s_Back91.val) ∧ w87.cell? ⟨b13, 4, none⟩ = some (s_Mem92.val) ∧ w87.cell? ⟨b13, 5, none⟩ = some (.string t_Out93) ∧ w87.cell? ⟨b13, 6, none⟩ = some (.string t_In94) ∧ w87.cell? ⟨b13, 7, none⟩ = some (.int .i64 n_Read95) ∧ w87.cell? ⟨b13, 8, none⟩ = some (.int .i64 n_Status96) ∧ w87.cell? ⟨b13, 9, none⟩ = some (.int .i64 n_Code97) ∧
 Calls Tryd.prog fn_inner_Run #[.agg #[.int .i64 n_Ip88, .int .i64 n_Handler89, s_Stack90.val, s_Back91.val, s_Mem92.val, .string t_Out93, .string t_In94, .int .i64 n_Read95, .int .i64 n_Status96, .int .i64 n_Code97], .int .i64 (wr (a_11 + b_12))] w87 fun e98 w99 => ∃ n_Ip100 : Int, ∃ n_Handler101 : Int, ∃ s_Stack102 : Sl, ∃ s_Back103 : Sl, ∃ s_Mem104 : Sl, ∃ t_Out105 : ByteArray, ∃ t_In106 : ByteArray, ∃ n_Read107 : Int, ∃ n_Status108 : Int, ∃ n_Code109 : Int, ∃ n110 : Int, e98 = .returned (.tuple #[.agg #[.int .i64 n_Ip100, .int .i64 n_Handler101, s_Stack102.val, s_Back103.val, s_Mem104.val, .string t_Out105, .string t_In106, .int .i64 n_Read107, .int .i64 n_Status108, .int .i64 n_Code109], .int .i64 n110]) ∧
 ∀ (b111 : Nat) (w112 : World), b111 = w99.heap.size → w112 = World.alloc w99 (.cells #[.int .i64 (0 : Int), .int .i64 (0 : Int), .slice none 0 0, .slice none 0 0, .slice none 0 0, .string (bs []), .string (bs []), .int .i64 (0 : Int), .int .i64 (0 : Int), .int .i64 (0 : Int)] T_api_State) →
 wrOk w112 ⟨b111, 0, none⟩ 10 ∧ ∀ w113 : World, w113 = stW w112 ⟨b111, 0, none⟩ 0 [.int .i64 n_Ip100, .int .i64 n_Handler101, s_Stack102.val, s_Back103.val, s_Mem104.val, .string t_Out105, .string t_In106, .int .i64 n_Read107, .int .i64 n_Status108, .int .i64 n_Code109] →
 ∃ n_Ip114 : Int, ∃ n_Handler115 : Int, ∃ s_Stack116 : Sl, ∃ s_Back117 : Sl, ∃ s_Mem118 : Sl, ∃ t_Out119 : ByteArray, ∃ t_In120 : ByteArray, ∃ n_Read121 : Int, ∃ n_Status122 : Int, ∃ n_Code123 : Int, w113.cell? ⟨b85, 0, none⟩ = some (.int .i64 n_Ip114) ∧ w113.cell? ⟨b85, 1, none⟩ = some (.int .i64 n_Handler115) ∧ w113.cell? ⟨b85, 2, none⟩ = some (s_Stack116.val) ∧ w113.cell? ⟨b85, 3, none⟩ = some (s_Back117.val) ∧ w113.cell? ⟨b85, 4, none⟩ = some (s_Mem118.val) ∧ w113.cell? ⟨b85, 5, none⟩ = some (.string t_Out119) ∧ w113.cell? ⟨b85, 6, none⟩ = some (.string t_In120) ∧ w113.cell? ⟨b85, 7, none⟩ = some (.int .i64 n_Read121) ∧ w113.cell? ⟨b85, 8, none⟩ = some (.int .i64 n_Status122) ∧ w113.cell? ⟨b85, 9, none⟩ = some (.int .i64 n_Code123) ∧
 ∃ n_Ip124 : Int, ∃ n_Handler125 : Int, ∃ s_Stack126 : Sl, ∃ s_Back127 : Sl, ∃ s_Mem128 : Sl, ∃ t_Out129 : ByteArray, ∃ t_In130 : ByteArray, ∃ n_Read131 : Int, ∃ n_Status132 : Int, ∃ n_Code133 : Int, w113.cell? ⟨b111, 0, none⟩ = some (.int .i64 n_Ip124) ∧ w113.cell? ⟨b111, 1, none⟩ = some (.int .i64 n_Handler125) ∧ w113.cell? ⟨b111, 2, none⟩ = some (s_Stack126.val) ∧ w113.cell? ⟨b111, 3, none⟩ = some (s_Back127.val) ∧ w113.cell? ⟨b111, 4, none⟩ = some (s_Mem128.val) ∧ w113.cell? ⟨b111, 5, none⟩ = some (.string t_Out129) ∧ w113.cell? ⟨b111, 6, none⟩ = some (.string t_In130) ∧ w113.cell? ⟨b111, 7, none⟩ = some (.int .i64 n_Read131) ∧ w113.cell? ⟨b111, 8, none⟩ = some (.int .i64 n_Status132) ∧ w113.cell? ⟨b111, 9, none⟩ = some (.int .i64 n_Code133) ∧
 Calls Tryd.prog fn_hollowaybook_SameState #[.agg #[.int .i64 n_Ip114, .int .i64 n_Handler115, s_Stack116.val, s_Back117.val, s_Mem118.val, .string t_Out119, .string t_In120, .int .i64 n_Read121, .int .i64 n_Status122, .int .i64 n_Code123], .agg #[.int .i64 n_Ip124, .int .i64 n_Handler125, s_Stack126.val, s_Back127.val, s_Mem128.val, .string t_Out129, .string t_In130, .int .i64 n_Read131, .int .i64 n_Status132, .int .i64 n_Code133]] w113 fun e134 w135 => ∃ b136 : Bool, e134 = .returned (.bool b136) ∧
 brB b136
 (brB (n84 == n110)
 (∃ n137 : Int, w135.cell? ⟨b59, 8, none⟩ = some (.int .i64 n137) ∧
 brB (n58 == (0 : Int))
 (∃ n138 : Int, w135.cell? ⟨b59, 8, none⟩ = some (.int .i64 n138) ∧
 K (.bool ((n137 == (0 : Int)) == (n138 == (0 : Int)))) w135)
 (K (.bool ((n137 == (0 : Int)) == false)) w135))
 (K (.bool false) w135))
 (K (.bool false) w135))) ∧
 ∃ n_Ip15 : Int, ∃ n_Handler16 : Int, ∃ s_Stack17 : Sl, ∃ s_Back18 : Sl, ∃ s_Mem19 : Sl, ∃ t_Out20 : ByteArray, ∃ t_In21 : ByteArray, ∃ n_Read22 : Int, ∃ n_Status23 : Int, ∃ n_Code24 : Int, w14.cell? ⟨b13, 0, none⟩ = some (.int .i64 n_Ip15) ∧ w14.cell? ⟨b13, 1, none⟩ = some (.int .i64 n_Handler16) ∧ w14.cell? ⟨b13, 2, none⟩ = some (s_Stack17.val) ∧ w14.cell? ⟨b13, 3, none⟩ = some (s_Back18.val) ∧ w14.cell? ⟨b13, 4, none⟩ = some (s_Mem19.val) ∧ w14.cell? ⟨b13, 5, none⟩ = some (.string t_Out20) ∧ w14.cell? ⟨b13, 6, none⟩ = some (.string t_In21) ∧ w14.cell? ⟨b13, 7, none⟩ = some (.int .i64 n_Read22) ∧ w14.cell? ⟨b13, 8, none⟩ = some (.int .i64 n_Status23) ∧ w14.cell? ⟨b13, 9, none⟩ = some (.int .i64 n_Code24) ∧
 Calls Tryd.prog fn_hollowaylaw9_Light #[.agg #[.int .i64 n_Ip15, .int .i64 n_Handler16, s_Stack17.val, s_Back18.val, s_Mem19.val, .string t_Out20, .string t_In21, .int .i64 n_Read22, .int .i64 n_Status23, .int .i64 n_Code24]] w14 fun e25 w26 => ∃ b27 : Bool, e25 = .returned (.bool b27) ∧
 brB (!b27)
 (J3 true w26)
 (brB (decide (a_11 < (0 : Int)))
 (J3 true w26)
 (brB (decide (b_12 < (0 : Int)))
 (J3 true w26)
 (brB (decide (a_11 > (200 : Int)))
 (J3 true w26)
 (brB (decide (b_12 > (200 : Int)))
 (J3 true w26)
 (Calls Tryd.prog fn_hollowaylaw9_alive #[] w26 fun e28 w29 => ∃ b30 : Bool, e28 = .returned (.bool b30) ∧
 J3 (!b30) w29)))))
def hollowaylaw9_InnerFuel_an : An := ⟨[], [], [(2, [(35, .bool)])]⟩
theorem hollowaylaw9_InnerFuel_lift {s__Ip1 : Int} {s__Handler2 : Int} {s__Stack3 : Sl} {s__Back4 : Sl} {s__Mem5 : Sl} {s__Out6 : ByteArray} {s__In7 : ByteArray} {s__Read8 : Int} {s__Status9 : Int} {s__Code10 : Int} {a_11 : Int} {b_12 : Int} {w : World} {K : Value → World → Prop} (h : hollowaylaw9_InnerFuel_sh s__Ip1 s__Handler2 s__Stack3 s__Back4 s__Mem5 s__Out6 s__In7 s__Read8 s__Status9 s__Code10 a_11 b_12 w K) : Calls Tryd.prog fn_hollowaylaw9_InnerFuel #[.agg #[.int .i64 s__Ip1, .int .i64 s__Handler2, s__Stack3.val, s__Back4.val, s__Mem5.val, .string s__Out6, .string s__In7, .int .i64 s__Read8, .int .i64 s__Status9, .int .i64 s__Code10], .int .i64 a_11, .int .i64 b_12] w fun e w' => ∃ v, e = .returned v ∧ K v w' :=
   lift_calls (A := hollowaylaw9_InnerFuel_an) (c := bodyOf Tryd.f3) (args := [.agg #[.int .i64 s__Ip1, .int .i64 s__Handler2, s__Stack3.val, s__Back4.val, s__Mem5.val, .string s__Out6, .string s__In7, .int .i64 s__Read8, .int .i64 s__Status9, .int .i64 s__Code10], .int .i64 a_11, .int .i64 b_12]) orc orc_wide Tryd.func3 (by kernel_rfl) (by kernel_rfl) (Eq.mp (by kernel_rfl : hollowaylaw9_InnerFuel_sh s__Ip1 s__Handler2 s__Stack3 s__Back4 s__Mem5 s__Out6 s__In7 s__Read8 s__Status9 s__Code10 a_11 b_12 w K = wpc orc Tryd.f3.ntmps hollowaylaw9_InnerFuel_an (bodyOf Tryd.f3) (argl 0 [.agg #[.int .i64 s__Ip1, .int .i64 s__Handler2, s__Stack3.val, s__Back4.val, s__Mem5.val, .string s__Out6, .string s__In7, .int .i64 s__Read8, .int .i64 s__Status9, .int .i64 s__Code10], .int .i64 a_11, .int .i64 b_12]) w (retQ orc Tryd.f3.results.toList K)) h)

-- holloway/hollowaylaw9.InnerCalls
def hollowaylaw9_InnerCalls_sh (s__Ip1 : Int) (s__Handler2 : Int) (s__Stack3 : Sl) (s__Back4 : Sl) (s__Mem5 : Sl) (s__Out6 : ByteArray) (s__In7 : ByteArray) (s__Read8 : Int) (s__Status9 : Int) (s__Code10 : Int) (at_11 : Int) (v_12 : Int) (w : World) (K : Value → World → Prop) : Prop :=
 ∀ (b13 : Nat) (w14 : World), b13 = w.heap.size → w14 = World.alloc w (.cells #[.int .i64 s__Ip1, .int .i64 s__Handler2, s__Stack3.val, s__Back4.val, s__Mem5.val, .string s__Out6, .string s__In7, .int .i64 s__Read8, .int .i64 s__Status9, .int .i64 s__Code10] T_api_State) →
 ∃ J3 : Bool → World → Prop, (∀ (b36 : Bool) (w35 : World), J3 b36 w35 →
 brB b36
 (Calls Tryd.prog fn_hollowaylaw9_alive #[] w35 fun e37 w38 => ∃ b39 : Bool, e37 = .returned (.bool b39) ∧
 K (.bool b39) w38)
 (∃ n_Ip40 : Int, ∃ n_Handler41 : Int, ∃ s_Stack42 : Sl, ∃ s_Back43 : Sl, ∃ s_Mem44 : Sl, ∃ t_Out45 : ByteArray, ∃ t_In46 : ByteArray, ∃ n_Read47 : Int, ∃ n_Status48 : Int, ∃ n_Code49 : Int, w35.cell? ⟨b13, 0, none⟩ = some (.int .i64 n_Ip40) ∧ w35.cell? ⟨b13, 1, none⟩ = some (.int .i64 n_Handler41) ∧ w35.cell? ⟨b13, 2, none⟩ = some (s_Stack42.val) ∧ w35.cell? ⟨b13, 3, none⟩ = some (s_Back43.val) ∧ w35.cell? ⟨b13, 4, none⟩ = some (s_Mem44.val) ∧ w35.cell? ⟨b13, 5, none⟩ = some (.string t_Out45) ∧ w35.cell? ⟨b13, 6, none⟩ = some (.string t_In46) ∧ w35.cell? ⟨b13, 7, none⟩ = some (.int .i64 n_Read47) ∧ w35.cell? ⟨b13, 8, none⟩ = some (.int .i64 n_Status48) ∧ w35.cell? ⟨b13, 9, none⟩ = some (.int .i64 n_Code49) ∧
 Calls Tryd.prog fn_inner_Copy #[.agg #[.int .i64 n_Ip40, .int .i64 n_Handler41, s_Stack42.val, s_Back43.val, s_Mem44.val, .string t_Out45, .string t_In46, .int .i64 n_Read47, .int .i64 n_Status48, .int .i64 n_Code49]] w35 fun e50 w51 => ∃ n_Ip52 : Int, ∃ n_Handler53 : Int, ∃ s_Stack54 : Sl, ∃ s_Back55 : Sl, ∃ s_Mem56 : Sl, ∃ t_Out57 : ByteArray, ∃ t_In58 : ByteArray, ∃ n_Read59 : Int, ∃ n_Status60 : Int, ∃ n_Code61 : Int, e50 = .returned (.agg #[.int .i64 n_Ip52, .int .i64 n_Handler53, s_Stack54.val, s_Back55.val, s_Mem56.val, .string t_Out57, .string t_In58, .int .i64 n_Read59, .int .i64 n_Status60, .int .i64 n_Code61]) ∧
 ∀ (b62 : Nat) (w63 : World), b62 = w51.heap.size → w63 = World.alloc w51 (.cells #[.int .i64 (0 : Int), .int .i64 (0 : Int), .slice none 0 0, .slice none 0 0, .slice none 0 0, .string (bs []), .string (bs []), .int .i64 (0 : Int), .int .i64 (0 : Int), .int .i64 (0 : Int)] T_api_State) →
 wrOk w63 ⟨b62, 0, none⟩ 10 ∧ ∀ w64 : World, w64 = stW w63 ⟨b62, 0, none⟩ 0 [.int .i64 n_Ip52, .int .i64 n_Handler53, s_Stack54.val, s_Back55.val, s_Mem56.val, .string t_Out57, .string t_In58, .int .i64 n_Read59, .int .i64 n_Status60, .int .i64 n_Code61] →
 ∃ s65 : Sl, w64.cell? ⟨b62, 4, none⟩ = some (s65.val) ∧
 ∃ s66 : Sl, w64.cell? ⟨b13, 4, none⟩ = some (s66.val) ∧
 brB ((s65.len : Int) != (s66.len : Int))
 (K (.bool false) w64)
 (∀ w67 : World, w67 = World.drew w64 →
 ∃ S68 : World → Prop, S68 w67 ∧
 ∃ s69 : Sl, held S68 ⟨b62, 4, none⟩ (s69.val) ∧
 ∃ s70 : Sl, held S68 ⟨b62, 4, none⟩ (s70.val) ∧
 ∃ s71 : Sl, held S68 ⟨b62, 4, none⟩ (s71.val) ∧
 ∃ a72 : Addr, s69.ptr = some a72 ∧ 0 ≤ at_11 ∧ at_11 < (s69.len : Int) ∧
 wrOk w67 (Addr.add a72 (Int.toNat at_11 * 1)) 1 ∧ ∀ w73 : World, w73 = stW w67 (Addr.add a72 (Int.toNat at_11 * 1)) 0 [.int .i64 (2 : Int)] →
 S68 w73 ∧
 ∃ a74 : Addr, s70.ptr = some a74 ∧ 0 ≤ (wr (at_11 + (1 : Int))) ∧ (wr (at_11 + (1 : Int))) < (s70.len : Int) ∧
 wrOk w73 (Addr.add a74 (Int.toNat (wr (at_11 + (1 : Int))) * 1)) 1 ∧ ∀ w75 : World, w75 = stW w73 (Addr.add a74 (Int.toNat (wr (at_11 + (1 : Int))) * 1)) 0 [.int .i64 v_12] →
 S68 w75 ∧
 ∃ a76 : Addr, s71.ptr = some a76 ∧ 0 ≤ (wr (at_11 + (2 : Int))) ∧ (wr (at_11 + (2 : Int))) < (s71.len : Int) ∧
 wrOk w75 (Addr.add a76 (Int.toNat (wr (at_11 + (2 : Int))) * 1)) 1 ∧ ∀ w77 : World, w77 = stW w75 (Addr.add a76 (Int.toNat (wr (at_11 + (2 : Int))) * 1)) 0 [.int .i64 (5 : Int)] →
 ∃ s78 : Sl, w77.cell? ⟨b62, 4, none⟩ = some (s78.val) ∧
 ∃ a79 : Addr, s78.ptr = some a79 ∧ 0 ≤ (0 : Int) ∧ (0 : Int) < (s78.len : Int) ∧
 wrOk w77 (Addr.add a79 (Int.toNat (0 : Int) * 1)) 1 ∧ ∀ w80 : World, w80 = stW w77 (Addr.add a79 (Int.toNat (0 : Int) * 1)) 0 [.int .i64 at_11] →
 wrOk w80 ⟨b62, 0, none⟩ 1 ∧ ∀ w81 : World, w81 = stW w80 ⟨b62, 0, none⟩ 0 [.int .i64 (0 : Int)] →
 wrOk w81 ⟨b62, 8, none⟩ 1 ∧ ∀ w82 : World, w82 = stW w81 ⟨b62, 8, none⟩ 0 [.int .i64 (0 : Int)] →
 ∃ n_Ip83 : Int, ∃ n_Handler84 : Int, ∃ s_Stack85 : Sl, ∃ s_Back86 : Sl, ∃ s_Mem87 : Sl, ∃ t_Out88 : ByteArray, ∃ t_In89 : ByteArray, ∃ n_Read90 : Int, ∃ n_Status91 : Int, ∃ n_Code92 : Int, w82.cell? ⟨b62, 0, none⟩ = some (.int .i64 n_Ip83) ∧ w82.cell? ⟨b62, 1, none⟩ = some (.int .i64 n_Handler84) ∧ w82.cell? ⟨b62, 2, none⟩ = some (s_Stack85.val) ∧ w82.cell? ⟨b62, 3, none⟩ = some (s_Back86.val) ∧ w82.cell? ⟨b62, 4, none⟩ = some (s_Mem87.val) ∧ w82.cell? ⟨b62, 5, none⟩ = some (.string t_Out88) ∧ w82.cell? ⟨b62, 6, none⟩ = some (.string t_In89) ∧ w82.cell? ⟨b62, 7, none⟩ = some (.int .i64 n_Read90) ∧ w82.cell? ⟨b62, 8, none⟩ = some (.int .i64 n_Status91) ∧ w82.cell? ⟨b62, 9, none⟩ = some (.int .i64 n_Code92) ∧
 Calls Tryd.prog fn_inner_Run #[.agg #[.int .i64 n_Ip83, .int .i64 n_Handler84, s_Stack85.val, s_Back86.val, s_Mem87.val, .string t_Out88, .string t_In89, .int .i64 n_Read90, .int .i64 n_Status91, .int .i64 n_Code92], .int .i64 (3 : Int)] w82 fun e93 w94 => ∃ n_Ip95 : Int, ∃ n_Handler96 : Int, ∃ s_Stack97 : Sl, ∃ s_Back98 : Sl, ∃ s_Mem99 : Sl, ∃ t_Out100 : ByteArray, ∃ t_In101 : ByteArray, ∃ n_Read102 : Int, ∃ n_Status103 : Int, ∃ n_Code104 : Int, ∃ n105 : Int, e93 = .returned (.tuple #[.agg #[.int .i64 n_Ip95, .int .i64 n_Handler96, s_Stack97.val, s_Back98.val, s_Mem99.val, .string t_Out100, .string t_In101, .int .i64 n_Read102, .int .i64 n_Status103, .int .i64 n_Code104], .int .i64 n105]) ∧
 ∀ (b106 : Nat) (w107 : World), b106 = w94.heap.size → w107 = World.alloc w94 (.cells #[.int .i64 (0 : Int), .int .i64 (0 : Int), .slice none 0 0, .slice none 0 0, .slice none 0 0, .string (bs []), .string (bs []), .int .i64 (0 : Int), .int .i64 (0 : Int), .int .i64 (0 : Int)] T_api_State) →
 wrOk w107 ⟨b106, 0, none⟩ 10 ∧ ∀ w108 : World, w108 = stW w107 ⟨b106, 0, none⟩ 0 [.int .i64 n_Ip95, .int .i64 n_Handler96, s_Stack97.val, s_Back98.val, s_Mem99.val, .string t_Out100, .string t_In101, .int .i64 n_Read102, .int .i64 n_Status103, .int .i64 n_Code104] →
 brB (n105 == (0 : Int))
 (∃ n109 : Int, w108.cell? ⟨b106, 8, none⟩ = some (.int .i64 n109) ∧
 brB (n109 == (0 : Int))
 (∃ n110 : Int, w108.cell? ⟨b106, 0, none⟩ = some (.int .i64 n110) ∧
 brB (n110 == (1 : Int))
 (∃ s111 : Sl, w108.cell? ⟨b106, 2, none⟩ = some (s111.val) ∧
 ∃ s112 : Sl, w108.cell? ⟨b13, 2, none⟩ = some (s112.val) ∧
 brB ((s111.len : Int) == (wr ((s112.len : Int) + (1 : Int))))
 (∃ s113 : Sl, w108.cell? ⟨b106, 2, none⟩ = some (s113.val) ∧
 ∃ s114 : Sl, w108.cell? ⟨b13, 2, none⟩ = some (s114.val) ∧
 ∃ a115 : Addr, s113.ptr = some a115 ∧ 0 ≤ (s114.len : Int) ∧ (s114.len : Int) < (s113.len : Int) ∧
 ∃ n116 : Int, w108.cell? (Addr.add a115 (Int.toNat (s114.len : Int) * 1)) = some (.int .i64 n116) ∧
 brB (n116 == v_12)
 (∃ s117 : Sl, w108.cell? ⟨b106, 3, none⟩ = some (s117.val) ∧
 ∃ s118 : Sl, w108.cell? ⟨b13, 3, none⟩ = some (s118.val) ∧
 Calls Tryd.prog fn_hollowaybook_SameInts #[s117.val, s118.val] w108 fun e119 w120 => ∃ b121 : Bool, e119 = .returned (.bool b121) ∧
 K (.bool b121) w120)
 (K (.bool false) w108))
 (K (.bool false) w108))
 (K (.bool false) w108))
 (K (.bool false) w108))
 (K (.bool false) w108)))) ∧
 ∃ n_Ip15 : Int, ∃ n_Handler16 : Int, ∃ s_Stack17 : Sl, ∃ s_Back18 : Sl, ∃ s_Mem19 : Sl, ∃ t_Out20 : ByteArray, ∃ t_In21 : ByteArray, ∃ n_Read22 : Int, ∃ n_Status23 : Int, ∃ n_Code24 : Int, w14.cell? ⟨b13, 0, none⟩ = some (.int .i64 n_Ip15) ∧ w14.cell? ⟨b13, 1, none⟩ = some (.int .i64 n_Handler16) ∧ w14.cell? ⟨b13, 2, none⟩ = some (s_Stack17.val) ∧ w14.cell? ⟨b13, 3, none⟩ = some (s_Back18.val) ∧ w14.cell? ⟨b13, 4, none⟩ = some (s_Mem19.val) ∧ w14.cell? ⟨b13, 5, none⟩ = some (.string t_Out20) ∧ w14.cell? ⟨b13, 6, none⟩ = some (.string t_In21) ∧ w14.cell? ⟨b13, 7, none⟩ = some (.int .i64 n_Read22) ∧ w14.cell? ⟨b13, 8, none⟩ = some (.int .i64 n_Status23) ∧ w14.cell? ⟨b13, 9, none⟩ = some (.int .i64 n_Code24) ∧
 Calls Tryd.prog fn_hollowaylaw9_Light #[.agg #[.int .i64 n_Ip15, .int .i64 n_Handler16, s_Stack17.val, s_Back18.val, s_Mem19.val, .string t_Out20, .string t_In21, .int .i64 n_Read22, .int .i64 n_Status23, .int .i64 n_Code24]] w14 fun e25 w26 => ∃ b27 : Bool, e25 = .returned (.bool b27) ∧
 brB (!b27)
 (J3 true w26)
 (∃ s28 : Sl, w26.cell? ⟨b13, 4, none⟩ = some (s28.val) ∧
 brB (decide ((s28.len : Int) < (20 : Int)))
 (J3 true w26)
 (∃ s29 : Sl, w26.cell? ⟨b13, 2, none⟩ = some (s29.val) ∧
 brB (decide ((s29.len : Int) ≥ (48 : Int)))
 (J3 true w26)
 (∃ s30 : Sl, w26.cell? ⟨b13, 3, none⟩ = some (s30.val) ∧
 brB (decide ((s30.len : Int) ≥ (48 : Int)))
 (J3 true w26)
 (brB (decide (at_11 < (0 : Int)))
 (J3 true w26)
 (∃ s31 : Sl, w26.cell? ⟨b13, 4, none⟩ = some (s31.val) ∧
 brB (decide (at_11 > (wr ((s31.len : Int) - (5 : Int)))))
 (J3 true w26)
 (brB (decide (at_11 < (64 : Int)))
 (J3 true w26)
 (Calls Tryd.prog fn_hollowaylaw9_alive #[] w26 fun e32 w33 => ∃ b34 : Bool, e32 = .returned (.bool b34) ∧
 J3 (!b34) w33)))))))
def hollowaylaw9_InnerCalls_an : An := ⟨[], [(6, (16, .st 0 (.st 1 (.st 2 (.st 3 (.st 4 (.st 5 (.st 6 (.st 7 (.st 8 (.st 9 (.st 10 (.st 11 (.st 12 (.ef 13 (.st 14 (.ef 15 .done))))))))))))))), 1))], [(2, [(50, .bool)])]⟩
theorem hollowaylaw9_InnerCalls_lift {s__Ip1 : Int} {s__Handler2 : Int} {s__Stack3 : Sl} {s__Back4 : Sl} {s__Mem5 : Sl} {s__Out6 : ByteArray} {s__In7 : ByteArray} {s__Read8 : Int} {s__Status9 : Int} {s__Code10 : Int} {at_11 : Int} {v_12 : Int} {w : World} {K : Value → World → Prop} (h : hollowaylaw9_InnerCalls_sh s__Ip1 s__Handler2 s__Stack3 s__Back4 s__Mem5 s__Out6 s__In7 s__Read8 s__Status9 s__Code10 at_11 v_12 w K) : Calls Tryd.prog fn_hollowaylaw9_InnerCalls #[.agg #[.int .i64 s__Ip1, .int .i64 s__Handler2, s__Stack3.val, s__Back4.val, s__Mem5.val, .string s__Out6, .string s__In7, .int .i64 s__Read8, .int .i64 s__Status9, .int .i64 s__Code10], .int .i64 at_11, .int .i64 v_12] w fun e w' => ∃ v, e = .returned v ∧ K v w' :=
   lift_calls (A := hollowaylaw9_InnerCalls_an) (c := bodyOf Tryd.f4) (args := [.agg #[.int .i64 s__Ip1, .int .i64 s__Handler2, s__Stack3.val, s__Back4.val, s__Mem5.val, .string s__Out6, .string s__In7, .int .i64 s__Read8, .int .i64 s__Status9, .int .i64 s__Code10], .int .i64 at_11, .int .i64 v_12]) orc orc_wide Tryd.func4 (by kernel_rfl) (by kernel_rfl) (Eq.mp (by kernel_rfl : hollowaylaw9_InnerCalls_sh s__Ip1 s__Handler2 s__Stack3 s__Back4 s__Mem5 s__Out6 s__In7 s__Read8 s__Status9 s__Code10 at_11 v_12 w K = wpc orc Tryd.f4.ntmps hollowaylaw9_InnerCalls_an (bodyOf Tryd.f4) (argl 0 [.agg #[.int .i64 s__Ip1, .int .i64 s__Handler2, s__Stack3.val, s__Back4.val, s__Mem5.val, .string s__Out6, .string s__In7, .int .i64 s__Read8, .int .i64 s__Status9, .int .i64 s__Code10], .int .i64 at_11, .int .i64 v_12]) w (retQ orc Tryd.f4.results.toList K)) h)

-- holloway/hollowaylaw9.InnerStacks
def hollowaylaw9_InnerStacks_sh (stack1 : Sl) (back2 : Sl) (a_3 : Int) (b_4 : Int) (c_5 : Int) (w : World) (K : Value → World → Prop) : Prop :=
 Calls Tryd.prog fn_hollowaylaw9_alive #[] w fun e6 w7 => ∃ b8 : Bool, e6 = .returned (.bool b8) ∧
 brB (!b8)
 (K (.bool false) w7)
 (0 ≤ (imin (stack1.len : Int) (30 : Int)) ∧ (imin (stack1.len : Int) (30 : Int)) ≤ (stack1.cap : Int) ∧ ∀ s9 : Sl, s9 = Sl.sub stack1.ptr stack1.cap 0 (Int.toNat (imin (stack1.len : Int) (30 : Int))) 1 →
 ∃ s10 : Sl, ∃ w11 : World, (Builtin.append_ #[T_sl_int, T_sl_int] T_sl_int #[.slice none 0 0, s9.val]).run Tryd.prog w7 = .ok (s10.val) w11 ∧
 ∀ (b12 : Nat) (w13 : World), b12 = w11.heap.size → w13 = World.alloc w11 (.cells #[.int .i64 a_3, .int .i64 b_4, .int .i64 c_5] T_int) →
 ∃ s14 : Sl, ∃ w15 : World, (Builtin.append_ #[T_sl_int, T_sl_int] T_sl_int #[s10.val, .slice (some ⟨b12, 0, none⟩) 3 3]).run Tryd.prog w13 = .ok (s14.val) w15 ∧
 ∀ (b16 : Nat) (w17 : World), b16 = w15.heap.size → w17 = World.alloc w15 (.cells #[.int .i64 (8 : Int), .int .i64 (8 : Int)] T_int) →
 ∀ (b18 : Nat) (w19 : World), b18 = w17.heap.size → w19 = World.alloc w17 (.cells #[.int .i64 (10 : Int), .int .i64 (10 : Int), .int .i64 (10 : Int)] T_int) →
 ∀ (b20 : Nat) (w21 : World), b20 = w19.heap.size → w21 = World.alloc w19 (.cells #[.int .i64 (6 : Int), .int .i64 (7 : Int)] T_int) →
 ∀ (b22 : Nat) (w23 : World), b22 = w21.heap.size → w23 = World.alloc w21 (.cells #[.int .i64 (9 : Int), .int .i64 (7 : Int)] T_int) →
 ∀ (b24 : Nat) (w25 : World), b24 = w23.heap.size → w25 = World.alloc w23 (.cells #[.int .i64 (33 : Int), .int .i64 (34 : Int)] T_int) →
 ∀ (b26 : Nat) (w27 : World), b26 = w25.heap.size → w27 = World.alloc w25 (.cells #[.int .i64 (16 : Int), .int .i64 (16 : Int)] T_int) →
 ∀ (b28 : Nat) (w29 : World), b28 = w27.heap.size → w29 = World.alloc w27 (.cells #[.int .i64 (20 : Int), .int .i64 (20 : Int)] T_int) →
 ∀ (b30 : Nat) (w31 : World), b30 = w29.heap.size → w31 = World.alloc w29 (.cells #[.int .i64 (2 : Int), .int .i64 b_4, .int .i64 (7 : Int)] T_int) →
 ∀ (b32 : Nat) (w33 : World), b32 = w31.heap.size → w33 = World.alloc w31 (.cells #[.int .i64 (33 : Int), .int .i64 (35 : Int), .int .i64 (34 : Int), .int .i64 (7 : Int)] T_int) →
 ∀ (b34 : Nat) (w35 : World), b34 = w33.heap.size → w35 = World.alloc w33 (.cells #[.int .i64 (9 : Int), .int .i64 (9 : Int), .int .i64 (7 : Int), .int .i64 (7 : Int)] T_int) →
 ∀ (b36 : Nat) (w37 : World), b36 = w35.heap.size → w37 = World.alloc w35 (.cells #[.slice (some ⟨b16, 0, none⟩) 2 2, .slice (some ⟨b18, 0, none⟩) 3 3, .slice (some ⟨b20, 0, none⟩) 2 2, .slice (some ⟨b22, 0, none⟩) 2 2, .slice (some ⟨b24, 0, none⟩) 2 2, .slice (some ⟨b26, 0, none⟩) 2 2, .slice (some ⟨b28, 0, none⟩) 2 2, .slice (some ⟨b30, 0, none⟩) 3 3, .slice (some ⟨b32, 0, none⟩) 4 4, .slice (some ⟨b34, 0, none⟩) 4 4] T_sl_int) →
 ∃ (I1 : Int → World → Prop) (μ1 : Int → World → Nat), I1 (0 : Int) w37 ∧ ∀ (n39 : Int) (w38 : World), I1 n39 w38 →
 brB (decide (n39 < (10 : Int)))
 (∃ a40 : Addr, (some ⟨b36, 0, none⟩) = some a40 ∧ 0 ≤ n39 ∧ n39 < (10 : Int) ∧
 ∃ s41 : Sl, w38.cell? (Addr.add a40 (Int.toNat n39 * 1)) = some (s41.val) ∧
 Calls Tryd.prog fn_hollowaylaw9_plain #[s41.val, s14.val, back2.val] w38 fun e42 w43 => ∃ n_Ip44 : Int, ∃ n_Handler45 : Int, ∃ s_Stack46 : Sl, ∃ s_Back47 : Sl, ∃ s_Mem48 : Sl, ∃ t_Out49 : ByteArray, ∃ t_In50 : ByteArray, ∃ n_Read51 : Int, ∃ n_Status52 : Int, ∃ n_Code53 : Int, e42 = .returned (.agg #[.int .i64 n_Ip44, .int .i64 n_Handler45, s_Stack46.val, s_Back47.val, s_Mem48.val, .string t_Out49, .string t_In50, .int .i64 n_Read51, .int .i64 n_Status52, .int .i64 n_Code53]) ∧
 ∀ (b54 : Nat) (w55 : World), b54 = w43.heap.size → w55 = World.alloc w43 (.cells #[.int .i64 (0 : Int), .int .i64 (0 : Int), .slice none 0 0, .slice none 0 0, .slice none 0 0, .string (bs []), .string (bs []), .int .i64 (0 : Int), .int .i64 (0 : Int), .int .i64 (0 : Int)] T_api_State) →
 wrOk w55 ⟨b54, 0, none⟩ 10 ∧ ∀ w56 : World, w56 = stW w55 ⟨b54, 0, none⟩ 0 [.int .i64 n_Ip44, .int .i64 n_Handler45, s_Stack46.val, s_Back47.val, s_Mem48.val, .string t_Out49, .string t_In50, .int .i64 n_Read51, .int .i64 n_Status52, .int .i64 n_Code53] →
 ∃ (I2 : Int → Int → World → Prop) (μ2 : Int → Int → World → Nat), I2 (0 : Int) (0 : Int) w56 ∧ ∀ (n62 : Int) (k58 : Int) (w57 : World), I2 n62 k58 w57 →
 brB (decide (k58 < (s41.len : Int)))
 (∃ J19 : Int → World → Prop, (∀ (k63 : Int) (w61 : World), J19 k63 w61 →
 I2 (wr (n62 + (1 : Int))) (wr (k63 + (1 : Int))) w61 ∧ μ2 (wr (n62 + (1 : Int))) (wr (k63 + (1 : Int))) w61 < μ2 n62 k58 w57) ∧
 ∃ a59 : Addr, s41.ptr = some a59 ∧ 0 ≤ k58 ∧ k58 < (s41.len : Int) ∧
 ∃ n60 : Int, w57.cell? (Addr.add a59 (Int.toNat k58 * 1)) = some (.int .i64 n60) ∧
 brB (n60 == (2 : Int))
 (J19 (wr (k58 + (1 : Int))) w57)
 (J19 k58 w57))
 (∃ n_Ip64 : Int, ∃ n_Handler65 : Int, ∃ s_Stack66 : Sl, ∃ s_Back67 : Sl, ∃ s_Mem68 : Sl, ∃ t_Out69 : ByteArray, ∃ t_In70 : ByteArray, ∃ n_Read71 : Int, ∃ n_Status72 : Int, ∃ n_Code73 : Int, w57.cell? ⟨b54, 0, none⟩ = some (.int .i64 n_Ip64) ∧ w57.cell? ⟨b54, 1, none⟩ = some (.int .i64 n_Handler65) ∧ w57.cell? ⟨b54, 2, none⟩ = some (s_Stack66.val) ∧ w57.cell? ⟨b54, 3, none⟩ = some (s_Back67.val) ∧ w57.cell? ⟨b54, 4, none⟩ = some (s_Mem68.val) ∧ w57.cell? ⟨b54, 5, none⟩ = some (.string t_Out69) ∧ w57.cell? ⟨b54, 6, none⟩ = some (.string t_In70) ∧ w57.cell? ⟨b54, 7, none⟩ = some (.int .i64 n_Read71) ∧ w57.cell? ⟨b54, 8, none⟩ = some (.int .i64 n_Status72) ∧ w57.cell? ⟨b54, 9, none⟩ = some (.int .i64 n_Code73) ∧
 Calls Tryd.prog fn_inner_Run #[.agg #[.int .i64 n_Ip64, .int .i64 n_Handler65, s_Stack66.val, s_Back67.val, s_Mem68.val, .string t_Out69, .string t_In70, .int .i64 n_Read71, .int .i64 n_Status72, .int .i64 n_Code73], .int .i64 n62] w57 fun e74 w75 => ∃ n_Ip76 : Int, ∃ n_Handler77 : Int, ∃ s_Stack78 : Sl, ∃ s_Back79 : Sl, ∃ s_Mem80 : Sl, ∃ t_Out81 : ByteArray, ∃ t_In82 : ByteArray, ∃ n_Read83 : Int, ∃ n_Status84 : Int, ∃ n_Code85 : Int, ∃ n86 : Int, e74 = .returned (.tuple #[.agg #[.int .i64 n_Ip76, .int .i64 n_Handler77, s_Stack78.val, s_Back79.val, s_Mem80.val, .string t_Out81, .string t_In82, .int .i64 n_Read83, .int .i64 n_Status84, .int .i64 n_Code85], .int .i64 n86]) ∧
 ∀ (b87 : Nat) (w88 : World), b87 = w75.heap.size → w88 = World.alloc w75 (.cells #[.int .i64 (0 : Int), .int .i64 (0 : Int), .slice none 0 0, .slice none 0 0, .slice none 0 0, .string (bs []), .string (bs []), .int .i64 (0 : Int), .int .i64 (0 : Int), .int .i64 (0 : Int)] T_api_State) →
 wrOk w88 ⟨b87, 0, none⟩ 10 ∧ ∀ w89 : World, w89 = stW w88 ⟨b87, 0, none⟩ 0 [.int .i64 n_Ip76, .int .i64 n_Handler77, s_Stack78.val, s_Back79.val, s_Mem80.val, .string t_Out81, .string t_In82, .int .i64 n_Read83, .int .i64 n_Status84, .int .i64 n_Code85] →
 ∃ J22 : Bool → World → Prop, (∀ (b101 : Bool) (w100 : World), J22 b101 w100 →
 brB b101
 (K (.bool false) w100)
 (I1 (wr (n39 + (1 : Int))) w100 ∧ μ1 (wr (n39 + (1 : Int))) w100 < μ1 n39 w38)) ∧
 ∃ s90 : Sl, w89.cell? ⟨b87, 2, none⟩ = some (s90.val) ∧
 Calls Tryd.prog fn_hollowaybook_SameInts #[s90.val, s14.val] w89 fun e91 w92 => ∃ b93 : Bool, e91 = .returned (.bool b93) ∧
 brB (!b93)
 (J22 true w92)
 (∃ s94 : Sl, w92.cell? ⟨b87, 3, none⟩ = some (s94.val) ∧
 ∃ s95 : Sl, w92.cell? ⟨b54, 3, none⟩ = some (s95.val) ∧
 Calls Tryd.prog fn_hollowaybook_SameInts #[s94.val, s95.val] w92 fun e96 w97 => ∃ b98 : Bool, e96 = .returned (.bool b98) ∧
 brB (!b98)
 (J22 true w97)
 (∃ n99 : Int, w97.cell? ⟨b87, 0, none⟩ = some (.int .i64 n99) ∧
 J22 (n99 != (wr ((200 : Int) + (s41.len : Int)))) w97))))
 (K (.bool true) w38))
def hollowaylaw9_InnerStacks_an : An := ⟨[(5, [(45, .int .i64)]), (10, [(15, .int .i64), (16, .int .i64)])], [], [(14, [(16, .int .i64)]), (17, [(94, .bool)])]⟩
theorem hollowaylaw9_InnerStacks_lift {stack1 : Sl} {back2 : Sl} {a_3 : Int} {b_4 : Int} {c_5 : Int} {w : World} {K : Value → World → Prop} (h : hollowaylaw9_InnerStacks_sh stack1 back2 a_3 b_4 c_5 w K) : Calls Tryd.prog fn_hollowaylaw9_InnerStacks #[stack1.val, back2.val, .int .i64 a_3, .int .i64 b_4, .int .i64 c_5] w fun e w' => ∃ v, e = .returned v ∧ K v w' :=
   lift_calls (A := hollowaylaw9_InnerStacks_an) (c := bodyOf Tryd.f5) (args := [stack1.val, back2.val, .int .i64 a_3, .int .i64 b_4, .int .i64 c_5]) orc orc_wide Tryd.func5 (by kernel_rfl) (by kernel_rfl) (Eq.mp (by kernel_rfl : hollowaylaw9_InnerStacks_sh stack1 back2 a_3 b_4 c_5 w K = wpc orc Tryd.f5.ntmps hollowaylaw9_InnerStacks_an (bodyOf Tryd.f5) (argl 0 [stack1.val, back2.val, .int .i64 a_3, .int .i64 b_4, .int .i64 c_5]) w (retQ orc Tryd.f5.results.toList K)) h)

-- holloway/hollowaylaw9.InnerMemory
def hollowaylaw9_InnerMemory_sh (at_1 : Int) (v_2 : Int) (n_3 : Int) (w : World) (K : Value → World → Prop) : Prop :=
 ∃ J3 : Bool → World → Prop, (∀ (b11 : Bool) (w10 : World), J3 b11 w10 →
 brB b11
 (Calls Tryd.prog fn_hollowaylaw9_alive #[] w10 fun e12 w13 => ∃ b14 : Bool, e12 = .returned (.bool b14) ∧
 K (.bool b14) w13)
 (∀ (b15 : Nat) (w16 : World), b15 = w10.heap.size → w16 = World.alloc w10 (.cells #[.int .i64 (2 : Int), .int .i64 v_2, .int .i64 (2 : Int), .int .i64 at_1, .int .i64 (31 : Int), .int .i64 (2 : Int), .int .i64 n_3, .int .i64 (2 : Int), .int .i64 at_1, .int .i64 (32 : Int), .int .i64 (2 : Int), .int .i64 at_1, .int .i64 (30 : Int), .int .i64 (47 : Int)] T_int) →
 Calls Tryd.prog fn_hollowaylaw9_plain #[.slice (some ⟨b15, 0, none⟩) 14 14, .slice none 0 0, .slice none 0 0] w16 fun e17 w18 => ∃ n_Ip19 : Int, ∃ n_Handler20 : Int, ∃ s_Stack21 : Sl, ∃ s_Back22 : Sl, ∃ s_Mem23 : Sl, ∃ t_Out24 : ByteArray, ∃ t_In25 : ByteArray, ∃ n_Read26 : Int, ∃ n_Status27 : Int, ∃ n_Code28 : Int, e17 = .returned (.agg #[.int .i64 n_Ip19, .int .i64 n_Handler20, s_Stack21.val, s_Back22.val, s_Mem23.val, .string t_Out24, .string t_In25, .int .i64 n_Read26, .int .i64 n_Status27, .int .i64 n_Code28]) ∧
 ∀ (b29 : Nat) (w30 : World), b29 = w18.heap.size → w30 = World.alloc w18 (.cells #[.int .i64 (0 : Int), .int .i64 (0 : Int), .slice none 0 0, .slice none 0 0, .slice none 0 0, .string (bs []), .string (bs []), .int .i64 (0 : Int), .int .i64 (0 : Int), .int .i64 (0 : Int)] T_api_State) →
 wrOk w30 ⟨b29, 0, none⟩ 10 ∧ ∀ w31 : World, w31 = stW w30 ⟨b29, 0, none⟩ 0 [.int .i64 n_Ip19, .int .i64 n_Handler20, s_Stack21.val, s_Back22.val, s_Mem23.val, .string t_Out24, .string t_In25, .int .i64 n_Read26, .int .i64 n_Status27, .int .i64 n_Code28] →
 ∃ n_Ip32 : Int, ∃ n_Handler33 : Int, ∃ s_Stack34 : Sl, ∃ s_Back35 : Sl, ∃ s_Mem36 : Sl, ∃ t_Out37 : ByteArray, ∃ t_In38 : ByteArray, ∃ n_Read39 : Int, ∃ n_Status40 : Int, ∃ n_Code41 : Int, w31.cell? ⟨b29, 0, none⟩ = some (.int .i64 n_Ip32) ∧ w31.cell? ⟨b29, 1, none⟩ = some (.int .i64 n_Handler33) ∧ w31.cell? ⟨b29, 2, none⟩ = some (s_Stack34.val) ∧ w31.cell? ⟨b29, 3, none⟩ = some (s_Back35.val) ∧ w31.cell? ⟨b29, 4, none⟩ = some (s_Mem36.val) ∧ w31.cell? ⟨b29, 5, none⟩ = some (.string t_Out37) ∧ w31.cell? ⟨b29, 6, none⟩ = some (.string t_In38) ∧ w31.cell? ⟨b29, 7, none⟩ = some (.int .i64 n_Read39) ∧ w31.cell? ⟨b29, 8, none⟩ = some (.int .i64 n_Status40) ∧ w31.cell? ⟨b29, 9, none⟩ = some (.int .i64 n_Code41) ∧
 Calls Tryd.prog fn_inner_Run #[.agg #[.int .i64 n_Ip32, .int .i64 n_Handler33, s_Stack34.val, s_Back35.val, s_Mem36.val, .string t_Out37, .string t_In38, .int .i64 n_Read39, .int .i64 n_Status40, .int .i64 n_Code41], .int .i64 (8 : Int)] w31 fun e42 w43 => ∃ n_Ip44 : Int, ∃ n_Handler45 : Int, ∃ s_Stack46 : Sl, ∃ s_Back47 : Sl, ∃ s_Mem48 : Sl, ∃ t_Out49 : ByteArray, ∃ t_In50 : ByteArray, ∃ n_Read51 : Int, ∃ n_Status52 : Int, ∃ n_Code53 : Int, ∃ n54 : Int, e42 = .returned (.tuple #[.agg #[.int .i64 n_Ip44, .int .i64 n_Handler45, s_Stack46.val, s_Back47.val, s_Mem48.val, .string t_Out49, .string t_In50, .int .i64 n_Read51, .int .i64 n_Status52, .int .i64 n_Code53], .int .i64 n54]) ∧
 ∀ (b55 : Nat) (w56 : World), b55 = w43.heap.size → w56 = World.alloc w43 (.cells #[.int .i64 (0 : Int), .int .i64 (0 : Int), .slice none 0 0, .slice none 0 0, .slice none 0 0, .string (bs []), .string (bs []), .int .i64 (0 : Int), .int .i64 (0 : Int), .int .i64 (0 : Int)] T_api_State) →
 wrOk w56 ⟨b55, 0, none⟩ 10 ∧ ∀ w57 : World, w57 = stW w56 ⟨b55, 0, none⟩ 0 [.int .i64 n_Ip44, .int .i64 n_Handler45, s_Stack46.val, s_Back47.val, s_Mem48.val, .string t_Out49, .string t_In50, .int .i64 n_Read51, .int .i64 n_Status52, .int .i64 n_Code53] →
 ∃ J8 : Bool → World → Prop, (∀ (b65 : Bool) (w64 : World), J8 b65 w64 →
 brB b65
 (K (.bool false) w64)
 (∃ (I1 : Int → World → Prop) (μ1 : Int → World → Nat), I1 (0 : Int) w64 ∧ ∀ (k67 : Int) (w66 : World), I1 k67 w66 →
 ∃ s68 : Sl, w66.cell? ⟨b29, 4, none⟩ = some (s68.val) ∧
 brB (decide (k67 < (s68.len : Int)))
 (∃ J15 : Bool → World → Prop, (∀ (b83 : Bool) (w82 : World), J15 b83 w82 →
 brB b83
 (K (.bool false) w82)
 (I1 (wr (k67 + (1 : Int))) w82 ∧ μ1 (wr (k67 + (1 : Int))) w82 < μ1 k67 w66)) ∧
 ∀ w69 : World, w69 = World.drew w66 →
 brB (k67 != at_1)
 (∃ s70 : Sl, held (Lw w69) ⟨b55, 4, none⟩ (s70.val) ∧
 ∃ a71 : Addr, s70.ptr = some a71 ∧ 0 ≤ k67 ∧ k67 < (s70.len : Int) ∧
 ∃ n72 : Int, held (Lw w69) (Addr.add a71 (Int.toNat k67 * 1)) (.int .i64 n72) ∧
 ∃ s73 : Sl, held (Lw w69) ⟨b29, 4, none⟩ (s73.val) ∧
 ∃ a74 : Addr, s73.ptr = some a74 ∧ 0 ≤ k67 ∧ k67 < (s73.len : Int) ∧
 ∃ n75 : Int, held (Lw w69) (Addr.add a74 (Int.toNat k67 * 1)) (.int .i64 n75) ∧
 brB (n72 != n75)
 (J15 true w69)
 (brB (k67 == at_1)
 (∃ s76 : Sl, held (Lw w69) ⟨b55, 4, none⟩ (s76.val) ∧
 ∃ a77 : Addr, s76.ptr = some a77 ∧ 0 ≤ k67 ∧ k67 < (s76.len : Int) ∧
 ∃ n78 : Int, held (Lw w69) (Addr.add a77 (Int.toNat k67 * 1)) (.int .i64 n78) ∧
 J15 (n78 != (wr (v_2 + n_3))) w69)
 (J15 false w69)))
 (brB (k67 == at_1)
 (∃ s79 : Sl, held (Lw w69) ⟨b55, 4, none⟩ (s79.val) ∧
 ∃ a80 : Addr, s79.ptr = some a80 ∧ 0 ≤ k67 ∧ k67 < (s79.len : Int) ∧
 ∃ n81 : Int, held (Lw w69) (Addr.add a80 (Int.toNat k67 * 1)) (.int .i64 n81) ∧
 J15 (n81 != (wr (v_2 + n_3))) w69)
 (J15 false w69)))
 (∃ n84 : Int, w66.cell? ⟨b55, 0, none⟩ = some (.int .i64 n84) ∧
 brB (n84 == (213 : Int))
 (∃ n85 : Int, w66.cell? ⟨b55, 8, none⟩ = some (.int .i64 n85) ∧
 K (.bool (n85 == (0 : Int))) w66)
 (K (.bool false) w66)))) ∧
 ∃ s58 : Sl, w57.cell? ⟨b55, 2, none⟩ = some (s58.val) ∧
 brB ((s58.len : Int) != (1 : Int))
 (J8 true w57)
 (∃ s59 : Sl, w57.cell? ⟨b55, 2, none⟩ = some (s59.val) ∧
 ∃ a60 : Addr, s59.ptr = some a60 ∧ 0 ≤ (0 : Int) ∧ (0 : Int) < (s59.len : Int) ∧
 ∃ n61 : Int, w57.cell? (Addr.add a60 (Int.toNat (0 : Int) * 1)) = some (.int .i64 n61) ∧
 brB (n61 != (wr (v_2 + n_3)))
 (J8 true w57)
 (∃ s62 : Sl, w57.cell? ⟨b55, 4, none⟩ = some (s62.val) ∧
 ∃ s63 : Sl, w57.cell? ⟨b29, 4, none⟩ = some (s63.val) ∧
 J8 ((s62.len : Int) != (s63.len : Int)) w57)))) ∧
 brB (decide (at_1 < (0 : Int)))
 (J3 true w)
 (brB (decide (at_1 ≥ (400 : Int)))
 (J3 true w)
 (brB (decide (at_1 ≥ (200 : Int)))
 (brB (decide (at_1 < (220 : Int)))
 (J3 true w)
 (Calls Tryd.prog fn_hollowaylaw9_alive #[] w fun e4 w5 => ∃ b6 : Bool, e4 = .returned (.bool b6) ∧
 J3 (!b6) w5))
 (Calls Tryd.prog fn_hollowaylaw9_alive #[] w fun e7 w8 => ∃ b9 : Bool, e7 = .returned (.bool b9) ∧
 J3 (!b9) w8)))
def hollowaylaw9_InnerMemory_an : An := ⟨[(8, [(10, .int .i64)])], [(10, (32, .st 0 (.st 1 (.st 2 (.st 3 (.st 4 (.st 5 (.st 6 (.st 7 (.st 8 (.st 9 (.st 10 (.st 11 (.st 12 (.st 13 (.st 14 (.st 15 (.st 16 (.st 17 (.st 18 (.st 19 (.st 20 (.st 21 (.st 22 (.st 23 (.st 24 (.st 25 (.st 26 (.st 27 (.st 28 (.st 29 (.st 30 (.st 31 .done))))))))))))))))))))))))))))))), 0))], [(2, [(28, .bool)]), (6, [(64, .bool)]), (11, [(103, .bool)])]⟩
theorem hollowaylaw9_InnerMemory_lift {at_1 : Int} {v_2 : Int} {n_3 : Int} {w : World} {K : Value → World → Prop} (h : hollowaylaw9_InnerMemory_sh at_1 v_2 n_3 w K) : Calls Tryd.prog fn_hollowaylaw9_InnerMemory #[.int .i64 at_1, .int .i64 v_2, .int .i64 n_3] w fun e w' => ∃ v, e = .returned v ∧ K v w' :=
   lift_calls (A := hollowaylaw9_InnerMemory_an) (c := bodyOf Tryd.f6) (args := [.int .i64 at_1, .int .i64 v_2, .int .i64 n_3]) orc orc_wide Tryd.func6 (by kernel_rfl) (by kernel_rfl) (Eq.mp (by kernel_rfl : hollowaylaw9_InnerMemory_sh at_1 v_2 n_3 w K = wpc orc Tryd.f6.ntmps hollowaylaw9_InnerMemory_an (bodyOf Tryd.f6) (argl 0 [.int .i64 at_1, .int .i64 v_2, .int .i64 n_3]) w (retQ orc Tryd.f6.results.toList K)) h)

-- holloway/hollowaylaw9.InnerCatch
def hollowaylaw9_InnerCatch_sh (stack1 : Sl) (v_2 : Int) (more3 : Sl) (w : World) (K : Value → World → Prop) : Prop :=
 ∃ J3 : Bool → World → Prop, (∀ (b8 : Bool) (w7 : World), J3 b8 w7 →
 brB b8
 (Calls Tryd.prog fn_hollowaylaw9_alive #[] w7 fun e9 w10 => ∃ b11 : Bool, e9 = .returned (.bool b11) ∧
 K (.bool b11) w10)
 (0 ≤ (imin (stack1.len : Int) (10 : Int)) ∧ (imin (stack1.len : Int) (10 : Int)) ≤ (stack1.cap : Int) ∧ ∀ s12 : Sl, s12 = Sl.sub stack1.ptr stack1.cap 0 (Int.toNat (imin (stack1.len : Int) (10 : Int))) 1 →
 ∀ (b13 : Nat) (w14 : World), b13 = w7.heap.size → w14 = World.alloc w7 (.cells #[.int .i64 (2 : Int), .int .i64 (220 : Int), .int .i64 (46 : Int), .int .i64 (3 : Int), .int .i64 (205 : Int)] T_int) →
 Calls Tryd.prog fn_hollowaylaw9_plain #[.slice (some ⟨b13, 0, none⟩) 5 5, s12.val, .slice none 0 0] w14 fun e15 w16 => ∃ n_Ip17 : Int, ∃ n_Handler18 : Int, ∃ s_Stack19 : Sl, ∃ s_Back20 : Sl, ∃ s_Mem21 : Sl, ∃ t_Out22 : ByteArray, ∃ t_In23 : ByteArray, ∃ n_Read24 : Int, ∃ n_Status25 : Int, ∃ n_Code26 : Int, e15 = .returned (.agg #[.int .i64 n_Ip17, .int .i64 n_Handler18, s_Stack19.val, s_Back20.val, s_Mem21.val, .string t_Out22, .string t_In23, .int .i64 n_Read24, .int .i64 n_Status25, .int .i64 n_Code26]) ∧
 ∀ (b27 : Nat) (w28 : World), b27 = w16.heap.size → w28 = World.alloc w16 (.cells #[.int .i64 (0 : Int), .int .i64 (0 : Int), .slice none 0 0, .slice none 0 0, .slice none 0 0, .string (bs []), .string (bs []), .int .i64 (0 : Int), .int .i64 (0 : Int), .int .i64 (0 : Int)] T_api_State) →
 wrOk w28 ⟨b27, 0, none⟩ 10 ∧ ∀ w29 : World, w29 = stW w28 ⟨b27, 0, none⟩ 0 [.int .i64 n_Ip17, .int .i64 n_Handler18, s_Stack19.val, s_Back20.val, s_Mem21.val, .string t_Out22, .string t_In23, .int .i64 n_Read24, .int .i64 n_Status25, .int .i64 n_Code26] →
 ∃ (I1 : Int → Int → World → Prop) (μ1 : Int → Int → World → Nat), I1 (220 : Int) (0 : Int) w29 ∧ ∀ (at37 : Int) (n31 : Int) (w30 : World), I1 at37 n31 w30 →
 brB (decide (n31 < (more3.len : Int)))
 (∃ a32 : Addr, more3.ptr = some a32 ∧ 0 ≤ n31 ∧ n31 < (more3.len : Int) ∧
 ∃ n33 : Int, w30.cell? (Addr.add a32 (Int.toNat n31 * 1)) = some (.int .i64 n33) ∧
 ∀ w34 : World, w34 = World.drew w30 →
 ∃ S35 : World → Prop, S35 w34 ∧
 ∃ s36 : Sl, held S35 ⟨b27, 4, none⟩ (s36.val) ∧
 ∃ s38 : Sl, held S35 ⟨b27, 4, none⟩ (s38.val) ∧
 ∃ a39 : Addr, s36.ptr = some a39 ∧ 0 ≤ at37 ∧ at37 < (s36.len : Int) ∧
 wrOk w34 (Addr.add a39 (Int.toNat at37 * 1)) 1 ∧ ∀ w40 : World, w40 = stW w34 (Addr.add a39 (Int.toNat at37 * 1)) 0 [.int .i64 (2 : Int)] →
 S35 w40 ∧
 ∃ a41 : Addr, s38.ptr = some a41 ∧ 0 ≤ (wr (at37 + (1 : Int))) ∧ (wr (at37 + (1 : Int))) < (s38.len : Int) ∧
 wrOk w40 (Addr.add a41 (Int.toNat (wr (at37 + (1 : Int))) * 1)) 1 ∧ ∀ w42 : World, w42 = stW w40 (Addr.add a41 (Int.toNat (wr (at37 + (1 : Int))) * 1)) 0 [.int .i64 n33] →
 I1 (wr (at37 + (2 : Int))) (wr (n31 + (1 : Int))) w42 ∧ μ1 (wr (at37 + (2 : Int))) (wr (n31 + (1 : Int))) w42 < μ1 at37 n31 w30)
 (∀ w43 : World, w43 = World.drew w30 →
 ∃ S44 : World → Prop, S44 w43 ∧
 ∃ s45 : Sl, held S44 ⟨b27, 4, none⟩ (s45.val) ∧
 ∃ s46 : Sl, held S44 ⟨b27, 4, none⟩ (s46.val) ∧
 ∃ s47 : Sl, held S44 ⟨b27, 4, none⟩ (s47.val) ∧
 ∃ s48 : Sl, held S44 ⟨b27, 4, none⟩ (s48.val) ∧
 ∃ a49 : Addr, s45.ptr = some a49 ∧ 0 ≤ at37 ∧ at37 < (s45.len : Int) ∧
 wrOk w43 (Addr.add a49 (Int.toNat at37 * 1)) 1 ∧ ∀ w50 : World, w50 = stW w43 (Addr.add a49 (Int.toNat at37 * 1)) 0 [.int .i64 (2 : Int)] →
 S44 w50 ∧
 ∃ a51 : Addr, s46.ptr = some a51 ∧ 0 ≤ (wr (at37 + (1 : Int))) ∧ (wr (at37 + (1 : Int))) < (s46.len : Int) ∧
 wrOk w50 (Addr.add a51 (Int.toNat (wr (at37 + (1 : Int))) * 1)) 1 ∧ ∀ w52 : World, w52 = stW w50 (Addr.add a51 (Int.toNat (wr (at37 + (1 : Int))) * 1)) 0 [.int .i64 v_2] →
 S44 w52 ∧
 ∃ a53 : Addr, s47.ptr = some a53 ∧ 0 ≤ (wr (at37 + (2 : Int))) ∧ (wr (at37 + (2 : Int))) < (s47.len : Int) ∧
 wrOk w52 (Addr.add a53 (Int.toNat (wr (at37 + (2 : Int))) * 1)) 1 ∧ ∀ w54 : World, w54 = stW w52 (Addr.add a53 (Int.toNat (wr (at37 + (2 : Int))) * 1)) 0 [.int .i64 (45 : Int)] →
 S44 w54 ∧
 ∃ a55 : Addr, s48.ptr = some a55 ∧ 0 ≤ (wr (at37 + (3 : Int))) ∧ (wr (at37 + (3 : Int))) < (s48.len : Int) ∧
 wrOk w54 (Addr.add a55 (Int.toNat (wr (at37 + (3 : Int))) * 1)) 1 ∧ ∀ w56 : World, w56 = stW w54 (Addr.add a55 (Int.toNat (wr (at37 + (3 : Int))) * 1)) 0 [.int .i64 (5 : Int)] →
 ∃ n_Ip57 : Int, ∃ n_Handler58 : Int, ∃ s_Stack59 : Sl, ∃ s_Back60 : Sl, ∃ s_Mem61 : Sl, ∃ t_Out62 : ByteArray, ∃ t_In63 : ByteArray, ∃ n_Read64 : Int, ∃ n_Status65 : Int, ∃ n_Code66 : Int, w56.cell? ⟨b27, 0, none⟩ = some (.int .i64 n_Ip57) ∧ w56.cell? ⟨b27, 1, none⟩ = some (.int .i64 n_Handler58) ∧ w56.cell? ⟨b27, 2, none⟩ = some (s_Stack59.val) ∧ w56.cell? ⟨b27, 3, none⟩ = some (s_Back60.val) ∧ w56.cell? ⟨b27, 4, none⟩ = some (s_Mem61.val) ∧ w56.cell? ⟨b27, 5, none⟩ = some (.string t_Out62) ∧ w56.cell? ⟨b27, 6, none⟩ = some (.string t_In63) ∧ w56.cell? ⟨b27, 7, none⟩ = some (.int .i64 n_Read64) ∧ w56.cell? ⟨b27, 8, none⟩ = some (.int .i64 n_Status65) ∧ w56.cell? ⟨b27, 9, none⟩ = some (.int .i64 n_Code66) ∧
 Calls Tryd.prog fn_inner_Run #[.agg #[.int .i64 n_Ip57, .int .i64 n_Handler58, s_Stack59.val, s_Back60.val, s_Mem61.val, .string t_Out62, .string t_In63, .int .i64 n_Read64, .int .i64 n_Status65, .int .i64 n_Code66], .int .i64 (100 : Int)] w56 fun e67 w68 => ∃ n_Ip69 : Int, ∃ n_Handler70 : Int, ∃ s_Stack71 : Sl, ∃ s_Back72 : Sl, ∃ s_Mem73 : Sl, ∃ t_Out74 : ByteArray, ∃ t_In75 : ByteArray, ∃ n_Read76 : Int, ∃ n_Status77 : Int, ∃ n_Code78 : Int, ∃ n79 : Int, e67 = .returned (.tuple #[.agg #[.int .i64 n_Ip69, .int .i64 n_Handler70, s_Stack71.val, s_Back72.val, s_Mem73.val, .string t_Out74, .string t_In75, .int .i64 n_Read76, .int .i64 n_Status77, .int .i64 n_Code78], .int .i64 n79]) ∧
 ∀ (b80 : Nat) (w81 : World), b80 = w68.heap.size → w81 = World.alloc w68 (.cells #[.int .i64 (0 : Int), .int .i64 (0 : Int), .slice none 0 0, .slice none 0 0, .slice none 0 0, .string (bs []), .string (bs []), .int .i64 (0 : Int), .int .i64 (0 : Int), .int .i64 (0 : Int)] T_api_State) →
 wrOk w81 ⟨b80, 0, none⟩ 10 ∧ ∀ w82 : World, w82 = stW w81 ⟨b80, 0, none⟩ 0 [.int .i64 n_Ip69, .int .i64 n_Handler70, s_Stack71.val, s_Back72.val, s_Mem73.val, .string t_Out74, .string t_In75, .int .i64 n_Read76, .int .i64 n_Status77, .int .i64 n_Code78] →
 ∃ n83 : Int, w82.cell? ⟨b80, 8, none⟩ = some (.int .i64 n83) ∧
 brB (n83 == (0 : Int))
 (K (.bool false) w82)
 (∃ n_Ip84 : Int, ∃ n_Handler85 : Int, ∃ s_Stack86 : Sl, ∃ s_Back87 : Sl, ∃ s_Mem88 : Sl, ∃ t_Out89 : ByteArray, ∃ t_In90 : ByteArray, ∃ n_Read91 : Int, ∃ n_Status92 : Int, ∃ n_Code93 : Int, w82.cell? ⟨b27, 0, none⟩ = some (.int .i64 n_Ip84) ∧ w82.cell? ⟨b27, 1, none⟩ = some (.int .i64 n_Handler85) ∧ w82.cell? ⟨b27, 2, none⟩ = some (s_Stack86.val) ∧ w82.cell? ⟨b27, 3, none⟩ = some (s_Back87.val) ∧ w82.cell? ⟨b27, 4, none⟩ = some (s_Mem88.val) ∧ w82.cell? ⟨b27, 5, none⟩ = some (.string t_Out89) ∧ w82.cell? ⟨b27, 6, none⟩ = some (.string t_In90) ∧ w82.cell? ⟨b27, 7, none⟩ = some (.int .i64 n_Read91) ∧ w82.cell? ⟨b27, 8, none⟩ = some (.int .i64 n_Status92) ∧ w82.cell? ⟨b27, 9, none⟩ = some (.int .i64 n_Code93) ∧
 Calls Tryd.prog fn_inner_Run #[.agg #[.int .i64 n_Ip84, .int .i64 n_Handler85, s_Stack86.val, s_Back87.val, s_Mem88.val, .string t_Out89, .string t_In90, .int .i64 n_Read91, .int .i64 n_Status92, .int .i64 n_Code93], .int .i64 (wr ((4 : Int) + (more3.len : Int)))] w82 fun e94 w95 => ∃ n_Ip96 : Int, ∃ n_Handler97 : Int, ∃ s_Stack98 : Sl, ∃ s_Back99 : Sl, ∃ s_Mem100 : Sl, ∃ t_Out101 : ByteArray, ∃ t_In102 : ByteArray, ∃ n_Read103 : Int, ∃ n_Status104 : Int, ∃ n_Code105 : Int, ∃ n106 : Int, e94 = .returned (.tuple #[.agg #[.int .i64 n_Ip96, .int .i64 n_Handler97, s_Stack98.val, s_Back99.val, s_Mem100.val, .string t_Out101, .string t_In102, .int .i64 n_Read103, .int .i64 n_Status104, .int .i64 n_Code105], .int .i64 n106]) ∧
 ∀ (b107 : Nat) (w108 : World), b107 = w95.heap.size → w108 = World.alloc w95 (.cells #[.int .i64 (0 : Int), .int .i64 (0 : Int), .slice none 0 0, .slice none 0 0, .slice none 0 0, .string (bs []), .string (bs []), .int .i64 (0 : Int), .int .i64 (0 : Int), .int .i64 (0 : Int)] T_api_State) →
 wrOk w108 ⟨b107, 0, none⟩ 10 ∧ ∀ w109 : World, w109 = stW w108 ⟨b107, 0, none⟩ 0 [.int .i64 n_Ip96, .int .i64 n_Handler97, s_Stack98.val, s_Back99.val, s_Mem100.val, .string t_Out101, .string t_In102, .int .i64 n_Read103, .int .i64 n_Status104, .int .i64 n_Code105] →
 brB (v_2 == (0 : Int))
 (∃ n_Ip110 : Int, ∃ n_Handler111 : Int, ∃ s_Stack112 : Sl, ∃ s_Back113 : Sl, ∃ s_Mem114 : Sl, ∃ t_Out115 : ByteArray, ∃ t_In116 : ByteArray, ∃ n_Read117 : Int, ∃ n_Status118 : Int, ∃ n_Code119 : Int, w109.cell? ⟨b27, 0, none⟩ = some (.int .i64 n_Ip110) ∧ w109.cell? ⟨b27, 1, none⟩ = some (.int .i64 n_Handler111) ∧ w109.cell? ⟨b27, 2, none⟩ = some (s_Stack112.val) ∧ w109.cell? ⟨b27, 3, none⟩ = some (s_Back113.val) ∧ w109.cell? ⟨b27, 4, none⟩ = some (s_Mem114.val) ∧ w109.cell? ⟨b27, 5, none⟩ = some (.string t_Out115) ∧ w109.cell? ⟨b27, 6, none⟩ = some (.string t_In116) ∧ w109.cell? ⟨b27, 7, none⟩ = some (.int .i64 n_Read117) ∧ w109.cell? ⟨b27, 8, none⟩ = some (.int .i64 n_Status118) ∧ w109.cell? ⟨b27, 9, none⟩ = some (.int .i64 n_Code119) ∧
 Calls Tryd.prog fn_inner_Run #[.agg #[.int .i64 n_Ip110, .int .i64 n_Handler111, s_Stack112.val, s_Back113.val, s_Mem114.val, .string t_Out115, .string t_In116, .int .i64 n_Read117, .int .i64 n_Status118, .int .i64 n_Code119], .int .i64 (wr ((wr ((4 : Int) + (more3.len : Int))) + (2 : Int)))] w109 fun e120 w121 => ∃ n_Ip122 : Int, ∃ n_Handler123 : Int, ∃ s_Stack124 : Sl, ∃ s_Back125 : Sl, ∃ s_Mem126 : Sl, ∃ t_Out127 : ByteArray, ∃ t_In128 : ByteArray, ∃ n_Read129 : Int, ∃ n_Status130 : Int, ∃ n_Code131 : Int, ∃ n132 : Int, e120 = .returned (.tuple #[.agg #[.int .i64 n_Ip122, .int .i64 n_Handler123, s_Stack124.val, s_Back125.val, s_Mem126.val, .string t_Out127, .string t_In128, .int .i64 n_Read129, .int .i64 n_Status130, .int .i64 n_Code131], .int .i64 n132]) ∧
 ∀ (b133 : Nat) (w134 : World), b133 = w121.heap.size → w134 = World.alloc w121 (.cells #[.int .i64 (0 : Int), .int .i64 (0 : Int), .slice none 0 0, .slice none 0 0, .slice none 0 0, .string (bs []), .string (bs []), .int .i64 (0 : Int), .int .i64 (0 : Int), .int .i64 (0 : Int)] T_api_State) →
 wrOk w134 ⟨b133, 0, none⟩ 10 ∧ ∀ w135 : World, w135 = stW w134 ⟨b133, 0, none⟩ 0 [.int .i64 n_Ip122, .int .i64 n_Handler123, s_Stack124.val, s_Back125.val, s_Mem126.val, .string t_Out127, .string t_In128, .int .i64 n_Read129, .int .i64 n_Status130, .int .i64 n_Code131] →
 ∃ s136 : Sl, w135.cell? ⟨b133, 2, none⟩ = some (s136.val) ∧
 brB ((s136.len : Int) == (wr ((wr ((s12.len : Int) + (more3.len : Int))) + (1 : Int))))
 (∃ s137 : Sl, w135.cell? ⟨b133, 2, none⟩ = some (s137.val) ∧
 ∃ s138 : Sl, w135.cell? ⟨b133, 2, none⟩ = some (s138.val) ∧
 ∃ a139 : Addr, s137.ptr = some a139 ∧ 0 ≤ (wr ((s138.len : Int) - (1 : Int))) ∧ (wr ((s138.len : Int) - (1 : Int))) < (s137.len : Int) ∧
 ∃ n140 : Int, w135.cell? (Addr.add a139 (Int.toNat (wr ((s138.len : Int) - (1 : Int))) * 1)) = some (.int .i64 n140) ∧
 brB (n140 == (0 : Int))
 (∃ s141 : Sl, w135.cell? ⟨b133, 3, none⟩ = some (s141.val) ∧
 brB ((s141.len : Int) == (0 : Int))
 (∃ n142 : Int, w135.cell? ⟨b133, 1, none⟩ = some (.int .i64 n142) ∧
 brB (n142 == (0 : Int))
 (∃ n143 : Int, w135.cell? ⟨b133, 0, none⟩ = some (.int .i64 n143) ∧
 K (.bool (n143 == (203 : Int))) w135)
 (K (.bool false) w135))
 (K (.bool false) w135))
 (K (.bool false) w135))
 (K (.bool false) w135))
 (∃ s146 : Sl, w109.cell? ⟨b107, 2, none⟩ = some (s146.val) ∧
 brB ((s146.len : Int) == (wr ((s12.len : Int) + (1 : Int))))
 (∃ s147 : Sl, w109.cell? ⟨b107, 2, none⟩ = some (s147.val) ∧
 ∃ a148 : Addr, s147.ptr = some a148 ∧ 0 ≤ (s12.len : Int) ∧ (s12.len : Int) < (s147.len : Int) ∧
 ∃ n149 : Int, w109.cell? (Addr.add a148 (Int.toNat (s12.len : Int) * 1)) = some (.int .i64 n149) ∧
 brB (n149 == v_2)
 (∃ s150 : Sl, w109.cell? ⟨b107, 2, none⟩ = some (s150.val) ∧
 0 ≤ (s12.len : Int) ∧ (s12.len : Int) ≤ (s150.cap : Int) ∧ ∀ s151 : Sl, s151 = Sl.sub s150.ptr s150.cap 0 (Int.toNat (s12.len : Int)) 1 →
 Calls Tryd.prog fn_hollowaybook_SameInts #[s151.val, s12.val] w109 fun e152 w153 => ∃ b154 : Bool, e152 = .returned (.bool b154) ∧
 brB b154
 (∃ s155 : Sl, w153.cell? ⟨b107, 3, none⟩ = some (s155.val) ∧
 brB ((s155.len : Int) == (0 : Int))
 (∃ n156 : Int, w153.cell? ⟨b107, 1, none⟩ = some (.int .i64 n156) ∧
 brB (n156 == (0 : Int))
 (∃ n157 : Int, w153.cell? ⟨b107, 0, none⟩ = some (.int .i64 n157) ∧
 K (.bool (n157 == (203 : Int))) w153)
 (K (.bool false) w153))
 (K (.bool false) w153))
 (K (.bool false) w153))
 (K (.bool false) w109))
 (K (.bool false) w109)))))) ∧
 brB (decide ((more3.len : Int) > (20 : Int)))
 (J3 true w)
 (Calls Tryd.prog fn_hollowaylaw9_alive #[] w fun e4 w5 => ∃ b6 : Bool, e4 = .returned (.bool b6) ∧
 J3 (!b6) w5)
def hollowaylaw9_InnerCatch_an : An := ⟨[(8, [(10, .int .i64), (38, .int .i64)])], [(10, (10, .st 0 (.st 1 (.st 2 (.st 3 (.st 4 (.st 5 (.st 6 (.st 7 (.st 8 (.ef 9 .done))))))))), 1)), (13, (22, .st 0 (.st 1 (.st 2 (.st 3 (.st 4 (.st 5 (.st 6 (.st 7 (.st 8 (.st 9 (.st 10 (.st 11 (.st 12 (.st 13 (.st 14 (.st 15 (.st 16 (.ef 17 (.st 18 (.ef 19 (.st 20 (.ef 21 .done))))))))))))))))))))), 1))], [(2, [(25, .bool)])]⟩
theorem hollowaylaw9_InnerCatch_lift {stack1 : Sl} {v_2 : Int} {more3 : Sl} {w : World} {K : Value → World → Prop} (h : hollowaylaw9_InnerCatch_sh stack1 v_2 more3 w K) : Calls Tryd.prog fn_hollowaylaw9_InnerCatch #[stack1.val, .int .i64 v_2, more3.val] w fun e w' => ∃ v, e = .returned v ∧ K v w' :=
   lift_calls (A := hollowaylaw9_InnerCatch_an) (c := bodyOf Tryd.f7) (args := [stack1.val, .int .i64 v_2, more3.val]) orc orc_wide Tryd.func7 (by kernel_rfl) (by kernel_rfl) (Eq.mp (by kernel_rfl : hollowaylaw9_InnerCatch_sh stack1 v_2 more3 w K = wpc orc Tryd.f7.ntmps hollowaylaw9_InnerCatch_an (bodyOf Tryd.f7) (argl 0 [stack1.val, .int .i64 v_2, more3.val]) w (retQ orc Tryd.f7.results.toList K)) h)

-- holloway/hollowaylaw9.InnerLoops
def hollowaylaw9_InnerLoops_sh (limit1 : Int) (start2 : Int) (step3 : Int) (w : World) (K : Value → World → Prop) : Prop :=
 ∃ J3 : Bool → World → Prop, (∀ (b8 : Bool) (w7 : World), J3 b8 w7 →
 brB b8
 (Calls Tryd.prog fn_hollowaylaw9_alive #[] w7 fun e9 w10 => ∃ b11 : Bool, e9 = .returned (.bool b11) ∧
 K (.bool b11) w10)
 (∀ (b12 : Nat) (w13 : World), b12 = w7.heap.size → w13 = World.alloc w7 (.cells #[.int .i64 (2 : Int), .int .i64 (0 : Int), .int .i64 (2 : Int), .int .i64 limit1, .int .i64 (2 : Int), .int .i64 start2, .int .i64 (36 : Int), .int .i64 (2 : Int), .int .i64 (1 : Int), .int .i64 (11 : Int), .int .i64 (2 : Int), .int .i64 step3, .int .i64 (38 : Int), .int .i64 (207 : Int), .int .i64 (0 : Int)] T_int) →
 Calls Tryd.prog fn_hollowaylaw9_plain #[.slice (some ⟨b12, 0, none⟩) 15 15, .slice none 0 0, .slice none 0 0] w13 fun e14 w15 => ∃ n_Ip16 : Int, ∃ n_Handler17 : Int, ∃ s_Stack18 : Sl, ∃ s_Back19 : Sl, ∃ s_Mem20 : Sl, ∃ t_Out21 : ByteArray, ∃ t_In22 : ByteArray, ∃ n_Read23 : Int, ∃ n_Status24 : Int, ∃ n_Code25 : Int, e14 = .returned (.agg #[.int .i64 n_Ip16, .int .i64 n_Handler17, s_Stack18.val, s_Back19.val, s_Mem20.val, .string t_Out21, .string t_In22, .int .i64 n_Read23, .int .i64 n_Status24, .int .i64 n_Code25]) ∧
 ∀ (b26 : Nat) (w27 : World), b26 = w15.heap.size → w27 = World.alloc w15 (.cells #[.int .i64 (0 : Int), .int .i64 (0 : Int), .slice none 0 0, .slice none 0 0, .slice none 0 0, .string (bs []), .string (bs []), .int .i64 (0 : Int), .int .i64 (0 : Int), .int .i64 (0 : Int)] T_api_State) →
 wrOk w27 ⟨b26, 0, none⟩ 10 ∧ ∀ w28 : World, w28 = stW w27 ⟨b26, 0, none⟩ 0 [.int .i64 n_Ip16, .int .i64 n_Handler17, s_Stack18.val, s_Back19.val, s_Mem20.val, .string t_Out21, .string t_In22, .int .i64 n_Read23, .int .i64 n_Status24, .int .i64 n_Code25] →
 ∃ n_Ip29 : Int, ∃ n_Handler30 : Int, ∃ s_Stack31 : Sl, ∃ s_Back32 : Sl, ∃ s_Mem33 : Sl, ∃ t_Out34 : ByteArray, ∃ t_In35 : ByteArray, ∃ n_Read36 : Int, ∃ n_Status37 : Int, ∃ n_Code38 : Int, w28.cell? ⟨b26, 0, none⟩ = some (.int .i64 n_Ip29) ∧ w28.cell? ⟨b26, 1, none⟩ = some (.int .i64 n_Handler30) ∧ w28.cell? ⟨b26, 2, none⟩ = some (s_Stack31.val) ∧ w28.cell? ⟨b26, 3, none⟩ = some (s_Back32.val) ∧ w28.cell? ⟨b26, 4, none⟩ = some (s_Mem33.val) ∧ w28.cell? ⟨b26, 5, none⟩ = some (.string t_Out34) ∧ w28.cell? ⟨b26, 6, none⟩ = some (.string t_In35) ∧ w28.cell? ⟨b26, 7, none⟩ = some (.int .i64 n_Read36) ∧ w28.cell? ⟨b26, 8, none⟩ = some (.int .i64 n_Status37) ∧ w28.cell? ⟨b26, 9, none⟩ = some (.int .i64 n_Code38) ∧
 Calls Tryd.prog fn_inner_Run #[.agg #[.int .i64 n_Ip29, .int .i64 n_Handler30, s_Stack31.val, s_Back32.val, s_Mem33.val, .string t_Out34, .string t_In35, .int .i64 n_Read36, .int .i64 n_Status37, .int .i64 n_Code38], .int .i64 (2000 : Int)] w28 fun e39 w40 => ∃ n_Ip41 : Int, ∃ n_Handler42 : Int, ∃ s_Stack43 : Sl, ∃ s_Back44 : Sl, ∃ s_Mem45 : Sl, ∃ t_Out46 : ByteArray, ∃ t_In47 : ByteArray, ∃ n_Read48 : Int, ∃ n_Status49 : Int, ∃ n_Code50 : Int, ∃ n51 : Int, e39 = .returned (.tuple #[.agg #[.int .i64 n_Ip41, .int .i64 n_Handler42, s_Stack43.val, s_Back44.val, s_Mem45.val, .string t_Out46, .string t_In47, .int .i64 n_Read48, .int .i64 n_Status49, .int .i64 n_Code50], .int .i64 n51]) ∧
 ∀ (b52 : Nat) (w53 : World), b52 = w40.heap.size → w53 = World.alloc w40 (.cells #[.int .i64 (0 : Int), .int .i64 (0 : Int), .slice none 0 0, .slice none 0 0, .slice none 0 0, .string (bs []), .string (bs []), .int .i64 (0 : Int), .int .i64 (0 : Int), .int .i64 (0 : Int)] T_api_State) →
 wrOk w53 ⟨b52, 0, none⟩ 10 ∧ ∀ w54 : World, w54 = stW w53 ⟨b52, 0, none⟩ 0 [.int .i64 n_Ip41, .int .i64 n_Handler42, s_Stack43.val, s_Back44.val, s_Mem45.val, .string t_Out46, .string t_In47, .int .i64 n_Read48, .int .i64 n_Status49, .int .i64 n_Code50] →
 ∀ (b55 : Nat) (w56 : World), b55 = w54.heap.size → w56 = World.alloc w54 (.cells #[.int .i64 (2 : Int), .int .i64 (0 : Int), .int .i64 (2 : Int), .int .i64 limit1, .int .i64 (2 : Int), .int .i64 start2, .int .i64 (36 : Int), .int .i64 (2 : Int), .int .i64 (1 : Int), .int .i64 (11 : Int), .int .i64 (37 : Int), .int .i64 (207 : Int), .int .i64 (0 : Int)] T_int) →
 Calls Tryd.prog fn_hollowaylaw9_plain #[.slice (some ⟨b55, 0, none⟩) 13 13, .slice none 0 0, .slice none 0 0] w56 fun e57 w58 => ∃ n_Ip59 : Int, ∃ n_Handler60 : Int, ∃ s_Stack61 : Sl, ∃ s_Back62 : Sl, ∃ s_Mem63 : Sl, ∃ t_Out64 : ByteArray, ∃ t_In65 : ByteArray, ∃ n_Read66 : Int, ∃ n_Status67 : Int, ∃ n_Code68 : Int, e57 = .returned (.agg #[.int .i64 n_Ip59, .int .i64 n_Handler60, s_Stack61.val, s_Back62.val, s_Mem63.val, .string t_Out64, .string t_In65, .int .i64 n_Read66, .int .i64 n_Status67, .int .i64 n_Code68]) ∧
 ∀ (b69 : Nat) (w70 : World), b69 = w58.heap.size → w70 = World.alloc w58 (.cells #[.int .i64 (0 : Int), .int .i64 (0 : Int), .slice none 0 0, .slice none 0 0, .slice none 0 0, .string (bs []), .string (bs []), .int .i64 (0 : Int), .int .i64 (0 : Int), .int .i64 (0 : Int)] T_api_State) →
 wrOk w70 ⟨b69, 0, none⟩ 10 ∧ ∀ w71 : World, w71 = stW w70 ⟨b69, 0, none⟩ 0 [.int .i64 n_Ip59, .int .i64 n_Handler60, s_Stack61.val, s_Back62.val, s_Mem63.val, .string t_Out64, .string t_In65, .int .i64 n_Read66, .int .i64 n_Status67, .int .i64 n_Code68] →
 ∃ n_Ip72 : Int, ∃ n_Handler73 : Int, ∃ s_Stack74 : Sl, ∃ s_Back75 : Sl, ∃ s_Mem76 : Sl, ∃ t_Out77 : ByteArray, ∃ t_In78 : ByteArray, ∃ n_Read79 : Int, ∃ n_Status80 : Int, ∃ n_Code81 : Int, w71.cell? ⟨b69, 0, none⟩ = some (.int .i64 n_Ip72) ∧ w71.cell? ⟨b69, 1, none⟩ = some (.int .i64 n_Handler73) ∧ w71.cell? ⟨b69, 2, none⟩ = some (s_Stack74.val) ∧ w71.cell? ⟨b69, 3, none⟩ = some (s_Back75.val) ∧ w71.cell? ⟨b69, 4, none⟩ = some (s_Mem76.val) ∧ w71.cell? ⟨b69, 5, none⟩ = some (.string t_Out77) ∧ w71.cell? ⟨b69, 6, none⟩ = some (.string t_In78) ∧ w71.cell? ⟨b69, 7, none⟩ = some (.int .i64 n_Read79) ∧ w71.cell? ⟨b69, 8, none⟩ = some (.int .i64 n_Status80) ∧ w71.cell? ⟨b69, 9, none⟩ = some (.int .i64 n_Code81) ∧
 Calls Tryd.prog fn_inner_Run #[.agg #[.int .i64 n_Ip72, .int .i64 n_Handler73, s_Stack74.val, s_Back75.val, s_Mem76.val, .string t_Out77, .string t_In78, .int .i64 n_Read79, .int .i64 n_Status80, .int .i64 n_Code81], .int .i64 (2000 : Int)] w71 fun e82 w83 => ∃ n_Ip84 : Int, ∃ n_Handler85 : Int, ∃ s_Stack86 : Sl, ∃ s_Back87 : Sl, ∃ s_Mem88 : Sl, ∃ t_Out89 : ByteArray, ∃ t_In90 : ByteArray, ∃ n_Read91 : Int, ∃ n_Status92 : Int, ∃ n_Code93 : Int, ∃ n94 : Int, e82 = .returned (.tuple #[.agg #[.int .i64 n_Ip84, .int .i64 n_Handler85, s_Stack86.val, s_Back87.val, s_Mem88.val, .string t_Out89, .string t_In90, .int .i64 n_Read91, .int .i64 n_Status92, .int .i64 n_Code93], .int .i64 n94]) ∧
 ∀ (b95 : Nat) (w96 : World), b95 = w83.heap.size → w96 = World.alloc w83 (.cells #[.int .i64 (0 : Int), .int .i64 (0 : Int), .slice none 0 0, .slice none 0 0, .slice none 0 0, .string (bs []), .string (bs []), .int .i64 (0 : Int), .int .i64 (0 : Int), .int .i64 (0 : Int)] T_api_State) →
 wrOk w96 ⟨b95, 0, none⟩ 10 ∧ ∀ w97 : World, w97 = stW w96 ⟨b95, 0, none⟩ 0 [.int .i64 n_Ip84, .int .i64 n_Handler85, s_Stack86.val, s_Back87.val, s_Mem88.val, .string t_Out89, .string t_In90, .int .i64 n_Read91, .int .i64 n_Status92, .int .i64 n_Code93] →
 ∀ w98 : World, w98 = World.drew w97 →
 ∃ n99 : Int, held (Lw w98) ⟨b52, 8, none⟩ (.int .i64 n99) ∧
 brB (n99 == (1 : Int))
 (∃ s100 : Sl, held (Lw w98) ⟨b52, 2, none⟩ (s100.val) ∧
 brB ((s100.len : Int) == (1 : Int))
 (∃ s101 : Sl, held (Lw w98) ⟨b52, 2, none⟩ (s101.val) ∧
 ∃ a102 : Addr, s101.ptr = some a102 ∧ 0 ≤ (0 : Int) ∧ (0 : Int) < (s101.len : Int) ∧
 ∃ n103 : Int, held (Lw w98) (Addr.add a102 (Int.toNat (0 : Int) * 1)) (.int .i64 n103) ∧
 step3 ≠ 0 ∧ brB (n103 == (wr (Int.tdiv (wr ((wr ((wr (limit1 - start2)) + step3)) - (1 : Int))) step3)))
 (∃ n104 : Int, held (Lw w98) ⟨b95, 8, none⟩ (.int .i64 n104) ∧
 brB (n104 == (1 : Int))
 (∃ s105 : Sl, held (Lw w98) ⟨b95, 2, none⟩ (s105.val) ∧
 brB ((s105.len : Int) == (1 : Int))
 (∃ s106 : Sl, held (Lw w98) ⟨b95, 2, none⟩ (s106.val) ∧
 ∃ a107 : Addr, s106.ptr = some a107 ∧ 0 ≤ (0 : Int) ∧ (0 : Int) < (s106.len : Int) ∧
 ∃ n108 : Int, held (Lw w98) (Addr.add a107 (Int.toNat (0 : Int) * 1)) (.int .i64 n108) ∧
 brB (n108 == (wr (limit1 - start2)))
 (∃ s109 : Sl, held (Lw w98) ⟨b52, 3, none⟩ (s109.val) ∧
 ∃ s110 : Sl, held (Lw w98) ⟨b95, 3, none⟩ (s110.val) ∧
 K (.bool ((wr ((s109.len : Int) + (s110.len : Int))) == (0 : Int))) w98)
 (K (.bool false) w98))
 (K (.bool false) w98))
 (K (.bool false) w98))
 (K (.bool false) w98))
 (K (.bool false) w98))
 (K (.bool false) w98))) ∧
 brB (decide (limit1 < (-1000 : Int)))
 (J3 true w)
 (brB (decide (limit1 > (1000 : Int)))
 (J3 true w)
 (brB (decide (start2 < (-1000 : Int)))
 (J3 true w)
 (brB (decide (start2 ≥ limit1))
 (J3 true w)
 (brB (decide ((wr (limit1 - start2)) > (60 : Int)))
 (J3 true w)
 (brB (decide (step3 < (1 : Int)))
 (J3 true w)
 (brB (decide (step3 > (60 : Int)))
 (J3 true w)
 (Calls Tryd.prog fn_hollowaylaw9_alive #[] w fun e4 w5 => ∃ b6 : Bool, e4 = .returned (.bool b6) ∧
 J3 (!b6) w5)))))))
def hollowaylaw9_InnerLoops_an : An := ⟨[], [(7, (56, .st 0 (.st 1 (.st 2 (.st 3 (.st 4 (.st 5 (.st 6 (.st 7 (.st 8 (.st 9 (.st 10 (.st 11 (.st 12 (.st 13 (.st 14 (.st 15 (.st 16 (.st 17 (.st 18 (.st 19 (.st 20 (.st 21 (.st 22 (.st 23 (.st 24 (.st 25 (.st 26 (.st 27 (.st 28 (.st 29 (.st 30 (.st 31 (.st 32 (.st 33 (.st 34 (.st 35 (.st 36 (.st 37 (.st 38 (.st 39 (.st 40 (.st 41 (.st 42 (.st 43 (.st 44 (.st 45 (.st 46 (.st 47 (.st 48 (.st 49 (.st 50 (.st 51 (.st 52 (.st 53 (.st 54 (.st 55 .done))))))))))))))))))))))))))))))))))))))))))))))))))))))), 0))], [(2, [(45, .bool)])]⟩
theorem hollowaylaw9_InnerLoops_lift {limit1 : Int} {start2 : Int} {step3 : Int} {w : World} {K : Value → World → Prop} (h : hollowaylaw9_InnerLoops_sh limit1 start2 step3 w K) : Calls Tryd.prog fn_hollowaylaw9_InnerLoops #[.int .i64 limit1, .int .i64 start2, .int .i64 step3] w fun e w' => ∃ v, e = .returned v ∧ K v w' :=
   lift_calls (A := hollowaylaw9_InnerLoops_an) (c := bodyOf Tryd.f8) (args := [.int .i64 limit1, .int .i64 start2, .int .i64 step3]) orc orc_wide Tryd.func8 (by kernel_rfl) (by kernel_rfl) (Eq.mp (by kernel_rfl : hollowaylaw9_InnerLoops_sh limit1 start2 step3 w K = wpc orc Tryd.f8.ntmps hollowaylaw9_InnerLoops_an (bodyOf Tryd.f8) (argl 0 [.int .i64 limit1, .int .i64 start2, .int .i64 step3]) w (retQ orc Tryd.f8.results.toList K)) h)

-- holloway/hollowaylaw9.InnerTalks
def hollowaylaw9_InnerTalks_sh (in_1 : ByteArray) (l_2 : Sl) (w : World) (K : Value → World → Prop) : Prop :=
 ∃ J3 : Bool → World → Prop, (∀ (b7 : Bool) (w6 : World), J3 b7 w6 →
 brB b7
 (Calls Tryd.prog fn_hollowaylaw9_alive #[] w6 fun e8 w9 => ∃ b10 : Bool, e8 = .returned (.bool b10) ∧
 K (.bool b10) w9)
 (Calls Tryd.prog fn_hollowayref9_Boot #[.int .i64 (400 : Int), .string in_1] w6 fun e11 w12 => ∃ n_Ip13 : Int, ∃ n_Handler14 : Int, ∃ s_Stack15 : Sl, ∃ s_Back16 : Sl, ∃ s_Mem17 : Sl, ∃ t_Out18 : ByteArray, ∃ t_In19 : ByteArray, ∃ n_Read20 : Int, ∃ n_Status21 : Int, ∃ n_Code22 : Int, e11 = .returned (.agg #[.int .i64 n_Ip13, .int .i64 n_Handler14, s_Stack15.val, s_Back16.val, s_Mem17.val, .string t_Out18, .string t_In19, .int .i64 n_Read20, .int .i64 n_Status21, .int .i64 n_Code22]) ∧
 ∀ (b23 : Nat) (w24 : World), b23 = w12.heap.size → w24 = World.alloc w12 (.cells #[.int .i64 (0 : Int), .int .i64 (0 : Int), .slice none 0 0, .slice none 0 0, .slice none 0 0, .string (bs []), .string (bs []), .int .i64 (0 : Int), .int .i64 (0 : Int), .int .i64 (0 : Int)] T_api_State) →
 wrOk w24 ⟨b23, 0, none⟩ 10 ∧ ∀ w25 : World, w25 = stW w24 ⟨b23, 0, none⟩ 0 [.int .i64 n_Ip13, .int .i64 n_Handler14, s_Stack15.val, s_Back16.val, s_Mem17.val, .string t_Out18, .string t_In19, .int .i64 n_Read20, .int .i64 n_Status21, .int .i64 n_Code22] →
 wrOk w25 ⟨b23, 0, none⟩ 1 ∧ ∀ w26 : World, w26 = stW w25 ⟨b23, 0, none⟩ 0 [.int .i64 (200 : Int)] →
 wrOk w26 ⟨b23, 8, none⟩ 1 ∧ ∀ w27 : World, w27 = stW w26 ⟨b23, 8, none⟩ 0 [.int .i64 (0 : Int)] →
 ∃ (I1 : Int → ByteArray → Int → World → Prop) (μ1 : Int → ByteArray → Int → World → Nat), I1 (200 : Int) (bs []) (0 : Int) w27 ∧ ∀ (at33 : Int) (want44 : ByteArray) (i29 : Int) (w28 : World), I1 at33 want44 i29 w28 →
 brB (decide (i29 < (l_2.len : Int)))
 (∀ w30 : World, w30 = World.drew w28 →
 ∃ S31 : World → Prop, S31 w30 ∧
 ∃ s32 : Sl, held S31 ⟨b23, 4, none⟩ (s32.val) ∧
 ∃ s34 : Sl, held S31 ⟨b23, 4, none⟩ (s34.val) ∧
 ∃ s35 : Sl, held S31 ⟨b23, 4, none⟩ (s35.val) ∧
 ∃ a36 : Addr, l_2.ptr = some a36 ∧ 0 ≤ i29 ∧ i29 < (l_2.len : Int) ∧
 ∃ n37 : Int, held S31 (Addr.add a36 (Int.toNat i29 * 1)) (.int .i64 n37) ∧
 ∃ a38 : Addr, s32.ptr = some a38 ∧ 0 ≤ at33 ∧ at33 < (s32.len : Int) ∧
 wrOk w30 (Addr.add a38 (Int.toNat at33 * 1)) 1 ∧ ∀ w39 : World, w39 = stW w30 (Addr.add a38 (Int.toNat at33 * 1)) 0 [.int .i64 (2 : Int)] →
 S31 w39 ∧
 ∃ a40 : Addr, s34.ptr = some a40 ∧ 0 ≤ (wr (at33 + (1 : Int))) ∧ (wr (at33 + (1 : Int))) < (s34.len : Int) ∧
 wrOk w39 (Addr.add a40 (Int.toNat (wr (at33 + (1 : Int))) * 1)) 1 ∧ ∀ w41 : World, w41 = stW w39 (Addr.add a40 (Int.toNat (wr (at33 + (1 : Int))) * 1)) 0 [.int .i64 n37] →
 S31 w41 ∧
 ∃ a42 : Addr, s35.ptr = some a42 ∧ 0 ≤ (wr (at33 + (2 : Int))) ∧ (wr (at33 + (2 : Int))) < (s35.len : Int) ∧
 wrOk w41 (Addr.add a42 (Int.toNat (wr (at33 + (2 : Int))) * 1)) 1 ∧ ∀ w43 : World, w43 = stW w41 (Addr.add a42 (Int.toNat (wr (at33 + (2 : Int))) * 1)) 0 [.int .i64 (41 : Int)] →
 ∃ a45 : Addr, l_2.ptr = some a45 ∧ 0 ≤ i29 ∧ i29 < (l_2.len : Int) ∧
 ∃ n46 : Int, w43.cell? (Addr.add a45 (Int.toNat i29 * 1)) = some (.int .i64 n46) ∧
 ∀ (b47 : Nat) (w48 : World), b47 = w43.heap.size → w48 = World.alloc w43 (.cells #[.int .u8 (IntKind.wrap .u8 n46)] T_uint8) →
 ∃ t49 : ByteArray, ∃ w50 : World, (convert T_sl_uint8 T_string (.slice (some ⟨b47, 0, none⟩) 1 1)).run Tryd.prog w48 = .ok (.string t49) w50 ∧
 ((want44).size : Int) + ((t49).size : Int) ≤ 9223372036854775807 ∧ I1 (wr (at33 + (3 : Int))) (want44 ++ t49) (wr (i29 + (1 : Int))) w50 ∧ μ1 (wr (at33 + (3 : Int))) (want44 ++ t49) (wr (i29 + (1 : Int))) w50 < μ1 at33 want44 i29 w28)
 (∃ (I2 : Int → Int → World → Prop) (μ2 : Int → Int → World → Nat), I2 at33 (0 : Int) w28 ∧ ∀ (at54 : Int) (i52 : Int) (w51 : World), I2 at54 i52 w51 →
 brB (decide (i52 < (20 : Int)))
 (∃ s53 : Sl, w51.cell? ⟨b23, 4, none⟩ = some (s53.val) ∧
 ∃ a55 : Addr, s53.ptr = some a55 ∧ 0 ≤ at54 ∧ at54 < (s53.len : Int) ∧
 wrOk w51 (Addr.add a55 (Int.toNat at54 * 1)) 1 ∧ ∀ w56 : World, w56 = stW w51 (Addr.add a55 (Int.toNat at54 * 1)) 0 [.int .i64 (43 : Int)] →
 I2 (wr (at54 + (1 : Int))) (wr (i52 + (1 : Int))) w56 ∧ μ2 (wr (at54 + (1 : Int))) (wr (i52 + (1 : Int))) w56 < μ2 at54 i52 w51)
 (∃ s57 : Sl, w51.cell? ⟨b23, 4, none⟩ = some (s57.val) ∧
 ∃ a58 : Addr, s57.ptr = some a58 ∧ 0 ≤ at54 ∧ at54 < (s57.len : Int) ∧
 wrOk w51 (Addr.add a58 (Int.toNat at54 * 1)) 1 ∧ ∀ w59 : World, w59 = stW w51 (Addr.add a58 (Int.toNat at54 * 1)) 0 [.int .i64 (0 : Int)] →
 ∃ n_Ip60 : Int, ∃ n_Handler61 : Int, ∃ s_Stack62 : Sl, ∃ s_Back63 : Sl, ∃ s_Mem64 : Sl, ∃ t_Out65 : ByteArray, ∃ t_In66 : ByteArray, ∃ n_Read67 : Int, ∃ n_Status68 : Int, ∃ n_Code69 : Int, w59.cell? ⟨b23, 0, none⟩ = some (.int .i64 n_Ip60) ∧ w59.cell? ⟨b23, 1, none⟩ = some (.int .i64 n_Handler61) ∧ w59.cell? ⟨b23, 2, none⟩ = some (s_Stack62.val) ∧ w59.cell? ⟨b23, 3, none⟩ = some (s_Back63.val) ∧ w59.cell? ⟨b23, 4, none⟩ = some (s_Mem64.val) ∧ w59.cell? ⟨b23, 5, none⟩ = some (.string t_Out65) ∧ w59.cell? ⟨b23, 6, none⟩ = some (.string t_In66) ∧ w59.cell? ⟨b23, 7, none⟩ = some (.int .i64 n_Read67) ∧ w59.cell? ⟨b23, 8, none⟩ = some (.int .i64 n_Status68) ∧ w59.cell? ⟨b23, 9, none⟩ = some (.int .i64 n_Code69) ∧
 Calls Tryd.prog fn_inner_Run #[.agg #[.int .i64 n_Ip60, .int .i64 n_Handler61, s_Stack62.val, s_Back63.val, s_Mem64.val, .string t_Out65, .string t_In66, .int .i64 n_Read67, .int .i64 n_Status68, .int .i64 n_Code69], .int .i64 (500 : Int)] w59 fun e70 w71 => ∃ n_Ip72 : Int, ∃ n_Handler73 : Int, ∃ s_Stack74 : Sl, ∃ s_Back75 : Sl, ∃ s_Mem76 : Sl, ∃ t_Out77 : ByteArray, ∃ t_In78 : ByteArray, ∃ n_Read79 : Int, ∃ n_Status80 : Int, ∃ n_Code81 : Int, ∃ n82 : Int, e70 = .returned (.tuple #[.agg #[.int .i64 n_Ip72, .int .i64 n_Handler73, s_Stack74.val, s_Back75.val, s_Mem76.val, .string t_Out77, .string t_In78, .int .i64 n_Read79, .int .i64 n_Status80, .int .i64 n_Code81], .int .i64 n82]) ∧
 ∀ (b83 : Nat) (w84 : World), b83 = w71.heap.size → w84 = World.alloc w71 (.cells #[.int .i64 (0 : Int), .int .i64 (0 : Int), .slice none 0 0, .slice none 0 0, .slice none 0 0, .string (bs []), .string (bs []), .int .i64 (0 : Int), .int .i64 (0 : Int), .int .i64 (0 : Int)] T_api_State) →
 wrOk w84 ⟨b83, 0, none⟩ 10 ∧ ∀ w85 : World, w85 = stW w84 ⟨b83, 0, none⟩ 0 [.int .i64 n_Ip72, .int .i64 n_Handler73, s_Stack74.val, s_Back75.val, s_Mem76.val, .string t_Out77, .string t_In78, .int .i64 n_Read79, .int .i64 n_Status80, .int .i64 n_Code81] →
 ∃ J24 : Bool → World → Prop, (∀ (b91 : Bool) (w90 : World), J24 b91 w90 →
 brB b91
 (K (.bool false) w90)
 (∃ (I3 : Int → World → Prop) (μ3 : Int → World → Nat), I3 (0 : Int) w90 ∧ ∀ (i93 : Int) (w92 : World), I3 i93 w92 →
 brB (decide (i93 < (20 : Int)))
 (∃ J32 : Int → World → Prop, (∀ (v98 : Int) (w94 : World), J32 v98 w94 →
 ∃ s95 : Sl, w94.cell? ⟨b83, 2, none⟩ = some (s95.val) ∧
 ∃ a96 : Addr, s95.ptr = some a96 ∧ 0 ≤ i93 ∧ i93 < (s95.len : Int) ∧
 ∃ n97 : Int, w94.cell? (Addr.add a96 (Int.toNat i93 * 1)) = some (.int .i64 n97) ∧
 brB (n97 != v98)
 (K (.bool false) w94)
 (I3 (wr (i93 + (1 : Int))) w94 ∧ μ3 (wr (i93 + (1 : Int))) w94 < μ3 i93 w92)) ∧
 brB (decide (i93 < (in_1.size : Int)))
 (0 ≤ i93 ∧ i93 < (in_1.size : Int) ∧
 J32 (wr (sb in_1 i93)) w92)
 (J32 (-1 : Int) w92))
 (K (.bool true) w92))) ∧
 ∃ n86 : Int, w85.cell? ⟨b83, 8, none⟩ = some (.int .i64 n86) ∧
 brB (n86 != (1 : Int))
 (J24 true w85)
 (∃ t87 : ByteArray, w85.cell? ⟨b83, 5, none⟩ = some (.string t87) ∧
 brB (!(t87.toList == want44.toList))
 (J24 true w85)
 (∃ s88 : Sl, w85.cell? ⟨b83, 2, none⟩ = some (s88.val) ∧
 brB ((s88.len : Int) != (20 : Int))
 (J24 true w85)
 (∃ n89 : Int, w85.cell? ⟨b83, 7, none⟩ = some (.int .i64 n89) ∧
 J24 (n89 != (imin (20 : Int) (in_1.size : Int))) w85))))))) ∧
 brB (decide ((in_1.size : Int) > (60 : Int)))
 (J3 true w)
 (brB (decide ((l_2.len : Int) > (30 : Int)))
 (J3 true w)
 (Calls Tryd.prog fn_hollowaylaw9_alive #[] w fun e3 w4 => ∃ b5 : Bool, e3 = .returned (.bool b5) ∧
 J3 (!b5) w4))
def hollowaylaw9_InnerTalks_an : An := ⟨[(7, [(6, .int .i64), (7, .str), (8, .int .i64)]), (13, [(6, .int .i64), (9, .int .i64)]), (22, [(12, .int .i64)])], [(9, (19, .st 0 (.st 1 (.st 2 (.st 3 (.st 4 (.st 5 (.st 6 (.st 7 (.st 8 (.st 9 (.st 10 (.st 11 (.st 12 (.st 13 (.st 14 (.st 15 (.ef 16 (.st 17 (.ef 18 .done)))))))))))))))))), 1))], [(2, [(25, .bool)]), (20, [(107, .bool)]), (27, [(13, .int .i64)])]⟩
theorem hollowaylaw9_InnerTalks_lift {in_1 : ByteArray} {l_2 : Sl} {w : World} {K : Value → World → Prop} (h : hollowaylaw9_InnerTalks_sh in_1 l_2 w K) : Calls Tryd.prog fn_hollowaylaw9_InnerTalks #[.string in_1, l_2.val] w fun e w' => ∃ v, e = .returned v ∧ K v w' :=
   lift_calls (A := hollowaylaw9_InnerTalks_an) (c := bodyOf Tryd.f9) (args := [.string in_1, l_2.val]) orc orc_wide Tryd.func9 (by kernel_rfl) (by kernel_rfl) (Eq.mp (by kernel_rfl : hollowaylaw9_InnerTalks_sh in_1 l_2 w K = wpc orc Tryd.f9.ntmps hollowaylaw9_InnerTalks_an (bodyOf Tryd.f9) (argl 0 [.string in_1, l_2.val]) w (retQ orc Tryd.f9.results.toList K)) h)

-- holloway/hollowaylaw9.InnerFaults
def hollowaylaw9_InnerFaults_sh (op1 : Int) (stack2 : Sl) (back3 : Sl) (w : World) (K : Value → World → Prop) : Prop :=
 ∃ J3 : Bool → World → Prop, (∀ (b8 : Bool) (w7 : World), J3 b8 w7 →
 brB b8
 (Calls Tryd.prog fn_hollowaylaw9_alive #[] w7 fun e9 w10 => ∃ b11 : Bool, e9 = .returned (.bool b11) ∧
 K (.bool b11) w10)
 (∀ (b12 : Nat) (w13 : World), b12 = w7.heap.size → w13 = World.alloc w7 (.cells #[.int .i64 op1, .int .i64 (7 : Int)] T_int) →
 Calls Tryd.prog fn_hollowaylaw9_plain #[.slice (some ⟨b12, 0, none⟩) 2 2, stack2.val, back3.val] w13 fun e14 w15 => ∃ n_Ip16 : Int, ∃ n_Handler17 : Int, ∃ s_Stack18 : Sl, ∃ s_Back19 : Sl, ∃ s_Mem20 : Sl, ∃ t_Out21 : ByteArray, ∃ t_In22 : ByteArray, ∃ n_Read23 : Int, ∃ n_Status24 : Int, ∃ n_Code25 : Int, e14 = .returned (.agg #[.int .i64 n_Ip16, .int .i64 n_Handler17, s_Stack18.val, s_Back19.val, s_Mem20.val, .string t_Out21, .string t_In22, .int .i64 n_Read23, .int .i64 n_Status24, .int .i64 n_Code25]) ∧
 ∀ (b26 : Nat) (w27 : World), b26 = w15.heap.size → w27 = World.alloc w15 (.cells #[.int .i64 (0 : Int), .int .i64 (0 : Int), .slice none 0 0, .slice none 0 0, .slice none 0 0, .string (bs []), .string (bs []), .int .i64 (0 : Int), .int .i64 (0 : Int), .int .i64 (0 : Int)] T_api_State) →
 wrOk w27 ⟨b26, 0, none⟩ 10 ∧ ∀ w28 : World, w28 = stW w27 ⟨b26, 0, none⟩ 0 [.int .i64 n_Ip16, .int .i64 n_Handler17, s_Stack18.val, s_Back19.val, s_Mem20.val, .string t_Out21, .string t_In22, .int .i64 n_Read23, .int .i64 n_Status24, .int .i64 n_Code25] →
 ∃ n_Ip29 : Int, ∃ n_Handler30 : Int, ∃ s_Stack31 : Sl, ∃ s_Back32 : Sl, ∃ s_Mem33 : Sl, ∃ t_Out34 : ByteArray, ∃ t_In35 : ByteArray, ∃ n_Read36 : Int, ∃ n_Status37 : Int, ∃ n_Code38 : Int, w28.cell? ⟨b26, 0, none⟩ = some (.int .i64 n_Ip29) ∧ w28.cell? ⟨b26, 1, none⟩ = some (.int .i64 n_Handler30) ∧ w28.cell? ⟨b26, 2, none⟩ = some (s_Stack31.val) ∧ w28.cell? ⟨b26, 3, none⟩ = some (s_Back32.val) ∧ w28.cell? ⟨b26, 4, none⟩ = some (s_Mem33.val) ∧ w28.cell? ⟨b26, 5, none⟩ = some (.string t_Out34) ∧ w28.cell? ⟨b26, 6, none⟩ = some (.string t_In35) ∧ w28.cell? ⟨b26, 7, none⟩ = some (.int .i64 n_Read36) ∧ w28.cell? ⟨b26, 8, none⟩ = some (.int .i64 n_Status37) ∧ w28.cell? ⟨b26, 9, none⟩ = some (.int .i64 n_Code38) ∧
 Calls Tryd.prog fn_inner_Step #[.agg #[.int .i64 n_Ip29, .int .i64 n_Handler30, s_Stack31.val, s_Back32.val, s_Mem33.val, .string t_Out34, .string t_In35, .int .i64 n_Read36, .int .i64 n_Status37, .int .i64 n_Code38]] w28 fun e39 w40 => ∃ n_Ip41 : Int, ∃ n_Handler42 : Int, ∃ s_Stack43 : Sl, ∃ s_Back44 : Sl, ∃ s_Mem45 : Sl, ∃ t_Out46 : ByteArray, ∃ t_In47 : ByteArray, ∃ n_Read48 : Int, ∃ n_Status49 : Int, ∃ n_Code50 : Int, e39 = .returned (.agg #[.int .i64 n_Ip41, .int .i64 n_Handler42, s_Stack43.val, s_Back44.val, s_Mem45.val, .string t_Out46, .string t_In47, .int .i64 n_Read48, .int .i64 n_Status49, .int .i64 n_Code50]) ∧
 ∀ (b51 : Nat) (w52 : World), b51 = w40.heap.size → w52 = World.alloc w40 (.cells #[.int .i64 (0 : Int), .int .i64 (0 : Int), .slice none 0 0, .slice none 0 0, .slice none 0 0, .string (bs []), .string (bs []), .int .i64 (0 : Int), .int .i64 (0 : Int), .int .i64 (0 : Int)] T_api_State) →
 wrOk w52 ⟨b51, 0, none⟩ 10 ∧ ∀ w53 : World, w53 = stW w52 ⟨b51, 0, none⟩ 0 [.int .i64 n_Ip41, .int .i64 n_Handler42, s_Stack43.val, s_Back44.val, s_Mem45.val, .string t_Out46, .string t_In47, .int .i64 n_Read48, .int .i64 n_Status49, .int .i64 n_Code50] →
 ∃ n54 : Int, w53.cell? ⟨b51, 8, none⟩ = some (.int .i64 n54) ∧
 brB (n54 != (2 : Int))
 (∃ n55 : Int, w53.cell? ⟨b51, 8, none⟩ = some (.int .i64 n55) ∧
 brB (n55 == (0 : Int))
 (K (.bool true) w53)
 (K (.bool (op1 == (0 : Int))) w53))
 (∃ n_Ip58 : Int, ∃ n_Handler59 : Int, ∃ s_Stack60 : Sl, ∃ s_Back61 : Sl, ∃ s_Mem62 : Sl, ∃ t_Out63 : ByteArray, ∃ t_In64 : ByteArray, ∃ n_Read65 : Int, ∃ n_Status66 : Int, ∃ n_Code67 : Int, w53.cell? ⟨b51, 0, none⟩ = some (.int .i64 n_Ip58) ∧ w53.cell? ⟨b51, 1, none⟩ = some (.int .i64 n_Handler59) ∧ w53.cell? ⟨b51, 2, none⟩ = some (s_Stack60.val) ∧ w53.cell? ⟨b51, 3, none⟩ = some (s_Back61.val) ∧ w53.cell? ⟨b51, 4, none⟩ = some (s_Mem62.val) ∧ w53.cell? ⟨b51, 5, none⟩ = some (.string t_Out63) ∧ w53.cell? ⟨b51, 6, none⟩ = some (.string t_In64) ∧ w53.cell? ⟨b51, 7, none⟩ = some (.int .i64 n_Read65) ∧ w53.cell? ⟨b51, 8, none⟩ = some (.int .i64 n_Status66) ∧ w53.cell? ⟨b51, 9, none⟩ = some (.int .i64 n_Code67) ∧
 ∀ (b68 : Nat) (w69 : World), b68 = w53.heap.size → w69 = World.alloc w53 (.cells #[.int .i64 (0 : Int), .int .i64 (0 : Int), .slice none 0 0, .slice none 0 0, .slice none 0 0, .string (bs []), .string (bs []), .int .i64 (0 : Int), .int .i64 (0 : Int), .int .i64 (0 : Int)] T_api_State) →
 wrOk w69 ⟨b68, 0, none⟩ 10 ∧ ∀ w70 : World, w70 = stW w69 ⟨b68, 0, none⟩ 0 [.int .i64 n_Ip58, .int .i64 n_Handler59, s_Stack60.val, s_Back61.val, s_Mem62.val, .string t_Out63, .string t_In64, .int .i64 n_Read65, .int .i64 n_Status66, .int .i64 n_Code67] →
 ∀ w71 : World, w71 = World.drew w70 →
 ∃ S72 : World → Prop, S72 w71 ∧
 ∃ n73 : Int, held S72 ⟨b26, 8, none⟩ (.int .i64 n73) ∧
 ∃ n74 : Int, held S72 ⟨b26, 9, none⟩ (.int .i64 n74) ∧
 wrOk w71 ⟨b68, 8, none⟩ 1 ∧ ∀ w75 : World, w75 = stW w71 ⟨b68, 8, none⟩ 0 [.int .i64 n73] →
 S72 w75 ∧
 wrOk w75 ⟨b68, 9, none⟩ 1 ∧ ∀ w76 : World, w76 = stW w75 ⟨b68, 9, none⟩ 0 [.int .i64 n74] →
 brB (op1 == (45 : Int))
 (∀ w77 : World, w77 = World.drew w76 →
 ∃ s78 : Sl, held (Lw w77) ⟨b26, 2, none⟩ (s78.val) ∧
 brB ((s78.len : Int) == (0 : Int))
 (∃ n79 : Int, held (Lw w77) ⟨b51, 9, none⟩ (.int .i64 n79) ∧
 brB (n79 == (-4 : Int))
 (K (.bool true) w77)
 (∃ s80 : Sl, held (Lw w77) ⟨b26, 2, none⟩ (s80.val) ∧
 brB (decide ((s80.len : Int) > (0 : Int)))
 (∃ n81 : Int, held (Lw w77) ⟨b51, 9, none⟩ (.int .i64 n81) ∧
 ∃ s82 : Sl, held (Lw w77) ⟨b26, 2, none⟩ (s82.val) ∧
 ∃ s83 : Sl, held (Lw w77) ⟨b26, 2, none⟩ (s83.val) ∧
 ∃ a84 : Addr, s82.ptr = some a84 ∧ 0 ≤ (wr ((s83.len : Int) - (1 : Int))) ∧ (wr ((s83.len : Int) - (1 : Int))) < (s82.len : Int) ∧
 ∃ n85 : Int, held (Lw w77) (Addr.add a84 (Int.toNat (wr ((s83.len : Int) - (1 : Int))) * 1)) (.int .i64 n85) ∧
 brB (n81 == n85)
 (∃ n86 : Int, held (Lw w77) ⟨b51, 9, none⟩ (.int .i64 n86) ∧
 K (.bool (n86 != (0 : Int))) w77)
 (K (.bool false) w77))
 (K (.bool false) w77)))
 (∃ s87 : Sl, held (Lw w77) ⟨b26, 2, none⟩ (s87.val) ∧
 brB (decide ((s87.len : Int) > (0 : Int)))
 (∃ n88 : Int, held (Lw w77) ⟨b51, 9, none⟩ (.int .i64 n88) ∧
 ∃ s89 : Sl, held (Lw w77) ⟨b26, 2, none⟩ (s89.val) ∧
 ∃ s90 : Sl, held (Lw w77) ⟨b26, 2, none⟩ (s90.val) ∧
 ∃ a91 : Addr, s89.ptr = some a91 ∧ 0 ≤ (wr ((s90.len : Int) - (1 : Int))) ∧ (wr ((s90.len : Int) - (1 : Int))) < (s89.len : Int) ∧
 ∃ n92 : Int, held (Lw w77) (Addr.add a91 (Int.toNat (wr ((s90.len : Int) - (1 : Int))) * 1)) (.int .i64 n92) ∧
 brB (n88 == n92)
 (∃ n93 : Int, held (Lw w77) ⟨b51, 9, none⟩ (.int .i64 n93) ∧
 K (.bool (n93 != (0 : Int))) w77)
 (K (.bool false) w77))
 (K (.bool false) w77)))
 (∀ w96 : World, w96 = World.drew w76 →
 ∃ S97 : World → Prop, S97 w96 ∧
 ∃ n_Ip98 : Int, ∃ n_Handler99 : Int, ∃ s_Stack100 : Sl, ∃ s_Back101 : Sl, ∃ s_Mem102 : Sl, ∃ t_Out103 : ByteArray, ∃ t_In104 : ByteArray, ∃ n_Read105 : Int, ∃ n_Status106 : Int, ∃ n_Code107 : Int, held S97 ⟨b68, 0, none⟩ (.int .i64 n_Ip98) ∧ held S97 ⟨b68, 1, none⟩ (.int .i64 n_Handler99) ∧ held S97 ⟨b68, 2, none⟩ (s_Stack100.val) ∧ held S97 ⟨b68, 3, none⟩ (s_Back101.val) ∧ held S97 ⟨b68, 4, none⟩ (s_Mem102.val) ∧ held S97 ⟨b68, 5, none⟩ (.string t_Out103) ∧ held S97 ⟨b68, 6, none⟩ (.string t_In104) ∧ held S97 ⟨b68, 7, none⟩ (.int .i64 n_Read105) ∧ held S97 ⟨b68, 8, none⟩ (.int .i64 n_Status106) ∧ held S97 ⟨b68, 9, none⟩ (.int .i64 n_Code107) ∧
 ∃ n_Ip108 : Int, ∃ n_Handler109 : Int, ∃ s_Stack110 : Sl, ∃ s_Back111 : Sl, ∃ s_Mem112 : Sl, ∃ t_Out113 : ByteArray, ∃ t_In114 : ByteArray, ∃ n_Read115 : Int, ∃ n_Status116 : Int, ∃ n_Code117 : Int, held S97 ⟨b26, 0, none⟩ (.int .i64 n_Ip108) ∧ held S97 ⟨b26, 1, none⟩ (.int .i64 n_Handler109) ∧ held S97 ⟨b26, 2, none⟩ (s_Stack110.val) ∧ held S97 ⟨b26, 3, none⟩ (s_Back111.val) ∧ held S97 ⟨b26, 4, none⟩ (s_Mem112.val) ∧ held S97 ⟨b26, 5, none⟩ (.string t_Out113) ∧ held S97 ⟨b26, 6, none⟩ (.string t_In114) ∧ held S97 ⟨b26, 7, none⟩ (.int .i64 n_Read115) ∧ held S97 ⟨b26, 8, none⟩ (.int .i64 n_Status116) ∧ held S97 ⟨b26, 9, none⟩ (.int .i64 n_Code117) ∧
 Calls Tryd.prog fn_hollowaybook_SameState #[.agg #[.int .i64 n_Ip98, .int .i64 n_Handler99, s_Stack100.val, s_Back101.val, s_Mem102.val, .string t_Out103, .string t_In104, .int .i64 n_Read105, .int .i64 n_Status106, .int .i64 n_Code107], .agg #[.int .i64 n_Ip108, .int .i64 n_Handler109, s_Stack110.val, s_Back111.val, s_Mem112.val, .string t_Out113, .string t_In114, .int .i64 n_Read115, .int .i64 n_Status116, .int .i64 n_Code117]] w96 fun e118 w119 => ∃ b120 : Bool, e118 = .returned (.bool b120) ∧
 S97 w119 ∧
 brB b120
 (∃ n121 : Int, held S97 ⟨b51, 9, none⟩ (.int .i64 n121) ∧
 brB (decide (n121 < (0 : Int)))
 (∃ n122 : Int, held S97 ⟨b51, 9, none⟩ (.int .i64 n122) ∧
 brB (decide (n122 ≥ (-57 : Int)))
 (∃ n_Ip123 : Int, ∃ n_Handler124 : Int, ∃ s_Stack125 : Sl, ∃ s_Back126 : Sl, ∃ s_Mem127 : Sl, ∃ t_Out128 : ByteArray, ∃ t_In129 : ByteArray, ∃ n_Read130 : Int, ∃ n_Status131 : Int, ∃ n_Code132 : Int, held S97 ⟨b51, 0, none⟩ (.int .i64 n_Ip123) ∧ held S97 ⟨b51, 1, none⟩ (.int .i64 n_Handler124) ∧ held S97 ⟨b51, 2, none⟩ (s_Stack125.val) ∧ held S97 ⟨b51, 3, none⟩ (s_Back126.val) ∧ held S97 ⟨b51, 4, none⟩ (s_Mem127.val) ∧ held S97 ⟨b51, 5, none⟩ (.string t_Out128) ∧ held S97 ⟨b51, 6, none⟩ (.string t_In129) ∧ held S97 ⟨b51, 7, none⟩ (.int .i64 n_Read130) ∧ held S97 ⟨b51, 8, none⟩ (.int .i64 n_Status131) ∧ held S97 ⟨b51, 9, none⟩ (.int .i64 n_Code132) ∧
 ∃ n_Ip133 : Int, ∃ n_Handler134 : Int, ∃ s_Stack135 : Sl, ∃ s_Back136 : Sl, ∃ s_Mem137 : Sl, ∃ t_Out138 : ByteArray, ∃ t_In139 : ByteArray, ∃ n_Read140 : Int, ∃ n_Status141 : Int, ∃ n_Code142 : Int, held S97 ⟨b51, 0, none⟩ (.int .i64 n_Ip133) ∧ held S97 ⟨b51, 1, none⟩ (.int .i64 n_Handler134) ∧ held S97 ⟨b51, 2, none⟩ (s_Stack135.val) ∧ held S97 ⟨b51, 3, none⟩ (s_Back136.val) ∧ held S97 ⟨b51, 4, none⟩ (s_Mem137.val) ∧ held S97 ⟨b51, 5, none⟩ (.string t_Out138) ∧ held S97 ⟨b51, 6, none⟩ (.string t_In139) ∧ held S97 ⟨b51, 7, none⟩ (.int .i64 n_Read140) ∧ held S97 ⟨b51, 8, none⟩ (.int .i64 n_Status141) ∧ held S97 ⟨b51, 9, none⟩ (.int .i64 n_Code142) ∧
 Calls Tryd.prog fn_inner_Step #[.agg #[.int .i64 n_Ip123, .int .i64 n_Handler124, s_Stack125.val, s_Back126.val, s_Mem127.val, .string t_Out128, .string t_In129, .int .i64 n_Read130, .int .i64 n_Status131, .int .i64 n_Code132]] w119 fun e143 w144 => ∃ n_Ip145 : Int, ∃ n_Handler146 : Int, ∃ s_Stack147 : Sl, ∃ s_Back148 : Sl, ∃ s_Mem149 : Sl, ∃ t_Out150 : ByteArray, ∃ t_In151 : ByteArray, ∃ n_Read152 : Int, ∃ n_Status153 : Int, ∃ n_Code154 : Int, e143 = .returned (.agg #[.int .i64 n_Ip145, .int .i64 n_Handler146, s_Stack147.val, s_Back148.val, s_Mem149.val, .string t_Out150, .string t_In151, .int .i64 n_Read152, .int .i64 n_Status153, .int .i64 n_Code154]) ∧
 S97 w144 ∧
 Calls Tryd.prog fn_hollowaybook_SameState #[.agg #[.int .i64 n_Ip145, .int .i64 n_Handler146, s_Stack147.val, s_Back148.val, s_Mem149.val, .string t_Out150, .string t_In151, .int .i64 n_Read152, .int .i64 n_Status153, .int .i64 n_Code154], .agg #[.int .i64 n_Ip133, .int .i64 n_Handler134, s_Stack135.val, s_Back136.val, s_Mem137.val, .string t_Out138, .string t_In139, .int .i64 n_Read140, .int .i64 n_Status141, .int .i64 n_Code142]] w144 fun e155 w156 => ∃ b157 : Bool, e155 = .returned (.bool b157) ∧
 K (.bool b157) w156)
 (K (.bool false) w119))
 (K (.bool false) w119))
 (K (.bool false) w119))))) ∧
 brB (decide (op1 < (0 : Int)))
 (J3 true w)
 (brB (decide (op1 ≥ (48 : Int)))
 (J3 true w)
 (Calls Tryd.prog fn_hollowaylaw9_alive #[] w fun e4 w5 => ∃ b6 : Bool, e4 = .returned (.bool b6) ∧
 J3 (!b6) w5))
def hollowaylaw9_InnerFaults_an : An := ⟨[], [(8, (6, .st 0 (.st 1 (.st 2 (.st 3 (.st 4 (.ef 5 .done))))), 1)), (10, (34, .st 0 (.st 1 (.st 2 (.st 3 (.st 4 (.st 5 (.st 6 (.st 7 (.st 8 (.st 9 (.st 10 (.st 11 (.st 12 (.st 13 (.st 14 (.st 15 (.st 16 (.st 17 (.st 18 (.st 19 (.st 20 (.st 21 (.st 22 (.st 23 (.st 24 (.st 25 (.st 26 (.st 27 (.st 28 (.st 29 (.st 30 (.st 31 (.st 32 (.st 33 .done))))))))))))))))))))))))))))))))), 0)), (11, (17, .st 0 (.st 1 (.ef 2 (.st 3 (.st 4 (.st 5 (.st 6 (.st 7 (.st 8 (.st 9 (.st 10 (.st 11 (.st 12 (.st 13 (.st 14 (.st 16 (.ef 15 .done)))))))))))))))), 1))], [(2, [(19, .bool)])]⟩
theorem hollowaylaw9_InnerFaults_lift {op1 : Int} {stack2 : Sl} {back3 : Sl} {w : World} {K : Value → World → Prop} (h : hollowaylaw9_InnerFaults_sh op1 stack2 back3 w K) : Calls Tryd.prog fn_hollowaylaw9_InnerFaults #[.int .i64 op1, stack2.val, back3.val] w fun e w' => ∃ v, e = .returned v ∧ K v w' :=
   lift_calls (A := hollowaylaw9_InnerFaults_an) (c := bodyOf Tryd.f10) (args := [.int .i64 op1, stack2.val, back3.val]) orc orc_wide Tryd.func10 (by kernel_rfl) (by kernel_rfl) (Eq.mp (by kernel_rfl : hollowaylaw9_InnerFaults_sh op1 stack2 back3 w K = wpc orc Tryd.f10.ntmps hollowaylaw9_InnerFaults_an (bodyOf Tryd.f10) (argl 0 [.int .i64 op1, stack2.val, back3.val]) w (retQ orc Tryd.f10.results.toList K)) h)

-- holloway/hollowaylaw9.Light
def hollowaylaw9_Light_sh (s__Ip1 : Int) (s__Handler2 : Int) (s__Stack3 : Sl) (s__Back4 : Sl) (s__Mem5 : Sl) (s__Out6 : ByteArray) (s__In7 : ByteArray) (s__Read8 : Int) (s__Status9 : Int) (s__Code10 : Int) (w : World) (K : Value → World → Prop) : Prop :=
 ∀ (b11 : Nat) (w12 : World), b11 = w.heap.size → w12 = World.alloc w (.cells #[.int .i64 s__Ip1, .int .i64 s__Handler2, s__Stack3.val, s__Back4.val, s__Mem5.val, .string s__Out6, .string s__In7, .int .i64 s__Read8, .int .i64 s__Status9, .int .i64 s__Code10] T_api_State) →
 ∃ s13 : Sl, w12.cell? ⟨b11, 4, none⟩ = some (s13.val) ∧
 brB (decide ((s13.len : Int) ≤ (700 : Int)))
 (∃ t14 : ByteArray, w12.cell? ⟨b11, 6, none⟩ = some (.string t14) ∧
 brB (decide ((t14.size : Int) ≤ (300 : Int)))
 (∃ n_Ip15 : Int, ∃ n_Handler16 : Int, ∃ s_Stack17 : Sl, ∃ s_Back18 : Sl, ∃ s_Mem19 : Sl, ∃ t_Out20 : ByteArray, ∃ t_In21 : ByteArray, ∃ n_Read22 : Int, ∃ n_Status23 : Int, ∃ n_Code24 : Int, w12.cell? ⟨b11, 0, none⟩ = some (.int .i64 n_Ip15) ∧ w12.cell? ⟨b11, 1, none⟩ = some (.int .i64 n_Handler16) ∧ w12.cell? ⟨b11, 2, none⟩ = some (s_Stack17.val) ∧ w12.cell? ⟨b11, 3, none⟩ = some (s_Back18.val) ∧ w12.cell? ⟨b11, 4, none⟩ = some (s_Mem19.val) ∧ w12.cell? ⟨b11, 5, none⟩ = some (.string t_Out20) ∧ w12.cell? ⟨b11, 6, none⟩ = some (.string t_In21) ∧ w12.cell? ⟨b11, 7, none⟩ = some (.int .i64 n_Read22) ∧ w12.cell? ⟨b11, 8, none⟩ = some (.int .i64 n_Status23) ∧ w12.cell? ⟨b11, 9, none⟩ = some (.int .i64 n_Code24) ∧
 Calls Tryd.prog fn_hollowayref9_Right #[.agg #[.int .i64 n_Ip15, .int .i64 n_Handler16, s_Stack17.val, s_Back18.val, s_Mem19.val, .string t_Out20, .string t_In21, .int .i64 n_Read22, .int .i64 n_Status23, .int .i64 n_Code24]] w12 fun e25 w26 => ∃ b27 : Bool, e25 = .returned (.bool b27) ∧
 K (.bool b27) w26)
 (K (.bool false) w12))
 (K (.bool false) w12)
def hollowaylaw9_Light_an : An := ⟨[], [], []⟩
theorem hollowaylaw9_Light_lift {s__Ip1 : Int} {s__Handler2 : Int} {s__Stack3 : Sl} {s__Back4 : Sl} {s__Mem5 : Sl} {s__Out6 : ByteArray} {s__In7 : ByteArray} {s__Read8 : Int} {s__Status9 : Int} {s__Code10 : Int} {w : World} {K : Value → World → Prop} (h : hollowaylaw9_Light_sh s__Ip1 s__Handler2 s__Stack3 s__Back4 s__Mem5 s__Out6 s__In7 s__Read8 s__Status9 s__Code10 w K) : Calls Tryd.prog fn_hollowaylaw9_Light #[.agg #[.int .i64 s__Ip1, .int .i64 s__Handler2, s__Stack3.val, s__Back4.val, s__Mem5.val, .string s__Out6, .string s__In7, .int .i64 s__Read8, .int .i64 s__Status9, .int .i64 s__Code10]] w fun e w' => ∃ v, e = .returned v ∧ K v w' :=
   lift_calls (A := hollowaylaw9_Light_an) (c := bodyOf Tryd.f13) (args := [.agg #[.int .i64 s__Ip1, .int .i64 s__Handler2, s__Stack3.val, s__Back4.val, s__Mem5.val, .string s__Out6, .string s__In7, .int .i64 s__Read8, .int .i64 s__Status9, .int .i64 s__Code10]]) orc orc_wide Tryd.func13 (by kernel_rfl) (by kernel_rfl) (Eq.mp (by kernel_rfl : hollowaylaw9_Light_sh s__Ip1 s__Handler2 s__Stack3 s__Back4 s__Mem5 s__Out6 s__In7 s__Read8 s__Status9 s__Code10 w K = wpc orc Tryd.f13.ntmps hollowaylaw9_Light_an (bodyOf Tryd.f13) (argl 0 [.agg #[.int .i64 s__Ip1, .int .i64 s__Handler2, s__Stack3.val, s__Back4.val, s__Mem5.val, .string s__Out6, .string s__In7, .int .i64 s__Read8, .int .i64 s__Status9, .int .i64 s__Code10]]) w (retQ orc Tryd.f13.results.toList K)) h)

-- holloway/hollowaylaw9.alive
def hollowaylaw9_alive_sh  (w : World) (K : Value → World → Prop) : Prop :=
 Calls Tryd.prog fn_inner_Boot #[.int .i64 (300 : Int), .string (bs [])] w fun e1 w2 => ∃ n_Ip3 : Int, ∃ n_Handler4 : Int, ∃ s_Stack5 : Sl, ∃ s_Back6 : Sl, ∃ s_Mem7 : Sl, ∃ t_Out8 : ByteArray, ∃ t_In9 : ByteArray, ∃ n_Read10 : Int, ∃ n_Status11 : Int, ∃ n_Code12 : Int, e1 = .returned (.agg #[.int .i64 n_Ip3, .int .i64 n_Handler4, s_Stack5.val, s_Back6.val, s_Mem7.val, .string t_Out8, .string t_In9, .int .i64 n_Read10, .int .i64 n_Status11, .int .i64 n_Code12]) ∧
 ∀ (b13 : Nat) (w14 : World), b13 = w2.heap.size → w14 = World.alloc w2 (.cells #[.int .i64 (0 : Int), .int .i64 (0 : Int), .slice none 0 0, .slice none 0 0, .slice none 0 0, .string (bs []), .string (bs []), .int .i64 (0 : Int), .int .i64 (0 : Int), .int .i64 (0 : Int)] T_api_State) →
 wrOk w14 ⟨b13, 0, none⟩ 10 ∧ ∀ w15 : World, w15 = stW w14 ⟨b13, 0, none⟩ 0 [.int .i64 n_Ip3, .int .i64 n_Handler4, s_Stack5.val, s_Back6.val, s_Mem7.val, .string t_Out8, .string t_In9, .int .i64 n_Read10, .int .i64 n_Status11, .int .i64 n_Code12] →
 ∃ J4 : Bool → World → Prop, (∀ (b21 : Bool) (w20 : World), J4 b21 w20 →
 brB b21
 (K (.bool false) w20)
 (∀ w22 : World, w22 = World.drew w20 →
 ∃ S23 : World → Prop, S23 w22 ∧
 ∃ s24 : Sl, held S23 ⟨b13, 4, none⟩ (s24.val) ∧
 ∃ s25 : Sl, held S23 ⟨b13, 4, none⟩ (s25.val) ∧
 ∃ s26 : Sl, held S23 ⟨b13, 4, none⟩ (s26.val) ∧
 ∃ s27 : Sl, held S23 ⟨b13, 4, none⟩ (s27.val) ∧
 ∃ s28 : Sl, held S23 ⟨b13, 4, none⟩ (s28.val) ∧
 ∃ a29 : Addr, s24.ptr = some a29 ∧ 0 ≤ (192 : Int) ∧ (192 : Int) < (s24.len : Int) ∧
 wrOk w22 (Addr.add a29 (Int.toNat (192 : Int) * 1)) 1 ∧ ∀ w30 : World, w30 = stW w22 (Addr.add a29 (Int.toNat (192 : Int) * 1)) 0 [.int .i64 (2 : Int)] →
 S23 w30 ∧
 ∃ a31 : Addr, s25.ptr = some a31 ∧ 0 ≤ (193 : Int) ∧ (193 : Int) < (s25.len : Int) ∧
 wrOk w30 (Addr.add a31 (Int.toNat (193 : Int) * 1)) 1 ∧ ∀ w32 : World, w32 = stW w30 (Addr.add a31 (Int.toNat (193 : Int) * 1)) 0 [.int .i64 (3 : Int)] →
 S23 w32 ∧
 ∃ a33 : Addr, s26.ptr = some a33 ∧ 0 ≤ (194 : Int) ∧ (194 : Int) < (s26.len : Int) ∧
 wrOk w32 (Addr.add a33 (Int.toNat (194 : Int) * 1)) 1 ∧ ∀ w34 : World, w34 = stW w32 (Addr.add a33 (Int.toNat (194 : Int) * 1)) 0 [.int .i64 (6 : Int)] →
 S23 w34 ∧
 ∃ a35 : Addr, s27.ptr = some a35 ∧ 0 ≤ (195 : Int) ∧ (195 : Int) < (s27.len : Int) ∧
 wrOk w34 (Addr.add a35 (Int.toNat (195 : Int) * 1)) 1 ∧ ∀ w36 : World, w36 = stW w34 (Addr.add a35 (Int.toNat (195 : Int) * 1)) 0 [.int .i64 (13 : Int)] →
 S23 w36 ∧
 ∃ a37 : Addr, s28.ptr = some a37 ∧ 0 ≤ (196 : Int) ∧ (196 : Int) < (s28.len : Int) ∧
 wrOk w36 (Addr.add a37 (Int.toNat (196 : Int) * 1)) 1 ∧ ∀ w38 : World, w38 = stW w36 (Addr.add a37 (Int.toNat (196 : Int) * 1)) 0 [.int .i64 (5 : Int)] →
 ∃ n_Ip39 : Int, ∃ n_Handler40 : Int, ∃ s_Stack41 : Sl, ∃ s_Back42 : Sl, ∃ s_Mem43 : Sl, ∃ t_Out44 : ByteArray, ∃ t_In45 : ByteArray, ∃ n_Read46 : Int, ∃ n_Status47 : Int, ∃ n_Code48 : Int, w38.cell? ⟨b13, 0, none⟩ = some (.int .i64 n_Ip39) ∧ w38.cell? ⟨b13, 1, none⟩ = some (.int .i64 n_Handler40) ∧ w38.cell? ⟨b13, 2, none⟩ = some (s_Stack41.val) ∧ w38.cell? ⟨b13, 3, none⟩ = some (s_Back42.val) ∧ w38.cell? ⟨b13, 4, none⟩ = some (s_Mem43.val) ∧ w38.cell? ⟨b13, 5, none⟩ = some (.string t_Out44) ∧ w38.cell? ⟨b13, 6, none⟩ = some (.string t_In45) ∧ w38.cell? ⟨b13, 7, none⟩ = some (.int .i64 n_Read46) ∧ w38.cell? ⟨b13, 8, none⟩ = some (.int .i64 n_Status47) ∧ w38.cell? ⟨b13, 9, none⟩ = some (.int .i64 n_Code48) ∧
 Calls Tryd.prog fn_inner_Enter #[.agg #[.int .i64 n_Ip39, .int .i64 n_Handler40, s_Stack41.val, s_Back42.val, s_Mem43.val, .string t_Out44, .string t_In45, .int .i64 n_Read46, .int .i64 n_Status47, .int .i64 n_Code48], .int .i64 (192 : Int)] w38 fun e49 w50 => ∃ n_Ip51 : Int, ∃ n_Handler52 : Int, ∃ s_Stack53 : Sl, ∃ s_Back54 : Sl, ∃ s_Mem55 : Sl, ∃ t_Out56 : ByteArray, ∃ t_In57 : ByteArray, ∃ n_Read58 : Int, ∃ n_Status59 : Int, ∃ n_Code60 : Int, e49 = .returned (.agg #[.int .i64 n_Ip51, .int .i64 n_Handler52, s_Stack53.val, s_Back54.val, s_Mem55.val, .string t_Out56, .string t_In57, .int .i64 n_Read58, .int .i64 n_Status59, .int .i64 n_Code60]) ∧
 Calls Tryd.prog fn_inner_Run #[.agg #[.int .i64 n_Ip51, .int .i64 n_Handler52, s_Stack53.val, s_Back54.val, s_Mem55.val, .string t_Out56, .string t_In57, .int .i64 n_Read58, .int .i64 n_Status59, .int .i64 n_Code60], .int .i64 (99 : Int)] w50 fun e61 w62 => ∃ n_Ip63 : Int, ∃ n_Handler64 : Int, ∃ s_Stack65 : Sl, ∃ s_Back66 : Sl, ∃ s_Mem67 : Sl, ∃ t_Out68 : ByteArray, ∃ t_In69 : ByteArray, ∃ n_Read70 : Int, ∃ n_Status71 : Int, ∃ n_Code72 : Int, ∃ n73 : Int, e61 = .returned (.tuple #[.agg #[.int .i64 n_Ip63, .int .i64 n_Handler64, s_Stack65.val, s_Back66.val, s_Mem67.val, .string t_Out68, .string t_In69, .int .i64 n_Read70, .int .i64 n_Status71, .int .i64 n_Code72], .int .i64 n73]) ∧
 ∀ (b74 : Nat) (w75 : World), b74 = w62.heap.size → w75 = World.alloc w62 (.cells #[.int .i64 (0 : Int), .int .i64 (0 : Int), .slice none 0 0, .slice none 0 0, .slice none 0 0, .string (bs []), .string (bs []), .int .i64 (0 : Int), .int .i64 (0 : Int), .int .i64 (0 : Int)] T_api_State) →
 wrOk w75 ⟨b74, 0, none⟩ 10 ∧ ∀ w76 : World, w76 = stW w75 ⟨b74, 0, none⟩ 0 [.int .i64 n_Ip63, .int .i64 n_Handler64, s_Stack65.val, s_Back66.val, s_Mem67.val, .string t_Out68, .string t_In69, .int .i64 n_Read70, .int .i64 n_Status71, .int .i64 n_Code72] →
 ∃ n77 : Int, w76.cell? ⟨b74, 8, none⟩ = some (.int .i64 n77) ∧
 brB (n77 == (1 : Int))
 (∃ s78 : Sl, w76.cell? ⟨b74, 2, none⟩ = some (s78.val) ∧
 brB ((s78.len : Int) == (1 : Int))
 (∃ s79 : Sl, w76.cell? ⟨b74, 2, none⟩ = some (s79.val) ∧
 ∃ a80 : Addr, s79.ptr = some a80 ∧ 0 ≤ (0 : Int) ∧ (0 : Int) < (s79.len : Int) ∧
 ∃ n81 : Int, w76.cell? (Addr.add a80 (Int.toNat (0 : Int) * 1)) = some (.int .i64 n81) ∧
 brB (n81 == (9 : Int))
 (K (.bool (n73 == (94 : Int))) w76)
 (K (.bool false) w76))
 (K (.bool false) w76))
 (K (.bool false) w76))) ∧
 ∃ s16 : Sl, w15.cell? ⟨b13, 4, none⟩ = some (s16.val) ∧
 brB ((s16.len : Int) != (300 : Int))
 (J4 true w15)
 (∃ s17 : Sl, w15.cell? ⟨b13, 4, none⟩ = some (s17.val) ∧
 ∃ a18 : Addr, s17.ptr = some a18 ∧ 0 ≤ (76 : Int) ∧ (76 : Int) < (s17.len : Int) ∧
 ∃ n19 : Int, w15.cell? (Addr.add a18 (Int.toNat (76 : Int) * 1)) = some (.int .i64 n19) ∧
 J4 (n19 != (6 : Int)) w15)
def hollowaylaw9_alive_an : An := ⟨[], [(4, (18, .st 0 (.st 1 (.st 2 (.st 3 (.st 4 (.st 5 (.st 6 (.st 7 (.st 8 (.st 9 (.st 10 (.ef 11 (.st 12 (.ef 13 (.st 14 (.ef 15 (.st 16 (.ef 17 .done))))))))))))))))), 1))], [(3, [(15, .bool)])]⟩
theorem hollowaylaw9_alive_lift  {w : World} {K : Value → World → Prop} (h : hollowaylaw9_alive_sh  w K) : Calls Tryd.prog fn_hollowaylaw9_alive #[] w fun e w' => ∃ v, e = .returned v ∧ K v w' :=
   lift_calls (A := hollowaylaw9_alive_an) (c := bodyOf Tryd.f14) (args := []) orc orc_wide Tryd.func14 (by kernel_rfl) (by kernel_rfl) (Eq.mp (by kernel_rfl : hollowaylaw9_alive_sh  w K = wpc orc Tryd.f14.ntmps hollowaylaw9_alive_an (bodyOf Tryd.f14) (argl 0 []) w (retQ orc Tryd.f14.results.toList K)) h)

-- holloway/hollowaylaw9.plain
def hollowaylaw9_plain_j1 (b18 : Nat) (code1 : Sl) (k31 : Int) (I1 : Int → World → Prop) (μ1 : Int → World → Nat) (w30 : World) (b4 : Nat) (b35 : Bool) (w34 : World) (K : Value → World → Prop) : Prop :=
 brB b35
 (∀ w36 : World, w36 = World.drew w34 →
 ∃ s37 : Sl, held (Lw w36) ⟨b18, 4, none⟩ (s37.val) ∧
 ∃ a38 : Addr, code1.ptr = some a38 ∧ 0 ≤ k31 ∧ k31 < (code1.len : Int) ∧
 ∃ n39 : Int, held (Lw w36) (Addr.add a38 (Int.toNat k31 * 1)) (.int .i64 n39) ∧
 ∃ a40 : Addr, s37.ptr = some a40 ∧ 0 ≤ (wr ((200 : Int) + k31)) ∧ (wr ((200 : Int) + k31)) < (s37.len : Int) ∧
 wrOk w36 (Addr.add a40 (Int.toNat (wr ((200 : Int) + k31)) * 1)) 1 ∧ ∀ w41 : World, w41 = stW w36 (Addr.add a40 (Int.toNat (wr ((200 : Int) + k31)) * 1)) 0 [.int .i64 n39] →
 I1 (wr (k31 + (1 : Int))) w41 ∧ μ1 (wr (k31 + (1 : Int))) w41 < μ1 k31 w30)
 (∃ n_Ip42 : Int, ∃ n_Handler43 : Int, ∃ s_Stack44 : Sl, ∃ s_Back45 : Sl, ∃ s_Mem46 : Sl, ∃ t_Out47 : ByteArray, ∃ t_In48 : ByteArray, ∃ n_Read49 : Int, ∃ n_Status50 : Int, ∃ n_Code51 : Int, w34.cell? ⟨b18, 0, none⟩ = some (.int .i64 n_Ip42) ∧ w34.cell? ⟨b18, 1, none⟩ = some (.int .i64 n_Handler43) ∧ w34.cell? ⟨b18, 2, none⟩ = some (s_Stack44.val) ∧ w34.cell? ⟨b18, 3, none⟩ = some (s_Back45.val) ∧ w34.cell? ⟨b18, 4, none⟩ = some (s_Mem46.val) ∧ w34.cell? ⟨b18, 5, none⟩ = some (.string t_Out47) ∧ w34.cell? ⟨b18, 6, none⟩ = some (.string t_In48) ∧ w34.cell? ⟨b18, 7, none⟩ = some (.int .i64 n_Read49) ∧ w34.cell? ⟨b18, 8, none⟩ = some (.int .i64 n_Status50) ∧ w34.cell? ⟨b18, 9, none⟩ = some (.int .i64 n_Code51) ∧
 wrOk w34 ⟨b4, 0, none⟩ 10 ∧ ∀ w52 : World, w52 = stW w34 ⟨b4, 0, none⟩ 0 [.int .i64 n_Ip42, .int .i64 n_Handler43, s_Stack44.val, s_Back45.val, s_Mem46.val, .string t_Out47, .string t_In48, .int .i64 n_Read49, .int .i64 n_Status50, .int .i64 n_Code51] →
 ∃ r_Ip53 : Int, ∃ r_Handler54 : Int, ∃ r_Stack55 : Sl, ∃ r_Back56 : Sl, ∃ r_Mem57 : Sl, ∃ r_Out58 : ByteArray, ∃ r_In59 : ByteArray, ∃ r_Read60 : Int, ∃ r_Status61 : Int, ∃ r_Code62 : Int, w52.cell? ⟨b4, 0, none⟩ = some (.int .i64 r_Ip53) ∧ w52.cell? ⟨b4, 1, none⟩ = some (.int .i64 r_Handler54) ∧ w52.cell? ⟨b4, 2, none⟩ = some (r_Stack55.val) ∧ w52.cell? ⟨b4, 3, none⟩ = some (r_Back56.val) ∧ w52.cell? ⟨b4, 4, none⟩ = some (r_Mem57.val) ∧ w52.cell? ⟨b4, 5, none⟩ = some (.string r_Out58) ∧ w52.cell? ⟨b4, 6, none⟩ = some (.string r_In59) ∧ w52.cell? ⟨b4, 7, none⟩ = some (.int .i64 r_Read60) ∧ w52.cell? ⟨b4, 8, none⟩ = some (.int .i64 r_Status61) ∧ w52.cell? ⟨b4, 9, none⟩ = some (.int .i64 r_Code62) ∧
 K (.agg #[.int .i64 r_Ip53, .int .i64 r_Handler54, r_Stack55.val, r_Back56.val, r_Mem57.val, .string r_Out58, .string r_In59, .int .i64 r_Read60, .int .i64 r_Status61, .int .i64 r_Code62]) w52)
def hollowaylaw9_plain_sh (code1 : Sl) (stack2 : Sl) (back3 : Sl) (w : World) (K : Value → World → Prop) : Prop :=
 ∀ (b4 : Nat) (w5 : World), b4 = w.heap.size → w5 = World.alloc w (.cells #[.int .i64 (0 : Int), .int .i64 (0 : Int), .slice none 0 0, .slice none 0 0, .slice none 0 0, .string (bs []), .string (bs []), .int .i64 (0 : Int), .int .i64 (0 : Int), .int .i64 (0 : Int)] T_api_State) →
 Calls Tryd.prog fn_hollowayref9_Boot #[.int .i64 (400 : Int), .string (bs [])] w5 fun e6 w7 => ∃ n_Ip8 : Int, ∃ n_Handler9 : Int, ∃ s_Stack10 : Sl, ∃ s_Back11 : Sl, ∃ s_Mem12 : Sl, ∃ t_Out13 : ByteArray, ∃ t_In14 : ByteArray, ∃ n_Read15 : Int, ∃ n_Status16 : Int, ∃ n_Code17 : Int, e6 = .returned (.agg #[.int .i64 n_Ip8, .int .i64 n_Handler9, s_Stack10.val, s_Back11.val, s_Mem12.val, .string t_Out13, .string t_In14, .int .i64 n_Read15, .int .i64 n_Status16, .int .i64 n_Code17]) ∧
 ∀ (b18 : Nat) (w19 : World), b18 = w7.heap.size → w19 = World.alloc w7 (.cells #[.int .i64 (0 : Int), .int .i64 (0 : Int), .slice none 0 0, .slice none 0 0, .slice none 0 0, .string (bs []), .string (bs []), .int .i64 (0 : Int), .int .i64 (0 : Int), .int .i64 (0 : Int)] T_api_State) →
 wrOk w19 ⟨b18, 0, none⟩ 10 ∧ ∀ w20 : World, w20 = stW w19 ⟨b18, 0, none⟩ 0 [.int .i64 n_Ip8, .int .i64 n_Handler9, s_Stack10.val, s_Back11.val, s_Mem12.val, .string t_Out13, .string t_In14, .int .i64 n_Read15, .int .i64 n_Status16, .int .i64 n_Code17] →
 wrOk w20 ⟨b18, 0, none⟩ 1 ∧ ∀ w21 : World, w21 = stW w20 ⟨b18, 0, none⟩ 0 [.int .i64 (200 : Int)] →
 wrOk w21 ⟨b18, 8, none⟩ 1 ∧ ∀ w22 : World, w22 = stW w21 ⟨b18, 8, none⟩ 0 [.int .i64 (0 : Int)] →
 ∀ w23 : World, w23 = World.drew w22 →
 0 ≤ (imin (stack2.len : Int) (40 : Int)) ∧ (imin (stack2.len : Int) (40 : Int)) ≤ (stack2.cap : Int) ∧ 
 0 ≤ (imin (back3.len : Int) (40 : Int)) ∧ (imin (back3.len : Int) (40 : Int)) ≤ (back3.cap : Int) ∧ 
 ∃ s24 : Sl, ∃ w25 : World, (Builtin.append_ #[T_sl_int, T_sl_int] T_sl_int #[.slice none 0 0, (Sl.sub stack2.ptr stack2.cap 0 (Int.toNat (imin (stack2.len : Int) (40 : Int))) 1).val]).run Tryd.prog w23 = .ok (s24.val) w25 ∧
 Tt w25 ∧
 ∃ s26 : Sl, ∃ w27 : World, (Builtin.append_ #[T_sl_int, T_sl_int] T_sl_int #[.slice none 0 0, (Sl.sub back3.ptr back3.cap 0 (Int.toNat (imin (back3.len : Int) (40 : Int))) 1).val]).run Tryd.prog w25 = .ok (s26.val) w27 ∧
 Tt w27 ∧
 wrOk w27 ⟨b18, 2, none⟩ 1 ∧ ∀ w28 : World, w28 = stW w27 ⟨b18, 2, none⟩ 0 [s24.val] →
 wrOk w28 ⟨b18, 3, none⟩ 1 ∧ ∀ w29 : World, w29 = stW w28 ⟨b18, 3, none⟩ 0 [s26.val] →
 ∃ (I1 : Int → World → Prop) (μ1 : Int → World → Nat), I1 (0 : Int) w29 ∧ ∀ (k31 : Int) (w30 : World), I1 k31 w30 →
 brB (decide (k31 < (code1.len : Int)))
 (hollowaylaw9_plain_j1 b18 code1 k31 I1 (μ1) w30 b4 (decide (k31 < (150 : Int))) w30 K)
 (hollowaylaw9_plain_j1 b18 code1 k31 I1 (μ1) w30 b4 false w30 K)
def hollowaylaw9_plain_an : An := ⟨[(5, [(8, .int .i64)])], [(3, (13, .st 0 (.st 1 (.st 2 (.st 3 (.st 4 (.st 6 (.st 7 (.st 8 (.st 9 (.st 10 (.ef 5 (.st 12 (.ef 11 .done)))))))))))), 2)), (7, (9, .st 0 (.st 1 (.st 2 (.st 3 (.st 4 (.st 5 (.st 6 (.st 7 (.st 8 .done)))))))), 0))], []⟩
theorem hollowaylaw9_plain_lift {code1 : Sl} {stack2 : Sl} {back3 : Sl} {w : World} {K : Value → World → Prop} (h : hollowaylaw9_plain_sh code1 stack2 back3 w K) : Calls Tryd.prog fn_hollowaylaw9_plain #[code1.val, stack2.val, back3.val] w fun e w' => ∃ v, e = .returned v ∧ K v w' :=
   lift_calls (A := hollowaylaw9_plain_an) (c := bodyOf Tryd.f19) (args := [code1.val, stack2.val, back3.val]) orc orc_wide Tryd.func19 (by kernel_rfl) (by kernel_rfl) (Eq.mp (by kernel_rfl : hollowaylaw9_plain_sh code1 stack2 back3 w K = wpc orc Tryd.f19.ntmps hollowaylaw9_plain_an (bodyOf Tryd.f19) (argl 0 [code1.val, stack2.val, back3.val]) w (retQ orc Tryd.f19.results.toList K)) h)

end Go.Proofs.YtkjpmkopnkkbmaaDoor

/- Functions of Hollowayref1, read without their frames; that each is enough. Printed by a program of mine (wip/lift/gen.py). -/
set_option maxRecDepth 100000
namespace Go.Proofs.YtkjpmkopnkkbmaaDoor
open Go.RowKit

-- holloway/hollowayref1.Plain
def hollowayref1_Plain_sh (op1 : Int) (w : World) (K : Value → World → Prop) : Prop :=
 Calls Tryd.prog fn_hollowayref1_Op #[.int .i64 op1] w fun e2 w3 => ∃ b4 : Bool, e2 = .returned (.bool b4) ∧
 brB b4
 (brB (op1 != (0 : Int))
 (brB (op1 != (1 : Int))
 (brB (op1 != (45 : Int))
 (K (.bool (op1 != (46 : Int))) w3)
 (K (.bool false) w3))
 (K (.bool false) w3))
 (K (.bool false) w3))
 (K (.bool false) w3)
def hollowayref1_Plain_an : An := ⟨[], [], []⟩
theorem hollowayref1_Plain_lift {op1 : Int} {w : World} {K : Value → World → Prop} (h : hollowayref1_Plain_sh op1 w K) : Calls Tryd.prog fn_hollowayref1_Plain #[.int .i64 op1] w fun e w' => ∃ v, e = .returned v ∧ K v w' :=
   lift_calls (A := hollowayref1_Plain_an) (c := bodyOf Tryd.f38) (args := [.int .i64 op1]) orc orc_wide Tryd.func38 (by kernel_rfl) (by kernel_rfl) (Eq.mp (by kernel_rfl : hollowayref1_Plain_sh op1 w K = wpc orc Tryd.f38.ntmps hollowayref1_Plain_an (bodyOf Tryd.f38) (argl 0 [.int .i64 op1]) w (retQ orc Tryd.f38.results.toList K)) h)

-- holloway/hollowayref1.Arg
def hollowayref1_Arg_sh (op1 : Int) (w : World) (K : Value → World → Prop) : Prop :=
 brB (op1 == (2 : Int))
 (K (.bool true) w)
 (brB (op1 == (3 : Int))
 (K (.bool true) w)
 (brB (op1 == (4 : Int))
 (K (.bool true) w)
 (brB (op1 == (37 : Int))
 (K (.bool true) w)
 (K (.bool (op1 == (38 : Int))) w))))
def hollowayref1_Arg_an : An := ⟨[], [], []⟩
theorem hollowayref1_Arg_lift {op1 : Int} {w : World} {K : Value → World → Prop} (h : hollowayref1_Arg_sh op1 w K) : Calls Tryd.prog fn_hollowayref1_Arg #[.int .i64 op1] w fun e w' => ∃ v, e = .returned v ∧ K v w' :=
   lift_calls (A := hollowayref1_Arg_an) (c := bodyOf Tryd.f39) (args := [.int .i64 op1]) orc orc_wide Tryd.func39 (by kernel_rfl) (by kernel_rfl) (Eq.mp (by kernel_rfl : hollowayref1_Arg_sh op1 w K = wpc orc Tryd.f39.ntmps hollowayref1_Arg_an (bodyOf Tryd.f39) (argl 0 [.int .i64 op1]) w (retQ orc Tryd.f39.results.toList K)) h)

-- holloway/hollowayref1.Op
def hollowayref1_Op_sh (op1 : Int) (w : World) (K : Value → World → Prop) : Prop :=
 brB (decide (op1 ≥ (0 : Int)))
 (K (.bool (decide (op1 < (48 : Int)))) w)
 (K (.bool false) w)
def hollowayref1_Op_an : An := ⟨[], [], []⟩
theorem hollowayref1_Op_lift {op1 : Int} {w : World} {K : Value → World → Prop} (h : hollowayref1_Op_sh op1 w K) : Calls Tryd.prog fn_hollowayref1_Op #[.int .i64 op1] w fun e w' => ∃ v, e = .returned v ∧ K v w' :=
   lift_calls (A := hollowayref1_Op_an) (c := bodyOf Tryd.f48) (args := [.int .i64 op1]) orc orc_wide Tryd.func48 (by kernel_rfl) (by kernel_rfl) (Eq.mp (by kernel_rfl : hollowayref1_Op_sh op1 w K = wpc orc Tryd.f48.ntmps hollowayref1_Op_an (bodyOf Tryd.f48) (argl 0 [.int .i64 op1]) w (retQ orc Tryd.f48.results.toList K)) h)

end Go.Proofs.YtkjpmkopnkkbmaaDoor
