/- The lifted texts of small packages. -/
import Derived.Test.YtkjpmkopnkkbmaaProg
import Derived.Test.YtkjpmkopnkkbmaaJ1
import Derived.Test.YtkjpmkopnkkbmaaJ2

/- What the lift is told of the program: types and functions, each fact proved. Printed by a program of mine (wip/lift/gen.py). -/
set_option maxRecDepth 100000
namespace Go.Proofs.Ytkjpmkopnkkbmaa
open Go.RowKit

@[reducible] def T_x : TypeId := 0
@[reducible] def T_int : TypeId := 3
@[reducible] def T_bool : TypeId := 4
@[reducible] def T_uint8 : TypeId := 5
@[reducible] def T_string : TypeId := 9
@[reducible] def T_sl_int : TypeId := 22
@[reducible] def T_api_State : TypeId := 24
@[reducible] def T_sl_api_Seen : TypeId := 27
@[reducible] def T_api_Recording : TypeId := 29
@[reducible] def T_sl_api_Ins : TypeId := 31
@[reducible] def T_sl_api_Out : TypeId := 32
@[reducible] def T_api_Trace : TypeId := 34
@[reducible] def T_api_Seen : TypeId := 40
@[reducible] def T_map_int_int : TypeId := 48
@[reducible] def T_api_Out : TypeId := 50
@[reducible] def T_build_builder : TypeId := 52
@[reducible] def T_api_Ins : TypeId := 57
@[reducible] def T_build_depth : TypeId := 62
@[reducible] def T_sl_uint8 : TypeId := 77
@[reducible] def T_op_row : TypeId := 84
@[reducible] def T_sl_bool : TypeId := 86
@[reducible] def T_uint64 : TypeId := 88
@[reducible] def T_uint : TypeId := 92
@[reducible] def T_48_op_row : TypeId := 96
@[reducible] def T_uint32 : TypeId := 106
@[reducible] def T_slices_xorshift : TypeId := 108
@[reducible] def fn_hollowaylaw16_BuildStops : FuncId := 3
@[reducible] def fn_hollowayref9_Right : FuncId := 4
@[reducible] def fn_hollowaylaw16_alive : FuncId := 5
@[reducible] def fn_hollowayref9_Record : FuncId := 6
@[reducible] def fn_build_Trace : FuncId := 7
@[reducible] def fn_build_Needs : FuncId := 8
@[reducible] def fn_hollowayref9_Recorded : FuncId := 9
@[reducible] def fn_hollowaylaw16_Frame : FuncId := 10
@[reducible] def fn_hollowayref15_Right : FuncId := 11
@[reducible] def fn_hollowayref1_Plain : FuncId := 12
@[reducible] def fn_hollowayref9_Step : FuncId := 13
@[reducible] def fn_hollowayref9_faults : FuncId := 14
@[reducible] def fn_hollowayref1_Arg : FuncId := 15
@[reducible] def fn_record_Right : FuncId := 16
@[reducible] def fn_record_Cells : FuncId := 17
@[reducible] def fn_build_builder_push : FuncId := 18
@[reducible] def fn_build_builder_ins : FuncId := 19
@[reducible] def fn_build_builder_lay : FuncId := 20
@[reducible] def fn_build_builder_out : FuncId := 21
@[reducible] def fn_build_builder_one : FuncId := 22
@[reducible] def fn_build_builder_add : FuncId := 23
@[reducible] def fn_build_called : FuncId := 24
@[reducible] def fn_build_depth_step : FuncId := 25
@[reducible] def fn_op_Takes : FuncId := 26
@[reducible] def fn_op_Gives : FuncId := 27
@[reducible] def fn_build_ends : FuncId := 28
@[reducible] def fn_hollowayref9_Needs : FuncId := 29
@[reducible] def fn_hollowaybook_SameInts : FuncId := 30
@[reducible] def fn_hollowayref9_Cells : FuncId := 31
@[reducible] def fn_hollowayref15_within : FuncId := 32
@[reducible] def fn_hollowayref1_IsTwo : FuncId := 33
@[reducible] def fn_hollowayref1_IsOne : FuncId := 34
@[reducible] def fn_hollowayref15_named : FuncId := 35
@[reducible] def fn_hollowayref15_Uses : FuncId := 36
@[reducible] def fn_hollowayref15_Outs : FuncId := 37
@[reducible] def fn_hollowayref15_out : FuncId := 38
@[reducible] def fn_hollowayref1_Op : FuncId := 39
@[reducible] def fn_hollowayref9_Copy : FuncId := 40
@[reducible] def fn_hollowayref9_Fault : FuncId := 41
@[reducible] def fn_hollowayref1_Moves : FuncId := 42
@[reducible] def fn_hollowayref1_Two : FuncId := 43
@[reducible] def fn_hollowayref1_One : FuncId := 44
@[reducible] def fn_hollowayref1_Crosses : FuncId := 45
@[reducible] def fn_hollowayref1_Put : FuncId := 46
@[reducible] def fn_record_single : FuncId := 47
@[reducible] def fn_record_arg : FuncId := 48
@[reducible] def fn_slices_Sort_sl_int_int : FuncId := 49
@[reducible] def fn_slices_Compact_sl_int_int : FuncId := 50
@[reducible] def fn_slices_Clone_sl_int_int : FuncId := 51
@[reducible] def fn_build_builder_goes : FuncId := 52
@[reducible] def fn_build_builder_number : FuncId := 53
@[reducible] def fn_build_builder_leads : FuncId := 54
@[reducible] def fn_build_builder_zero : FuncId := 55
@[reducible] def fn_build_builder_loop : FuncId := 56
@[reducible] def fn_build_builder_plain : FuncId := 57
@[reducible] def fn_op_of : FuncId := 58
@[reducible] def fn_hollowayref15_Gives : FuncId := 59
@[reducible] def fn_hollowayref1_Floor : FuncId := 60
@[reducible] def fn_hollowayref1_Flag : FuncId := 61
@[reducible] def fn_record_plain : FuncId := 62
@[reducible] def fn_record_place : FuncId := 63
@[reducible] def fn_op_Arg : FuncId := 64
@[reducible] def fn_slices_pdqsortOrdered_int : FuncId := 65
@[reducible] def fn_math_bits_Len : FuncId := 66
@[reducible] def fn_build_builder_never : FuncId := 67
@[reducible] def fn_build_builder_guard : FuncId := 68
@[reducible] def fn_build_builder_popBack : FuncId := 69
@[reducible] def fn_build_builder_pop : FuncId := 70
@[reducible] def fn_build_builder_which : FuncId := 71
@[reducible] def fn_build_builder_calc : FuncId := 72
@[reducible] def fn_build_builder_shuffle : FuncId := 73
@[reducible] def fn_build_builder_backs : FuncId := 74
@[reducible] def fn_build_builder_leave : FuncId := 75
@[reducible] def fn_build_builder_store : FuncId := 76
@[reducible] def fn_build_builder_reckon : FuncId := 77
@[reducible] def fn_op_Right : FuncId := 78
@[reducible] def fn_op_table : FuncId := 79
@[reducible] def fn_op_Plain : FuncId := 80
@[reducible] def fn_slices_insertionSortOrdered_int : FuncId := 81
@[reducible] def fn_cmp_Less_int : FuncId := 87
@[reducible] def fn_math_bits_Len32 : FuncId := 90
@[reducible] def fn_math_bits_Len64 : FuncId := 91
@[reducible] def fn_cell_One : FuncId := 92
@[reducible] def fn_slices_nextPowerOfTwo : FuncId := 94
@[reducible] def fn_slices_xorshift_Next : FuncId := 95
@[reducible] def fn_cmp_isNaN_int : FuncId := 98
@[reducible] def fn_cell_Flag : FuncId := 99
def orc_ts : List (Nat × Ti) := [(3, ⟨.int .i64, false, [.int .i64]⟩),
  (4, ⟨.bool, false, [.bool]⟩),
  (5, ⟨.int .u8, false, [.int .u8]⟩),
  (9, ⟨.str, false, [.str]⟩),
  (22, ⟨.sl 3, false, [.sl]⟩),
  (24, ⟨.st [(0, 3), (1, 3), (2, 22), (3, 22), (4, 22), (5, 9), (6, 9), (7, 3), (8, 3), (9, 3)], true, [.int .i64, .int .i64, .sl, .sl, .sl, .str, .str, .int .i64, .int .i64, .int .i64]⟩),
  (27, ⟨.sl 40, false, [.sl]⟩),
  (29, ⟨.st [(0, 3), (1, 3), (2, 4), (3, 27)], true, [.int .i64, .int .i64, .bool, .sl]⟩),
  (31, ⟨.sl 57, false, [.sl]⟩),
  (32, ⟨.sl 50, false, [.sl]⟩),
  (34, ⟨.st [(0, 3), (1, 3), (2, 3), (3, 3), (4, 3), (5, 31), (6, 32), (7, 3), (8, 22)], true, [.int .i64, .int .i64, .int .i64, .int .i64, .int .i64, .sl, .sl, .int .i64, .sl]⟩),
  (40, ⟨.st [(0, 3), (1, 3), (2, 3), (3, 3)], true, [.int .i64, .int .i64, .int .i64, .int .i64]⟩),
  (48, ⟨.other, false, [.mp]⟩),
  (50, ⟨.st [(0, 3), (1, 3), (2, 22), (3, 22)], true, [.int .i64, .int .i64, .sl, .sl]⟩),
  (52, ⟨.st [(0, 34), (9, 22), (10, 22), (11, 48), (12, 40), (16, 50), (20, 3)], true, [.int .i64, .int .i64, .int .i64, .int .i64, .int .i64, .sl, .sl, .int .i64, .sl, .sl, .sl, .mp, .int .i64, .int .i64, .int .i64, .int .i64, .int .i64, .int .i64, .sl, .sl, .int .i64]⟩),
  (57, ⟨.st [(0, 3), (1, 3), (2, 3), (3, 3), (4, 3)], true, [.int .i64, .int .i64, .int .i64, .int .i64, .int .i64]⟩),
  (62, ⟨.st [(0, 3), (1, 3), (2, 3)], true, [.int .i64, .int .i64, .int .i64]⟩),
  (77, ⟨.sl 5, false, [.sl]⟩),
  (84, ⟨.st [(0, 9), (1, 3), (2, 3), (3, 3), (4, 3)], true, [.str, .int .i64, .int .i64, .int .i64, .int .i64]⟩),
  (86, ⟨.sl 4, false, [.sl]⟩),
  (88, ⟨.int .u64, false, [.int .u64]⟩),
  (92, ⟨.int .u64, false, [.int .u64]⟩),
  (96, ⟨.arr 48 84, true, [.str, .int .i64, .int .i64, .int .i64, .int .i64, .str, .int .i64, .int .i64, .int .i64, .int .i64, .str, .int .i64, .int .i64, .int .i64, .int .i64, .str, .int .i64, .int .i64, .int .i64, .int .i64, .str, .int .i64, .int .i64, .int .i64, .int .i64, .str, .int .i64, .int .i64, .int .i64, .int .i64, .str, .int .i64, .int .i64, .int .i64, .int .i64, .str, .int .i64, .int .i64, .int .i64, .int .i64, .str, .int .i64, .int .i64, .int .i64, .int .i64, .str, .int .i64, .int .i64, .int .i64, .int .i64, .str, .int .i64, .int .i64, .int .i64, .int .i64, .str, .int .i64, .int .i64, .int .i64, .int .i64, .str, .int .i64, .int .i64, .int .i64, .int .i64, .str, .int .i64, .int .i64, .int .i64, .int .i64, .str, .int .i64, .int .i64, .int .i64, .int .i64, .str, .int .i64, .int .i64, .int .i64, .int .i64, .str, .int .i64, .int .i64, .int .i64, .int .i64, .str, .int .i64, .int .i64, .int .i64, .int .i64, .str, .int .i64, .int .i64, .int .i64, .int .i64, .str, .int .i64, .int .i64, .int .i64, .int .i64, .str, .int .i64, .int .i64, .int .i64, .int .i64, .str, .int .i64, .int .i64, .int .i64, .int .i64, .str, .int .i64, .int .i64, .int .i64, .int .i64, .str, .int .i64, .int .i64, .int .i64, .int .i64, .str, .int .i64, .int .i64, .int .i64, .int .i64, .str, .int .i64, .int .i64, .int .i64, .int .i64, .str, .int .i64, .int .i64, .int .i64, .int .i64, .str, .int .i64, .int .i64, .int .i64, .int .i64, .str, .int .i64, .int .i64, .int .i64, .int .i64, .str, .int .i64, .int .i64, .int .i64, .int .i64, .str, .int .i64, .int .i64, .int .i64, .int .i64, .str, .int .i64, .int .i64, .int .i64, .int .i64, .str, .int .i64, .int .i64, .int .i64, .int .i64, .str, .int .i64, .int .i64, .int .i64, .int .i64, .str, .int .i64, .int .i64, .int .i64, .int .i64, .str, .int .i64, .int .i64, .int .i64, .int .i64, .str, .int .i64, .int .i64, .int .i64, .int .i64, .str, .int .i64, .int .i64, .int .i64, .int .i64, .str, .int .i64, .int .i64, .int .i64, .int .i64, .str, .int .i64, .int .i64, .int .i64, .int .i64, .str, .int .i64, .int .i64, .int .i64, .int .i64, .str, .int .i64, .int .i64, .int .i64, .int .i64, .str, .int .i64, .int .i64, .int .i64, .int .i64, .str, .int .i64, .int .i64, .int .i64, .int .i64, .str, .int .i64, .int .i64, .int .i64, .int .i64, .str, .int .i64, .int .i64, .int .i64, .int .i64, .str, .int .i64, .int .i64, .int .i64, .int .i64, .str, .int .i64, .int .i64, .int .i64, .int .i64]⟩),
  (106, ⟨.int .u32, false, [.int .u32]⟩),
  (108, ⟨.int .u64, false, [.int .u64]⟩)]
theorem orc_tok : AllTi Try.prog orc_ts := ⟨⟨⟨_, Try.runUnderlying3, rfl⟩, Try.isAgg3, Try.sizeOf3⟩,
  ⟨⟨_, Try.runUnderlying4, rfl⟩, Try.isAgg4, Try.sizeOf4⟩,
  ⟨⟨_, Try.runUnderlying5, rfl⟩, Try.isAgg5, Try.sizeOf5⟩,
  ⟨⟨_, Try.runUnderlying9, rfl⟩, Try.isAgg9, Try.sizeOf9⟩,
  ⟨⟨_, Try.runUnderlying22, rfl⟩, Try.isAgg22, Try.sizeOf22⟩,
  ⟨⟨_, Try.runUnderlying24, ⟨_, rfl, rfl⟩⟩, Try.isAgg24, Try.sizeOf24⟩,
  ⟨⟨_, Try.runUnderlying27, rfl⟩, Try.isAgg27, Try.sizeOf27⟩,
  ⟨⟨_, Try.runUnderlying29, ⟨_, rfl, rfl⟩⟩, Try.isAgg29, Try.sizeOf29⟩,
  ⟨⟨_, Try.runUnderlying31, rfl⟩, Try.isAgg31, Try.sizeOf31⟩,
  ⟨⟨_, Try.runUnderlying32, rfl⟩, Try.isAgg32, Try.sizeOf32⟩,
  ⟨⟨_, Try.runUnderlying34, ⟨_, rfl, rfl⟩⟩, Try.isAgg34, Try.sizeOf34⟩,
  ⟨⟨_, Try.runUnderlying40, ⟨_, rfl, rfl⟩⟩, Try.isAgg40, Try.sizeOf40⟩,
  ⟨⟨_, Try.runUnderlying48, trivial⟩, Try.isAgg48, Try.sizeOf48⟩,
  ⟨⟨_, Try.runUnderlying50, ⟨_, rfl, rfl⟩⟩, Try.isAgg50, Try.sizeOf50⟩,
  ⟨⟨_, Try.runUnderlying52, ⟨_, rfl, rfl⟩⟩, Try.isAgg52, Try.sizeOf52⟩,
  ⟨⟨_, Try.runUnderlying57, ⟨_, rfl, rfl⟩⟩, Try.isAgg57, Try.sizeOf57⟩,
  ⟨⟨_, Try.runUnderlying62, ⟨_, rfl, rfl⟩⟩, Try.isAgg62, Try.sizeOf62⟩,
  ⟨⟨_, Try.runUnderlying77, rfl⟩, Try.isAgg77, Try.sizeOf77⟩,
  ⟨⟨_, Try.runUnderlying84, ⟨_, rfl, rfl⟩⟩, Try.isAgg84, Try.sizeOf84⟩,
  ⟨⟨_, Try.runUnderlying86, rfl⟩, Try.isAgg86, Try.sizeOf86⟩,
  ⟨⟨_, Try.runUnderlying88, rfl⟩, Try.isAgg88, Try.sizeOf88⟩,
  ⟨⟨_, Try.runUnderlying92, rfl⟩, Try.isAgg92, Try.sizeOf92⟩,
  ⟨⟨_, Try.runUnderlying96, rfl⟩, Try.isAgg96, Try.sizeOf96⟩,
  ⟨⟨_, Try.runUnderlying106, rfl⟩, Try.isAgg106, Try.sizeOf106⟩,
  ⟨⟨_, Try.runUnderlying108, rfl⟩, Try.isAgg108, Try.sizeOf108⟩, trivial⟩
def orc_sg : List (Nat × List (Bool × List Kd)) := [(3, [(false, [.bool])]),
  (4, [(false, [.bool])]),
  (5, [(false, [.bool])]),
  (6, [(true, [.int .i64, .int .i64, .bool, .sl])]),
  (7, [(true, [.int .i64, .int .i64, .int .i64, .int .i64, .int .i64, .sl, .sl, .int .i64, .sl]), (false, [.bool])]),
  (8, [(false, [.int .i64]), (false, [.int .i64]), (false, [.int .i64]), (false, [.int .i64])]),
  (9, [(false, [.bool])]),
  (10, [(false, [.bool])]),
  (11, [(false, [.bool])]),
  (12, [(false, [.bool])]),
  (13, [(true, [.int .i64, .int .i64, .sl, .sl, .sl, .str, .str, .int .i64, .int .i64, .int .i64])]),
  (14, [(false, [.bool])]),
  (15, [(false, [.bool])]),
  (16, [(false, [.bool])]),
  (17, [(false, [.sl])]),
  (18, []),
  (19, [(false, [.int .i64])]),
  (20, []),
  (21, [(true, [.int .i64, .int .i64, .sl, .sl])]),
  (22, []),
  (23, [(false, [.int .i64])]),
  (24, [(false, [.bool])]),
  (25, []),
  (26, [(false, [.int .i64]), (false, [.int .i64])]),
  (27, [(false, [.int .i64]), (false, [.int .i64])]),
  (28, [(false, [.bool])]),
  (29, [(false, [.int .i64]), (false, [.int .i64]), (false, [.int .i64]), (false, [.int .i64])]),
  (30, [(false, [.bool])]),
  (31, [(false, [.sl])]),
  (32, [(false, [.bool])]),
  (33, [(false, [.bool])]),
  (34, [(false, [.bool])]),
  (35, [(false, [.bool])]),
  (36, [(false, [.sl])]),
  (37, [(false, [.sl])]),
  (38, [(false, [.bool])]),
  (39, [(false, [.bool])]),
  (40, [(true, [.int .i64, .int .i64, .sl, .sl, .sl, .str, .str, .int .i64, .int .i64, .int .i64])]),
  (41, [(true, [.int .i64, .int .i64, .sl, .sl, .sl, .str, .str, .int .i64, .int .i64, .int .i64])]),
  (42, [(false, [.int .i64]), (false, [.int .i64]), (false, [.int .i64]), (false, [.int .i64])]),
  (43, [(false, [.int .i64]), (false, [.bool])]),
  (44, [(false, [.int .i64]), (false, [.bool])]),
  (45, [(false, [.bool])]),
  (46, [(false, [.str])]),
  (47, [(false, [.bool])]),
  (48, [(false, [.bool])]),
  (49, []),
  (50, [(false, [.sl])]),
  (51, [(false, [.sl])]),
  (52, []),
  (53, [(false, [.int .i64])]),
  (54, []),
  (55, []),
  (56, []),
  (57, []),
  (58, [(true, [.str, .int .i64, .int .i64, .int .i64, .int .i64])]),
  (59, [(false, [.bool])]),
  (60, [(false, [.int .i64]), (false, [.int .i64])]),
  (61, [(false, [.int .i64])]),
  (62, [(false, [.bool])]),
  (63, [(false, [.bool])]),
  (64, [(false, [.bool])]),
  (65, []),
  (66, [(false, [.int .i64])]),
  (67, []),
  (68, []),
  (69, [(false, [.int .i64])]),
  (70, [(false, [.int .i64])]),
  (71, []),
  (72, [(false, [.int .i64])]),
  (73, []),
  (74, []),
  (75, [(false, [.int .i64])]),
  (76, []),
  (77, []),
  (78, [(false, [.bool])]),
  (79, [(false, [.val])]),
  (80, [(false, [.bool])]),
  (81, []),
  (87, [(false, [.bool])]),
  (90, [(false, [.int .i64])]),
  (91, [(false, [.int .i64])]),
  (92, [(false, [.int .i64]), (false, [.bool])]),
  (94, [(false, [.int .u64])]),
  (95, [(false, [.int .u64])]),
  (98, [(false, [.bool])]),
  (99, [(false, [.int .i64])])]
theorem orc_sok : AllSg Try.prog orc_sg := ⟨Try.call3,
  Try.call4,
  Try.call5,
  Try.call6,
  Try.call7,
  Try.call8,
  Try.call9,
  Try.call10,
  Try.call11,
  Try.call12,
  Try.call13,
  Try.call14,
  Try.call15,
  Try.call16,
  Try.call17,
  Try.call18,
  Try.call19,
  Try.call20,
  Try.call21,
  Try.call22,
  Try.call23,
  Try.call24,
  Try.call25,
  Try.call26,
  Try.call27,
  Try.call28,
  Try.call29,
  Try.call30,
  Try.call31,
  Try.call32,
  Try.call33,
  Try.call34,
  Try.call35,
  Try.call36,
  Try.call37,
  Try.call38,
  Try.call39,
  Try.call40,
  Try.call41,
  Try.call42,
  Try.call43,
  Try.call44,
  Try.call45,
  Try.call46,
  Try.call47,
  Try.call48,
  Try.call49,
  Try.call50,
  Try.call51,
  Try.call52,
  Try.call53,
  Try.call54,
  Try.call55,
  Try.call56,
  Try.call57,
  Try.call58,
  Try.call59,
  Try.call60,
  Try.call61,
  Try.call62,
  Try.call63,
  Try.call64,
  Try.call65,
  Try.call66,
  Try.call67,
  Try.call68,
  Try.call69,
  Try.call70,
  Try.call71,
  Try.call72,
  Try.call73,
  Try.call74,
  Try.call75,
  Try.call76,
  Try.call77,
  Try.call78,
  Try.call79,
  Try.call80,
  Try.call81,
  Try.call87,
  Try.call90,
  Try.call91,
  Try.call92,
  Try.call94,
  Try.call95,
  Try.call98,
  Try.call99, trivial⟩
def orc : Orc Try.prog := ⟨orc_ts, allTi_of orc_tok, orc_sg, allSg_of orc_sok⟩
theorem orc_wide : Try.prog.follows .mixedOrders = true := by kernel_rfl
end Go.Proofs.Ytkjpmkopnkkbmaa

/- Functions of Slices, read without their frames; that each is enough. Printed by a program of mine (wip/lift/gen.py). -/
set_option maxRecDepth 100000
namespace Go.Proofs.Ytkjpmkopnkkbmaa
open Go.RowKit

-- slices.Sort[[]int,int]
def slices_Sort_sl_int_int_sh (x_1 : Sl) (w : World) (K : Value → World → Prop) : Prop :=
 Calls Try.prog fn_math_bits_Len #[.int .u64 (IntKind.wrap .u64 (x_1.len : Int))] w fun e2 w3 => ∃ n4 : Int, e2 = .returned (.int .i64 n4) ∧
 Calls Try.prog fn_slices_pdqsortOrdered_int #[x_1.val, .int .i64 (0 : Int), .int .i64 (x_1.len : Int), .int .i64 n4] w3 fun e5 w6 => e5 = .returned (.tuple #[]) ∧
 K (.tuple #[]) w6
def slices_Sort_sl_int_int_an : An := ⟨[], [], []⟩
theorem slices_Sort_sl_int_int_lift {x_1 : Sl} {w : World} {K : Value → World → Prop} (h : slices_Sort_sl_int_int_sh x_1 w K) : Calls Try.prog fn_slices_Sort_sl_int_int #[x_1.val] w fun e w' => ∃ v, e = .returned v ∧ K v w' :=
   lift_calls (A := slices_Sort_sl_int_int_an) (c := bodyOf Try.f49) (args := [x_1.val]) orc orc_wide Try.func49 (by kernel_rfl) (by kernel_rfl) (Eq.mp (by kernel_rfl : slices_Sort_sl_int_int_sh x_1 w K = wpc orc Try.f49.ntmps slices_Sort_sl_int_int_an (bodyOf Try.f49) (argl 0 [x_1.val]) w (retQ orc Try.f49.results.toList K)) h)

-- slices.Compact[[]int,int]
def slices_Compact_sl_int_int_sh (s_1 : Sl) (w : World) (K : Value → World → Prop) : Prop :=
 brB (decide ((s_1.len : Int) < (2 : Int)))
 (K (s_1.val) w)
 (∃ (I1 : Int → World → Prop) (μ1 : Int → World → Nat), I1 (1 : Int) w ∧ ∀ (k3 : Int) (w2 : World), I1 k3 w2 →
 brB (decide (k3 < (s_1.len : Int)))
 (∀ w4 : World, w4 = World.drew w2 →
 ∃ a5 : Addr, s_1.ptr = some a5 ∧ 0 ≤ k3 ∧ k3 < (s_1.len : Int) ∧
 ∃ n6 : Int, held (Lw w4) (Addr.add a5 (Int.toNat k3 * 1)) (.int .i64 n6) ∧
 ∃ a7 : Addr, s_1.ptr = some a7 ∧ 0 ≤ (wr (k3 - (1 : Int))) ∧ (wr (k3 - (1 : Int))) < (s_1.len : Int) ∧
 ∃ n8 : Int, held (Lw w4) (Addr.add a7 (Int.toNat (wr (k3 - (1 : Int))) * 1)) (.int .i64 n8) ∧
 brB (n6 == n8)
 (0 ≤ k3 ∧ k3 ≤ (s_1.len : Int) ∧ ∀ s9 : Sl, s9 = Sl.sub s_1.ptr s_1.cap (Int.toNat k3) s_1.len 1 →
 ∃ (I2 : Int → Int → World → Prop) (μ2 : Int → Int → World → Nat), I2 k3 (1 : Int) w4 ∧ ∀ (k17 : Int) (k2_11 : Int) (w10 : World), I2 k17 k2_11 w10 →
 brB (decide (k2_11 < (s9.len : Int)))
 (∃ J16 : Int → World → Prop, (∀ (k27 : Int) (w22 : World), J16 k27 w22 →
 I2 k27 (wr (k2_11 + (1 : Int))) w22 ∧ μ2 k27 (wr (k2_11 + (1 : Int))) w22 < μ2 k17 k2_11 w10) ∧
 ∀ w12 : World, w12 = World.drew w10 →
 ∃ a13 : Addr, s9.ptr = some a13 ∧ 0 ≤ k2_11 ∧ k2_11 < (s9.len : Int) ∧
 ∃ n14 : Int, held (Lw w12) (Addr.add a13 (Int.toNat k2_11 * 1)) (.int .i64 n14) ∧
 ∃ a15 : Addr, s9.ptr = some a15 ∧ 0 ≤ (wr (k2_11 - (1 : Int))) ∧ (wr (k2_11 - (1 : Int))) < (s9.len : Int) ∧
 ∃ n16 : Int, held (Lw w12) (Addr.add a15 (Int.toNat (wr (k2_11 - (1 : Int))) * 1)) (.int .i64 n16) ∧
 brB (n14 != n16)
 (∃ a18 : Addr, s9.ptr = some a18 ∧ 0 ≤ k2_11 ∧ k2_11 < (s9.len : Int) ∧
 ∃ n19 : Int, w12.cell? (Addr.add a18 (Int.toNat k2_11 * 1)) = some (.int .i64 n19) ∧
 ∃ a20 : Addr, s_1.ptr = some a20 ∧ 0 ≤ k17 ∧ k17 < (s_1.len : Int) ∧
 wrOk w12 (Addr.add a20 (Int.toNat k17 * 1)) 1 ∧ ∀ w21 : World, w21 = stW w12 (Addr.add a20 (Int.toNat k17 * 1)) 0 [.int .i64 n19] →
 J16 (wr (k17 + (1 : Int))) w21)
 (J16 k17 w12))
 (0 ≤ k17 ∧ k17 ≤ (s_1.len : Int) ∧ ∀ s23 : Sl, s23 = Sl.sub s_1.ptr s_1.cap (Int.toNat k17) s_1.len 1 →
 ∃ v24 : Value, ∃ w25 : World, (Builtin.clear_ #[T_sl_int] T_x #[s23.val]).run Try.prog w10 = .ok v24 w25 ∧
 0 ≤ k17 ∧ k17 ≤ (s_1.cap : Int) ∧ ∀ s26 : Sl, s26 = Sl.sub s_1.ptr s_1.cap 0 (Int.toNat k17) 1 →
 K (s26.val) w25))
 (I1 (wr (k3 + (1 : Int))) w4 ∧ μ1 (wr (k3 + (1 : Int))) w4 < μ1 k3 w2))
 (K (s_1.val) w2))
def slices_Compact_sl_int_int_an : An := ⟨[(4, [(3, .int .i64)]), (9, [(3, .int .i64), (5, .int .i64)])], [(6, (10, .st 0 (.st 1 (.st 2 (.st 3 (.st 4 (.st 5 (.st 6 (.st 7 (.st 8 (.st 9 .done))))))))), 0)), (11, (10, .st 0 (.st 1 (.st 2 (.st 3 (.st 4 (.st 5 (.st 6 (.st 7 (.st 8 (.st 9 .done))))))))), 0))], [(10, [(3, .int .i64)])]⟩
theorem slices_Compact_sl_int_int_lift {s_1 : Sl} {w : World} {K : Value → World → Prop} (h : slices_Compact_sl_int_int_sh s_1 w K) : Calls Try.prog fn_slices_Compact_sl_int_int #[s_1.val] w fun e w' => ∃ v, e = .returned v ∧ K v w' :=
   lift_calls (A := slices_Compact_sl_int_int_an) (c := bodyOf Try.f50) (args := [s_1.val]) orc orc_wide Try.func50 (by kernel_rfl) (by kernel_rfl) (Eq.mp (by kernel_rfl : slices_Compact_sl_int_int_sh s_1 w K = wpc orc Try.f50.ntmps slices_Compact_sl_int_int_an (bodyOf Try.f50) (argl 0 [s_1.val]) w (retQ orc Try.f50.results.toList K)) h)

-- slices.Clone[[]int,int]
def slices_Clone_sl_int_int_sh (s_1 : Sl) (w : World) (K : Value → World → Prop) : Prop :=
 brB (Option.isNone s_1.ptr)
 (K (.slice none 0 0) w)
 (∀ (b2 : Nat) (w3 : World), b2 = w.heap.size → w3 = World.alloc w (.cells #[] T_int) →
 ∃ s4 : Sl, ∃ w5 : World, (Builtin.append_ #[T_sl_int, T_sl_int] T_sl_int #[.slice (some ⟨b2, 0, none⟩) 0 0, s_1.val]).run Try.prog w3 = .ok (s4.val) w5 ∧
 K (s4.val) w5)
def slices_Clone_sl_int_int_an : An := ⟨[], [], []⟩
theorem slices_Clone_sl_int_int_lift {s_1 : Sl} {w : World} {K : Value → World → Prop} (h : slices_Clone_sl_int_int_sh s_1 w K) : Calls Try.prog fn_slices_Clone_sl_int_int #[s_1.val] w fun e w' => ∃ v, e = .returned v ∧ K v w' :=
   lift_calls (A := slices_Clone_sl_int_int_an) (c := bodyOf Try.f51) (args := [s_1.val]) orc orc_wide Try.func51 (by kernel_rfl) (by kernel_rfl) (Eq.mp (by kernel_rfl : slices_Clone_sl_int_int_sh s_1 w K = wpc orc Try.f51.ntmps slices_Clone_sl_int_int_an (bodyOf Try.f51) (argl 0 [s_1.val]) w (retQ orc Try.f51.results.toList K)) h)

-- slices.insertionSortOrdered[int]
def slices_insertionSortOrdered_int_j1 (data1 : Sl) (j8 : Int) (I2 : Int → World → Prop) (μ2 : Int → World → Nat) (w6 : World) (I1 : Int → World → Prop) (i5 : Int) (μ1 : Int → World → Nat) (w4 : World) (b19 : Bool) (w18 : World) (_K : Value → World → Prop) : Prop :=
 brB b19
 (∀ w20 : World, w20 = World.drew w18 →
 ∃ S21 : World → Prop, S21 w20 ∧
 ∃ a22 : Addr, data1.ptr = some a22 ∧ 0 ≤ (wr (j8 - (1 : Int))) ∧ (wr (j8 - (1 : Int))) < (data1.len : Int) ∧
 ∃ n23 : Int, held S21 (Addr.add a22 (Int.toNat (wr (j8 - (1 : Int))) * 1)) (.int .i64 n23) ∧
 ∃ a24 : Addr, data1.ptr = some a24 ∧ 0 ≤ j8 ∧ j8 < (data1.len : Int) ∧
 ∃ n25 : Int, held S21 (Addr.add a24 (Int.toNat j8 * 1)) (.int .i64 n25) ∧
 ∃ a26 : Addr, data1.ptr = some a26 ∧ 0 ≤ j8 ∧ j8 < (data1.len : Int) ∧
 wrOk w20 (Addr.add a26 (Int.toNat j8 * 1)) 1 ∧ ∀ w27 : World, w27 = stW w20 (Addr.add a26 (Int.toNat j8 * 1)) 0 [.int .i64 n23] →
 S21 w27 ∧
 ∃ a28 : Addr, data1.ptr = some a28 ∧ 0 ≤ (wr (j8 - (1 : Int))) ∧ (wr (j8 - (1 : Int))) < (data1.len : Int) ∧
 wrOk w27 (Addr.add a28 (Int.toNat (wr (j8 - (1 : Int))) * 1)) 1 ∧ ∀ w29 : World, w29 = stW w27 (Addr.add a28 (Int.toNat (wr (j8 - (1 : Int))) * 1)) 0 [.int .i64 n25] →
 I2 (wr (j8 - (1 : Int))) w29 ∧ μ2 (wr (j8 - (1 : Int))) w29 < μ2 j8 w6)
 (I1 (wr (i5 + (1 : Int))) w18 ∧ μ1 (wr (i5 + (1 : Int))) w18 < μ1 i5 w4)
def slices_insertionSortOrdered_int_sh (data1 : Sl) (a_2 : Int) (b_3 : Int) (w : World) (K : Value → World → Prop) : Prop :=
 ∃ (I1 : Int → World → Prop) (μ1 : Int → World → Nat), I1 (wr (a_2 + (1 : Int))) w ∧ ∀ (i5 : Int) (w4 : World), I1 i5 w4 →
 brB (decide (i5 < b_3))
 (∃ (I2 : Int → World → Prop) (μ2 : Int → World → Nat), I2 i5 w4 ∧ ∀ (j8 : Int) (w6 : World), I2 j8 w6 →
 ∀ w7 : World, w7 = World.drew w6 →
 brB (decide (j8 > a_2))
 (∃ a9 : Addr, data1.ptr = some a9 ∧ 0 ≤ j8 ∧ j8 < (data1.len : Int) ∧
 ∃ n10 : Int, held (Lw w7) (Addr.add a9 (Int.toNat j8 * 1)) (.int .i64 n10) ∧
 ∃ a11 : Addr, data1.ptr = some a11 ∧ 0 ≤ (wr (j8 - (1 : Int))) ∧ (wr (j8 - (1 : Int))) < (data1.len : Int) ∧
 ∃ n12 : Int, held (Lw w7) (Addr.add a11 (Int.toNat (wr (j8 - (1 : Int))) * 1)) (.int .i64 n12) ∧
 Calls Try.prog fn_cmp_Less_int #[.int .i64 n10, .int .i64 n12] w7 fun e13 w14 => ∃ b15 : Bool, e13 = .returned (.bool b15) ∧
 slices_insertionSortOrdered_int_j1 data1 j8 I2 (μ2) w6 I1 i5 (μ1) w4 b15 w14 K)
 (slices_insertionSortOrdered_int_j1 data1 j8 I2 (μ2) w6 I1 i5 (μ1) w4 false w7 K))
 (K (.tuple #[]) w4)
def slices_insertionSortOrdered_int_an : An := ⟨[(1, [(6, .int .i64)]), (4, [(7, .int .i64)])], [(4, (13, .st 0 (.st 1 (.st 2 (.st 3 (.st 4 (.st 5 (.st 6 (.st 7 (.st 8 (.st 9 (.st 10 (.st 11 (.st 12 .done)))))))))))), 0)), (6, (16, .st 0 (.st 1 (.st 2 (.st 3 (.st 4 (.st 5 (.st 6 (.st 7 (.st 8 (.st 9 (.st 10 (.st 11 (.st 12 (.st 13 (.st 14 (.ef 15 .done))))))))))))))), 1))], []⟩
theorem slices_insertionSortOrdered_int_lift {data1 : Sl} {a_2 : Int} {b_3 : Int} {w : World} {K : Value → World → Prop} (h : slices_insertionSortOrdered_int_sh data1 a_2 b_3 w K) : Calls Try.prog fn_slices_insertionSortOrdered_int #[data1.val, .int .i64 a_2, .int .i64 b_3] w fun e w' => ∃ v, e = .returned v ∧ K v w' :=
   lift_calls (A := slices_insertionSortOrdered_int_an) (c := bodyOf Try.f81) (args := [data1.val, .int .i64 a_2, .int .i64 b_3]) orc orc_wide Try.func81 (by kernel_rfl) (by kernel_rfl) (Eq.mp (by kernel_rfl : slices_insertionSortOrdered_int_sh data1 a_2 b_3 w K = wpc orc Try.f81.ntmps slices_insertionSortOrdered_int_an (bodyOf Try.f81) (argl 0 [data1.val, .int .i64 a_2, .int .i64 b_3]) w (retQ orc Try.f81.results.toList K)) h)

-- slices.nextPowerOfTwo
def slices_nextPowerOfTwo_sh (length1 : Int) (w : World) (K : Value → World → Prop) : Prop :=
 Calls Try.prog fn_math_bits_Len #[.int .u64 (IntKind.wrap .u64 length1)] w fun e2 w3 => ∃ n4 : Int, e2 = .returned (.int .i64 n4) ∧
 0 ≤ n4 ∧ K (.int .u64 (ishl .u64 (1 : Int) n4)) w3
def slices_nextPowerOfTwo_an : An := ⟨[], [], []⟩
theorem slices_nextPowerOfTwo_lift {length1 : Int} {w : World} {K : Value → World → Prop} (h : slices_nextPowerOfTwo_sh length1 w K) : Calls Try.prog fn_slices_nextPowerOfTwo #[.int .i64 length1] w fun e w' => ∃ v, e = .returned v ∧ K v w' :=
   lift_calls (A := slices_nextPowerOfTwo_an) (c := bodyOf Try.f94) (args := [.int .i64 length1]) orc orc_wide Try.func94 (by kernel_rfl) (by kernel_rfl) (Eq.mp (by kernel_rfl : slices_nextPowerOfTwo_sh length1 w K = wpc orc Try.f94.ntmps slices_nextPowerOfTwo_an (bodyOf Try.f94) (argl 0 [.int .i64 length1]) w (retQ orc Try.f94.results.toList K)) h)

-- (*slices.xorshift).Next
def slices_xorshift_Next_sh (r_1 : Nat) (w : World) (K : Value → World → Prop) : Prop :=
 ∀ w2 : World, w2 = World.drew w →
 ∃ n3 : Int, held (Lw w2) ⟨r_1, 0, none⟩ (.int .u64 n3) ∧
 ∃ n4 : Int, held (Lw w2) ⟨r_1, 0, none⟩ (.int .u64 n4) ∧
 0 ≤ (13 : Int) ∧ wrOk w2 ⟨r_1, 0, none⟩ 1 ∧ ∀ w5 : World, w5 = stW w2 ⟨r_1, 0, none⟩ 0 [.int .u64 (ixor .u64 n3 (ishl .u64 n4 (13 : Int)))] →
 ∀ w6 : World, w6 = World.drew w5 →
 ∃ n7 : Int, held (Lw w6) ⟨r_1, 0, none⟩ (.int .u64 n7) ∧
 ∃ n8 : Int, held (Lw w6) ⟨r_1, 0, none⟩ (.int .u64 n8) ∧
 0 ≤ (7 : Int) ∧ wrOk w6 ⟨r_1, 0, none⟩ 1 ∧ ∀ w9 : World, w9 = stW w6 ⟨r_1, 0, none⟩ 0 [.int .u64 (ixor .u64 n7 (ishr .u64 n8 (7 : Int)))] →
 ∀ w10 : World, w10 = World.drew w9 →
 ∃ n11 : Int, held (Lw w10) ⟨r_1, 0, none⟩ (.int .u64 n11) ∧
 ∃ n12 : Int, held (Lw w10) ⟨r_1, 0, none⟩ (.int .u64 n12) ∧
 0 ≤ (17 : Int) ∧ wrOk w10 ⟨r_1, 0, none⟩ 1 ∧ ∀ w13 : World, w13 = stW w10 ⟨r_1, 0, none⟩ 0 [.int .u64 (ixor .u64 n11 (ishl .u64 n12 (17 : Int)))] →
 ∃ n14 : Int, w13.cell? ⟨r_1, 0, none⟩ = some (.int .u64 n14) ∧
 K (.int .u64 n14) w13
def slices_xorshift_Next_an : An := ⟨[], [(1, (9, .st 0 (.st 1 (.st 2 (.st 3 (.st 4 (.st 5 (.st 6 (.st 7 (.st 8 .done)))))))), 0)), (2, (9, .st 0 (.st 1 (.st 2 (.st 3 (.st 4 (.st 5 (.st 6 (.st 7 (.st 8 .done)))))))), 0)), (3, (9, .st 0 (.st 1 (.st 2 (.st 3 (.st 4 (.st 5 (.st 6 (.st 7 (.st 8 .done)))))))), 0))], []⟩
theorem slices_xorshift_Next_lift {r_1 : Nat} {w : World} {K : Value → World → Prop} (h : slices_xorshift_Next_sh r_1 w K) : Calls Try.prog fn_slices_xorshift_Next #[.pointer (some ⟨r_1, 0, none⟩)] w fun e w' => ∃ v, e = .returned v ∧ K v w' :=
   lift_calls (A := slices_xorshift_Next_an) (c := bodyOf Try.f95) (args := [.pointer (some ⟨r_1, 0, none⟩)]) orc orc_wide Try.func95 (by kernel_rfl) (by kernel_rfl) (Eq.mp (by kernel_rfl : slices_xorshift_Next_sh r_1 w K = wpc orc Try.f95.ntmps slices_xorshift_Next_an (bodyOf Try.f95) (argl 0 [.pointer (some ⟨r_1, 0, none⟩)]) w (retQ orc Try.f95.results.toList K)) h)

end Go.Proofs.Ytkjpmkopnkkbmaa

/- Numbers as elements of lists; slices.Clone. -/
set_option maxRecDepth 100000
namespace Go.Proofs.Ytkjpmkopnkkbmaa
open Go.RowKit

def intE : Enc Int := ⟨T_int, 1, 8, fun n => [.int .i64 n], by intro x; rfl, by intro x u hu; simp at hu; subst hu; rfl, by decide⟩
theorem intOk : EncOk Try.prog intE T_sl_int := EncOk.of (z := .int .i64 0) (by kernel_rfl) (by kernel_rfl) (by kernel_rfl)
/-! ### slices.Clone -/
theorem Rd.none {α : Type} {E : Enc α} {w : World} {s : Sl} {xs : List α} (h : Rd E w s xs) (hp : s.ptr = none) : xs = [] ∧ s.cap = 0 := by
  obtain ⟨ao, cap, he, _, _, h5, _⟩ := h
  have hq : s.ptr = ao ∧ s.cap = cap := by cases s; simp [Sl.val] at he; exact ⟨he.1, he.2.2⟩
  have := h5 (hq.1.symm.trans hp)
  exact ⟨List.eq_nil_of_length_eq_zero this.1, hq.2.trans this.2⟩
theorem clone_core {α : Type} {P : Program} {E : Enc α} {T : TypeId} (ok : EncOk P E T) (hby : E.bytes ≤ 1000) {w : World} {s : Sl} {xs : List α} (h : Rd E w s xs) (hsm : xs.length ≤ 1000000000) {K : Value → World → Prop}
    (k : ∀ (s' : Sl) (w' : World), Ow E w' s' xs → Chg No w w' → (∀ k, s'.blk = some k → w.heap.size ≤ k) → (s.ptr = none → s' = nilS) → K s'.val w') :
    brB (Option.isNone s.ptr) (K (.slice none 0 0) w) (∀ (b2 : Nat) (w3 : World), b2 = w.heap.size → w3 = World.alloc w (.cells #[] E.t) →
      ∃ s4 : Sl, ∃ w5 : World, (Builtin.append_ #[T, T] T #[.slice (some ⟨b2, 0, none⟩) 0 0, s.val]).run P w3 = .ok (s4.val) w5 ∧ K (s4.val) w5) := by
  refine brB_of (fun hp => ?_) (fun hp => ?_)
  · have hp : s.ptr = Option.none := by cases h : s.ptr with
      | none => rfl
      | some a => rw [h] at hp; cases hp
    obtain ⟨rfl, _⟩ := h.none hp
    exact k nilS w (Ow.nil E w) (Chg.refl _ _) (fun k hk => by cases hk) (fun _ => rfl)
  · intro b2 w3 hb hw
    have hne : s.ptr ≠ Option.none := fun e => by rw [e] at hp; cases hp
    have hc : Chg No w w3 := by rw [hw]; exact Chg.alloc _ _ _
    have hlit : Ow E w3 ⟨some ⟨b2, 0, Option.none⟩, 0, 0⟩ [] := by
      rw [hw, hb]; exact Ow.lit w [] [] rfl (Nat.zero_le _)
    have hs3 : w.heap.size < w3.heap.size := by rw [hw]; simp
    refine app_ok ok rfl rfl hlit (h.no hc) (by
      have : (xs.length) * E.bytes ≤ 1000000000 * 1000 := Nat.mul_le_mul hsm hby
      simp only [List.length_nil, Nat.zero_add]; omega) (by simp only [List.length_nil, Nat.zero_add]; unfold maxLen; omega) ?_
    intro s' w5 h5 hc5 hbk
    refine k s' w5 (by simpa using h5) (hc.trans hc5 (fun _ _ h => h) (fun j hj he => ?_)) (fun j hj => ?_) (fun e => absurd e hne)
    · have : some b2 = some j := he
      cases this; omega
    · rcases hbk with hk | hk
      · have : (⟨some ⟨b2, 0, Option.none⟩, 0, 0⟩ : Sl).blk = some b2 := rfl
        rw [hk, this] at hj; cases hj; omega
      · rw [hk] at hj; cases hj; omega
theorem clone_ints {w : World} {s : Sl} {xs : List Int} (h : Rd intE w s xs) (hsm : xs.length ≤ 1000000000) : Calls Try.prog fn_slices_Clone_sl_int_int #[s.val] w fun e w' => ∃ s' : Sl, e = .returned s'.val ∧ Ow intE w' s' xs ∧ Chg No w w' ∧ (∀ k, s'.blk = some k → w.heap.size ≤ k) ∧ (s.ptr = none → s' = nilS) := by
  refine (slices_Clone_sl_int_int_lift (K := fun v w' => ∃ s' : Sl, v = s'.val ∧ Ow intE w' s' xs ∧ Chg No w w' ∧ (∀ k, s'.blk = some k → w.heap.size ≤ k) ∧ (s.ptr = none → s' = nilS)) ?_).mono (by rintro e w' ⟨v, rfl, s', rfl, h⟩; exact ⟨s', rfl, h⟩)
  unfold slices_Clone_sl_int_int_sh
  exact clone_core (K := fun v w' => ∃ s' : Sl, v = s'.val ∧ Ow intE w' s' xs ∧ Chg No w w' ∧ (∀ k, s'.blk = some k → w.heap.size ≤ k) ∧ (s.ptr = none → s' = nilS)) intOk (by decide) h hsm fun s' w' h1 h2 h3 h4 => ⟨s', rfl, h1, h2, h3, h4⟩
end Go.Proofs.Ytkjpmkopnkkbmaa

/- Functions of Cell, read without their frames; that each is enough. Printed by a program of mine (wip/lift/gen.py). -/
set_option maxRecDepth 100000
namespace Go.Proofs.Ytkjpmkopnkkbmaa
open Go.RowKit

-- holloway/cell.One
def cell_One_sh (op1 : Int) (a_2 : Int) (w : World) (K : Value → World → Prop) : Prop :=
 brB (op1 == (16 : Int))
 (K (.tuple #[.int .i64 (wr (0 - a_2)), .bool true]) w)
 (brB (op1 == (20 : Int))
 (K (.tuple #[.int .i64 (ixor .i64 (-1) a_2), .bool true]) w)
 (brB (op1 == (26 : Int))
 (Calls Try.prog fn_cell_Flag #[.bool (a_2 == (0 : Int))] w fun e3 w4 => ∃ n5 : Int, e3 = .returned (.int .i64 n5) ∧
 K (.tuple #[.int .i64 n5, .bool true]) w4)
 (brB (op1 == (27 : Int))
 (Calls Try.prog fn_cell_Flag #[.bool (decide (a_2 < (0 : Int)))] w fun e6 w7 => ∃ n8 : Int, e6 = .returned (.int .i64 n8) ∧
 K (.tuple #[.int .i64 n8, .bool true]) w7)
 (K (.tuple #[.int .i64 (0 : Int), .bool false]) w))))
def cell_One_an : An := ⟨[], [], []⟩
theorem cell_One_lift {op1 : Int} {a_2 : Int} {w : World} {K : Value → World → Prop} (h : cell_One_sh op1 a_2 w K) : Calls Try.prog fn_cell_One #[.int .i64 op1, .int .i64 a_2] w fun e w' => ∃ v, e = .returned v ∧ K v w' :=
   lift_calls (A := cell_One_an) (c := bodyOf Try.f92) (args := [.int .i64 op1, .int .i64 a_2]) orc orc_wide Try.func92 (by kernel_rfl) (by kernel_rfl) (Eq.mp (by kernel_rfl : cell_One_sh op1 a_2 w K = wpc orc Try.f92.ntmps cell_One_an (bodyOf Try.f92) (argl 0 [.int .i64 op1, .int .i64 a_2]) w (retQ orc Try.f92.results.toList K)) h)

-- holloway/cell.Flag
def cell_Flag_sh (is1 : Bool) (w : World) (K : Value → World → Prop) : Prop :=
 brB is1
 (K (.int .i64 (-1 : Int)) w)
 (K (.int .i64 (0 : Int)) w)
def cell_Flag_an : An := ⟨[], [], []⟩
theorem cell_Flag_lift {is1 : Bool} {w : World} {K : Value → World → Prop} (h : cell_Flag_sh is1 w K) : Calls Try.prog fn_cell_Flag #[.bool is1] w fun e w' => ∃ v, e = .returned v ∧ K v w' :=
   lift_calls (A := cell_Flag_an) (c := bodyOf Try.f99) (args := [.bool is1]) orc orc_wide Try.func99 (by kernel_rfl) (by kernel_rfl) (Eq.mp (by kernel_rfl : cell_Flag_sh is1 w K = wpc orc Try.f99.ntmps cell_Flag_an (bodyOf Try.f99) (argl 0 [.bool is1]) w (retQ orc Try.f99.results.toList K)) h)

end Go.Proofs.Ytkjpmkopnkkbmaa

/- Functions of Hollowayref1, read without their frames; that each is enough. Printed by a program of mine (wip/lift/gen.py). -/
set_option maxRecDepth 100000
namespace Go.Proofs.Ytkjpmkopnkkbmaa
open Go.RowKit

-- holloway/hollowayref1.Plain
def hollowayref1_Plain_sh (op1 : Int) (w : World) (K : Value → World → Prop) : Prop :=
 Calls Try.prog fn_hollowayref1_Op #[.int .i64 op1] w fun e2 w3 => ∃ b4 : Bool, e2 = .returned (.bool b4) ∧
 brB b4
 (brB (op1 != (0 : Int))
 (brB (op1 != (1 : Int))
 (brB (op1 != (45 : Int))
 (K (.bool (op1 != (46 : Int))) w3)
 (K (.bool false) w3))
 (K (.bool false) w3))
 (K (.bool false) w3))
 (K (.bool false) w3)
def hollowayref1_Plain_an : An := ⟨[], [], []⟩
theorem hollowayref1_Plain_lift {op1 : Int} {w : World} {K : Value → World → Prop} (h : hollowayref1_Plain_sh op1 w K) : Calls Try.prog fn_hollowayref1_Plain #[.int .i64 op1] w fun e w' => ∃ v, e = .returned v ∧ K v w' :=
   lift_calls (A := hollowayref1_Plain_an) (c := bodyOf Try.f12) (args := [.int .i64 op1]) orc orc_wide Try.func12 (by kernel_rfl) (by kernel_rfl) (Eq.mp (by kernel_rfl : hollowayref1_Plain_sh op1 w K = wpc orc Try.f12.ntmps hollowayref1_Plain_an (bodyOf Try.f12) (argl 0 [.int .i64 op1]) w (retQ orc Try.f12.results.toList K)) h)

-- holloway/hollowayref1.Arg
def hollowayref1_Arg_sh (op1 : Int) (w : World) (K : Value → World → Prop) : Prop :=
 brB (op1 == (2 : Int))
 (K (.bool true) w)
 (brB (op1 == (3 : Int))
 (K (.bool true) w)
 (brB (op1 == (4 : Int))
 (K (.bool true) w)
 (brB (op1 == (37 : Int))
 (K (.bool true) w)
 (K (.bool (op1 == (38 : Int))) w))))
def hollowayref1_Arg_an : An := ⟨[], [], []⟩
theorem hollowayref1_Arg_lift {op1 : Int} {w : World} {K : Value → World → Prop} (h : hollowayref1_Arg_sh op1 w K) : Calls Try.prog fn_hollowayref1_Arg #[.int .i64 op1] w fun e w' => ∃ v, e = .returned v ∧ K v w' :=
   lift_calls (A := hollowayref1_Arg_an) (c := bodyOf Try.f15) (args := [.int .i64 op1]) orc orc_wide Try.func15 (by kernel_rfl) (by kernel_rfl) (Eq.mp (by kernel_rfl : hollowayref1_Arg_sh op1 w K = wpc orc Try.f15.ntmps hollowayref1_Arg_an (bodyOf Try.f15) (argl 0 [.int .i64 op1]) w (retQ orc Try.f15.results.toList K)) h)

-- holloway/hollowayref1.IsTwo
def hollowayref1_IsTwo_sh (op1 : Int) (w : World) (K : Value → World → Prop) : Prop :=
 brB (decide (op1 ≥ (11 : Int)))
 (brB (decide (op1 ≤ (15 : Int)))
 (K (.bool true) w)
 (brB (decide (op1 ≥ (17 : Int)))
 (brB (decide (op1 ≤ (19 : Int)))
 (K (.bool true) w)
 (brB (decide (op1 ≥ (21 : Int)))
 (brB (decide (op1 ≤ (25 : Int)))
 (K (.bool true) w)
 (brB (op1 == (28 : Int))
 (K (.bool true) w)
 (K (.bool (op1 == (29 : Int))) w)))
 (brB (op1 == (28 : Int))
 (K (.bool true) w)
 (K (.bool (op1 == (29 : Int))) w))))
 (brB (decide (op1 ≥ (21 : Int)))
 (brB (decide (op1 ≤ (25 : Int)))
 (K (.bool true) w)
 (brB (op1 == (28 : Int))
 (K (.bool true) w)
 (K (.bool (op1 == (29 : Int))) w)))
 (brB (op1 == (28 : Int))
 (K (.bool true) w)
 (K (.bool (op1 == (29 : Int))) w)))))
 (brB (decide (op1 ≥ (17 : Int)))
 (brB (decide (op1 ≤ (19 : Int)))
 (K (.bool true) w)
 (brB (decide (op1 ≥ (21 : Int)))
 (brB (decide (op1 ≤ (25 : Int)))
 (K (.bool true) w)
 (brB (op1 == (28 : Int))
 (K (.bool true) w)
 (K (.bool (op1 == (29 : Int))) w)))
 (brB (op1 == (28 : Int))
 (K (.bool true) w)
 (K (.bool (op1 == (29 : Int))) w))))
 (brB (decide (op1 ≥ (21 : Int)))
 (brB (decide (op1 ≤ (25 : Int)))
 (K (.bool true) w)
 (brB (op1 == (28 : Int))
 (K (.bool true) w)
 (K (.bool (op1 == (29 : Int))) w)))
 (brB (op1 == (28 : Int))
 (K (.bool true) w)
 (K (.bool (op1 == (29 : Int))) w))))
def hollowayref1_IsTwo_an : An := ⟨[], [], []⟩
theorem hollowayref1_IsTwo_lift {op1 : Int} {w : World} {K : Value → World → Prop} (h : hollowayref1_IsTwo_sh op1 w K) : Calls Try.prog fn_hollowayref1_IsTwo #[.int .i64 op1] w fun e w' => ∃ v, e = .returned v ∧ K v w' :=
   lift_calls (A := hollowayref1_IsTwo_an) (c := bodyOf Try.f33) (args := [.int .i64 op1]) orc orc_wide Try.func33 (by kernel_rfl) (by kernel_rfl) (Eq.mp (by kernel_rfl : hollowayref1_IsTwo_sh op1 w K = wpc orc Try.f33.ntmps hollowayref1_IsTwo_an (bodyOf Try.f33) (argl 0 [.int .i64 op1]) w (retQ orc Try.f33.results.toList K)) h)

-- holloway/hollowayref1.IsOne
def hollowayref1_IsOne_sh (op1 : Int) (w : World) (K : Value → World → Prop) : Prop :=
 brB (op1 == (16 : Int))
 (K (.bool true) w)
 (brB (op1 == (20 : Int))
 (K (.bool true) w)
 (brB (op1 == (26 : Int))
 (K (.bool true) w)
 (K (.bool (op1 == (27 : Int))) w)))
def hollowayref1_IsOne_an : An := ⟨[], [], []⟩
theorem hollowayref1_IsOne_lift {op1 : Int} {w : World} {K : Value → World → Prop} (h : hollowayref1_IsOne_sh op1 w K) : Calls Try.prog fn_hollowayref1_IsOne #[.int .i64 op1] w fun e w' => ∃ v, e = .returned v ∧ K v w' :=
   lift_calls (A := hollowayref1_IsOne_an) (c := bodyOf Try.f34) (args := [.int .i64 op1]) orc orc_wide Try.func34 (by kernel_rfl) (by kernel_rfl) (Eq.mp (by kernel_rfl : hollowayref1_IsOne_sh op1 w K = wpc orc Try.f34.ntmps hollowayref1_IsOne_an (bodyOf Try.f34) (argl 0 [.int .i64 op1]) w (retQ orc Try.f34.results.toList K)) h)

-- holloway/hollowayref1.Op
def hollowayref1_Op_sh (op1 : Int) (w : World) (K : Value → World → Prop) : Prop :=
 brB (decide (op1 ≥ (0 : Int)))
 (K (.bool (decide (op1 < (48 : Int)))) w)
 (K (.bool false) w)
def hollowayref1_Op_an : An := ⟨[], [], []⟩
theorem hollowayref1_Op_lift {op1 : Int} {w : World} {K : Value → World → Prop} (h : hollowayref1_Op_sh op1 w K) : Calls Try.prog fn_hollowayref1_Op #[.int .i64 op1] w fun e w' => ∃ v, e = .returned v ∧ K v w' :=
   lift_calls (A := hollowayref1_Op_an) (c := bodyOf Try.f39) (args := [.int .i64 op1]) orc orc_wide Try.func39 (by kernel_rfl) (by kernel_rfl) (Eq.mp (by kernel_rfl : hollowayref1_Op_sh op1 w K = wpc orc Try.f39.ntmps hollowayref1_Op_an (bodyOf Try.f39) (argl 0 [.int .i64 op1]) w (retQ orc Try.f39.results.toList K)) h)

-- holloway/hollowayref1.Moves
def hollowayref1_Moves_sh (op1 : Int) (w : World) (K : Value → World → Prop) : Prop :=
 Calls Try.prog fn_hollowayref1_IsTwo #[.int .i64 op1] w fun e2 w3 => ∃ b4 : Bool, e2 = .returned (.bool b4) ∧
 brB b4
 (K (.tuple #[.int .i64 (2 : Int), .int .i64 (0 : Int), .int .i64 (1 : Int), .int .i64 (0 : Int)]) w3)
 (Calls Try.prog fn_hollowayref1_IsOne #[.int .i64 op1] w3 fun e5 w6 => ∃ b7 : Bool, e5 = .returned (.bool b7) ∧
 brB b7
 (K (.tuple #[.int .i64 (1 : Int), .int .i64 (0 : Int), .int .i64 (1 : Int), .int .i64 (0 : Int)]) w6)
 (brB (op1 == (5 : Int))
 (K (.tuple #[.int .i64 (0 : Int), .int .i64 (1 : Int), .int .i64 (0 : Int), .int .i64 (0 : Int)]) w6)
 (∃ J12 : Bool → World → Prop, (∀ (b9 : Bool) (w8 : World), J12 b9 w8 →
 brB b9
 (K (.tuple #[.int .i64 (0 : Int), .int .i64 (0 : Int), .int .i64 (1 : Int), .int .i64 (0 : Int)]) w8)
 (∃ J15 : Bool → World → Prop, (∀ (b11 : Bool) (w10 : World), J15 b11 w10 →
 brB b11
 (K (.tuple #[.int .i64 (1 : Int), .int .i64 (0 : Int), .int .i64 (0 : Int), .int .i64 (0 : Int)]) w10)
 (brB (op1 == (6 : Int))
 (K (.tuple #[.int .i64 (1 : Int), .int .i64 (0 : Int), .int .i64 (2 : Int), .int .i64 (0 : Int)]) w10)
 (brB (op1 == (8 : Int))
 (K (.tuple #[.int .i64 (2 : Int), .int .i64 (0 : Int), .int .i64 (2 : Int), .int .i64 (0 : Int)]) w10)
 (brB (op1 == (9 : Int))
 (K (.tuple #[.int .i64 (2 : Int), .int .i64 (0 : Int), .int .i64 (3 : Int), .int .i64 (0 : Int)]) w10)
 (brB (op1 == (10 : Int))
 (K (.tuple #[.int .i64 (3 : Int), .int .i64 (0 : Int), .int .i64 (3 : Int), .int .i64 (0 : Int)]) w10)
 (brB (op1 == (30 : Int))
 (K (.tuple #[.int .i64 (1 : Int), .int .i64 (0 : Int), .int .i64 (1 : Int), .int .i64 (0 : Int)]) w10)
 (∃ J31 : Bool → World → Prop, (∀ (b13 : Bool) (w12 : World), J31 b13 w12 →
 brB b13
 (K (.tuple #[.int .i64 (2 : Int), .int .i64 (0 : Int), .int .i64 (0 : Int), .int .i64 (0 : Int)]) w12)
 (∃ J34 : Bool → World → Prop, (∀ (b15 : Bool) (w14 : World), J34 b15 w14 →
 brB b15
 (K (.tuple #[.int .i64 (1 : Int), .int .i64 (0 : Int), .int .i64 (0 : Int), .int .i64 (1 : Int)]) w14)
 (brB (op1 == (34 : Int))
 (K (.tuple #[.int .i64 (0 : Int), .int .i64 (1 : Int), .int .i64 (1 : Int), .int .i64 (0 : Int)]) w14)
 (brB (op1 == (35 : Int))
 (K (.tuple #[.int .i64 (0 : Int), .int .i64 (1 : Int), .int .i64 (1 : Int), .int .i64 (1 : Int)]) w14)
 (brB (op1 == (36 : Int))
 (K (.tuple #[.int .i64 (2 : Int), .int .i64 (0 : Int), .int .i64 (0 : Int), .int .i64 (2 : Int)]) w14)
 (brB (op1 == (37 : Int))
 (K (.tuple #[.int .i64 (0 : Int), .int .i64 (2 : Int), .int .i64 (0 : Int), .int .i64 (2 : Int)]) w14)
 (brB (op1 == (38 : Int))
 (K (.tuple #[.int .i64 (1 : Int), .int .i64 (2 : Int), .int .i64 (0 : Int), .int .i64 (2 : Int)]) w14)
 (brB (op1 == (39 : Int))
 (K (.tuple #[.int .i64 (0 : Int), .int .i64 (3 : Int), .int .i64 (1 : Int), .int .i64 (3 : Int)]) w14)
 (brB (op1 == (40 : Int))
 (K (.tuple #[.int .i64 (0 : Int), .int .i64 (2 : Int), .int .i64 (0 : Int), .int .i64 (0 : Int)]) w14)
 (brB (op1 == (46 : Int))
 (K (.tuple #[.int .i64 (1 : Int), .int .i64 (0 : Int), .int .i64 (0 : Int), .int .i64 (4 : Int)]) w14)
 (K (.tuple #[.int .i64 (0 : Int), .int .i64 (0 : Int), .int .i64 (0 : Int), .int .i64 (0 : Int)]) w14)))))))))) ∧
 brB (op1 == (33 : Int))
 (J34 (op1 == (33 : Int)) w12)
 (J34 (op1 == (44 : Int)) w12))) ∧
 brB (op1 == (31 : Int))
 (J31 (op1 == (31 : Int)) w10)
 (J31 (op1 == (32 : Int)) w10)))))))) ∧
 brB (op1 == (4 : Int))
 (J15 (op1 == (4 : Int)) w8)
 (brB (op1 == (7 : Int))
 (J15 (op1 == (7 : Int)) w8)
 (brB (op1 == (41 : Int))
 (J15 (op1 == (41 : Int)) w8)
 (brB (op1 == (42 : Int))
 (J15 (op1 == (42 : Int)) w8)
 (J15 (op1 == (45 : Int)) w8)))))) ∧
 brB (op1 == (2 : Int))
 (J12 (op1 == (2 : Int)) w6)
 (J12 (op1 == (43 : Int)) w6))))
def hollowayref1_Moves_an : An := ⟨[], [], [(32, [(35, .bool)]), (29, [(32, .bool)]), (16, [(16, .bool)]), (10, [(13, .bool)])]⟩
theorem hollowayref1_Moves_lift {op1 : Int} {w : World} {K : Value → World → Prop} (h : hollowayref1_Moves_sh op1 w K) : Calls Try.prog fn_hollowayref1_Moves #[.int .i64 op1] w fun e w' => ∃ v, e = .returned v ∧ K v w' :=
   lift_calls (A := hollowayref1_Moves_an) (c := bodyOf Try.f42) (args := [.int .i64 op1]) orc orc_wide Try.func42 (by kernel_rfl) (by kernel_rfl) (Eq.mp (by kernel_rfl : hollowayref1_Moves_sh op1 w K = wpc orc Try.f42.ntmps hollowayref1_Moves_an (bodyOf Try.f42) (argl 0 [.int .i64 op1]) w (retQ orc Try.f42.results.toList K)) h)

-- holloway/hollowayref1.Two
def hollowayref1_Two_sh (op1 : Int) (a_2 : Int) (b_3 : Int) (w : World) (K : Value → World → Prop) : Prop :=
 Calls Try.prog fn_hollowayref1_IsTwo #[.int .i64 op1] w fun e4 w5 => ∃ b6 : Bool, e4 = .returned (.bool b6) ∧
 brB (!b6)
 (K (.tuple #[.int .i64 (0 : Int), .bool false]) w5)
 (brB (op1 == (11 : Int))
 (K (.tuple #[.int .i64 (wr (a_2 + b_3)), .bool true]) w5)
 (brB (op1 == (12 : Int))
 (K (.tuple #[.int .i64 (wr (a_2 - b_3)), .bool true]) w5)
 (brB (op1 == (13 : Int))
 (K (.tuple #[.int .i64 (wr (a_2 * b_3)), .bool true]) w5)
 (∃ J13 : Bool → World → Prop, (∀ (b8 : Bool) (w7 : World), J13 b8 w7 →
 brB b8
 (brB (b_3 == (0 : Int))
 (K (.tuple #[.int .i64 (0 : Int), .bool false]) w7)
 (Calls Try.prog fn_hollowayref1_Floor #[.int .i64 a_2, .int .i64 b_3] w7 fun e9 w10 => ∃ n11 : Int, ∃ n12 : Int, e9 = .returned (.tuple #[.int .i64 n11, .int .i64 n12]) ∧
 brB (op1 == (14 : Int))
 (K (.tuple #[.int .i64 n11, .bool true]) w10)
 (K (.tuple #[.int .i64 n12, .bool true]) w10)))
 (brB (op1 == (17 : Int))
 (K (.tuple #[.int .i64 (iand .i64 a_2 b_3), .bool true]) w7)
 (brB (op1 == (18 : Int))
 (K (.tuple #[.int .i64 (ior .i64 a_2 b_3), .bool true]) w7)
 (brB (op1 == (19 : Int))
 (K (.tuple #[.int .i64 (ixor .i64 a_2 b_3), .bool true]) w7)
 (∃ J29 : Bool → World → Prop, (∀ (b14 : Bool) (w13 : World), J29 b14 w13 →
 brB b14
 (∃ J32 : Bool → World → Prop, (∀ (b16 : Bool) (w15 : World), J32 b16 w15 →
 brB b16
 (K (.tuple #[.int .i64 (0 : Int), .bool true]) w15)
 (∃ (I1 : Int → Int → World → Prop) (μ1 : Int → Int → World → Nat), I1 (IntKind.wrap .u64 a_2) (0 : Int) w15 ∧ ∀ (x19 : Int) (k18 : Int) (w17 : World), I1 x19 k18 w17 →
 brB (decide (k18 < b_3))
 (∃ J39 : Int → World → Prop, (∀ (x30 : Int) (w20 : World), J39 x30 w20 →
 I1 x30 (wr (k18 + (1 : Int))) w20 ∧ μ1 x30 (wr (k18 + (1 : Int))) w20 < μ1 x19 k18 w17) ∧
 brB (op1 == (21 : Int))
 (J39 (IntKind.wrap .u64 (x19 * (2 : Int))) w17)
 ((2 : Int) ≠ 0 ∧ J39 (IntKind.wrap .u64 (Int.tdiv x19 (2 : Int))) w17))
 (K (.tuple #[.int .i64 (wr x19), .bool true]) w17))) ∧
 brB (decide (b_3 < (0 : Int)))
 (J32 true w13)
 (J32 (decide (b_3 > (63 : Int))) w13))
 (brB (op1 == (23 : Int))
 (Calls Try.prog fn_hollowayref1_Flag #[.bool (a_2 == b_3)] w13 fun e21 w22 => ∃ n23 : Int, e21 = .returned (.int .i64 n23) ∧
 K (.tuple #[.int .i64 n23, .bool true]) w22)
 (brB (op1 == (24 : Int))
 (Calls Try.prog fn_hollowayref1_Flag #[.bool (decide (a_2 < b_3))] w13 fun e24 w25 => ∃ n26 : Int, e24 = .returned (.int .i64 n26) ∧
 K (.tuple #[.int .i64 n26, .bool true]) w25)
 (brB (op1 == (25 : Int))
 (Calls Try.prog fn_hollowayref1_Flag #[.bool (decide ((IntKind.wrap .u64 a_2) < (IntKind.wrap .u64 b_3)))] w13 fun e27 w28 => ∃ n29 : Int, e27 = .returned (.int .i64 n29) ∧
 K (.tuple #[.int .i64 n29, .bool true]) w28)
 (brB (op1 == (28 : Int))
 (K (.tuple #[.int .i64 (imin a_2 b_3), .bool true]) w13)
 (K (.tuple #[.int .i64 (imax a_2 b_3), .bool true]) w13)))))) ∧
 brB (op1 == (21 : Int))
 (J29 (op1 == (21 : Int)) w7)
 (J29 (op1 == (22 : Int)) w7)))))) ∧
 brB (op1 == (14 : Int))
 (J13 (op1 == (14 : Int)) w5)
 (J13 (op1 == (15 : Int)) w5)))))
def hollowayref1_Two_an : An := ⟨[(30, [(10, .int .u64), (11, .int .i64)])], [], [(27, [(69, .bool)]), (31, [(10, .int .u64)]), (26, [(61, .bool)]), (12, [(31, .bool)])]⟩
theorem hollowayref1_Two_lift {op1 : Int} {a_2 : Int} {b_3 : Int} {w : World} {K : Value → World → Prop} (h : hollowayref1_Two_sh op1 a_2 b_3 w K) : Calls Try.prog fn_hollowayref1_Two #[.int .i64 op1, .int .i64 a_2, .int .i64 b_3] w fun e w' => ∃ v, e = .returned v ∧ K v w' :=
   lift_calls (A := hollowayref1_Two_an) (c := bodyOf Try.f43) (args := [.int .i64 op1, .int .i64 a_2, .int .i64 b_3]) orc orc_wide Try.func43 (by kernel_rfl) (by kernel_rfl) (Eq.mp (by kernel_rfl : hollowayref1_Two_sh op1 a_2 b_3 w K = wpc orc Try.f43.ntmps hollowayref1_Two_an (bodyOf Try.f43) (argl 0 [.int .i64 op1, .int .i64 a_2, .int .i64 b_3]) w (retQ orc Try.f43.results.toList K)) h)

-- holloway/hollowayref1.One
def hollowayref1_One_sh (op1 : Int) (a_2 : Int) (w : World) (K : Value → World → Prop) : Prop :=
 brB (op1 == (16 : Int))
 (K (.tuple #[.int .i64 (wr (0 - a_2)), .bool true]) w)
 (brB (op1 == (20 : Int))
 (K (.tuple #[.int .i64 (wr ((-1 : Int) - a_2)), .bool true]) w)
 (brB (op1 == (26 : Int))
 (Calls Try.prog fn_hollowayref1_Flag #[.bool (a_2 == (0 : Int))] w fun e3 w4 => ∃ n5 : Int, e3 = .returned (.int .i64 n5) ∧
 K (.tuple #[.int .i64 n5, .bool true]) w4)
 (brB (op1 == (27 : Int))
 (Calls Try.prog fn_hollowayref1_Flag #[.bool (decide (a_2 < (0 : Int)))] w fun e6 w7 => ∃ n8 : Int, e6 = .returned (.int .i64 n8) ∧
 K (.tuple #[.int .i64 n8, .bool true]) w7)
 (K (.tuple #[.int .i64 (0 : Int), .bool false]) w))))
def hollowayref1_One_an : An := ⟨[], [], []⟩
theorem hollowayref1_One_lift {op1 : Int} {a_2 : Int} {w : World} {K : Value → World → Prop} (h : hollowayref1_One_sh op1 a_2 w K) : Calls Try.prog fn_hollowayref1_One #[.int .i64 op1, .int .i64 a_2] w fun e w' => ∃ v, e = .returned v ∧ K v w' :=
   lift_calls (A := hollowayref1_One_an) (c := bodyOf Try.f44) (args := [.int .i64 op1, .int .i64 a_2]) orc orc_wide Try.func44 (by kernel_rfl) (by kernel_rfl) (Eq.mp (by kernel_rfl : hollowayref1_One_sh op1 a_2 w K = wpc orc Try.f44.ntmps hollowayref1_One_an (bodyOf Try.f44) (argl 0 [.int .i64 op1, .int .i64 a_2]) w (retQ orc Try.f44.results.toList K)) h)

-- holloway/hollowayref1.Crosses
def hollowayref1_Crosses_sh (x_1 : Int) (n_2 : Int) (w : World) (K : Value → World → Prop) : Prop :=
 K (.bool (decide ((iand .i64 (ixor .i64 x_1 (wr (x_1 + n_2))) (ixor .i64 x_1 n_2)) < (0 : Int)))) w
def hollowayref1_Crosses_an : An := ⟨[], [], []⟩
theorem hollowayref1_Crosses_lift {x_1 : Int} {n_2 : Int} {w : World} {K : Value → World → Prop} (h : hollowayref1_Crosses_sh x_1 n_2 w K) : Calls Try.prog fn_hollowayref1_Crosses #[.int .i64 x_1, .int .i64 n_2] w fun e w' => ∃ v, e = .returned v ∧ K v w' :=
   lift_calls (A := hollowayref1_Crosses_an) (c := bodyOf Try.f45) (args := [.int .i64 x_1, .int .i64 n_2]) orc orc_wide Try.func45 (by kernel_rfl) (by kernel_rfl) (Eq.mp (by kernel_rfl : hollowayref1_Crosses_sh x_1 n_2 w K = wpc orc Try.f45.ntmps hollowayref1_Crosses_an (bodyOf Try.f45) (argl 0 [.int .i64 x_1, .int .i64 n_2]) w (retQ orc Try.f45.results.toList K)) h)

-- holloway/hollowayref1.Put
def hollowayref1_Put_j1 (base2 : Int) (u7 : Int) (s8 : ByteArray) (I1 : Int → ByteArray → World → Prop) (μ1 : Int → ByteArray → World → Nat) (w6 : World) (v_1 : Int) (b12 : Bool) (w11 : World) (K : Value → World → Prop) : Prop :=
 brB b12
 ((IntKind.wrap .u64 base2) ≠ 0 ∧ 0 ≤ (wr (Int.tmod u7 (IntKind.wrap .u64 base2))) ∧ (wr (Int.tmod u7 (IntKind.wrap .u64 base2))) ≤ (wr ((wr (Int.tmod u7 (IntKind.wrap .u64 base2))) + (1 : Int))) ∧ (wr ((wr (Int.tmod u7 (IntKind.wrap .u64 base2))) + (1 : Int))) ≤ ((bs [48, 49, 50, 51, 52, 53, 54, 55, 56, 57, 65, 66, 67, 68, 69, 70, 71, 72, 73, 74, 75, 76, 77, 78, 79, 80, 81, 82, 83, 84, 85, 86, 87, 88, 89, 90]).size : Int) ∧ 
 (((ByteArray.extract (bs [48, 49, 50, 51, 52, 53, 54, 55, 56, 57, 65, 66, 67, 68, 69, 70, 71, 72, 73, 74, 75, 76, 77, 78, 79, 80, 81, 82, 83, 84, 85, 86, 87, 88, 89, 90]) (Int.toNat (wr (Int.tmod u7 (IntKind.wrap .u64 base2)))) (Int.toNat (wr ((wr (Int.tmod u7 (IntKind.wrap .u64 base2))) + (1 : Int)))))).size : Int) + ((s8).size : Int) ≤ 9223372036854775807 ∧ (IntKind.wrap .u64 base2) ≠ 0 ∧ I1 (IntKind.wrap .u64 (Int.tdiv u7 (IntKind.wrap .u64 base2))) ((ByteArray.extract (bs [48, 49, 50, 51, 52, 53, 54, 55, 56, 57, 65, 66, 67, 68, 69, 70, 71, 72, 73, 74, 75, 76, 77, 78, 79, 80, 81, 82, 83, 84, 85, 86, 87, 88, 89, 90]) (Int.toNat (wr (Int.tmod u7 (IntKind.wrap .u64 base2)))) (Int.toNat (wr ((wr (Int.tmod u7 (IntKind.wrap .u64 base2))) + (1 : Int))))) ++ s8) w11 ∧ μ1 (IntKind.wrap .u64 (Int.tdiv u7 (IntKind.wrap .u64 base2))) ((ByteArray.extract (bs [48, 49, 50, 51, 52, 53, 54, 55, 56, 57, 65, 66, 67, 68, 69, 70, 71, 72, 73, 74, 75, 76, 77, 78, 79, 80, 81, 82, 83, 84, 85, 86, 87, 88, 89, 90]) (Int.toNat (wr (Int.tmod u7 (IntKind.wrap .u64 base2)))) (Int.toNat (wr ((wr (Int.tmod u7 (IntKind.wrap .u64 base2))) + (1 : Int))))) ++ s8) w11 < μ1 u7 s8 w6)
 (brB (decide (v_1 < (0 : Int)))
 ((((bs [45])).size : Int) + ((s8).size : Int) ≤ 9223372036854775807 ∧ K (.string ((bs [45]) ++ s8)) w11)
 (K (.string s8) w11))
def hollowayref1_Put_sh (v_1 : Int) (base2 : Int) (w : World) (K : Value → World → Prop) : Prop :=
 ∃ J3 : Bool → World → Prop, (∀ (b4 : Bool) (w3 : World), J3 b4 w3 →
 brB b4
 (K (.string (bs [])) w3)
 (∃ J6 : Int → World → Prop, (∀ (u13 : Int) (w5 : World), J6 u13 w5 →
 ∃ (I1 : Int → ByteArray → World → Prop) (μ1 : Int → ByteArray → World → Nat), I1 u13 (bs []) w5 ∧ ∀ (u7 : Int) (s8 : ByteArray) (w6 : World), I1 u7 s8 w6 →
 brB (decide (u7 > (0 : Int)))
 (hollowayref1_Put_j1 base2 u7 s8 I1 (μ1) w6 v_1 true w6 K)
 (hollowayref1_Put_j1 base2 u7 s8 I1 (μ1) w6 v_1 (s8.toList == (bs []).toList) w6 K)) ∧
 brB (decide (v_1 < (0 : Int)))
 (J6 (IntKind.wrap .u64 (0 - (IntKind.wrap .u64 v_1))) w3)
 (J6 (IntKind.wrap .u64 v_1) w3))) ∧
 brB (decide (base2 < (2 : Int)))
 (J3 true w)
 (J3 (decide (base2 > (36 : Int))) w)
def hollowayref1_Put_an : An := ⟨[(7, [(5, .int .u64), (6, .str)])], [], [(2, [(13, .bool)]), (6, [(5, .int .u64)])]⟩
theorem hollowayref1_Put_lift {v_1 : Int} {base2 : Int} {w : World} {K : Value → World → Prop} (h : hollowayref1_Put_sh v_1 base2 w K) : Calls Try.prog fn_hollowayref1_Put #[.int .i64 v_1, .int .i64 base2] w fun e w' => ∃ v, e = .returned v ∧ K v w' :=
   lift_calls (A := hollowayref1_Put_an) (c := bodyOf Try.f46) (args := [.int .i64 v_1, .int .i64 base2]) orc orc_wide Try.func46 (by kernel_rfl) (by kernel_rfl) (Eq.mp (by kernel_rfl : hollowayref1_Put_sh v_1 base2 w K = wpc orc Try.f46.ntmps hollowayref1_Put_an (bodyOf Try.f46) (argl 0 [.int .i64 v_1, .int .i64 base2]) w (retQ orc Try.f46.results.toList K)) h)

-- holloway/hollowayref1.Floor
def hollowayref1_Floor_sh (a_1 : Int) (b_2 : Int) (w : World) (K : Value → World → Prop) : Prop :=
 b_2 ≠ 0 ∧ ∃ J5 : Bool → World → Prop, (∀ (b4 : Bool) (w3 : World), J5 b4 w3 →
 brB b4
 (K (.tuple #[.int .i64 (wr ((wr (Int.tdiv a_1 b_2)) - (1 : Int))), .int .i64 (wr ((wr (a_1 - (wr ((wr (Int.tdiv a_1 b_2)) * b_2)))) + b_2))]) w3)
 (K (.tuple #[.int .i64 (wr (Int.tdiv a_1 b_2)), .int .i64 (wr (a_1 - (wr ((wr (Int.tdiv a_1 b_2)) * b_2))))]) w3)) ∧
 brB ((wr (a_1 - (wr ((wr (Int.tdiv a_1 b_2)) * b_2)))) != (0 : Int))
 (J5 (!((decide ((wr (a_1 - (wr ((wr (Int.tdiv a_1 b_2)) * b_2)))) < (0 : Int))) == (decide (b_2 < (0 : Int))))) w)
 (J5 false w)
def hollowayref1_Floor_an : An := ⟨[], [], [(4, [(24, .bool)])]⟩
theorem hollowayref1_Floor_lift {a_1 : Int} {b_2 : Int} {w : World} {K : Value → World → Prop} (h : hollowayref1_Floor_sh a_1 b_2 w K) : Calls Try.prog fn_hollowayref1_Floor #[.int .i64 a_1, .int .i64 b_2] w fun e w' => ∃ v, e = .returned v ∧ K v w' :=
   lift_calls (A := hollowayref1_Floor_an) (c := bodyOf Try.f60) (args := [.int .i64 a_1, .int .i64 b_2]) orc orc_wide Try.func60 (by kernel_rfl) (by kernel_rfl) (Eq.mp (by kernel_rfl : hollowayref1_Floor_sh a_1 b_2 w K = wpc orc Try.f60.ntmps hollowayref1_Floor_an (bodyOf Try.f60) (argl 0 [.int .i64 a_1, .int .i64 b_2]) w (retQ orc Try.f60.results.toList K)) h)

-- holloway/hollowayref1.Flag
def hollowayref1_Flag_sh (is1 : Bool) (w : World) (K : Value → World → Prop) : Prop :=
 brB is1
 (K (.int .i64 (-1 : Int)) w)
 (K (.int .i64 (0 : Int)) w)
def hollowayref1_Flag_an : An := ⟨[], [], []⟩
theorem hollowayref1_Flag_lift {is1 : Bool} {w : World} {K : Value → World → Prop} (h : hollowayref1_Flag_sh is1 w K) : Calls Try.prog fn_hollowayref1_Flag #[.bool is1] w fun e w' => ∃ v, e = .returned v ∧ K v w' :=
   lift_calls (A := hollowayref1_Flag_an) (c := bodyOf Try.f61) (args := [.bool is1]) orc orc_wide Try.func61 (by kernel_rfl) (by kernel_rfl) (Eq.mp (by kernel_rfl : hollowayref1_Flag_sh is1 w K = wpc orc Try.f61.ntmps hollowayref1_Flag_an (bodyOf Try.f61) (argl 0 [.bool is1]) w (retQ orc Try.f61.results.toList K)) h)

end Go.Proofs.Ytkjpmkopnkkbmaa
