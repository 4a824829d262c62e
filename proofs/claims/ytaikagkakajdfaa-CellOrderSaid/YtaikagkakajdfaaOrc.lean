/- What the lift is told of the program: types and functions, each fact proved. Printed by a program of mine (wip/lift/gen.py). -/
import Derived.Test.YtaikagkakajdfaaProg
import Derived.Test.YtaikagkakajdfaaLiftH
namespace Go.Proofs.Ytaikagkakajdfaa
open Go.RowKit

@[reducible] def T_int : TypeId := 3
@[reducible] def T_bool : TypeId := 4
@[reducible] def T_uint8 : TypeId := 5
@[reducible] def T_string : TypeId := 9
@[reducible] def T_sl_int : TypeId := 22
@[reducible] def T_p_pile_Pile : TypeId := 24
@[reducible] def T_sl_hollowaylaw5_Op : TypeId := 42
@[reducible] def T_sl_sl_string : TypeId := 45
@[reducible] def T_sl_sl_int : TypeId := 46
@[reducible] def T_sl_sl_api_Word : TypeId := 47
@[reducible] def T_sl_sl_api_Seen : TypeId := 48
@[reducible] def T_sl_sl_api_Ins : TypeId := 49
@[reducible] def T_sl_sl_api_Out : TypeId := 50
@[reducible] def T_hollowaybook_Book : TypeId := 52
@[reducible] def T_hollowaylaw5_Op : TypeId := 54
@[reducible] def T_uint64 : TypeId := 61
@[reducible] def T_uint : TypeId := 62
@[reducible] def T_pile_Pile : TypeId := 66
@[reducible] def T_sl_string : TypeId := 82
@[reducible] def T_sl_api_Word : TypeId := 84
@[reducible] def T_sl_api_Seen : TypeId := 86
@[reducible] def T_sl_api_Ins : TypeId := 88
@[reducible] def T_sl_api_Out : TypeId := 90
@[reducible] def T_api_Out : TypeId := 93
@[reducible] def T_api_Word : TypeId := 98
@[reducible] def T_api_Seen : TypeId := 101
@[reducible] def T_api_Ins : TypeId := 104
@[reducible] def T_sl_uint8 : TypeId := 106
@[reducible] def fn_hollowaylaw5_PileBack : FuncId := 3
@[reducible] def fn_hollowaylaw5_PileParts : FuncId := 4
@[reducible] def fn_hollowaylaw5_PileCuts : FuncId := 5
@[reducible] def fn_hollowaylaw1_CellFloors : FuncId := 6
@[reducible] def fn_hollowaylaw1_CellShifts : FuncId := 7
@[reducible] def fn_hollowaylaw1_CellLoops : FuncId := 8
@[reducible] def fn_hollowaylaw5_PilePlays : FuncId := 9
@[reducible] def fn_hollowaylaw1_CellLaws : FuncId := 10
@[reducible] def fn_hollowaylaw1_CellOrder : FuncId := 11
@[reducible] def fn_hollowaylaw1_CellTells : FuncId := 12
@[reducible] def fn_hollowaylaw5_alive : FuncId := 13
@[reducible] def fn_pile_New : FuncId := 14
@[reducible] def fn_pile_Pile_All : FuncId := 15
@[reducible] def fn_pile_Pile_Push : FuncId := 16
@[reducible] def fn_hollowaybook_SameInts : FuncId := 17
@[reducible] def fn_pile_Pile_Pop : FuncId := 18
@[reducible] def fn_pile_Pile_Len : FuncId := 19
@[reducible] def fn_pile_Pile_Cut : FuncId := 20
@[reducible] def fn_hollowaylaw1_alive : FuncId := 21
@[reducible] def fn_cell_Floor : FuncId := 22
@[reducible] def fn_cell_Two : FuncId := 23
@[reducible] def fn_cell_Crosses : FuncId := 24
@[reducible] def fn_hollowaybook_LentInts : FuncId := 25
@[reducible] def fn_hollowaybook_StaysInts : FuncId := 26
@[reducible] def fn_hollowaybook_Book_Ints : FuncId := 27
@[reducible] def fn_pile_Pile_Set : FuncId := 28
@[reducible] def fn_pile_Pile_Copy : FuncId := 29
@[reducible] def fn_pile_Pile_Peek : FuncId := 30
@[reducible] def fn_hollowaybook_Book_Apart : FuncId := 31
@[reducible] def fn_cell_One : FuncId := 32
@[reducible] def fn_cell_Flag : FuncId := 33
@[reducible] def fn_hollowayref1_Two : FuncId := 34
@[reducible] def fn_hollowayref1_One : FuncId := 35
@[reducible] def fn_hollowayref1_Floor : FuncId := 36
@[reducible] def fn_hollowayref1_Crosses : FuncId := 37
@[reducible] def fn_slices_Clone_sl_int_int : FuncId := 38
@[reducible] def fn_cell_shift : FuncId := 39
@[reducible] def fn_cell_compare : FuncId := 40
@[reducible] def fn_hollowaybook_copyInts : FuncId := 41
@[reducible] def fn_pile_Pile_place : FuncId := 42
@[reducible] def fn_hollowaybook_Book_stillTexts : FuncId := 43
@[reducible] def fn_hollowaybook_Book_stillInts : FuncId := 44
@[reducible] def fn_hollowaybook_Book_stillWords : FuncId := 45
@[reducible] def fn_hollowaybook_Book_stillSeens : FuncId := 46
@[reducible] def fn_hollowaybook_Book_stillCodes : FuncId := 47
@[reducible] def fn_hollowaybook_Book_stillExits : FuncId := 48
@[reducible] def fn_hollowaybook_Book_putExits : FuncId := 49
@[reducible] def fn_hollowaybook_Book_putTexts : FuncId := 50
@[reducible] def fn_hollowaybook_Book_putInts : FuncId := 51
@[reducible] def fn_hollowaybook_Book_putWords : FuncId := 52
@[reducible] def fn_hollowaybook_Book_putSeens : FuncId := 53
@[reducible] def fn_hollowaybook_Book_putCodes : FuncId := 54
@[reducible] def fn_hollowaybook_Book_growTexts : FuncId := 55
@[reducible] def fn_hollowaybook_Book_growInts : FuncId := 56
@[reducible] def fn_hollowaybook_Book_growWords : FuncId := 57
@[reducible] def fn_hollowaybook_Book_growSeens : FuncId := 58
@[reducible] def fn_hollowaybook_Book_growCodes : FuncId := 59
@[reducible] def fn_hollowaybook_Book_growExits : FuncId := 60
@[reducible] def fn_hollowaybook_markedTexts : FuncId := 61
@[reducible] def fn_hollowaybook_markedInts : FuncId := 62
@[reducible] def fn_hollowaybook_markedWords : FuncId := 63
@[reducible] def fn_hollowaybook_markedSeens : FuncId := 64
@[reducible] def fn_hollowaybook_markedCodes : FuncId := 65
@[reducible] def fn_hollowaybook_markedExits : FuncId := 66
@[reducible] def fn_hollowayref1_IsTwo : FuncId := 67
@[reducible] def fn_hollowayref1_Flag : FuncId := 68
@[reducible] def fn_hollowaybook_SameTexts : FuncId := 69
@[reducible] def fn_hollowaybook_SameWords : FuncId := 70
@[reducible] def fn_hollowaybook_SameSeens : FuncId := 71
@[reducible] def fn_hollowaybook_SameCodes : FuncId := 72
@[reducible] def fn_hollowaybook_SameExits : FuncId := 73
@[reducible] def fn_hollowaybook_markExits : FuncId := 74
@[reducible] def fn_hollowaybook_markTexts : FuncId := 75
@[reducible] def fn_hollowaybook_markInts : FuncId := 76
@[reducible] def fn_hollowaybook_markWords : FuncId := 77
@[reducible] def fn_hollowaybook_markSeens : FuncId := 78
@[reducible] def fn_hollowaybook_markCodes : FuncId := 79
@[reducible] def fn_hollowaybook_name : FuncId := 80
def orc_ts : List (Nat × Ti) := [(3, ⟨.int .i64, false, [.int .i64]⟩),
  (4, ⟨.bool, false, [.bool]⟩),
  (5, ⟨.int .u8, false, [.int .u8]⟩),
  (9, ⟨.str, false, [.str]⟩),
  (22, ⟨.sl 3, false, [.sl]⟩),
  (24, ⟨.ptr, false, [.ptr]⟩),
  (42, ⟨.sl 54, false, [.sl]⟩),
  (45, ⟨.sl 82, false, [.sl]⟩),
  (46, ⟨.sl 22, false, [.sl]⟩),
  (47, ⟨.sl 84, false, [.sl]⟩),
  (48, ⟨.sl 86, false, [.sl]⟩),
  (49, ⟨.sl 88, false, [.sl]⟩),
  (50, ⟨.sl 90, false, [.sl]⟩),
  (52, ⟨.st [(0, 45), (1, 45), (2, 46), (3, 46), (4, 47), (5, 47), (6, 48), (7, 48), (8, 49), (9, 49), (10, 50), (11, 50)], true, [.sl, .sl, .sl, .sl, .sl, .sl, .sl, .sl, .sl, .sl, .sl, .sl]⟩),
  (54, ⟨.st [(0, 3), (1, 3), (2, 3), (3, 22)], true, [.int .i64, .int .i64, .int .i64, .sl]⟩),
  (61, ⟨.int .u64, false, [.int .u64]⟩),
  (62, ⟨.int .u64, false, [.int .u64]⟩),
  (66, ⟨.st [(0, 3), (1, 22)], true, [.int .i64, .sl]⟩),
  (82, ⟨.sl 9, false, [.sl]⟩),
  (84, ⟨.sl 98, false, [.sl]⟩),
  (86, ⟨.sl 101, false, [.sl]⟩),
  (88, ⟨.sl 104, false, [.sl]⟩),
  (90, ⟨.sl 93, false, [.sl]⟩),
  (93, ⟨.st [(0, 3), (1, 3), (2, 22), (3, 22)], true, [.int .i64, .int .i64, .sl, .sl]⟩),
  (98, ⟨.st [(0, 9), (1, 3), (2, 3), (3, 4)], true, [.str, .int .i64, .int .i64, .bool]⟩),
  (101, ⟨.st [(0, 3), (1, 3), (2, 3), (3, 3)], true, [.int .i64, .int .i64, .int .i64, .int .i64]⟩),
  (104, ⟨.st [(0, 3), (1, 3), (2, 3), (3, 3), (4, 3)], true, [.int .i64, .int .i64, .int .i64, .int .i64, .int .i64]⟩),
  (106, ⟨.sl 5, false, [.sl]⟩)]
theorem orc_tok : AllTi Try.prog orc_ts := ⟨⟨⟨_, Try.runUnderlying3, rfl⟩, Try.isAgg3, Try.sizeOf3⟩,
  ⟨⟨_, Try.runUnderlying4, rfl⟩, Try.isAgg4, Try.sizeOf4⟩,
  ⟨⟨_, Try.runUnderlying5, rfl⟩, Try.isAgg5, Try.sizeOf5⟩,
  ⟨⟨_, Try.runUnderlying9, rfl⟩, Try.isAgg9, Try.sizeOf9⟩,
  ⟨⟨_, Try.runUnderlying22, rfl⟩, Try.isAgg22, Try.sizeOf22⟩,
  ⟨⟨_, Try.runUnderlying24, ⟨_, rfl⟩⟩, Try.isAgg24, Try.sizeOf24⟩,
  ⟨⟨_, Try.runUnderlying42, rfl⟩, Try.isAgg42, Try.sizeOf42⟩,
  ⟨⟨_, Try.runUnderlying45, rfl⟩, Try.isAgg45, Try.sizeOf45⟩,
  ⟨⟨_, Try.runUnderlying46, rfl⟩, Try.isAgg46, Try.sizeOf46⟩,
  ⟨⟨_, Try.runUnderlying47, rfl⟩, Try.isAgg47, Try.sizeOf47⟩,
  ⟨⟨_, Try.runUnderlying48, rfl⟩, Try.isAgg48, Try.sizeOf48⟩,
  ⟨⟨_, Try.runUnderlying49, rfl⟩, Try.isAgg49, Try.sizeOf49⟩,
  ⟨⟨_, Try.runUnderlying50, rfl⟩, Try.isAgg50, Try.sizeOf50⟩,
  ⟨⟨_, Try.runUnderlying52, ⟨_, rfl, rfl⟩⟩, Try.isAgg52, Try.sizeOf52⟩,
  ⟨⟨_, Try.runUnderlying54, ⟨_, rfl, rfl⟩⟩, Try.isAgg54, Try.sizeOf54⟩,
  ⟨⟨_, Try.runUnderlying61, rfl⟩, Try.isAgg61, Try.sizeOf61⟩,
  ⟨⟨_, Try.runUnderlying62, rfl⟩, Try.isAgg62, Try.sizeOf62⟩,
  ⟨⟨_, Try.runUnderlying66, ⟨_, rfl, rfl⟩⟩, Try.isAgg66, Try.sizeOf66⟩,
  ⟨⟨_, Try.runUnderlying82, rfl⟩, Try.isAgg82, Try.sizeOf82⟩,
  ⟨⟨_, Try.runUnderlying84, rfl⟩, Try.isAgg84, Try.sizeOf84⟩,
  ⟨⟨_, Try.runUnderlying86, rfl⟩, Try.isAgg86, Try.sizeOf86⟩,
  ⟨⟨_, Try.runUnderlying88, rfl⟩, Try.isAgg88, Try.sizeOf88⟩,
  ⟨⟨_, Try.runUnderlying90, rfl⟩, Try.isAgg90, Try.sizeOf90⟩,
  ⟨⟨_, Try.runUnderlying93, ⟨_, rfl, rfl⟩⟩, Try.isAgg93, Try.sizeOf93⟩,
  ⟨⟨_, Try.runUnderlying98, ⟨_, rfl, rfl⟩⟩, Try.isAgg98, Try.sizeOf98⟩,
  ⟨⟨_, Try.runUnderlying101, ⟨_, rfl, rfl⟩⟩, Try.isAgg101, Try.sizeOf101⟩,
  ⟨⟨_, Try.runUnderlying104, ⟨_, rfl, rfl⟩⟩, Try.isAgg104, Try.sizeOf104⟩,
  ⟨⟨_, Try.runUnderlying106, rfl⟩, Try.isAgg106, Try.sizeOf106⟩, trivial⟩
def orc_sg : List (Nat × List (Bool × List Kd)) := [(3, [(false, [.bool])]),
  (4, [(false, [.bool])]),
  (5, [(false, [.bool])]),
  (6, [(false, [.bool])]),
  (7, [(false, [.bool])]),
  (8, [(false, [.bool])]),
  (9, [(false, [.bool])]),
  (10, [(false, [.bool])]),
  (11, [(false, [.bool])]),
  (12, [(false, [.bool])]),
  (13, [(false, [.bool])]),
  (14, [(false, [.ptr])]),
  (15, [(false, [.sl])]),
  (16, [(false, [.bool])]),
  (17, [(false, [.bool])]),
  (18, [(false, [.sl]), (false, [.bool])]),
  (19, [(false, [.int .i64])]),
  (20, [(false, [.bool])]),
  (21, [(false, [.bool])]),
  (22, [(false, [.int .i64]), (false, [.int .i64]), (false, [.bool])]),
  (23, [(false, [.int .i64]), (false, [.bool])]),
  (24, [(false, [.bool])]),
  (25, [(false, [.sl])]),
  (26, [(false, [.bool])]),
  (27, []),
  (28, [(false, [.bool])]),
  (29, [(false, [.ptr])]),
  (30, [(false, [.int .i64]), (false, [.bool])]),
  (31, [(false, [.bool])]),
  (32, [(false, [.int .i64]), (false, [.bool])]),
  (33, [(false, [.int .i64])]),
  (34, [(false, [.int .i64]), (false, [.bool])]),
  (35, [(false, [.int .i64]), (false, [.bool])]),
  (36, [(false, [.int .i64]), (false, [.int .i64])]),
  (37, [(false, [.bool])]),
  (38, [(false, [.sl])]),
  (39, [(false, [.int .i64])]),
  (40, [(false, [.int .i64])]),
  (41, [(false, [.sl])]),
  (42, [(false, [.int .i64])]),
  (43, [(false, [.bool])]),
  (44, [(false, [.bool])]),
  (45, [(false, [.bool])]),
  (46, [(false, [.bool])]),
  (47, [(false, [.bool])]),
  (48, [(false, [.bool])]),
  (49, []),
  (50, []),
  (51, []),
  (52, []),
  (53, []),
  (54, []),
  (55, [(false, [.sl])]),
  (56, [(false, [.sl])]),
  (57, [(false, [.sl])]),
  (58, [(false, [.sl])]),
  (59, [(false, [.sl])]),
  (60, [(false, [.sl])]),
  (61, [(false, [.bool])]),
  (62, [(false, [.bool])]),
  (63, [(false, [.bool])]),
  (64, [(false, [.bool])]),
  (65, [(false, [.bool])]),
  (66, [(false, [.bool])]),
  (67, [(false, [.bool])]),
  (68, [(false, [.int .i64])]),
  (69, [(false, [.bool])]),
  (70, [(false, [.bool])]),
  (71, [(false, [.bool])]),
  (72, [(false, [.bool])]),
  (73, [(false, [.bool])]),
  (74, [(false, [.sl])]),
  (75, [(false, [.sl])]),
  (76, [(false, [.sl])]),
  (77, [(false, [.sl])]),
  (78, [(false, [.sl])]),
  (79, [(false, [.sl])]),
  (80, [(false, [.str])])]
theorem orc_sok : AllSg Try.prog orc_sg := ⟨Try.call3,
  Try.call4,
  Try.call5,
  Try.call6,
  Try.call7,
  Try.call8,
  Try.call9,
  Try.call10,
  Try.call11,
  Try.call12,
  Try.call13,
  Try.call14,
  Try.call15,
  Try.call16,
  Try.call17,
  Try.call18,
  Try.call19,
  Try.call20,
  Try.call21,
  Try.call22,
  Try.call23,
  Try.call24,
  Try.call25,
  Try.call26,
  Try.call27,
  Try.call28,
  Try.call29,
  Try.call30,
  Try.call31,
  Try.call32,
  Try.call33,
  Try.call34,
  Try.call35,
  Try.call36,
  Try.call37,
  Try.call38,
  Try.call39,
  Try.call40,
  Try.call41,
  Try.call42,
  Try.call43,
  Try.call44,
  Try.call45,
  Try.call46,
  Try.call47,
  Try.call48,
  Try.call49,
  Try.call50,
  Try.call51,
  Try.call52,
  Try.call53,
  Try.call54,
  Try.call55,
  Try.call56,
  Try.call57,
  Try.call58,
  Try.call59,
  Try.call60,
  Try.call61,
  Try.call62,
  Try.call63,
  Try.call64,
  Try.call65,
  Try.call66,
  Try.call67,
  Try.call68,
  Try.call69,
  Try.call70,
  Try.call71,
  Try.call72,
  Try.call73,
  Try.call74,
  Try.call75,
  Try.call76,
  Try.call77,
  Try.call78,
  Try.call79,
  Try.call80, trivial⟩
def orc : Orc Try.prog := ⟨orc_ts, allTi_of orc_tok, orc_sg, allSg_of orc_sok⟩
theorem orc_wide : Try.prog.follows .mixedOrders = true := by kernel_rfl
end Go.Proofs.Ytaikagkakajdfaa
