/- What the lift is told of the program: types and functions, each fact proved. Printed by a program of mine (wip/lift/gen.py). -/
import Derived.Test.YticdjlkpkhahfaaProg
import Derived.Test.YticdjlkpkhahfaaLiftH
set_option maxRecDepth 100000
namespace Go.Proofs.Yticdjlkpkhahfaa
open Go.RowKit

@[reducible] def T_int : TypeId := 3
@[reducible] def T_bool : TypeId := 4
@[reducible] def T_uint8 : TypeId := 5
@[reducible] def T_string : TypeId := 9
@[reducible] def T_sl_int : TypeId := 22
@[reducible] def T_sl_hollowaylaw5_Op : TypeId := 23
@[reducible] def T_p_pile_Pile : TypeId := 26
@[reducible] def T_sl_sl_string : TypeId := 30
@[reducible] def T_sl_sl_int : TypeId := 31
@[reducible] def T_sl_sl_api_Word : TypeId := 32
@[reducible] def T_sl_sl_api_Seen : TypeId := 33
@[reducible] def T_sl_sl_api_Ins : TypeId := 34
@[reducible] def T_sl_sl_api_Out : TypeId := 35
@[reducible] def T_hollowaybook_Book : TypeId := 37
@[reducible] def T_hollowaylaw5_Op : TypeId := 39
@[reducible] def T_pile_Pile : TypeId := 53
@[reducible] def T_sl_string : TypeId := 68
@[reducible] def T_sl_api_Word : TypeId := 70
@[reducible] def T_sl_api_Seen : TypeId := 72
@[reducible] def T_sl_api_Ins : TypeId := 74
@[reducible] def T_sl_api_Out : TypeId := 76
@[reducible] def T_api_Out : TypeId := 79
@[reducible] def T_api_Word : TypeId := 84
@[reducible] def T_api_Seen : TypeId := 87
@[reducible] def T_api_Ins : TypeId := 90
@[reducible] def T_sl_uint8 : TypeId := 92
@[reducible] def fn_hollowaylaw5_PilePlays : FuncId := 3
@[reducible] def fn_hollowaylaw5_alive : FuncId := 4
@[reducible] def fn_hollowaybook_LentInts : FuncId := 5
@[reducible] def fn_pile_New : FuncId := 6
@[reducible] def fn_hollowaybook_StaysInts : FuncId := 7
@[reducible] def fn_pile_Pile_Push : FuncId := 8
@[reducible] def fn_pile_Pile_Pop : FuncId := 9
@[reducible] def fn_hollowaybook_Book_Ints : FuncId := 10
@[reducible] def fn_hollowaybook_SameInts : FuncId := 11
@[reducible] def fn_pile_Pile_Set : FuncId := 12
@[reducible] def fn_pile_Pile_Cut : FuncId := 13
@[reducible] def fn_pile_Pile_Copy : FuncId := 14
@[reducible] def fn_pile_Pile_All : FuncId := 15
@[reducible] def fn_pile_Pile_Peek : FuncId := 16
@[reducible] def fn_pile_Pile_Len : FuncId := 17
@[reducible] def fn_hollowaybook_Book_Apart : FuncId := 18
@[reducible] def fn_hollowaybook_copyInts : FuncId := 19
@[reducible] def fn_slices_Clone_sl_int_int : FuncId := 20
@[reducible] def fn_pile_Pile_place : FuncId := 21
@[reducible] def fn_hollowaybook_Book_stillTexts : FuncId := 22
@[reducible] def fn_hollowaybook_Book_stillInts : FuncId := 23
@[reducible] def fn_hollowaybook_Book_stillWords : FuncId := 24
@[reducible] def fn_hollowaybook_Book_stillSeens : FuncId := 25
@[reducible] def fn_hollowaybook_Book_stillCodes : FuncId := 26
@[reducible] def fn_hollowaybook_Book_stillExits : FuncId := 27
@[reducible] def fn_hollowaybook_Book_putExits : FuncId := 28
@[reducible] def fn_hollowaybook_Book_putTexts : FuncId := 29
@[reducible] def fn_hollowaybook_Book_putInts : FuncId := 30
@[reducible] def fn_hollowaybook_Book_putWords : FuncId := 31
@[reducible] def fn_hollowaybook_Book_putSeens : FuncId := 32
@[reducible] def fn_hollowaybook_Book_putCodes : FuncId := 33
@[reducible] def fn_hollowaybook_Book_growTexts : FuncId := 34
@[reducible] def fn_hollowaybook_Book_growInts : FuncId := 35
@[reducible] def fn_hollowaybook_Book_growWords : FuncId := 36
@[reducible] def fn_hollowaybook_Book_growSeens : FuncId := 37
@[reducible] def fn_hollowaybook_Book_growCodes : FuncId := 38
@[reducible] def fn_hollowaybook_Book_growExits : FuncId := 39
@[reducible] def fn_hollowaybook_markedTexts : FuncId := 40
@[reducible] def fn_hollowaybook_markedInts : FuncId := 41
@[reducible] def fn_hollowaybook_markedWords : FuncId := 42
@[reducible] def fn_hollowaybook_markedSeens : FuncId := 43
@[reducible] def fn_hollowaybook_markedCodes : FuncId := 44
@[reducible] def fn_hollowaybook_markedExits : FuncId := 45
@[reducible] def fn_hollowaybook_SameTexts : FuncId := 46
@[reducible] def fn_hollowaybook_SameWords : FuncId := 47
@[reducible] def fn_hollowaybook_SameSeens : FuncId := 48
@[reducible] def fn_hollowaybook_SameCodes : FuncId := 49
@[reducible] def fn_hollowaybook_SameExits : FuncId := 50
@[reducible] def fn_hollowaybook_markExits : FuncId := 51
@[reducible] def fn_hollowaybook_markTexts : FuncId := 52
@[reducible] def fn_hollowaybook_markInts : FuncId := 53
@[reducible] def fn_hollowaybook_markWords : FuncId := 54
@[reducible] def fn_hollowaybook_markSeens : FuncId := 55
@[reducible] def fn_hollowaybook_markCodes : FuncId := 56
@[reducible] def fn_hollowaybook_name : FuncId := 57
def orc_ts : List (Nat × Ti) := [(3, ⟨.int .i64, false, [.int .i64]⟩),
  (4, ⟨.bool, false, [.bool]⟩),
  (5, ⟨.int .u8, false, [.int .u8]⟩),
  (9, ⟨.str, false, [.str]⟩),
  (22, ⟨.sl 3, false, [.sl]⟩),
  (23, ⟨.sl 39, false, [.sl]⟩),
  (26, ⟨.ptr, false, [.ptr]⟩),
  (30, ⟨.sl 68, false, [.sl]⟩),
  (31, ⟨.sl 22, false, [.sl]⟩),
  (32, ⟨.sl 70, false, [.sl]⟩),
  (33, ⟨.sl 72, false, [.sl]⟩),
  (34, ⟨.sl 74, false, [.sl]⟩),
  (35, ⟨.sl 76, false, [.sl]⟩),
  (37, ⟨.st [(0, 30), (1, 30), (2, 31), (3, 31), (4, 32), (5, 32), (6, 33), (7, 33), (8, 34), (9, 34), (10, 35), (11, 35)], true, [.sl, .sl, .sl, .sl, .sl, .sl, .sl, .sl, .sl, .sl, .sl, .sl]⟩),
  (39, ⟨.st [(0, 3), (1, 3), (2, 3), (3, 22)], true, [.int .i64, .int .i64, .int .i64, .sl]⟩),
  (53, ⟨.st [(0, 3), (1, 22)], true, [.int .i64, .sl]⟩),
  (68, ⟨.sl 9, false, [.sl]⟩),
  (70, ⟨.sl 84, false, [.sl]⟩),
  (72, ⟨.sl 87, false, [.sl]⟩),
  (74, ⟨.sl 90, false, [.sl]⟩),
  (76, ⟨.sl 79, false, [.sl]⟩),
  (79, ⟨.st [(0, 3), (1, 3), (2, 22), (3, 22)], true, [.int .i64, .int .i64, .sl, .sl]⟩),
  (84, ⟨.st [(0, 9), (1, 3), (2, 3), (3, 4)], true, [.str, .int .i64, .int .i64, .bool]⟩),
  (87, ⟨.st [(0, 3), (1, 3), (2, 3), (3, 3)], true, [.int .i64, .int .i64, .int .i64, .int .i64]⟩),
  (90, ⟨.st [(0, 3), (1, 3), (2, 3), (3, 3), (4, 3)], true, [.int .i64, .int .i64, .int .i64, .int .i64, .int .i64]⟩),
  (92, ⟨.sl 5, false, [.sl]⟩)]
theorem orc_tok : AllTi Try.prog orc_ts := ⟨⟨⟨_, Try.runUnderlying3, rfl⟩, Try.isAgg3, Try.sizeOf3⟩,
  ⟨⟨_, Try.runUnderlying4, rfl⟩, Try.isAgg4, Try.sizeOf4⟩,
  ⟨⟨_, Try.runUnderlying5, rfl⟩, Try.isAgg5, Try.sizeOf5⟩,
  ⟨⟨_, Try.runUnderlying9, rfl⟩, Try.isAgg9, Try.sizeOf9⟩,
  ⟨⟨_, Try.runUnderlying22, rfl⟩, Try.isAgg22, Try.sizeOf22⟩,
  ⟨⟨_, Try.runUnderlying23, rfl⟩, Try.isAgg23, Try.sizeOf23⟩,
  ⟨⟨_, Try.runUnderlying26, ⟨_, rfl⟩⟩, Try.isAgg26, Try.sizeOf26⟩,
  ⟨⟨_, Try.runUnderlying30, rfl⟩, Try.isAgg30, Try.sizeOf30⟩,
  ⟨⟨_, Try.runUnderlying31, rfl⟩, Try.isAgg31, Try.sizeOf31⟩,
  ⟨⟨_, Try.runUnderlying32, rfl⟩, Try.isAgg32, Try.sizeOf32⟩,
  ⟨⟨_, Try.runUnderlying33, rfl⟩, Try.isAgg33, Try.sizeOf33⟩,
  ⟨⟨_, Try.runUnderlying34, rfl⟩, Try.isAgg34, Try.sizeOf34⟩,
  ⟨⟨_, Try.runUnderlying35, rfl⟩, Try.isAgg35, Try.sizeOf35⟩,
  ⟨⟨_, Try.runUnderlying37, ⟨_, rfl, rfl⟩⟩, Try.isAgg37, Try.sizeOf37⟩,
  ⟨⟨_, Try.runUnderlying39, ⟨_, rfl, rfl⟩⟩, Try.isAgg39, Try.sizeOf39⟩,
  ⟨⟨_, Try.runUnderlying53, ⟨_, rfl, rfl⟩⟩, Try.isAgg53, Try.sizeOf53⟩,
  ⟨⟨_, Try.runUnderlying68, rfl⟩, Try.isAgg68, Try.sizeOf68⟩,
  ⟨⟨_, Try.runUnderlying70, rfl⟩, Try.isAgg70, Try.sizeOf70⟩,
  ⟨⟨_, Try.runUnderlying72, rfl⟩, Try.isAgg72, Try.sizeOf72⟩,
  ⟨⟨_, Try.runUnderlying74, rfl⟩, Try.isAgg74, Try.sizeOf74⟩,
  ⟨⟨_, Try.runUnderlying76, rfl⟩, Try.isAgg76, Try.sizeOf76⟩,
  ⟨⟨_, Try.runUnderlying79, ⟨_, rfl, rfl⟩⟩, Try.isAgg79, Try.sizeOf79⟩,
  ⟨⟨_, Try.runUnderlying84, ⟨_, rfl, rfl⟩⟩, Try.isAgg84, Try.sizeOf84⟩,
  ⟨⟨_, Try.runUnderlying87, ⟨_, rfl, rfl⟩⟩, Try.isAgg87, Try.sizeOf87⟩,
  ⟨⟨_, Try.runUnderlying90, ⟨_, rfl, rfl⟩⟩, Try.isAgg90, Try.sizeOf90⟩,
  ⟨⟨_, Try.runUnderlying92, rfl⟩, Try.isAgg92, Try.sizeOf92⟩, trivial⟩
def orc_sg : List (Nat × List (Bool × List Kd)) := [(3, [(false, [.bool])]),
  (4, [(false, [.bool])]),
  (5, [(false, [.sl])]),
  (6, [(false, [.ptr])]),
  (7, [(false, [.bool])]),
  (8, [(false, [.bool])]),
  (9, [(false, [.sl]), (false, [.bool])]),
  (10, []),
  (11, [(false, [.bool])]),
  (12, [(false, [.bool])]),
  (13, [(false, [.bool])]),
  (14, [(false, [.ptr])]),
  (15, [(false, [.sl])]),
  (16, [(false, [.int .i64]), (false, [.bool])]),
  (17, [(false, [.int .i64])]),
  (18, [(false, [.bool])]),
  (19, [(false, [.sl])]),
  (20, [(false, [.sl])]),
  (21, [(false, [.int .i64])]),
  (22, [(false, [.bool])]),
  (23, [(false, [.bool])]),
  (24, [(false, [.bool])]),
  (25, [(false, [.bool])]),
  (26, [(false, [.bool])]),
  (27, [(false, [.bool])]),
  (28, []),
  (29, []),
  (30, []),
  (31, []),
  (32, []),
  (33, []),
  (34, [(false, [.sl])]),
  (35, [(false, [.sl])]),
  (36, [(false, [.sl])]),
  (37, [(false, [.sl])]),
  (38, [(false, [.sl])]),
  (39, [(false, [.sl])]),
  (40, [(false, [.bool])]),
  (41, [(false, [.bool])]),
  (42, [(false, [.bool])]),
  (43, [(false, [.bool])]),
  (44, [(false, [.bool])]),
  (45, [(false, [.bool])]),
  (46, [(false, [.bool])]),
  (47, [(false, [.bool])]),
  (48, [(false, [.bool])]),
  (49, [(false, [.bool])]),
  (50, [(false, [.bool])]),
  (51, [(false, [.sl])]),
  (52, [(false, [.sl])]),
  (53, [(false, [.sl])]),
  (54, [(false, [.sl])]),
  (55, [(false, [.sl])]),
  (56, [(false, [.sl])]),
  (57, [(false, [.str])])]
theorem orc_sok : AllSg Try.prog orc_sg := ⟨Try.call3,
  Try.call4,
  Try.call5,
  Try.call6,
  Try.call7,
  Try.call8,
  Try.call9,
  Try.call10,
  Try.call11,
  Try.call12,
  Try.call13,
  Try.call14,
  Try.call15,
  Try.call16,
  Try.call17,
  Try.call18,
  Try.call19,
  Try.call20,
  Try.call21,
  Try.call22,
  Try.call23,
  Try.call24,
  Try.call25,
  Try.call26,
  Try.call27,
  Try.call28,
  Try.call29,
  Try.call30,
  Try.call31,
  Try.call32,
  Try.call33,
  Try.call34,
  Try.call35,
  Try.call36,
  Try.call37,
  Try.call38,
  Try.call39,
  Try.call40,
  Try.call41,
  Try.call42,
  Try.call43,
  Try.call44,
  Try.call45,
  Try.call46,
  Try.call47,
  Try.call48,
  Try.call49,
  Try.call50,
  Try.call51,
  Try.call52,
  Try.call53,
  Try.call54,
  Try.call55,
  Try.call56,
  Try.call57, trivial⟩
def orc : Orc Try.prog := ⟨orc_ts, allTi_of orc_tok, orc_sg, allSg_of orc_sok⟩
theorem orc_wide : Try.prog.follows .mixedOrders = true := by kernel_rfl
end Go.Proofs.Yticdjlkpkhahfaa
