/- The lifted texts of small packages. -/
import Derived.Test.YtlpbdloloaoapaaProg
import Derived.Test.YtlpbdloloaoapaaJ1
import Derived.Test.YtlpbdloloaoapaaJ2

/- What the lift is told of the program: types and functions, each fact proved. Printed by a program of mine (wip/lift/gen.py). -/
set_option maxRecDepth 100000
namespace Go.Proofs.Ytlpbdloloaoapaa
open Go.RowKit

@[reducible] def T_x : TypeId := 0
@[reducible] def T_int : TypeId := 3
@[reducible] def T_bool : TypeId := 4
@[reducible] def T_uint8 : TypeId := 5
@[reducible] def T_string : TypeId := 9
@[reducible] def T_sl_hollowaylaw21_Op : TypeId := 22
@[reducible] def T_p_cache_Cache : TypeId := 24
@[reducible] def T_sl_int : TypeId := 26
@[reducible] def T_sl_sl_string : TypeId := 28
@[reducible] def T_sl_sl_int : TypeId := 29
@[reducible] def T_sl_sl_api_Word : TypeId := 30
@[reducible] def T_sl_sl_api_Seen : TypeId := 31
@[reducible] def T_sl_sl_api_Ins : TypeId := 32
@[reducible] def T_sl_sl_api_Out : TypeId := 33
@[reducible] def T_hollowaybook_Book : TypeId := 35
@[reducible] def T_hollowaylaw21_Op : TypeId := 37
@[reducible] def T_sl_api_Ins : TypeId := 38
@[reducible] def T_sl_api_Out : TypeId := 39
@[reducible] def T_api_Trace : TypeId := 41
@[reducible] def T_api_Ins : TypeId := 45
@[reducible] def T_sl_api_Trace : TypeId := 58
@[reducible] def T_cache_Cache : TypeId := 60
@[reducible] def T_api_Out : TypeId := 62
@[reducible] def T_sl_string : TypeId := 88
@[reducible] def T_sl_api_Word : TypeId := 90
@[reducible] def T_sl_api_Seen : TypeId := 92
@[reducible] def T_api_Word : TypeId := 98
@[reducible] def T_api_Seen : TypeId := 101
@[reducible] def T_sl_uint8 : TypeId := 104
@[reducible] def fn_hollowaylaw21_CachePlays : FuncId := 3
@[reducible] def fn_hollowaylaw21_alive : FuncId := 4
@[reducible] def fn_cache_New : FuncId := 5
@[reducible] def fn_hollowaylaw21_trace : FuncId := 6
@[reducible] def fn_cache_Cache_Put : FuncId := 7
@[reducible] def fn_hollowaybook_Book_Ints : FuncId := 8
@[reducible] def fn_hollowaybook_SameInts : FuncId := 9
@[reducible] def fn_cache_Cache_Get : FuncId := 10
@[reducible] def fn_hollowaybook_SameTrace : FuncId := 11
@[reducible] def fn_hollowaybook_Book_Trace : FuncId := 12
@[reducible] def fn_cache_Cache_Drop : FuncId := 13
@[reducible] def fn_cache_Cache_Starts : FuncId := 14
@[reducible] def fn_cache_Cache_Eldest : FuncId := 15
@[reducible] def fn_cache_Cache_Len : FuncId := 16
@[reducible] def fn_cache_Cache_Has : FuncId := 17
@[reducible] def fn_hollowaybook_Book_Apart : FuncId := 18
@[reducible] def fn_cache_Cache_place : FuncId := 19
@[reducible] def fn_slices_Delete_sl_api_Trace_api_Trace : FuncId := 20
@[reducible] def fn_cache_own : FuncId := 21
@[reducible] def fn_hollowaybook_copyInts : FuncId := 22
@[reducible] def fn_hollowaybook_SameCodes : FuncId := 23
@[reducible] def fn_hollowaybook_SameExits : FuncId := 24
@[reducible] def fn_hollowaybook_Book_Codes : FuncId := 25
@[reducible] def fn_hollowaybook_Book_Exits : FuncId := 26
@[reducible] def fn_hollowaybook_Book_stillTexts : FuncId := 27
@[reducible] def fn_hollowaybook_Book_stillInts : FuncId := 28
@[reducible] def fn_hollowaybook_Book_stillWords : FuncId := 29
@[reducible] def fn_hollowaybook_Book_stillSeens : FuncId := 30
@[reducible] def fn_hollowaybook_Book_stillCodes : FuncId := 31
@[reducible] def fn_hollowaybook_Book_stillExits : FuncId := 32
@[reducible] def fn_hollowaybook_Book_putExits : FuncId := 33
@[reducible] def fn_hollowaybook_Book_putTexts : FuncId := 34
@[reducible] def fn_hollowaybook_Book_putInts : FuncId := 35
@[reducible] def fn_hollowaybook_Book_putWords : FuncId := 36
@[reducible] def fn_hollowaybook_Book_putSeens : FuncId := 37
@[reducible] def fn_hollowaybook_Book_putCodes : FuncId := 38
@[reducible] def fn_hollowaybook_Book_growTexts : FuncId := 39
@[reducible] def fn_hollowaybook_Book_growInts : FuncId := 40
@[reducible] def fn_hollowaybook_Book_growWords : FuncId := 41
@[reducible] def fn_hollowaybook_Book_growSeens : FuncId := 42
@[reducible] def fn_hollowaybook_Book_growCodes : FuncId := 43
@[reducible] def fn_hollowaybook_Book_growExits : FuncId := 44
@[reducible] def fn_hollowaybook_markedTexts : FuncId := 45
@[reducible] def fn_hollowaybook_markedInts : FuncId := 46
@[reducible] def fn_hollowaybook_markedWords : FuncId := 47
@[reducible] def fn_hollowaybook_markedSeens : FuncId := 48
@[reducible] def fn_hollowaybook_markedCodes : FuncId := 49
@[reducible] def fn_hollowaybook_markedExits : FuncId := 50
@[reducible] def fn_slices_IndexFunc_sl_api_Trace_api_Trace : FuncId := 51
@[reducible] def fn_cache_Cache_place_1 : FuncId := 52
@[reducible] def fn_slices_Clone_sl_api_Ins_api_Ins : FuncId := 53
@[reducible] def fn_slices_Clone_sl_api_Out_api_Out : FuncId := 54
@[reducible] def fn_slices_Clone_sl_int_int : FuncId := 55
@[reducible] def fn_hollowaybook_copyCodes : FuncId := 56
@[reducible] def fn_hollowaybook_copyExits : FuncId := 57
@[reducible] def fn_hollowaybook_SameTexts : FuncId := 58
@[reducible] def fn_hollowaybook_SameWords : FuncId := 59
@[reducible] def fn_hollowaybook_SameSeens : FuncId := 60
@[reducible] def fn_hollowaybook_markExits : FuncId := 61
@[reducible] def fn_hollowaybook_markTexts : FuncId := 62
@[reducible] def fn_hollowaybook_markInts : FuncId := 63
@[reducible] def fn_hollowaybook_markWords : FuncId := 64
@[reducible] def fn_hollowaybook_markSeens : FuncId := 65
@[reducible] def fn_hollowaybook_markCodes : FuncId := 66
@[reducible] def fn_hollowaybook_name : FuncId := 67
def orc_ts : List (Nat × Ti) := [(3, ⟨.int .i64, false, [.int .i64]⟩),
  (4, ⟨.bool, false, [.bool]⟩),
  (5, ⟨.int .u8, false, [.int .u8]⟩),
  (9, ⟨.str, false, [.str]⟩),
  (22, ⟨.sl 37, false, [.sl]⟩),
  (24, ⟨.ptr, false, [.ptr]⟩),
  (26, ⟨.sl 3, false, [.sl]⟩),
  (28, ⟨.sl 88, false, [.sl]⟩),
  (29, ⟨.sl 26, false, [.sl]⟩),
  (30, ⟨.sl 90, false, [.sl]⟩),
  (31, ⟨.sl 92, false, [.sl]⟩),
  (32, ⟨.sl 38, false, [.sl]⟩),
  (33, ⟨.sl 39, false, [.sl]⟩),
  (35, ⟨.st [(0, 28), (1, 28), (2, 29), (3, 29), (4, 30), (5, 30), (6, 31), (7, 31), (8, 32), (9, 32), (10, 33), (11, 33)], true, [.sl, .sl, .sl, .sl, .sl, .sl, .sl, .sl, .sl, .sl, .sl, .sl]⟩),
  (37, ⟨.st [(0, 3), (1, 3), (2, 3)], true, [.int .i64, .int .i64, .int .i64]⟩),
  (38, ⟨.sl 45, false, [.sl]⟩),
  (39, ⟨.sl 62, false, [.sl]⟩),
  (41, ⟨.st [(0, 3), (1, 3), (2, 3), (3, 3), (4, 3), (5, 38), (6, 39), (7, 3), (8, 26)], true, [.int .i64, .int .i64, .int .i64, .int .i64, .int .i64, .sl, .sl, .int .i64, .sl]⟩),
  (45, ⟨.st [(0, 3), (1, 3), (2, 3), (3, 3), (4, 3)], true, [.int .i64, .int .i64, .int .i64, .int .i64, .int .i64]⟩),
  (58, ⟨.sl 41, false, [.sl]⟩),
  (60, ⟨.st [(0, 3), (1, 58)], true, [.int .i64, .sl]⟩),
  (62, ⟨.st [(0, 3), (1, 3), (2, 26), (3, 26)], true, [.int .i64, .int .i64, .sl, .sl]⟩),
  (88, ⟨.sl 9, false, [.sl]⟩),
  (90, ⟨.sl 98, false, [.sl]⟩),
  (92, ⟨.sl 101, false, [.sl]⟩),
  (98, ⟨.st [(0, 9), (1, 3), (2, 3), (3, 4)], true, [.str, .int .i64, .int .i64, .bool]⟩),
  (101, ⟨.st [(0, 3), (1, 3), (2, 3), (3, 3)], true, [.int .i64, .int .i64, .int .i64, .int .i64]⟩),
  (104, ⟨.sl 5, false, [.sl]⟩)]
theorem orc_tok : AllTi Try.prog orc_ts := ⟨⟨⟨_, Try.runUnderlying3, rfl⟩, Try.isAgg3, Try.sizeOf3⟩,
  ⟨⟨_, Try.runUnderlying4, rfl⟩, Try.isAgg4, Try.sizeOf4⟩,
  ⟨⟨_, Try.runUnderlying5, rfl⟩, Try.isAgg5, Try.sizeOf5⟩,
  ⟨⟨_, Try.runUnderlying9, rfl⟩, Try.isAgg9, Try.sizeOf9⟩,
  ⟨⟨_, Try.runUnderlying22, rfl⟩, Try.isAgg22, Try.sizeOf22⟩,
  ⟨⟨_, Try.runUnderlying24, ⟨_, rfl⟩⟩, Try.isAgg24, Try.sizeOf24⟩,
  ⟨⟨_, Try.runUnderlying26, rfl⟩, Try.isAgg26, Try.sizeOf26⟩,
  ⟨⟨_, Try.runUnderlying28, rfl⟩, Try.isAgg28, Try.sizeOf28⟩,
  ⟨⟨_, Try.runUnderlying29, rfl⟩, Try.isAgg29, Try.sizeOf29⟩,
  ⟨⟨_, Try.runUnderlying30, rfl⟩, Try.isAgg30, Try.sizeOf30⟩,
  ⟨⟨_, Try.runUnderlying31, rfl⟩, Try.isAgg31, Try.sizeOf31⟩,
  ⟨⟨_, Try.runUnderlying32, rfl⟩, Try.isAgg32, Try.sizeOf32⟩,
  ⟨⟨_, Try.runUnderlying33, rfl⟩, Try.isAgg33, Try.sizeOf33⟩,
  ⟨⟨_, Try.runUnderlying35, ⟨_, rfl, rfl⟩⟩, Try.isAgg35, Try.sizeOf35⟩,
  ⟨⟨_, Try.runUnderlying37, ⟨_, rfl, rfl⟩⟩, Try.isAgg37, Try.sizeOf37⟩,
  ⟨⟨_, Try.runUnderlying38, rfl⟩, Try.isAgg38, Try.sizeOf38⟩,
  ⟨⟨_, Try.runUnderlying39, rfl⟩, Try.isAgg39, Try.sizeOf39⟩,
  ⟨⟨_, Try.runUnderlying41, ⟨_, rfl, rfl⟩⟩, Try.isAgg41, Try.sizeOf41⟩,
  ⟨⟨_, Try.runUnderlying45, ⟨_, rfl, rfl⟩⟩, Try.isAgg45, Try.sizeOf45⟩,
  ⟨⟨_, Try.runUnderlying58, rfl⟩, Try.isAgg58, Try.sizeOf58⟩,
  ⟨⟨_, Try.runUnderlying60, ⟨_, rfl, rfl⟩⟩, Try.isAgg60, Try.sizeOf60⟩,
  ⟨⟨_, Try.runUnderlying62, ⟨_, rfl, rfl⟩⟩, Try.isAgg62, Try.sizeOf62⟩,
  ⟨⟨_, Try.runUnderlying88, rfl⟩, Try.isAgg88, Try.sizeOf88⟩,
  ⟨⟨_, Try.runUnderlying90, rfl⟩, Try.isAgg90, Try.sizeOf90⟩,
  ⟨⟨_, Try.runUnderlying92, rfl⟩, Try.isAgg92, Try.sizeOf92⟩,
  ⟨⟨_, Try.runUnderlying98, ⟨_, rfl, rfl⟩⟩, Try.isAgg98, Try.sizeOf98⟩,
  ⟨⟨_, Try.runUnderlying101, ⟨_, rfl, rfl⟩⟩, Try.isAgg101, Try.sizeOf101⟩,
  ⟨⟨_, Try.runUnderlying104, rfl⟩, Try.isAgg104, Try.sizeOf104⟩, trivial⟩
def orc_sg : List (Nat × List (Bool × List Kd)) := [(3, [(false, [.bool])]),
  (4, [(false, [.bool])]),
  (5, [(false, [.ptr])]),
  (6, [(true, [.int .i64, .int .i64, .int .i64, .int .i64, .int .i64, .sl, .sl, .int .i64, .sl])]),
  (7, [(false, [.sl])]),
  (8, []),
  (9, [(false, [.bool])]),
  (10, [(true, [.int .i64, .int .i64, .int .i64, .int .i64, .int .i64, .sl, .sl, .int .i64, .sl]), (false, [.bool])]),
  (11, [(false, [.bool])]),
  (12, []),
  (13, [(false, [.bool])]),
  (14, [(false, [.sl])]),
  (15, [(false, [.int .i64]), (false, [.bool])]),
  (16, [(false, [.int .i64])]),
  (17, [(false, [.bool])]),
  (18, [(false, [.bool])]),
  (19, [(false, [.int .i64])]),
  (20, [(false, [.sl])]),
  (21, [(true, [.int .i64, .int .i64, .int .i64, .int .i64, .int .i64, .sl, .sl, .int .i64, .sl])]),
  (22, [(false, [.sl])]),
  (23, [(false, [.bool])]),
  (24, [(false, [.bool])]),
  (25, []),
  (26, []),
  (27, [(false, [.bool])]),
  (28, [(false, [.bool])]),
  (29, [(false, [.bool])]),
  (30, [(false, [.bool])]),
  (31, [(false, [.bool])]),
  (32, [(false, [.bool])]),
  (33, []),
  (34, []),
  (35, []),
  (36, []),
  (37, []),
  (38, []),
  (39, [(false, [.sl])]),
  (40, [(false, [.sl])]),
  (41, [(false, [.sl])]),
  (42, [(false, [.sl])]),
  (43, [(false, [.sl])]),
  (44, [(false, [.sl])]),
  (45, [(false, [.bool])]),
  (46, [(false, [.bool])]),
  (47, [(false, [.bool])]),
  (48, [(false, [.bool])]),
  (49, [(false, [.bool])]),
  (50, [(false, [.bool])]),
  (51, [(false, [.int .i64])]),
  (52, [(false, [.bool])]),
  (53, [(false, [.sl])]),
  (54, [(false, [.sl])]),
  (55, [(false, [.sl])]),
  (56, [(false, [.sl])]),
  (57, [(false, [.sl])]),
  (58, [(false, [.bool])]),
  (59, [(false, [.bool])]),
  (60, [(false, [.bool])]),
  (61, [(false, [.sl])]),
  (62, [(false, [.sl])]),
  (63, [(false, [.sl])]),
  (64, [(false, [.sl])]),
  (65, [(false, [.sl])]),
  (66, [(false, [.sl])]),
  (67, [(false, [.str])])]
theorem orc_sok : AllSg Try.prog orc_sg := ⟨Try.call3,
  Try.call4,
  Try.call5,
  Try.call6,
  Try.call7,
  Try.call8,
  Try.call9,
  Try.call10,
  Try.call11,
  Try.call12,
  Try.call13,
  Try.call14,
  Try.call15,
  Try.call16,
  Try.call17,
  Try.call18,
  Try.call19,
  Try.call20,
  Try.call21,
  Try.call22,
  Try.call23,
  Try.call24,
  Try.call25,
  Try.call26,
  Try.call27,
  Try.call28,
  Try.call29,
  Try.call30,
  Try.call31,
  Try.call32,
  Try.call33,
  Try.call34,
  Try.call35,
  Try.call36,
  Try.call37,
  Try.call38,
  Try.call39,
  Try.call40,
  Try.call41,
  Try.call42,
  Try.call43,
  Try.call44,
  Try.call45,
  Try.call46,
  Try.call47,
  Try.call48,
  Try.call49,
  Try.call50,
  Try.call51,
  Try.call52,
  Try.call53,
  Try.call54,
  Try.call55,
  Try.call56,
  Try.call57,
  Try.call58,
  Try.call59,
  Try.call60,
  Try.call61,
  Try.call62,
  Try.call63,
  Try.call64,
  Try.call65,
  Try.call66,
  Try.call67, trivial⟩
def orc : Orc Try.prog := ⟨orc_ts, allTi_of orc_tok, orc_sg, allSg_of orc_sok⟩
theorem orc_wide : Try.prog.follows .mixedOrders = true := by kernel_rfl
end Go.Proofs.Ytlpbdloloaoapaa

/- Functions of Slices, read without their frames; that each is enough. Printed by a program of mine (wip/lift/gen.py). -/
set_option maxRecDepth 100000
namespace Go.Proofs.Ytlpbdloloaoapaa
open Go.RowKit

-- slices.Delete[[]holloway/api.Trace,holloway/api.Trace]
def slices_Delete_sl_api_Trace_api_Trace_sh (s_1 : Sl) (i_2 : Int) (j_3 : Int) (w : World) (K : Value → World → Prop) : Prop :=
 0 ≤ i_2 ∧ i_2 ≤ j_3 ∧ j_3 ≤ (s_1.len : Int) ∧ (s_1.len : Int) ≤ (s_1.cap : Int) ∧ ∀ s4 : Sl, s4 = Sl.sub s_1.ptr (Int.toNat (s_1.len : Int)) (Int.toNat i_2) (Int.toNat j_3) 9 →
 brB (i_2 == j_3)
 (K (s_1.val) w)
 (∀ w5 : World, w5 = World.drew w →
 0 ≤ i_2 ∧ i_2 ≤ (s_1.cap : Int) ∧ 
 0 ≤ j_3 ∧ j_3 ≤ (s_1.len : Int) ∧ 
 ∃ s6 : Sl, ∃ w7 : World, (Builtin.append_ #[T_sl_api_Trace, T_sl_api_Trace] T_sl_api_Trace #[(Sl.sub s_1.ptr s_1.cap 0 (Int.toNat i_2) 9).val, (Sl.sub s_1.ptr s_1.cap (Int.toNat j_3) s_1.len 9).val]).run Try.prog w5 = .ok (s6.val) w7 ∧
 0 ≤ (s6.len : Int) ∧ (s6.len : Int) ≤ (s_1.len : Int) ∧ (s_1.len : Int) ≤ (s6.cap : Int) ∧ ∀ s8 : Sl, s8 = Sl.sub s6.ptr s6.cap (Int.toNat (s6.len : Int)) (Int.toNat (s_1.len : Int)) 9 →
 ∃ v9 : Value, ∃ w10 : World, (Builtin.clear_ #[T_sl_api_Trace] T_x #[s8.val]).run Try.prog w7 = .ok v9 w10 ∧
 K (s6.val) w10)
def slices_Delete_sl_api_Trace_api_Trace_an : An := ⟨[], [(5, (6, .st 0 (.st 1 (.st 2 (.st 3 (.st 4 (.st 5 .done))))), 0))], []⟩
theorem slices_Delete_sl_api_Trace_api_Trace_lift {s_1 : Sl} {i_2 : Int} {j_3 : Int} {w : World} {K : Value → World → Prop} (h : slices_Delete_sl_api_Trace_api_Trace_sh s_1 i_2 j_3 w K) : Calls Try.prog fn_slices_Delete_sl_api_Trace_api_Trace #[s_1.val, .int .i64 i_2, .int .i64 j_3] w fun e w' => ∃ v, e = .returned v ∧ K v w' :=
   lift_calls (A := slices_Delete_sl_api_Trace_api_Trace_an) (c := bodyOf Try.f20) (args := [s_1.val, .int .i64 i_2, .int .i64 j_3]) orc orc_wide Try.func20 (by kernel_rfl) (by kernel_rfl) (Eq.mp (by kernel_rfl : slices_Delete_sl_api_Trace_api_Trace_sh s_1 i_2 j_3 w K = wpc orc Try.f20.ntmps slices_Delete_sl_api_Trace_api_Trace_an (bodyOf Try.f20) (argl 0 [s_1.val, .int .i64 i_2, .int .i64 j_3]) w (retQ orc Try.f20.results.toList K)) h)

-- slices.IndexFunc[[]holloway/api.Trace,holloway/api.Trace]
def slices_IndexFunc_sl_api_Trace_api_Trace_sh (s_1 : Sl) (f_2 : Value) (w : World) (K : Value → World → Prop) : Prop :=
 ∃ (I1 : Int → World → Prop) (μ1 : Int → World → Nat), I1 (0 : Int) w ∧ ∀ (n4 : Int) (w3 : World), I1 n4 w3 →
 brB (decide (n4 < (s_1.len : Int)))
 (∃ a5 : Addr, s_1.ptr = some a5 ∧ 0 ≤ n4 ∧ n4 < (s_1.len : Int) ∧
 ∃ n_Start6 : Int, ∃ n_Slots7 : Int, ∃ n_Backs8 : Int, ∃ n_Grow9 : Int, ∃ n_GrowBack10 : Int, ∃ s_Ins11 : Sl, ∃ s_Outs12 : Sl, ∃ n_Last13 : Int, ∃ s_Cells14 : Sl, w3.cell? (Addr.add a5 (Int.toNat n4 * 9)) = some (.int .i64 n_Start6) ∧ w3.cell? (Addr.add (Addr.add a5 (Int.toNat n4 * 9)) 1) = some (.int .i64 n_Slots7) ∧ w3.cell? (Addr.add (Addr.add a5 (Int.toNat n4 * 9)) 2) = some (.int .i64 n_Backs8) ∧ w3.cell? (Addr.add (Addr.add a5 (Int.toNat n4 * 9)) 3) = some (.int .i64 n_Grow9) ∧ w3.cell? (Addr.add (Addr.add a5 (Int.toNat n4 * 9)) 4) = some (.int .i64 n_GrowBack10) ∧ w3.cell? (Addr.add (Addr.add a5 (Int.toNat n4 * 9)) 5) = some (s_Ins11.val) ∧ w3.cell? (Addr.add (Addr.add a5 (Int.toNat n4 * 9)) 6) = some (s_Outs12.val) ∧ w3.cell? (Addr.add (Addr.add a5 (Int.toNat n4 * 9)) 7) = some (.int .i64 n_Last13) ∧ w3.cell? (Addr.add (Addr.add a5 (Int.toNat n4 * 9)) 8) = some (s_Cells14.val) ∧
 ∃ (g15 : FuncId) (fs16 cs17 : Array Value), (f_2 : Value) = .func (.func g15) fs16 cs17 ∧ (∀ args w, (callFunc g15 args).run Try.prog w = .ok (.enter g15 args) w) ∧
 Calls Try.prog g15 ((fs16.toList ++ [(.agg #[.int .i64 n_Start6, .int .i64 n_Slots7, .int .i64 n_Backs8, .int .i64 n_Grow9, .int .i64 n_GrowBack10, s_Ins11.val, s_Outs12.val, .int .i64 n_Last13, s_Cells14.val] : Value)]) ++ cs17.toList).toArray w3 fun e18 w19 => ∃ b20 : Bool, e18 = .returned (.bool b20) ∧
 brB b20
 (K (.int .i64 n4) w19)
 (I1 (wr (n4 + (1 : Int))) w19 ∧ μ1 (wr (n4 + (1 : Int))) w19 < μ1 n4 w3))
 (K (.int .i64 (-1 : Int)) w3)
def slices_IndexFunc_sl_api_Trace_api_Trace_an : An := ⟨[(2, [(8, .int .i64)])], [], []⟩
theorem slices_IndexFunc_sl_api_Trace_api_Trace_lift {s_1 : Sl} {f_2 : Value} {w : World} {K : Value → World → Prop} (h : slices_IndexFunc_sl_api_Trace_api_Trace_sh s_1 f_2 w K) : Calls Try.prog fn_slices_IndexFunc_sl_api_Trace_api_Trace #[s_1.val, f_2] w fun e w' => ∃ v, e = .returned v ∧ K v w' :=
   lift_calls (A := slices_IndexFunc_sl_api_Trace_api_Trace_an) (c := bodyOf Try.f51) (args := [s_1.val, f_2]) orc orc_wide Try.func51 (by kernel_rfl) (by kernel_rfl) (Eq.mp (by kernel_rfl : slices_IndexFunc_sl_api_Trace_api_Trace_sh s_1 f_2 w K = wpc orc Try.f51.ntmps slices_IndexFunc_sl_api_Trace_api_Trace_an (bodyOf Try.f51) (argl 0 [s_1.val, f_2]) w (retQ orc Try.f51.results.toList K)) h)

-- slices.Clone[[]holloway/api.Ins,holloway/api.Ins]
def slices_Clone_sl_api_Ins_api_Ins_sh (s_1 : Sl) (w : World) (K : Value → World → Prop) : Prop :=
 brB (Option.isNone s_1.ptr)
 (K (.slice none 0 0) w)
 (∀ (b2 : Nat) (w3 : World), b2 = w.heap.size → w3 = World.alloc w (.cells #[] T_api_Ins) →
 ∃ s4 : Sl, ∃ w5 : World, (Builtin.append_ #[T_sl_api_Ins, T_sl_api_Ins] T_sl_api_Ins #[.slice (some ⟨b2, 0, none⟩) 0 0, s_1.val]).run Try.prog w3 = .ok (s4.val) w5 ∧
 K (s4.val) w5)
def slices_Clone_sl_api_Ins_api_Ins_an : An := ⟨[], [], []⟩
theorem slices_Clone_sl_api_Ins_api_Ins_lift {s_1 : Sl} {w : World} {K : Value → World → Prop} (h : slices_Clone_sl_api_Ins_api_Ins_sh s_1 w K) : Calls Try.prog fn_slices_Clone_sl_api_Ins_api_Ins #[s_1.val] w fun e w' => ∃ v, e = .returned v ∧ K v w' :=
   lift_calls (A := slices_Clone_sl_api_Ins_api_Ins_an) (c := bodyOf Try.f53) (args := [s_1.val]) orc orc_wide Try.func53 (by kernel_rfl) (by kernel_rfl) (Eq.mp (by kernel_rfl : slices_Clone_sl_api_Ins_api_Ins_sh s_1 w K = wpc orc Try.f53.ntmps slices_Clone_sl_api_Ins_api_Ins_an (bodyOf Try.f53) (argl 0 [s_1.val]) w (retQ orc Try.f53.results.toList K)) h)

-- slices.Clone[[]holloway/api.Out,holloway/api.Out]
def slices_Clone_sl_api_Out_api_Out_sh (s_1 : Sl) (w : World) (K : Value → World → Prop) : Prop :=
 brB (Option.isNone s_1.ptr)
 (K (.slice none 0 0) w)
 (∀ (b2 : Nat) (w3 : World), b2 = w.heap.size → w3 = World.alloc w (.cells #[] T_api_Out) →
 ∃ s4 : Sl, ∃ w5 : World, (Builtin.append_ #[T_sl_api_Out, T_sl_api_Out] T_sl_api_Out #[.slice (some ⟨b2, 0, none⟩) 0 0, s_1.val]).run Try.prog w3 = .ok (s4.val) w5 ∧
 K (s4.val) w5)
def slices_Clone_sl_api_Out_api_Out_an : An := ⟨[], [], []⟩
theorem slices_Clone_sl_api_Out_api_Out_lift {s_1 : Sl} {w : World} {K : Value → World → Prop} (h : slices_Clone_sl_api_Out_api_Out_sh s_1 w K) : Calls Try.prog fn_slices_Clone_sl_api_Out_api_Out #[s_1.val] w fun e w' => ∃ v, e = .returned v ∧ K v w' :=
   lift_calls (A := slices_Clone_sl_api_Out_api_Out_an) (c := bodyOf Try.f54) (args := [s_1.val]) orc orc_wide Try.func54 (by kernel_rfl) (by kernel_rfl) (Eq.mp (by kernel_rfl : slices_Clone_sl_api_Out_api_Out_sh s_1 w K = wpc orc Try.f54.ntmps slices_Clone_sl_api_Out_api_Out_an (bodyOf Try.f54) (argl 0 [s_1.val]) w (retQ orc Try.f54.results.toList K)) h)

-- slices.Clone[[]int,int]
def slices_Clone_sl_int_int_sh (s_1 : Sl) (w : World) (K : Value → World → Prop) : Prop :=
 brB (Option.isNone s_1.ptr)
 (K (.slice none 0 0) w)
 (∀ (b2 : Nat) (w3 : World), b2 = w.heap.size → w3 = World.alloc w (.cells #[] T_int) →
 ∃ s4 : Sl, ∃ w5 : World, (Builtin.append_ #[T_sl_int, T_sl_int] T_sl_int #[.slice (some ⟨b2, 0, none⟩) 0 0, s_1.val]).run Try.prog w3 = .ok (s4.val) w5 ∧
 K (s4.val) w5)
def slices_Clone_sl_int_int_an : An := ⟨[], [], []⟩
theorem slices_Clone_sl_int_int_lift {s_1 : Sl} {w : World} {K : Value → World → Prop} (h : slices_Clone_sl_int_int_sh s_1 w K) : Calls Try.prog fn_slices_Clone_sl_int_int #[s_1.val] w fun e w' => ∃ v, e = .returned v ∧ K v w' :=
   lift_calls (A := slices_Clone_sl_int_int_an) (c := bodyOf Try.f55) (args := [s_1.val]) orc orc_wide Try.func55 (by kernel_rfl) (by kernel_rfl) (Eq.mp (by kernel_rfl : slices_Clone_sl_int_int_sh s_1 w K = wpc orc Try.f55.ntmps slices_Clone_sl_int_int_an (bodyOf Try.f55) (argl 0 [s_1.val]) w (retQ orc Try.f55.results.toList K)) h)

-- slices.IndexFunc[[]holloway/api.Trace,holloway/api.Trace]@@1=(*holloway/cache.Cache).place$1
def slices_IndexFunc_sl_api_Trace_api_Trace_at_cache_Cache_place_1_sh (s_1 : Sl) (c2 : Nat) (w : World) (K : Value → World → Prop) : Prop :=
 ∃ (I1 : Int → World → Prop) (μ1 : Int → World → Nat), I1 (0 : Int) w ∧ ∀ (n4 : Int) (w3 : World), I1 n4 w3 →
 brB (decide (n4 < (s_1.len : Int)))
 (∃ a5 : Addr, s_1.ptr = some a5 ∧ 0 ≤ n4 ∧ n4 < (s_1.len : Int) ∧
 ∃ n_Start6 : Int, ∃ n_Slots7 : Int, ∃ n_Backs8 : Int, ∃ n_Grow9 : Int, ∃ n_GrowBack10 : Int, ∃ s_Ins11 : Sl, ∃ s_Outs12 : Sl, ∃ n_Last13 : Int, ∃ s_Cells14 : Sl, w3.cell? (Addr.add a5 (Int.toNat n4 * 9)) = some (.int .i64 n_Start6) ∧ w3.cell? (Addr.add (Addr.add a5 (Int.toNat n4 * 9)) 1) = some (.int .i64 n_Slots7) ∧ w3.cell? (Addr.add (Addr.add a5 (Int.toNat n4 * 9)) 2) = some (.int .i64 n_Backs8) ∧ w3.cell? (Addr.add (Addr.add a5 (Int.toNat n4 * 9)) 3) = some (.int .i64 n_Grow9) ∧ w3.cell? (Addr.add (Addr.add a5 (Int.toNat n4 * 9)) 4) = some (.int .i64 n_GrowBack10) ∧ w3.cell? (Addr.add (Addr.add a5 (Int.toNat n4 * 9)) 5) = some (s_Ins11.val) ∧ w3.cell? (Addr.add (Addr.add a5 (Int.toNat n4 * 9)) 6) = some (s_Outs12.val) ∧ w3.cell? (Addr.add (Addr.add a5 (Int.toNat n4 * 9)) 7) = some (.int .i64 n_Last13) ∧ w3.cell? (Addr.add (Addr.add a5 (Int.toNat n4 * 9)) 8) = some (s_Cells14.val) ∧
 ∃ (g15 : FuncId) (fs16 cs17 : Array Value), (.func (.func fn_cache_Cache_place_1) #[] #[.pointer (some ⟨c2, 0, none⟩)] : Value) = .func (.func g15) fs16 cs17 ∧ (∀ args w, (callFunc g15 args).run Try.prog w = .ok (.enter g15 args) w) ∧
 Calls Try.prog g15 ((fs16.toList ++ [(.agg #[.int .i64 n_Start6, .int .i64 n_Slots7, .int .i64 n_Backs8, .int .i64 n_Grow9, .int .i64 n_GrowBack10, s_Ins11.val, s_Outs12.val, .int .i64 n_Last13, s_Cells14.val] : Value)]) ++ cs17.toList).toArray w3 fun e18 w19 => ∃ b20 : Bool, e18 = .returned (.bool b20) ∧
 brB b20
 (K (.int .i64 n4) w19)
 (I1 (wr (n4 + (1 : Int))) w19 ∧ μ1 (wr (n4 + (1 : Int))) w19 < μ1 n4 w3))
 (K (.int .i64 (-1 : Int)) w3)
def slices_IndexFunc_sl_api_Trace_api_Trace_at_cache_Cache_place_1_an : An := ⟨[(2, [(8, .int .i64)])], [], []⟩
theorem slices_IndexFunc_sl_api_Trace_api_Trace_at_cache_Cache_place_1_lift {s_1 : Sl} {c2 : Nat} {w : World} {K : Value → World → Prop} (h : slices_IndexFunc_sl_api_Trace_api_Trace_at_cache_Cache_place_1_sh s_1 c2 w K) : Calls Try.prog fn_slices_IndexFunc_sl_api_Trace_api_Trace #[s_1.val, .func (.func fn_cache_Cache_place_1) #[] #[.pointer (some ⟨c2, 0, none⟩)]] w fun e w' => ∃ v, e = .returned v ∧ K v w' :=
   lift_calls (A := slices_IndexFunc_sl_api_Trace_api_Trace_at_cache_Cache_place_1_an) (c := bodyOf Try.f51) (args := [s_1.val, .func (.func fn_cache_Cache_place_1) #[] #[.pointer (some ⟨c2, 0, none⟩)]]) orc orc_wide Try.func51 (by kernel_rfl) (by kernel_rfl) (Eq.mp (by kernel_rfl : slices_IndexFunc_sl_api_Trace_api_Trace_at_cache_Cache_place_1_sh s_1 c2 w K = wpc orc Try.f51.ntmps slices_IndexFunc_sl_api_Trace_api_Trace_at_cache_Cache_place_1_an (bodyOf Try.f51) (argl 0 [s_1.val, .func (.func fn_cache_Cache_place_1) #[] #[.pointer (some ⟨c2, 0, none⟩)]]) w (retQ orc Try.f51.results.toList K)) h)

end Go.Proofs.Ytlpbdloloaoapaa

/- Numbers as elements of lists; slices.Clone. -/
set_option maxRecDepth 100000
namespace Go.Proofs.Ytlpbdloloaoapaa
open Go.RowKit

def intE : Enc Int := ⟨T_int, 1, 8, fun n => [.int .i64 n], by intro x; rfl, by intro x u hu; simp at hu; subst hu; rfl, by decide⟩
theorem intOk : EncOk Try.prog intE T_sl_int := EncOk.of (z := .int .i64 0) (by kernel_rfl) (by kernel_rfl) (by kernel_rfl)
/-! ### slices.Clone -/
theorem Rd.none {α : Type} {E : Enc α} {w : World} {s : Sl} {xs : List α} (h : Rd E w s xs) (hp : s.ptr = none) : xs = [] ∧ s.cap = 0 := by
  obtain ⟨ao, cap, he, _, _, h5, _⟩ := h
  have hq : s.ptr = ao ∧ s.cap = cap := by cases s; simp [Sl.val] at he; exact ⟨he.1, he.2.2⟩
  have := h5 (hq.1.symm.trans hp)
  exact ⟨List.eq_nil_of_length_eq_zero this.1, hq.2.trans this.2⟩
theorem clone_core {α : Type} {P : Program} {E : Enc α} {T : TypeId} (ok : EncOk P E T) (hby : E.bytes ≤ 1000) {w : World} {s : Sl} {xs : List α} (h : Rd E w s xs) (hsm : xs.length ≤ 1000000000) {K : Value → World → Prop}
    (k : ∀ (s' : Sl) (w' : World), Ow E w' s' xs → Chg No w w' → (∀ k, s'.blk = some k → w.heap.size ≤ k) → (s.ptr = none → s' = nilS) → K s'.val w') :
    brB (Option.isNone s.ptr) (K (.slice none 0 0) w) (∀ (b2 : Nat) (w3 : World), b2 = w.heap.size → w3 = World.alloc w (.cells #[] E.t) →
      ∃ s4 : Sl, ∃ w5 : World, (Builtin.append_ #[T, T] T #[.slice (some ⟨b2, 0, none⟩) 0 0, s.val]).run P w3 = .ok (s4.val) w5 ∧ K (s4.val) w5) := by
  refine brB_of (fun hp => ?_) (fun hp => ?_)
  · have hp : s.ptr = Option.none := by cases h : s.ptr with
      | none => rfl
      | some a => rw [h] at hp; cases hp
    obtain ⟨rfl, _⟩ := h.none hp
    exact k nilS w (Ow.nil E w) (Chg.refl _ _) (fun k hk => by cases hk) (fun _ => rfl)
  · intro b2 w3 hb hw
    have hne : s.ptr ≠ Option.none := fun e => by rw [e] at hp; cases hp
    have hc : Chg No w w3 := by rw [hw]; exact Chg.alloc _ _ _
    have hlit : Ow E w3 ⟨some ⟨b2, 0, Option.none⟩, 0, 0⟩ [] := by
      rw [hw, hb]; exact Ow.lit w [] [] rfl (Nat.zero_le _)
    have hs3 : w.heap.size < w3.heap.size := by rw [hw]; simp
    refine app_ok ok rfl rfl hlit (h.no hc) (by
      have : (xs.length) * E.bytes ≤ 1000000000 * 1000 := Nat.mul_le_mul hsm hby
      simp only [List.length_nil, Nat.zero_add]; omega) (by simp only [List.length_nil, Nat.zero_add]; unfold maxLen; omega) ?_
    intro s' w5 h5 hc5 hbk
    refine k s' w5 (by simpa using h5) (hc.trans hc5 (fun _ _ h => h) (fun j hj he => ?_)) (fun j hj => ?_) (fun e => absurd e hne)
    · have : some b2 = some j := he
      cases this; omega
    · rcases hbk with hk | hk
      · have : (⟨some ⟨b2, 0, Option.none⟩, 0, 0⟩ : Sl).blk = some b2 := rfl
        rw [hk, this] at hj; cases hj; omega
      · rw [hk] at hj; cases hj; omega
theorem clone_ints {w : World} {s : Sl} {xs : List Int} (h : Rd intE w s xs) (hsm : xs.length ≤ 1000000000) : Calls Try.prog fn_slices_Clone_sl_int_int #[s.val] w fun e w' => ∃ s' : Sl, e = .returned s'.val ∧ Ow intE w' s' xs ∧ Chg No w w' ∧ (∀ k, s'.blk = some k → w.heap.size ≤ k) ∧ (s.ptr = none → s' = nilS) := by
  refine (slices_Clone_sl_int_int_lift (K := fun v w' => ∃ s' : Sl, v = s'.val ∧ Ow intE w' s' xs ∧ Chg No w w' ∧ (∀ k, s'.blk = some k → w.heap.size ≤ k) ∧ (s.ptr = none → s' = nilS)) ?_).mono (by rintro e w' ⟨v, rfl, s', rfl, h⟩; exact ⟨s', rfl, h⟩)
  unfold slices_Clone_sl_int_int_sh
  exact clone_core (K := fun v w' => ∃ s' : Sl, v = s'.val ∧ Ow intE w' s' xs ∧ Chg No w w' ∧ (∀ k, s'.blk = some k → w.heap.size ≤ k) ∧ (s.ptr = none → s' = nilS)) intOk (by decide) h hsm fun s' w' h1 h2 h3 h4 => ⟨s', rfl, h1, h2, h3, h4⟩
end Go.Proofs.Ytlpbdloloaoapaa
