/- The lifted texts of small packages. -/
import Derived.Test.YtgffaimgnmfifaaProg
import Derived.Test.YtgffaimgnmfifaaJ1
import Derived.Test.YtgffaimgnmfifaaJ2

/- What the lift is told of the program: types and functions, each fact proved. Printed by a program of mine (wip/lift/gen.py). -/
set_option maxRecDepth 100000
namespace Go.Proofs.Ytgffaimgnmfifaa
open Go.RowKit

@[reducible] def T_x : TypeId := 0
@[reducible] def T_int : TypeId := 3
@[reducible] def T_bool : TypeId := 4
@[reducible] def T_uint8 : TypeId := 5
@[reducible] def T_string : TypeId := 9
@[reducible] def T_sl_int : TypeId := 22
@[reducible] def T_p_watch_Watch : TypeId := 24
@[reducible] def T_map_int_sl_int : TypeId := 25
@[reducible] def T_watch_Watch : TypeId := 27
@[reducible] def T_sl_hollowaylaw22_Op : TypeId := 34
@[reducible] def T_sl_sl_string : TypeId := 36
@[reducible] def T_sl_sl_int : TypeId := 37
@[reducible] def T_sl_sl_api_Word : TypeId := 38
@[reducible] def T_sl_sl_api_Seen : TypeId := 39
@[reducible] def T_sl_sl_api_Ins : TypeId := 40
@[reducible] def T_sl_sl_api_Out : TypeId := 41
@[reducible] def T_hollowaybook_Book : TypeId := 43
@[reducible] def T_hollowaylaw22_Op : TypeId := 45
@[reducible] def T_uint : TypeId := 73
@[reducible] def T_sl_string : TypeId := 78
@[reducible] def T_sl_api_Word : TypeId := 80
@[reducible] def T_sl_api_Seen : TypeId := 82
@[reducible] def T_sl_api_Ins : TypeId := 84
@[reducible] def T_sl_api_Out : TypeId := 86
@[reducible] def T_api_Out : TypeId := 89
@[reducible] def T_api_Word : TypeId := 94
@[reducible] def T_api_Seen : TypeId := 97
@[reducible] def T_api_Ins : TypeId := 100
@[reducible] def T_uint32 : TypeId := 110
@[reducible] def T_uint64 : TypeId := 112
@[reducible] def T_slices_xorshift : TypeId := 114
@[reducible] def T_sl_uint8 : TypeId := 120
@[reducible] def fn_hollowaylaw22_WatchEach : FuncId := 3
@[reducible] def fn_hollowaylaw22_WatchAnew : FuncId := 4
@[reducible] def fn_hollowaylaw22_WatchPlays : FuncId := 5
@[reducible] def fn_hollowaylaw22_alive : FuncId := 6
@[reducible] def fn_watch_Watch_Add : FuncId := 7
@[reducible] def fn_watch_Watch_Touch : FuncId := 8
@[reducible] def fn_watch_Watch_Drop : FuncId := 9
@[reducible] def fn_watch_Watch_Cells : FuncId := 10
@[reducible] def fn_hollowaybook_LentInts : FuncId := 11
@[reducible] def fn_hollowaylaw22_rise : FuncId := 12
@[reducible] def fn_hollowaybook_Book_Ints : FuncId := 13
@[reducible] def fn_hollowaybook_SameInts : FuncId := 14
@[reducible] def fn_hollowaybook_StaysInts : FuncId := 15
@[reducible] def fn_watch_Watch_Of : FuncId := 16
@[reducible] def fn_hollowaybook_Book_Apart : FuncId := 17
@[reducible] def fn_watch_tidy : FuncId := 18
@[reducible] def fn_watch_made : FuncId := 19
@[reducible] def fn_slices_Sort_sl_int_int : FuncId := 20
@[reducible] def fn_slices_Concat_sl_int_int : FuncId := 21
@[reducible] def fn_slices_Collect_sl_int : FuncId := 22
@[reducible] def fn_maps_Values_map_int_sl_int_int_sl_int : FuncId := 23
@[reducible] def fn_hollowaybook_copyInts : FuncId := 24
@[reducible] def fn_slices_Clone_sl_int_int : FuncId := 25
@[reducible] def fn_hollowaybook_Book_stillTexts : FuncId := 26
@[reducible] def fn_hollowaybook_Book_stillInts : FuncId := 27
@[reducible] def fn_hollowaybook_Book_stillWords : FuncId := 28
@[reducible] def fn_hollowaybook_Book_stillSeens : FuncId := 29
@[reducible] def fn_hollowaybook_Book_stillCodes : FuncId := 30
@[reducible] def fn_hollowaybook_Book_stillExits : FuncId := 31
@[reducible] def fn_hollowaybook_Book_putExits : FuncId := 32
@[reducible] def fn_hollowaybook_Book_putTexts : FuncId := 33
@[reducible] def fn_hollowaybook_Book_putInts : FuncId := 34
@[reducible] def fn_hollowaybook_Book_putWords : FuncId := 35
@[reducible] def fn_hollowaybook_Book_putSeens : FuncId := 36
@[reducible] def fn_hollowaybook_Book_putCodes : FuncId := 37
@[reducible] def fn_hollowaybook_Book_growTexts : FuncId := 38
@[reducible] def fn_hollowaybook_Book_growInts : FuncId := 39
@[reducible] def fn_hollowaybook_Book_growWords : FuncId := 40
@[reducible] def fn_hollowaybook_Book_growSeens : FuncId := 41
@[reducible] def fn_hollowaybook_Book_growCodes : FuncId := 42
@[reducible] def fn_hollowaybook_Book_growExits : FuncId := 43
@[reducible] def fn_hollowaybook_markedTexts : FuncId := 44
@[reducible] def fn_hollowaybook_markedInts : FuncId := 45
@[reducible] def fn_hollowaybook_markedWords : FuncId := 46
@[reducible] def fn_hollowaybook_markedSeens : FuncId := 47
@[reducible] def fn_hollowaybook_markedCodes : FuncId := 48
@[reducible] def fn_hollowaybook_markedExits : FuncId := 49
@[reducible] def fn_slices_Compact_sl_int_int : FuncId := 50
@[reducible] def fn_slices_BinarySearch_sl_int_int : FuncId := 51
@[reducible] def fn_slices_pdqsortOrdered_int : FuncId := 52
@[reducible] def fn_math_bits_Len : FuncId := 53
@[reducible] def fn_slices_Grow_sl_int_int : FuncId := 54
@[reducible] def fn_slices_AppendSeq_sl_sl_int_sl_int : FuncId := 55
@[reducible] def fn_maps_Values_map_int_sl_int_int_sl_int_1 : FuncId := 56
@[reducible] def fn_hollowaybook_SameTexts : FuncId := 57
@[reducible] def fn_hollowaybook_SameWords : FuncId := 58
@[reducible] def fn_hollowaybook_SameSeens : FuncId := 59
@[reducible] def fn_hollowaybook_SameCodes : FuncId := 60
@[reducible] def fn_hollowaybook_SameExits : FuncId := 61
@[reducible] def fn_hollowaybook_markExits : FuncId := 62
@[reducible] def fn_hollowaybook_markTexts : FuncId := 63
@[reducible] def fn_hollowaybook_markInts : FuncId := 64
@[reducible] def fn_hollowaybook_markWords : FuncId := 65
@[reducible] def fn_hollowaybook_markSeens : FuncId := 66
@[reducible] def fn_hollowaybook_markCodes : FuncId := 67
@[reducible] def fn_cmp_Less_int : FuncId := 68
@[reducible] def fn_slices_isNaN_int : FuncId := 69
@[reducible] def fn_slices_insertionSortOrdered_int : FuncId := 70
@[reducible] def fn_math_bits_Len32 : FuncId := 78
@[reducible] def fn_math_bits_Len64 : FuncId := 79
@[reducible] def fn_hollowaybook_name : FuncId := 80
@[reducible] def fn_cmp_isNaN_int : FuncId := 81
@[reducible] def fn_slices_nextPowerOfTwo : FuncId := 83
@[reducible] def fn_slices_xorshift_Next : FuncId := 84
def orc_ts : List (Nat × Ti) := [(3, ⟨.int .i64, false, [.int .i64]⟩),
  (4, ⟨.bool, false, [.bool]⟩),
  (5, ⟨.int .u8, false, [.int .u8]⟩),
  (9, ⟨.str, false, [.str]⟩),
  (22, ⟨.sl 3, false, [.sl]⟩),
  (24, ⟨.ptr, false, [.ptr]⟩),
  (25, ⟨.other, false, [.mp]⟩),
  (27, ⟨.st [(0, 25)], true, [.mp]⟩),
  (34, ⟨.sl 45, false, [.sl]⟩),
  (36, ⟨.sl 78, false, [.sl]⟩),
  (37, ⟨.sl 22, false, [.sl]⟩),
  (38, ⟨.sl 80, false, [.sl]⟩),
  (39, ⟨.sl 82, false, [.sl]⟩),
  (40, ⟨.sl 84, false, [.sl]⟩),
  (41, ⟨.sl 86, false, [.sl]⟩),
  (43, ⟨.st [(0, 36), (1, 36), (2, 37), (3, 37), (4, 38), (5, 38), (6, 39), (7, 39), (8, 40), (9, 40), (10, 41), (11, 41)], true, [.sl, .sl, .sl, .sl, .sl, .sl, .sl, .sl, .sl, .sl, .sl, .sl]⟩),
  (45, ⟨.st [(0, 3), (1, 3), (2, 22)], true, [.int .i64, .int .i64, .sl]⟩),
  (73, ⟨.int .u64, false, [.int .u64]⟩),
  (78, ⟨.sl 9, false, [.sl]⟩),
  (80, ⟨.sl 94, false, [.sl]⟩),
  (82, ⟨.sl 97, false, [.sl]⟩),
  (84, ⟨.sl 100, false, [.sl]⟩),
  (86, ⟨.sl 89, false, [.sl]⟩),
  (89, ⟨.st [(0, 3), (1, 3), (2, 22), (3, 22)], true, [.int .i64, .int .i64, .sl, .sl]⟩),
  (94, ⟨.st [(0, 9), (1, 3), (2, 3), (3, 4)], true, [.str, .int .i64, .int .i64, .bool]⟩),
  (97, ⟨.st [(0, 3), (1, 3), (2, 3), (3, 3)], true, [.int .i64, .int .i64, .int .i64, .int .i64]⟩),
  (100, ⟨.st [(0, 3), (1, 3), (2, 3), (3, 3), (4, 3)], true, [.int .i64, .int .i64, .int .i64, .int .i64, .int .i64]⟩),
  (110, ⟨.int .u32, false, [.int .u32]⟩),
  (112, ⟨.int .u64, false, [.int .u64]⟩),
  (114, ⟨.int .u64, false, [.int .u64]⟩),
  (120, ⟨.sl 5, false, [.sl]⟩)]
theorem orc_tok : AllTi Try.prog orc_ts := ⟨⟨⟨_, Try.runUnderlying3, rfl⟩, Try.isAgg3, Try.sizeOf3⟩,
  ⟨⟨_, Try.runUnderlying4, rfl⟩, Try.isAgg4, Try.sizeOf4⟩,
  ⟨⟨_, Try.runUnderlying5, rfl⟩, Try.isAgg5, Try.sizeOf5⟩,
  ⟨⟨_, Try.runUnderlying9, rfl⟩, Try.isAgg9, Try.sizeOf9⟩,
  ⟨⟨_, Try.runUnderlying22, rfl⟩, Try.isAgg22, Try.sizeOf22⟩,
  ⟨⟨_, Try.runUnderlying24, ⟨_, rfl⟩⟩, Try.isAgg24, Try.sizeOf24⟩,
  ⟨⟨_, Try.runUnderlying25, trivial⟩, Try.isAgg25, Try.sizeOf25⟩,
  ⟨⟨_, Try.runUnderlying27, ⟨_, rfl, rfl⟩⟩, Try.isAgg27, Try.sizeOf27⟩,
  ⟨⟨_, Try.runUnderlying34, rfl⟩, Try.isAgg34, Try.sizeOf34⟩,
  ⟨⟨_, Try.runUnderlying36, rfl⟩, Try.isAgg36, Try.sizeOf36⟩,
  ⟨⟨_, Try.runUnderlying37, rfl⟩, Try.isAgg37, Try.sizeOf37⟩,
  ⟨⟨_, Try.runUnderlying38, rfl⟩, Try.isAgg38, Try.sizeOf38⟩,
  ⟨⟨_, Try.runUnderlying39, rfl⟩, Try.isAgg39, Try.sizeOf39⟩,
  ⟨⟨_, Try.runUnderlying40, rfl⟩, Try.isAgg40, Try.sizeOf40⟩,
  ⟨⟨_, Try.runUnderlying41, rfl⟩, Try.isAgg41, Try.sizeOf41⟩,
  ⟨⟨_, Try.runUnderlying43, ⟨_, rfl, rfl⟩⟩, Try.isAgg43, Try.sizeOf43⟩,
  ⟨⟨_, Try.runUnderlying45, ⟨_, rfl, rfl⟩⟩, Try.isAgg45, Try.sizeOf45⟩,
  ⟨⟨_, Try.runUnderlying73, rfl⟩, Try.isAgg73, Try.sizeOf73⟩,
  ⟨⟨_, Try.runUnderlying78, rfl⟩, Try.isAgg78, Try.sizeOf78⟩,
  ⟨⟨_, Try.runUnderlying80, rfl⟩, Try.isAgg80, Try.sizeOf80⟩,
  ⟨⟨_, Try.runUnderlying82, rfl⟩, Try.isAgg82, Try.sizeOf82⟩,
  ⟨⟨_, Try.runUnderlying84, rfl⟩, Try.isAgg84, Try.sizeOf84⟩,
  ⟨⟨_, Try.runUnderlying86, rfl⟩, Try.isAgg86, Try.sizeOf86⟩,
  ⟨⟨_, Try.runUnderlying89, ⟨_, rfl, rfl⟩⟩, Try.isAgg89, Try.sizeOf89⟩,
  ⟨⟨_, Try.runUnderlying94, ⟨_, rfl, rfl⟩⟩, Try.isAgg94, Try.sizeOf94⟩,
  ⟨⟨_, Try.runUnderlying97, ⟨_, rfl, rfl⟩⟩, Try.isAgg97, Try.sizeOf97⟩,
  ⟨⟨_, Try.runUnderlying100, ⟨_, rfl, rfl⟩⟩, Try.isAgg100, Try.sizeOf100⟩,
  ⟨⟨_, Try.runUnderlying110, rfl⟩, Try.isAgg110, Try.sizeOf110⟩,
  ⟨⟨_, Try.runUnderlying112, rfl⟩, Try.isAgg112, Try.sizeOf112⟩,
  ⟨⟨_, Try.runUnderlying114, rfl⟩, Try.isAgg114, Try.sizeOf114⟩,
  ⟨⟨_, Try.runUnderlying120, rfl⟩, Try.isAgg120, Try.sizeOf120⟩, trivial⟩
def orc_sg : List (Nat × List (Bool × List Kd)) := [(3, [(false, [.bool])]),
  (4, [(false, [.bool])]),
  (5, [(false, [.bool])]),
  (6, [(false, [.bool])]),
  (7, []),
  (8, [(false, [.sl])]),
  (9, [(false, [.bool])]),
  (10, [(false, [.sl])]),
  (11, [(false, [.sl])]),
  (12, [(false, [.sl])]),
  (13, []),
  (14, [(false, [.bool])]),
  (15, [(false, [.bool])]),
  (16, [(false, [.sl])]),
  (17, [(false, [.bool])]),
  (18, [(false, [.sl])]),
  (19, [(false, [.bool])]),
  (20, []),
  (21, [(false, [.sl])]),
  (22, [(false, [.sl])]),
  (23, [(false, [.val])]),
  (24, [(false, [.sl])]),
  (25, [(false, [.sl])]),
  (26, [(false, [.bool])]),
  (27, [(false, [.bool])]),
  (28, [(false, [.bool])]),
  (29, [(false, [.bool])]),
  (30, [(false, [.bool])]),
  (31, [(false, [.bool])]),
  (32, []),
  (33, []),
  (34, []),
  (35, []),
  (36, []),
  (37, []),
  (38, [(false, [.sl])]),
  (39, [(false, [.sl])]),
  (40, [(false, [.sl])]),
  (41, [(false, [.sl])]),
  (42, [(false, [.sl])]),
  (43, [(false, [.sl])]),
  (44, [(false, [.bool])]),
  (45, [(false, [.bool])]),
  (46, [(false, [.bool])]),
  (47, [(false, [.bool])]),
  (48, [(false, [.bool])]),
  (49, [(false, [.bool])]),
  (50, [(false, [.sl])]),
  (51, [(false, [.int .i64]), (false, [.bool])]),
  (52, []),
  (53, [(false, [.int .i64])]),
  (54, [(false, [.sl])]),
  (55, [(false, [.sl])]),
  (56, []),
  (57, [(false, [.bool])]),
  (58, [(false, [.bool])]),
  (59, [(false, [.bool])]),
  (60, [(false, [.bool])]),
  (61, [(false, [.bool])]),
  (62, [(false, [.sl])]),
  (63, [(false, [.sl])]),
  (64, [(false, [.sl])]),
  (65, [(false, [.sl])]),
  (66, [(false, [.sl])]),
  (67, [(false, [.sl])]),
  (68, [(false, [.bool])]),
  (69, [(false, [.bool])]),
  (70, []),
  (78, [(false, [.int .i64])]),
  (79, [(false, [.int .i64])]),
  (80, [(false, [.str])]),
  (81, [(false, [.bool])]),
  (83, [(false, [.int .u64])]),
  (84, [(false, [.int .u64])])]
theorem orc_sok : AllSg Try.prog orc_sg := ⟨Try.call3,
  Try.call4,
  Try.call5,
  Try.call6,
  Try.call7,
  Try.call8,
  Try.call9,
  Try.call10,
  Try.call11,
  Try.call12,
  Try.call13,
  Try.call14,
  Try.call15,
  Try.call16,
  Try.call17,
  Try.call18,
  Try.call19,
  Try.call20,
  Try.call21,
  Try.call22,
  Try.call23,
  Try.call24,
  Try.call25,
  Try.call26,
  Try.call27,
  Try.call28,
  Try.call29,
  Try.call30,
  Try.call31,
  Try.call32,
  Try.call33,
  Try.call34,
  Try.call35,
  Try.call36,
  Try.call37,
  Try.call38,
  Try.call39,
  Try.call40,
  Try.call41,
  Try.call42,
  Try.call43,
  Try.call44,
  Try.call45,
  Try.call46,
  Try.call47,
  Try.call48,
  Try.call49,
  Try.call50,
  Try.call51,
  Try.call52,
  Try.call53,
  Try.call54,
  Try.call55,
  Try.call56,
  Try.call57,
  Try.call58,
  Try.call59,
  Try.call60,
  Try.call61,
  Try.call62,
  Try.call63,
  Try.call64,
  Try.call65,
  Try.call66,
  Try.call67,
  Try.call68,
  Try.call69,
  Try.call70,
  Try.call78,
  Try.call79,
  Try.call80,
  Try.call81,
  Try.call83,
  Try.call84, trivial⟩
def orc : Orc Try.prog := ⟨orc_ts, allTi_of orc_tok, orc_sg, allSg_of orc_sok⟩
theorem orc_wide : Try.prog.follows .mixedOrders = true := by kernel_rfl
end Go.Proofs.Ytgffaimgnmfifaa

/- Functions of Slices, read without their frames; that each is enough. Printed by a program of mine (wip/lift/gen.py). -/
set_option maxRecDepth 100000
namespace Go.Proofs.Ytgffaimgnmfifaa
open Go.RowKit

-- slices.Sort[[]int,int]
def slices_Sort_sl_int_int_sh (x_1 : Sl) (w : World) (K : Value → World → Prop) : Prop :=
 Calls Try.prog fn_math_bits_Len #[.int .u64 (IntKind.wrap .u64 (x_1.len : Int))] w fun e2 w3 => ∃ n4 : Int, e2 = .returned (.int .i64 n4) ∧
 Calls Try.prog fn_slices_pdqsortOrdered_int #[x_1.val, .int .i64 (0 : Int), .int .i64 (x_1.len : Int), .int .i64 n4] w3 fun e5 w6 => e5 = .returned (.tuple #[]) ∧
 K (.tuple #[]) w6
def slices_Sort_sl_int_int_an : An := ⟨[], [], []⟩
theorem slices_Sort_sl_int_int_lift {x_1 : Sl} {w : World} {K : Value → World → Prop} (h : slices_Sort_sl_int_int_sh x_1 w K) : Calls Try.prog fn_slices_Sort_sl_int_int #[x_1.val] w fun e w' => ∃ v, e = .returned v ∧ K v w' :=
   lift_calls (A := slices_Sort_sl_int_int_an) (c := bodyOf Try.f20) (args := [x_1.val]) orc orc_wide Try.func20 (by kernel_rfl) (by kernel_rfl) (Eq.mp (by kernel_rfl : slices_Sort_sl_int_int_sh x_1 w K = wpc orc Try.f20.ntmps slices_Sort_sl_int_int_an (bodyOf Try.f20) (argl 0 [x_1.val]) w (retQ orc Try.f20.results.toList K)) h)

-- slices.Concat[[]int,int]
def slices_Concat_sl_int_int_sh (slices1 : Sl) (w : World) (K : Value → World → Prop) : Prop :=
 ∃ (I1 : Int → Int → World → Prop) (μ1 : Int → Int → World → Nat), I1 (0 : Int) (0 : Int) w ∧ ∀ (size6 : Int) (n3 : Int) (w2 : World), I1 size6 n3 w2 →
 brB (decide (n3 < (slices1.len : Int)))
 (∃ a4 : Addr, slices1.ptr = some a4 ∧ 0 ≤ n3 ∧ n3 < (slices1.len : Int) ∧
 ∃ s5 : Sl, w2.cell? (Addr.add a4 (Int.toNat n3 * 1)) = some (s5.val) ∧
 brB (decide ((wr (size6 + (s5.len : Int))) < (0 : Int)))
 (False)
 (I1 (wr (size6 + (s5.len : Int))) (wr (n3 + (1 : Int))) w2 ∧ μ1 (wr (size6 + (s5.len : Int))) (wr (n3 + (1 : Int))) w2 < μ1 size6 n3 w2))
 (Calls Try.prog fn_slices_Grow_sl_int_int #[.slice none 0 0, .int .i64 size6] w2 fun e7 w8 => ∃ s9 : Sl, e7 = .returned (s9.val) ∧
 ∃ (I2 : Sl → Int → World → Prop) (μ2 : Sl → Int → World → Nat), I2 s9 (0 : Int) w8 ∧ ∀ (newslice14 : Sl) (n11 : Int) (w10 : World), I2 newslice14 n11 w10 →
 brB (decide (n11 < (slices1.len : Int)))
 (∃ a12 : Addr, slices1.ptr = some a12 ∧ 0 ≤ n11 ∧ n11 < (slices1.len : Int) ∧
 ∃ s13 : Sl, w10.cell? (Addr.add a12 (Int.toNat n11 * 1)) = some (s13.val) ∧
 ∃ s15 : Sl, ∃ w16 : World, (Builtin.append_ #[T_sl_int, T_sl_int] T_sl_int #[newslice14.val, s13.val]).run Try.prog w10 = .ok (s15.val) w16 ∧
 I2 s15 (wr (n11 + (1 : Int))) w16 ∧ μ2 s15 (wr (n11 + (1 : Int))) w16 < μ2 newslice14 n11 w10)
 (K (newslice14.val) w10))
def slices_Concat_sl_int_int_an : An := ⟨[(3, [(3, .int .i64), (11, .int .i64)]), (11, [(6, .sl), (27, .int .i64)])], [], []⟩
theorem slices_Concat_sl_int_int_lift {slices1 : Sl} {w : World} {K : Value → World → Prop} (h : slices_Concat_sl_int_int_sh slices1 w K) : Calls Try.prog fn_slices_Concat_sl_int_int #[slices1.val] w fun e w' => ∃ v, e = .returned v ∧ K v w' :=
   lift_calls (A := slices_Concat_sl_int_int_an) (c := bodyOf Try.f21) (args := [slices1.val]) orc orc_wide Try.func21 (by kernel_rfl) (by kernel_rfl) (Eq.mp (by kernel_rfl : slices_Concat_sl_int_int_sh slices1 w K = wpc orc Try.f21.ntmps slices_Concat_sl_int_int_an (bodyOf Try.f21) (argl 0 [slices1.val]) w (retQ orc Try.f21.results.toList K)) h)

-- slices.Collect[[]int]
def slices_Collect_sl_int_sh (seq1 : Value) (w : World) (K : Value → World → Prop) : Prop :=
 Calls Try.prog fn_slices_AppendSeq_sl_sl_int_sl_int #[.slice none 0 0, seq1] w fun e2 w3 => ∃ s4 : Sl, e2 = .returned (s4.val) ∧
 K (s4.val) w3
def slices_Collect_sl_int_an : An := ⟨[], [], []⟩
theorem slices_Collect_sl_int_lift {seq1 : Value} {w : World} {K : Value → World → Prop} (h : slices_Collect_sl_int_sh seq1 w K) : Calls Try.prog fn_slices_Collect_sl_int #[seq1] w fun e w' => ∃ v, e = .returned v ∧ K v w' :=
   lift_calls (A := slices_Collect_sl_int_an) (c := bodyOf Try.f22) (args := [seq1]) orc orc_wide Try.func22 (by kernel_rfl) (by kernel_rfl) (Eq.mp (by kernel_rfl : slices_Collect_sl_int_sh seq1 w K = wpc orc Try.f22.ntmps slices_Collect_sl_int_an (bodyOf Try.f22) (argl 0 [seq1]) w (retQ orc Try.f22.results.toList K)) h)

-- slices.Clone[[]int,int]
def slices_Clone_sl_int_int_sh (s_1 : Sl) (w : World) (K : Value → World → Prop) : Prop :=
 brB (Option.isNone s_1.ptr)
 (K (.slice none 0 0) w)
 (∀ (b2 : Nat) (w3 : World), b2 = w.heap.size → w3 = World.alloc w (.cells #[] T_int) →
 ∃ s4 : Sl, ∃ w5 : World, (Builtin.append_ #[T_sl_int, T_sl_int] T_sl_int #[.slice (some ⟨b2, 0, none⟩) 0 0, s_1.val]).run Try.prog w3 = .ok (s4.val) w5 ∧
 K (s4.val) w5)
def slices_Clone_sl_int_int_an : An := ⟨[], [], []⟩
theorem slices_Clone_sl_int_int_lift {s_1 : Sl} {w : World} {K : Value → World → Prop} (h : slices_Clone_sl_int_int_sh s_1 w K) : Calls Try.prog fn_slices_Clone_sl_int_int #[s_1.val] w fun e w' => ∃ v, e = .returned v ∧ K v w' :=
   lift_calls (A := slices_Clone_sl_int_int_an) (c := bodyOf Try.f25) (args := [s_1.val]) orc orc_wide Try.func25 (by kernel_rfl) (by kernel_rfl) (Eq.mp (by kernel_rfl : slices_Clone_sl_int_int_sh s_1 w K = wpc orc Try.f25.ntmps slices_Clone_sl_int_int_an (bodyOf Try.f25) (argl 0 [s_1.val]) w (retQ orc Try.f25.results.toList K)) h)

-- slices.Compact[[]int,int]
def slices_Compact_sl_int_int_sh (s_1 : Sl) (w : World) (K : Value → World → Prop) : Prop :=
 brB (decide ((s_1.len : Int) < (2 : Int)))
 (K (s_1.val) w)
 (∃ (I1 : Int → World → Prop) (μ1 : Int → World → Nat), I1 (1 : Int) w ∧ ∀ (k3 : Int) (w2 : World), I1 k3 w2 →
 brB (decide (k3 < (s_1.len : Int)))
 (∀ w4 : World, w4 = World.drew w2 →
 ∃ a5 : Addr, s_1.ptr = some a5 ∧ 0 ≤ k3 ∧ k3 < (s_1.len : Int) ∧
 ∃ n6 : Int, held (Lw w4) (Addr.add a5 (Int.toNat k3 * 1)) (.int .i64 n6) ∧
 ∃ a7 : Addr, s_1.ptr = some a7 ∧ 0 ≤ (wr (k3 - (1 : Int))) ∧ (wr (k3 - (1 : Int))) < (s_1.len : Int) ∧
 ∃ n8 : Int, held (Lw w4) (Addr.add a7 (Int.toNat (wr (k3 - (1 : Int))) * 1)) (.int .i64 n8) ∧
 brB (n6 == n8)
 (0 ≤ k3 ∧ k3 ≤ (s_1.len : Int) ∧ ∀ s9 : Sl, s9 = Sl.sub s_1.ptr s_1.cap (Int.toNat k3) s_1.len 1 →
 ∃ (I2 : Int → Int → World → Prop) (μ2 : Int → Int → World → Nat), I2 k3 (1 : Int) w4 ∧ ∀ (k17 : Int) (k2_11 : Int) (w10 : World), I2 k17 k2_11 w10 →
 brB (decide (k2_11 < (s9.len : Int)))
 (∃ J16 : Int → World → Prop, (∀ (k27 : Int) (w22 : World), J16 k27 w22 →
 I2 k27 (wr (k2_11 + (1 : Int))) w22 ∧ μ2 k27 (wr (k2_11 + (1 : Int))) w22 < μ2 k17 k2_11 w10) ∧
 ∀ w12 : World, w12 = World.drew w10 →
 ∃ a13 : Addr, s9.ptr = some a13 ∧ 0 ≤ k2_11 ∧ k2_11 < (s9.len : Int) ∧
 ∃ n14 : Int, held (Lw w12) (Addr.add a13 (Int.toNat k2_11 * 1)) (.int .i64 n14) ∧
 ∃ a15 : Addr, s9.ptr = some a15 ∧ 0 ≤ (wr (k2_11 - (1 : Int))) ∧ (wr (k2_11 - (1 : Int))) < (s9.len : Int) ∧
 ∃ n16 : Int, held (Lw w12) (Addr.add a15 (Int.toNat (wr (k2_11 - (1 : Int))) * 1)) (.int .i64 n16) ∧
 brB (n14 != n16)
 (∃ a18 : Addr, s9.ptr = some a18 ∧ 0 ≤ k2_11 ∧ k2_11 < (s9.len : Int) ∧
 ∃ n19 : Int, w12.cell? (Addr.add a18 (Int.toNat k2_11 * 1)) = some (.int .i64 n19) ∧
 ∃ a20 : Addr, s_1.ptr = some a20 ∧ 0 ≤ k17 ∧ k17 < (s_1.len : Int) ∧
 wrOk w12 (Addr.add a20 (Int.toNat k17 * 1)) 1 ∧ ∀ w21 : World, w21 = stW w12 (Addr.add a20 (Int.toNat k17 * 1)) 0 [.int .i64 n19] →
 J16 (wr (k17 + (1 : Int))) w21)
 (J16 k17 w12))
 (0 ≤ k17 ∧ k17 ≤ (s_1.len : Int) ∧ ∀ s23 : Sl, s23 = Sl.sub s_1.ptr s_1.cap (Int.toNat k17) s_1.len 1 →
 ∃ v24 : Value, ∃ w25 : World, (Builtin.clear_ #[T_sl_int] T_x #[s23.val]).run Try.prog w10 = .ok v24 w25 ∧
 0 ≤ k17 ∧ k17 ≤ (s_1.cap : Int) ∧ ∀ s26 : Sl, s26 = Sl.sub s_1.ptr s_1.cap 0 (Int.toNat k17) 1 →
 K (s26.val) w25))
 (I1 (wr (k3 + (1 : Int))) w4 ∧ μ1 (wr (k3 + (1 : Int))) w4 < μ1 k3 w2))
 (K (s_1.val) w2))
def slices_Compact_sl_int_int_an : An := ⟨[(4, [(3, .int .i64)]), (9, [(3, .int .i64), (5, .int .i64)])], [(6, (10, .st 0 (.st 1 (.st 2 (.st 3 (.st 4 (.st 5 (.st 6 (.st 7 (.st 8 (.st 9 .done))))))))), 0)), (11, (10, .st 0 (.st 1 (.st 2 (.st 3 (.st 4 (.st 5 (.st 6 (.st 7 (.st 8 (.st 9 .done))))))))), 0))], [(10, [(3, .int .i64)])]⟩
theorem slices_Compact_sl_int_int_lift {s_1 : Sl} {w : World} {K : Value → World → Prop} (h : slices_Compact_sl_int_int_sh s_1 w K) : Calls Try.prog fn_slices_Compact_sl_int_int #[s_1.val] w fun e w' => ∃ v, e = .returned v ∧ K v w' :=
   lift_calls (A := slices_Compact_sl_int_int_an) (c := bodyOf Try.f50) (args := [s_1.val]) orc orc_wide Try.func50 (by kernel_rfl) (by kernel_rfl) (Eq.mp (by kernel_rfl : slices_Compact_sl_int_int_sh s_1 w K = wpc orc Try.f50.ntmps slices_Compact_sl_int_int_an (bodyOf Try.f50) (argl 0 [s_1.val]) w (retQ orc Try.f50.results.toList K)) h)

-- slices.BinarySearch[[]int,int]
def slices_BinarySearch_sl_int_int_sh (x_1 : Sl) (target2 : Int) (w : World) (K : Value → World → Prop) : Prop :=
 ∃ (I1 : Int → Int → World → Prop) (μ1 : Int → Int → World → Nat), I1 (0 : Int) (x_1.len : Int) w ∧ ∀ (i4 : Int) (j5 : Int) (w3 : World), I1 i4 j5 w3 →
 brB (decide (i4 < j5))
 (0 ≤ (1 : Int) ∧ ∃ a6 : Addr, x_1.ptr = some a6 ∧ 0 ≤ (wr (ishr .u64 (IntKind.wrap .u64 (wr (i4 + j5))) (1 : Int))) ∧ (wr (ishr .u64 (IntKind.wrap .u64 (wr (i4 + j5))) (1 : Int))) < (x_1.len : Int) ∧
 ∃ n7 : Int, w3.cell? (Addr.add a6 (Int.toNat (wr (ishr .u64 (IntKind.wrap .u64 (wr (i4 + j5))) (1 : Int))) * 1)) = some (.int .i64 n7) ∧
 Calls Try.prog fn_cmp_Less_int #[.int .i64 n7, .int .i64 target2] w3 fun e8 w9 => ∃ b10 : Bool, e8 = .returned (.bool b10) ∧
 brB b10
 (I1 (wr ((wr (ishr .u64 (IntKind.wrap .u64 (wr (i4 + j5))) (1 : Int))) + (1 : Int))) j5 w9 ∧ μ1 (wr ((wr (ishr .u64 (IntKind.wrap .u64 (wr (i4 + j5))) (1 : Int))) + (1 : Int))) j5 w9 < μ1 i4 j5 w3)
 (I1 i4 (wr (ishr .u64 (IntKind.wrap .u64 (wr (i4 + j5))) (1 : Int))) w9 ∧ μ1 i4 (wr (ishr .u64 (IntKind.wrap .u64 (wr (i4 + j5))) (1 : Int))) w9 < μ1 i4 j5 w3))
 (brB (decide (i4 < (x_1.len : Int)))
 (∃ a11 : Addr, x_1.ptr = some a11 ∧ 0 ≤ i4 ∧ i4 < (x_1.len : Int) ∧
 ∃ n12 : Int, w3.cell? (Addr.add a11 (Int.toNat i4 * 1)) = some (.int .i64 n12) ∧
 brB (n12 == target2)
 (K (.tuple #[.int .i64 i4, .bool true]) w3)
 (∃ a13 : Addr, x_1.ptr = some a13 ∧ 0 ≤ i4 ∧ i4 < (x_1.len : Int) ∧
 ∃ n14 : Int, w3.cell? (Addr.add a13 (Int.toNat i4 * 1)) = some (.int .i64 n14) ∧
 Calls Try.prog fn_slices_isNaN_int #[.int .i64 n14] w3 fun e15 w16 => ∃ b17 : Bool, e15 = .returned (.bool b17) ∧
 brB b17
 (Calls Try.prog fn_slices_isNaN_int #[.int .i64 target2] w16 fun e18 w19 => ∃ b20 : Bool, e18 = .returned (.bool b20) ∧
 K (.tuple #[.int .i64 i4, .bool b20]) w19)
 (K (.tuple #[.int .i64 i4, .bool false]) w16)))
 (K (.tuple #[.int .i64 i4, .bool false]) w3))
def slices_BinarySearch_sl_int_int_an : An := ⟨[(3, [(7, .int .i64), (8, .int .i64)])], [], []⟩
theorem slices_BinarySearch_sl_int_int_lift {x_1 : Sl} {target2 : Int} {w : World} {K : Value → World → Prop} (h : slices_BinarySearch_sl_int_int_sh x_1 target2 w K) : Calls Try.prog fn_slices_BinarySearch_sl_int_int #[x_1.val, .int .i64 target2] w fun e w' => ∃ v, e = .returned v ∧ K v w' :=
   lift_calls (A := slices_BinarySearch_sl_int_int_an) (c := bodyOf Try.f51) (args := [x_1.val, .int .i64 target2]) orc orc_wide Try.func51 (by kernel_rfl) (by kernel_rfl) (Eq.mp (by kernel_rfl : slices_BinarySearch_sl_int_int_sh x_1 target2 w K = wpc orc Try.f51.ntmps slices_BinarySearch_sl_int_int_an (bodyOf Try.f51) (argl 0 [x_1.val, .int .i64 target2]) w (retQ orc Try.f51.results.toList K)) h)

-- slices.Grow[[]int,int]
def slices_Grow_sl_int_int_sh (s_1 : Sl) (n_2 : Int) (w : World) (K : Value → World → Prop) : Prop :=
 brB (decide (n_2 < (0 : Int)))
 (False)
 (brB (decide ((wr (n_2 - (wr ((s_1.cap : Int) - (s_1.len : Int))))) > (0 : Int)))
 (0 ≤ (s_1.cap : Int) ∧ (s_1.cap : Int) ≤ (s_1.cap : Int) ∧ ∀ s3 : Sl, s3 = Sl.sub s_1.ptr s_1.cap 0 (Int.toNat (s_1.cap : Int)) 1 →
 ∃ s4 : Sl, ∃ w5 : World, (Builtin.append_ #[T_sl_int, T_int] T_sl_int #[s3.val, .int .i64 (wr (n_2 - (wr ((s_1.cap : Int) - (s_1.len : Int)))))]).run Try.prog w = .ok (s4.val) w5 ∧
 0 ≤ (s_1.len : Int) ∧ (s_1.len : Int) ≤ (s4.cap : Int) ∧ ∀ s6 : Sl, s6 = Sl.sub s4.ptr s4.cap 0 (Int.toNat (s_1.len : Int)) 1 →
 K (s6.val) w5)
 (K (s_1.val) w))
def slices_Grow_sl_int_int_an : An := ⟨[], [], []⟩
theorem slices_Grow_sl_int_int_lift {s_1 : Sl} {n_2 : Int} {w : World} {K : Value → World → Prop} (h : slices_Grow_sl_int_int_sh s_1 n_2 w K) : Calls Try.prog fn_slices_Grow_sl_int_int #[s_1.val, .int .i64 n_2] w fun e w' => ∃ v, e = .returned v ∧ K v w' :=
   lift_calls (A := slices_Grow_sl_int_int_an) (c := bodyOf Try.f54) (args := [s_1.val, .int .i64 n_2]) orc orc_wide Try.func54 (by kernel_rfl) (by kernel_rfl) (Eq.mp (by kernel_rfl : slices_Grow_sl_int_int_sh s_1 n_2 w K = wpc orc Try.f54.ntmps slices_Grow_sl_int_int_an (bodyOf Try.f54) (argl 0 [s_1.val, .int .i64 n_2]) w (retQ orc Try.f54.results.toList K)) h)

-- slices.AppendSeq[[][]int,[]int]
-- slices.AppendSeq[[][]int,[]int]: not lifted: code rangeFunc

-- slices.isNaN[int]
def slices_isNaN_int_sh (x_1 : Int) (w : World) (K : Value → World → Prop) : Prop :=
 K (.bool (x_1 != x_1)) w
def slices_isNaN_int_an : An := ⟨[], [], []⟩
theorem slices_isNaN_int_lift {x_1 : Int} {w : World} {K : Value → World → Prop} (h : slices_isNaN_int_sh x_1 w K) : Calls Try.prog fn_slices_isNaN_int #[.int .i64 x_1] w fun e w' => ∃ v, e = .returned v ∧ K v w' :=
   lift_calls (A := slices_isNaN_int_an) (c := bodyOf Try.f69) (args := [.int .i64 x_1]) orc orc_wide Try.func69 (by kernel_rfl) (by kernel_rfl) (Eq.mp (by kernel_rfl : slices_isNaN_int_sh x_1 w K = wpc orc Try.f69.ntmps slices_isNaN_int_an (bodyOf Try.f69) (argl 0 [.int .i64 x_1]) w (retQ orc Try.f69.results.toList K)) h)

-- slices.insertionSortOrdered[int]
def slices_insertionSortOrdered_int_j1 (data1 : Sl) (j8 : Int) (I2 : Int → World → Prop) (μ2 : Int → World → Nat) (w6 : World) (I1 : Int → World → Prop) (i5 : Int) (μ1 : Int → World → Nat) (w4 : World) (b19 : Bool) (w18 : World) (_K : Value → World → Prop) : Prop :=
 brB b19
 (∀ w20 : World, w20 = World.drew w18 →
 ∃ S21 : World → Prop, S21 w20 ∧
 ∃ a22 : Addr, data1.ptr = some a22 ∧ 0 ≤ (wr (j8 - (1 : Int))) ∧ (wr (j8 - (1 : Int))) < (data1.len : Int) ∧
 ∃ n23 : Int, held S21 (Addr.add a22 (Int.toNat (wr (j8 - (1 : Int))) * 1)) (.int .i64 n23) ∧
 ∃ a24 : Addr, data1.ptr = some a24 ∧ 0 ≤ j8 ∧ j8 < (data1.len : Int) ∧
 ∃ n25 : Int, held S21 (Addr.add a24 (Int.toNat j8 * 1)) (.int .i64 n25) ∧
 ∃ a26 : Addr, data1.ptr = some a26 ∧ 0 ≤ j8 ∧ j8 < (data1.len : Int) ∧
 wrOk w20 (Addr.add a26 (Int.toNat j8 * 1)) 1 ∧ ∀ w27 : World, w27 = stW w20 (Addr.add a26 (Int.toNat j8 * 1)) 0 [.int .i64 n23] →
 S21 w27 ∧
 ∃ a28 : Addr, data1.ptr = some a28 ∧ 0 ≤ (wr (j8 - (1 : Int))) ∧ (wr (j8 - (1 : Int))) < (data1.len : Int) ∧
 wrOk w27 (Addr.add a28 (Int.toNat (wr (j8 - (1 : Int))) * 1)) 1 ∧ ∀ w29 : World, w29 = stW w27 (Addr.add a28 (Int.toNat (wr (j8 - (1 : Int))) * 1)) 0 [.int .i64 n25] →
 I2 (wr (j8 - (1 : Int))) w29 ∧ μ2 (wr (j8 - (1 : Int))) w29 < μ2 j8 w6)
 (I1 (wr (i5 + (1 : Int))) w18 ∧ μ1 (wr (i5 + (1 : Int))) w18 < μ1 i5 w4)
def slices_insertionSortOrdered_int_sh (data1 : Sl) (a_2 : Int) (b_3 : Int) (w : World) (K : Value → World → Prop) : Prop :=
 ∃ (I1 : Int → World → Prop) (μ1 : Int → World → Nat), I1 (wr (a_2 + (1 : Int))) w ∧ ∀ (i5 : Int) (w4 : World), I1 i5 w4 →
 brB (decide (i5 < b_3))
 (∃ (I2 : Int → World → Prop) (μ2 : Int → World → Nat), I2 i5 w4 ∧ ∀ (j8 : Int) (w6 : World), I2 j8 w6 →
 ∀ w7 : World, w7 = World.drew w6 →
 brB (decide (j8 > a_2))
 (∃ a9 : Addr, data1.ptr = some a9 ∧ 0 ≤ j8 ∧ j8 < (data1.len : Int) ∧
 ∃ n10 : Int, held (Lw w7) (Addr.add a9 (Int.toNat j8 * 1)) (.int .i64 n10) ∧
 ∃ a11 : Addr, data1.ptr = some a11 ∧ 0 ≤ (wr (j8 - (1 : Int))) ∧ (wr (j8 - (1 : Int))) < (data1.len : Int) ∧
 ∃ n12 : Int, held (Lw w7) (Addr.add a11 (Int.toNat (wr (j8 - (1 : Int))) * 1)) (.int .i64 n12) ∧
 Calls Try.prog fn_cmp_Less_int #[.int .i64 n10, .int .i64 n12] w7 fun e13 w14 => ∃ b15 : Bool, e13 = .returned (.bool b15) ∧
 slices_insertionSortOrdered_int_j1 data1 j8 I2 (μ2) w6 I1 i5 (μ1) w4 b15 w14 K)
 (slices_insertionSortOrdered_int_j1 data1 j8 I2 (μ2) w6 I1 i5 (μ1) w4 false w7 K))
 (K (.tuple #[]) w4)
def slices_insertionSortOrdered_int_an : An := ⟨[(1, [(6, .int .i64)]), (4, [(7, .int .i64)])], [(4, (13, .st 0 (.st 1 (.st 2 (.st 3 (.st 4 (.st 5 (.st 6 (.st 7 (.st 8 (.st 9 (.st 10 (.st 11 (.st 12 .done)))))))))))), 0)), (6, (16, .st 0 (.st 1 (.st 2 (.st 3 (.st 4 (.st 5 (.st 6 (.st 7 (.st 8 (.st 9 (.st 10 (.st 11 (.st 12 (.st 13 (.st 14 (.ef 15 .done))))))))))))))), 1))], []⟩
theorem slices_insertionSortOrdered_int_lift {data1 : Sl} {a_2 : Int} {b_3 : Int} {w : World} {K : Value → World → Prop} (h : slices_insertionSortOrdered_int_sh data1 a_2 b_3 w K) : Calls Try.prog fn_slices_insertionSortOrdered_int #[data1.val, .int .i64 a_2, .int .i64 b_3] w fun e w' => ∃ v, e = .returned v ∧ K v w' :=
   lift_calls (A := slices_insertionSortOrdered_int_an) (c := bodyOf Try.f70) (args := [data1.val, .int .i64 a_2, .int .i64 b_3]) orc orc_wide Try.func70 (by kernel_rfl) (by kernel_rfl) (Eq.mp (by kernel_rfl : slices_insertionSortOrdered_int_sh data1 a_2 b_3 w K = wpc orc Try.f70.ntmps slices_insertionSortOrdered_int_an (bodyOf Try.f70) (argl 0 [data1.val, .int .i64 a_2, .int .i64 b_3]) w (retQ orc Try.f70.results.toList K)) h)

-- slices.nextPowerOfTwo
def slices_nextPowerOfTwo_sh (length1 : Int) (w : World) (K : Value → World → Prop) : Prop :=
 Calls Try.prog fn_math_bits_Len #[.int .u64 (IntKind.wrap .u64 length1)] w fun e2 w3 => ∃ n4 : Int, e2 = .returned (.int .i64 n4) ∧
 0 ≤ n4 ∧ K (.int .u64 (ishl .u64 (1 : Int) n4)) w3
def slices_nextPowerOfTwo_an : An := ⟨[], [], []⟩
theorem slices_nextPowerOfTwo_lift {length1 : Int} {w : World} {K : Value → World → Prop} (h : slices_nextPowerOfTwo_sh length1 w K) : Calls Try.prog fn_slices_nextPowerOfTwo #[.int .i64 length1] w fun e w' => ∃ v, e = .returned v ∧ K v w' :=
   lift_calls (A := slices_nextPowerOfTwo_an) (c := bodyOf Try.f83) (args := [.int .i64 length1]) orc orc_wide Try.func83 (by kernel_rfl) (by kernel_rfl) (Eq.mp (by kernel_rfl : slices_nextPowerOfTwo_sh length1 w K = wpc orc Try.f83.ntmps slices_nextPowerOfTwo_an (bodyOf Try.f83) (argl 0 [.int .i64 length1]) w (retQ orc Try.f83.results.toList K)) h)

-- (*slices.xorshift).Next
def slices_xorshift_Next_sh (r_1 : Nat) (w : World) (K : Value → World → Prop) : Prop :=
 ∀ w2 : World, w2 = World.drew w →
 ∃ n3 : Int, held (Lw w2) ⟨r_1, 0, none⟩ (.int .u64 n3) ∧
 ∃ n4 : Int, held (Lw w2) ⟨r_1, 0, none⟩ (.int .u64 n4) ∧
 0 ≤ (13 : Int) ∧ wrOk w2 ⟨r_1, 0, none⟩ 1 ∧ ∀ w5 : World, w5 = stW w2 ⟨r_1, 0, none⟩ 0 [.int .u64 (ixor .u64 n3 (ishl .u64 n4 (13 : Int)))] →
 ∀ w6 : World, w6 = World.drew w5 →
 ∃ n7 : Int, held (Lw w6) ⟨r_1, 0, none⟩ (.int .u64 n7) ∧
 ∃ n8 : Int, held (Lw w6) ⟨r_1, 0, none⟩ (.int .u64 n8) ∧
 0 ≤ (7 : Int) ∧ wrOk w6 ⟨r_1, 0, none⟩ 1 ∧ ∀ w9 : World, w9 = stW w6 ⟨r_1, 0, none⟩ 0 [.int .u64 (ixor .u64 n7 (ishr .u64 n8 (7 : Int)))] →
 ∀ w10 : World, w10 = World.drew w9 →
 ∃ n11 : Int, held (Lw w10) ⟨r_1, 0, none⟩ (.int .u64 n11) ∧
 ∃ n12 : Int, held (Lw w10) ⟨r_1, 0, none⟩ (.int .u64 n12) ∧
 0 ≤ (17 : Int) ∧ wrOk w10 ⟨r_1, 0, none⟩ 1 ∧ ∀ w13 : World, w13 = stW w10 ⟨r_1, 0, none⟩ 0 [.int .u64 (ixor .u64 n11 (ishl .u64 n12 (17 : Int)))] →
 ∃ n14 : Int, w13.cell? ⟨r_1, 0, none⟩ = some (.int .u64 n14) ∧
 K (.int .u64 n14) w13
def slices_xorshift_Next_an : An := ⟨[], [(1, (9, .st 0 (.st 1 (.st 2 (.st 3 (.st 4 (.st 5 (.st 6 (.st 7 (.st 8 .done)))))))), 0)), (2, (9, .st 0 (.st 1 (.st 2 (.st 3 (.st 4 (.st 5 (.st 6 (.st 7 (.st 8 .done)))))))), 0)), (3, (9, .st 0 (.st 1 (.st 2 (.st 3 (.st 4 (.st 5 (.st 6 (.st 7 (.st 8 .done)))))))), 0))], []⟩
theorem slices_xorshift_Next_lift {r_1 : Nat} {w : World} {K : Value → World → Prop} (h : slices_xorshift_Next_sh r_1 w K) : Calls Try.prog fn_slices_xorshift_Next #[.pointer (some ⟨r_1, 0, none⟩)] w fun e w' => ∃ v, e = .returned v ∧ K v w' :=
   lift_calls (A := slices_xorshift_Next_an) (c := bodyOf Try.f84) (args := [.pointer (some ⟨r_1, 0, none⟩)]) orc orc_wide Try.func84 (by kernel_rfl) (by kernel_rfl) (Eq.mp (by kernel_rfl : slices_xorshift_Next_sh r_1 w K = wpc orc Try.f84.ntmps slices_xorshift_Next_an (bodyOf Try.f84) (argl 0 [.pointer (some ⟨r_1, 0, none⟩)]) w (retQ orc Try.f84.results.toList K)) h)

end Go.Proofs.Ytgffaimgnmfifaa

/- Numbers as elements of lists; slices.Clone. -/
set_option maxRecDepth 100000
namespace Go.Proofs.Ytgffaimgnmfifaa
open Go.RowKit

def intE : Enc Int := ⟨T_int, 1, 8, fun n => [.int .i64 n], by intro x; rfl, by intro x u hu; simp at hu; subst hu; rfl, by decide⟩
theorem intOk : EncOk Try.prog intE T_sl_int := EncOk.of (z := .int .i64 0) (by kernel_rfl) (by kernel_rfl) (by kernel_rfl)
/-! ### slices.Clone -/
theorem Rd.none {α : Type} {E : Enc α} {w : World} {s : Sl} {xs : List α} (h : Rd E w s xs) (hp : s.ptr = none) : xs = [] ∧ s.cap = 0 := by
  obtain ⟨ao, cap, he, _, _, h5, _⟩ := h
  have hq : s.ptr = ao ∧ s.cap = cap := by cases s; simp [Sl.val] at he; exact ⟨he.1, he.2.2⟩
  have := h5 (hq.1.symm.trans hp)
  exact ⟨List.eq_nil_of_length_eq_zero this.1, hq.2.trans this.2⟩
theorem clone_core {α : Type} {P : Program} {E : Enc α} {T : TypeId} (ok : EncOk P E T) (hby : E.bytes ≤ 1000) {w : World} {s : Sl} {xs : List α} (h : Rd E w s xs) (hsm : xs.length ≤ 1000000000) {K : Value → World → Prop}
    (k : ∀ (s' : Sl) (w' : World), Ow E w' s' xs → Chg No w w' → (∀ k, s'.blk = some k → w.heap.size ≤ k) → (s.ptr = none → s' = nilS) → K s'.val w') :
    brB (Option.isNone s.ptr) (K (.slice none 0 0) w) (∀ (b2 : Nat) (w3 : World), b2 = w.heap.size → w3 = World.alloc w (.cells #[] E.t) →
      ∃ s4 : Sl, ∃ w5 : World, (Builtin.append_ #[T, T] T #[.slice (some ⟨b2, 0, none⟩) 0 0, s.val]).run P w3 = .ok (s4.val) w5 ∧ K (s4.val) w5) := by
  refine brB_of (fun hp => ?_) (fun hp => ?_)
  · have hp : s.ptr = Option.none := by cases h : s.ptr with
      | none => rfl
      | some a => rw [h] at hp; cases hp
    obtain ⟨rfl, _⟩ := h.none hp
    exact k nilS w (Ow.nil E w) (Chg.refl _ _) (fun k hk => by cases hk) (fun _ => rfl)
  · intro b2 w3 hb hw
    have hne : s.ptr ≠ Option.none := fun e => by rw [e] at hp; cases hp
    have hc : Chg No w w3 := by rw [hw]; exact Chg.alloc _ _ _
    have hlit : Ow E w3 ⟨some ⟨b2, 0, Option.none⟩, 0, 0⟩ [] := by
      rw [hw, hb]; exact Ow.lit w [] [] rfl (Nat.zero_le _)
    have hs3 : w.heap.size < w3.heap.size := by rw [hw]; simp
    refine app_ok ok rfl rfl hlit (h.no hc) (by
      have : (xs.length) * E.bytes ≤ 1000000000 * 1000 := Nat.mul_le_mul hsm hby
      simp only [List.length_nil, Nat.zero_add]; omega) (by simp only [List.length_nil, Nat.zero_add]; unfold maxLen; omega) ?_
    intro s' w5 h5 hc5 hbk
    refine k s' w5 (by simpa using h5) (hc.trans hc5 (fun _ _ h => h) (fun j hj he => ?_)) (fun j hj => ?_) (fun e => absurd e hne)
    · have : some b2 = some j := he
      cases this; omega
    · rcases hbk with hk | hk
      · have : (⟨some ⟨b2, 0, Option.none⟩, 0, 0⟩ : Sl).blk = some b2 := rfl
        rw [hk, this] at hj; cases hj; omega
      · rw [hk] at hj; cases hj; omega
theorem clone_ints {w : World} {s : Sl} {xs : List Int} (h : Rd intE w s xs) (hsm : xs.length ≤ 1000000000) : Calls Try.prog fn_slices_Clone_sl_int_int #[s.val] w fun e w' => ∃ s' : Sl, e = .returned s'.val ∧ Ow intE w' s' xs ∧ Chg No w w' ∧ (∀ k, s'.blk = some k → w.heap.size ≤ k) ∧ (s.ptr = none → s' = nilS) := by
  refine (slices_Clone_sl_int_int_lift (K := fun v w' => ∃ s' : Sl, v = s'.val ∧ Ow intE w' s' xs ∧ Chg No w w' ∧ (∀ k, s'.blk = some k → w.heap.size ≤ k) ∧ (s.ptr = none → s' = nilS)) ?_).mono (by rintro e w' ⟨v, rfl, s', rfl, h⟩; exact ⟨s', rfl, h⟩)
  unfold slices_Clone_sl_int_int_sh
  exact clone_core (K := fun v w' => ∃ s' : Sl, v = s'.val ∧ Ow intE w' s' xs ∧ Chg No w w' ∧ (∀ k, s'.blk = some k → w.heap.size ≤ k) ∧ (s.ptr = none → s' = nilS)) intOk (by decide) h hsm fun s' w' h1 h2 h3 h4 => ⟨s', rfl, h1, h2, h3, h4⟩
end Go.Proofs.Ytgffaimgnmfifaa
