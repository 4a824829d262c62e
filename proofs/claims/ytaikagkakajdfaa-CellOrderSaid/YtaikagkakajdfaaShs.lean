/- Functions, read without their frames; that each is enough. Printed by a program of mine (wip/lift/gen.py). -/
import Derived.Test.YtaikagkakajdfaaOrc
set_option maxRecDepth 100000
namespace Go.Proofs.Ytaikagkakajdfaa
open Go.RowKit

-- holloway/hollowaylaw5.PileBack
def hollowaylaw5_PileBack_j1 (b28 : Bool) (w27 : World) (K : Value → World → Prop) : Prop :=
 K (.bool b28) w27
def hollowaylaw5_PileBack_j2 (b43 : Bool) (w42 : World) (K : Value → World → Prop) : Prop :=
 K (.bool b43) w42
def hollowaylaw5_PileBack_j3 (most1 : Int) (first2 : Sl) (l_3 : Sl) (b8 : Bool) (w7 : World) (K : Value → World → Prop) : Prop :=
 brB b8
 (Calls Try.prog fn_hollowaylaw5_alive #[] w7 fun e9 w10 => ∃ b11 : Bool, e9 = .returned (.bool b11) ∧
 K (.bool b11) w10)
 (Calls Try.prog fn_pile_New #[.int .i64 most1, first2.val] w7 fun e12 w13 => ∃ p14 : Option Addr, e12 = .returned (.pointer p14) ∧
 brB (Option.isNone p14)
 (K (.bool false) w13)
 (Calls Try.prog fn_pile_Pile_All #[.pointer p14] w13 fun e15 w16 => ∃ s17 : Sl, e15 = .returned (s17.val) ∧
 Calls Try.prog fn_pile_Pile_Push #[.pointer p14, l_3.val] w16 fun e18 w19 => ∃ b20 : Bool, e18 = .returned (.bool b20) ∧
 brB (!b20)
 (Calls Try.prog fn_pile_Pile_All #[.pointer p14] w19 fun e21 w22 => ∃ s23 : Sl, e21 = .returned (s23.val) ∧
 Calls Try.prog fn_hollowaybook_SameInts #[s23.val, s17.val] w22 fun e24 w25 => ∃ b26 : Bool, e24 = .returned (.bool b26) ∧
 brB b26
 (hollowaylaw5_PileBack_j1 (decide ((wr ((s17.len : Int) + (l_3.len : Int))) > most1)) w25 K)
 (hollowaylaw5_PileBack_j1 false w25 K))
 (Calls Try.prog fn_pile_Pile_Pop #[.pointer p14, .int .i64 (l_3.len : Int)] w19 fun e29 w30 => ∃ s31 : Sl, ∃ b32 : Bool, e29 = .returned (.tuple #[s31.val, .bool b32]) ∧
 brB b32
 (Calls Try.prog fn_hollowaybook_SameInts #[s31.val, l_3.val] w30 fun e33 w34 => ∃ b35 : Bool, e33 = .returned (.bool b35) ∧
 brB b35
 (Calls Try.prog fn_pile_Pile_All #[.pointer p14] w34 fun e36 w37 => ∃ s38 : Sl, e36 = .returned (s38.val) ∧
 Calls Try.prog fn_hollowaybook_SameInts #[s38.val, s17.val] w37 fun e39 w40 => ∃ b41 : Bool, e39 = .returned (.bool b41) ∧
 hollowaylaw5_PileBack_j2 b41 w40 K)
 (hollowaylaw5_PileBack_j2 false w34 K))
 (hollowaylaw5_PileBack_j2 false w30 K))))
def hollowaylaw5_PileBack_sh (most1 : Int) (first2 : Sl) (l_3 : Sl) (w : World) (K : Value → World → Prop) : Prop :=
 brB (decide ((first2.len : Int) > (60 : Int)))
 (hollowaylaw5_PileBack_j3 most1 first2 l_3 true w K)
 (brB (decide ((l_3.len : Int) > (60 : Int)))
 (hollowaylaw5_PileBack_j3 most1 first2 l_3 true w K)
 (Calls Try.prog fn_hollowaylaw5_alive #[] w fun e4 w5 => ∃ b6 : Bool, e4 = .returned (.bool b6) ∧
 hollowaylaw5_PileBack_j3 most1 first2 l_3 (!b6) w5 K))
def hollowaylaw5_PileBack_an : An := ⟨[], []⟩
theorem hollowaylaw5_PileBack_lift {most1 : Int} {first2 : Sl} {l_3 : Sl} {w : World} {K : Value → World → Prop} (h : hollowaylaw5_PileBack_sh most1 first2 l_3 w K) : Calls Try.prog fn_hollowaylaw5_PileBack #[.int .i64 most1, first2.val, l_3.val] w fun e w' => ∃ v, e = .returned v ∧ K v w' :=
   lift_calls (A := hollowaylaw5_PileBack_an) (c := bodyOf Try.f3) (args := [.int .i64 most1, first2.val, l_3.val]) orc orc_wide Try.func3 (by kernel_rfl) (by kernel_rfl) (Eq.mp (by kernel_rfl : hollowaylaw5_PileBack_sh most1 first2 l_3 w K = wpc orc Try.f3.ntmps hollowaylaw5_PileBack_an (bodyOf Try.f3) (argl 0 [.int .i64 most1, first2.val, l_3.val]) w (retQ orc Try.f3.results.toList K)) h)

-- holloway/hollowaylaw5.PileParts
def hollowaylaw5_PileParts_j1 (b62 : Bool) (w61 : World) (K : Value → World → Prop) : Prop :=
 K (.bool b62) w61
def hollowaylaw5_PileParts_j2 (a_1 : Sl) (b_2 : Sl) (p14 : Option Addr) (n_3 : Int) (p21 : Option Addr) (b35 : Bool) (w34 : World) (K : Value → World → Prop) : Prop :=
 brB b35
 (K (.bool false) w34)
 ((wr ((wr ((a_1.len : Int) + (b_2.len : Int))) + (1 : Int))) ≠ 0 ∧ (wr ((wr ((a_1.len : Int) + (b_2.len : Int))) + (1 : Int))) ≠ 0 ∧ Calls Try.prog fn_pile_Pile_Pop #[.pointer p14, .int .i64 (Int.tmod (wr ((wr ((Int.tmod n_3 (wr ((wr ((a_1.len : Int) + (b_2.len : Int))) + (1 : Int)))) + (wr ((a_1.len : Int) + (b_2.len : Int))))) + (1 : Int))) (wr ((wr ((a_1.len : Int) + (b_2.len : Int))) + (1 : Int))))] w34 fun e36 w37 => ∃ s38 : Sl, ∃ b39 : Bool, e36 = .returned (.tuple #[s38.val, .bool b39]) ∧
 Calls Try.prog fn_pile_Pile_Pop #[.pointer p14, .int .i64 (wr ((wr ((a_1.len : Int) + (b_2.len : Int))) - (Int.tmod (wr ((wr ((Int.tmod n_3 (wr ((wr ((a_1.len : Int) + (b_2.len : Int))) + (1 : Int)))) + (wr ((a_1.len : Int) + (b_2.len : Int))))) + (1 : Int))) (wr ((wr ((a_1.len : Int) + (b_2.len : Int))) + (1 : Int))))))] w37 fun e40 w41 => ∃ s42 : Sl, ∃ b43 : Bool, e40 = .returned (.tuple #[s42.val, .bool b43]) ∧
 Calls Try.prog fn_pile_Pile_Pop #[.pointer p21, .int .i64 (wr ((a_1.len : Int) + (b_2.len : Int)))] w41 fun e44 w45 => ∃ s46 : Sl, ∃ b47 : Bool, e44 = .returned (.tuple #[s46.val, .bool b47]) ∧
 brB b39
 (brB b43
 (brB b47
 (∃ s48 : Sl, ∃ w49 : World, (Builtin.append_ #[T_sl_int, T_sl_int] T_sl_int #[.slice none 0 0, s42.val]).run Try.prog w45 = .ok (s48.val) w49 ∧
 ∃ s50 : Sl, ∃ w51 : World, (Builtin.append_ #[T_sl_int, T_sl_int] T_sl_int #[s48.val, s38.val]).run Try.prog w49 = .ok (s50.val) w51 ∧
 Calls Try.prog fn_hollowaybook_SameInts #[s50.val, s46.val] w51 fun e52 w53 => ∃ b54 : Bool, e52 = .returned (.bool b54) ∧
 brB b54
 (Calls Try.prog fn_pile_Pile_Len #[.pointer p14] w53 fun e55 w56 => ∃ n57 : Int, e55 = .returned (.int .i64 n57) ∧
 brB (n57 == (0 : Int))
 (Calls Try.prog fn_pile_Pile_Len #[.pointer p21] w56 fun e58 w59 => ∃ n60 : Int, e58 = .returned (.int .i64 n60) ∧
 hollowaylaw5_PileParts_j1 (n60 == (0 : Int)) w59 K)
 (hollowaylaw5_PileParts_j1 false w56 K))
 (hollowaylaw5_PileParts_j1 false w53 K))
 (hollowaylaw5_PileParts_j1 false w45 K))
 (hollowaylaw5_PileParts_j1 false w45 K))
 (hollowaylaw5_PileParts_j1 false w45 K))
def hollowaylaw5_PileParts_j3 (a_1 : Sl) (b_2 : Sl) (n_3 : Int) (b8 : Bool) (w7 : World) (K : Value → World → Prop) : Prop :=
 brB b8
 (Calls Try.prog fn_hollowaylaw5_alive #[] w7 fun e9 w10 => ∃ b11 : Bool, e9 = .returned (.bool b11) ∧
 K (.bool b11) w10)
 (Calls Try.prog fn_pile_New #[.int .i64 (100 : Int), a_1.val] w7 fun e12 w13 => ∃ p14 : Option Addr, e12 = .returned (.pointer p14) ∧
 ∃ s15 : Sl, ∃ w16 : World, (Builtin.append_ #[T_sl_int, T_sl_int] T_sl_int #[.slice none 0 0, a_1.val]).run Try.prog w13 = .ok (s15.val) w16 ∧
 ∃ s17 : Sl, ∃ w18 : World, (Builtin.append_ #[T_sl_int, T_sl_int] T_sl_int #[s15.val, b_2.val]).run Try.prog w16 = .ok (s17.val) w18 ∧
 Calls Try.prog fn_pile_New #[.int .i64 (100 : Int), s17.val] w18 fun e19 w20 => ∃ p21 : Option Addr, e19 = .returned (.pointer p21) ∧
 brB (Option.isNone p14)
 (hollowaylaw5_PileParts_j2 a_1 b_2 p14 n_3 p21 true w20 K)
 (brB (Option.isNone p21)
 (hollowaylaw5_PileParts_j2 a_1 b_2 p14 n_3 p21 true w20 K)
 (Calls Try.prog fn_pile_Pile_Push #[.pointer p14, b_2.val] w20 fun e22 w23 => ∃ b24 : Bool, e22 = .returned (.bool b24) ∧
 brB (!b24)
 (hollowaylaw5_PileParts_j2 a_1 b_2 p14 n_3 p21 true w23 K)
 (Calls Try.prog fn_pile_Pile_All #[.pointer p14] w23 fun e25 w26 => ∃ s27 : Sl, e25 = .returned (s27.val) ∧
 Calls Try.prog fn_pile_Pile_All #[.pointer p21] w26 fun e28 w29 => ∃ s30 : Sl, e28 = .returned (s30.val) ∧
 Calls Try.prog fn_hollowaybook_SameInts #[s27.val, s30.val] w29 fun e31 w32 => ∃ b33 : Bool, e31 = .returned (.bool b33) ∧
 hollowaylaw5_PileParts_j2 a_1 b_2 p14 n_3 p21 (!b33) w32 K))))
def hollowaylaw5_PileParts_sh (a_1 : Sl) (b_2 : Sl) (n_3 : Int) (w : World) (K : Value → World → Prop) : Prop :=
 brB (decide ((a_1.len : Int) > (40 : Int)))
 (hollowaylaw5_PileParts_j3 a_1 b_2 n_3 true w K)
 (brB (decide ((b_2.len : Int) > (40 : Int)))
 (hollowaylaw5_PileParts_j3 a_1 b_2 n_3 true w K)
 (Calls Try.prog fn_hollowaylaw5_alive #[] w fun e4 w5 => ∃ b6 : Bool, e4 = .returned (.bool b6) ∧
 hollowaylaw5_PileParts_j3 a_1 b_2 n_3 (!b6) w5 K))
def hollowaylaw5_PileParts_an : An := ⟨[], []⟩
theorem hollowaylaw5_PileParts_lift {a_1 : Sl} {b_2 : Sl} {n_3 : Int} {w : World} {K : Value → World → Prop} (h : hollowaylaw5_PileParts_sh a_1 b_2 n_3 w K) : Calls Try.prog fn_hollowaylaw5_PileParts #[a_1.val, b_2.val, .int .i64 n_3] w fun e w' => ∃ v, e = .returned v ∧ K v w' :=
   lift_calls (A := hollowaylaw5_PileParts_an) (c := bodyOf Try.f4) (args := [a_1.val, b_2.val, .int .i64 n_3]) orc orc_wide Try.func4 (by kernel_rfl) (by kernel_rfl) (Eq.mp (by kernel_rfl : hollowaylaw5_PileParts_sh a_1 b_2 n_3 w K = wpc orc Try.f4.ntmps hollowaylaw5_PileParts_an (bodyOf Try.f4) (argl 0 [a_1.val, b_2.val, .int .i64 n_3]) w (retQ orc Try.f4.results.toList K)) h)

-- holloway/hollowaylaw5.PileCuts
def hollowaylaw5_PileCuts_j1 (s30 : Sl) (k32 : Int) (I1 : Int → World → Prop) (μ1 : Int → World → Nat) (w31 : World) (want38 : Int) (w35 : World) (K : Value → World → Prop) : Prop :=
 ∃ a36 : Addr, s30.ptr = some a36 ∧ 0 ≤ k32 ∧ k32 < (s30.len : Int) ∧
 ∃ n37 : Int, w35.cell? (Addr.add a36 (Int.toNat k32 * 1)) = some (.int .i64 n37) ∧
 brB (n37 != want38)
 (K (.bool false) w35)
 (I1 (wr (k32 + (1 : Int))) w35 ∧ μ1 (wr (k32 + (1 : Int))) w35 < μ1 k32 w31)
def hollowaylaw5_PileCuts_j2 (b49 : Bool) (w48 : World) (K : Value → World → Prop) : Prop :=
 K (.bool b49) w48
def hollowaylaw5_PileCuts_j3 (b61 : Bool) (w60 : World) (K : Value → World → Prop) : Prop :=
 K (.bool b61) w60
def hollowaylaw5_PileCuts_j4 (p13 : Option Addr) (n_2 : Int) (l_1 : Sl) (b27 : Bool) (w26 : World) (K : Value → World → Prop) : Prop :=
 brB b27
 (K (.bool false) w26)
 (Calls Try.prog fn_pile_Pile_All #[.pointer p13] w26 fun e28 w29 => ∃ s30 : Sl, e28 = .returned (s30.val) ∧
 brB ((s30.len : Int) != n_2)
 (K (.bool false) w29)
 (∃ (I1 : Int → World → Prop) (μ1 : Int → World → Nat), I1 (0 : Int) w29 ∧ ∀ (k32 : Int) (w31 : World), I1 k32 w31 →
 brB (decide (k32 < n_2))
 (brB (decide (k32 < (l_1.len : Int)))
 (∃ a33 : Addr, l_1.ptr = some a33 ∧ 0 ≤ k32 ∧ k32 < (l_1.len : Int) ∧
 ∃ n34 : Int, w31.cell? (Addr.add a33 (Int.toNat k32 * 1)) = some (.int .i64 n34) ∧
 hollowaylaw5_PileCuts_j1 s30 k32 I1 (μ1) w31 n34 w31 K)
 (hollowaylaw5_PileCuts_j1 s30 k32 I1 (μ1) w31 (0 : Int) w31 K))
 (brB (decide (n_2 ≥ (l_1.len : Int)))
 (Calls Try.prog fn_pile_Pile_Cut #[.pointer p13, .int .i64 (l_1.len : Int)] w31 fun e39 w40 => ∃ b41 : Bool, e39 = .returned (.bool b41) ∧
 brB b41
 (Calls Try.prog fn_pile_Pile_All #[.pointer p13] w40 fun e42 w43 => ∃ s44 : Sl, e42 = .returned (s44.val) ∧
 Calls Try.prog fn_hollowaybook_SameInts #[s44.val, l_1.val] w43 fun e45 w46 => ∃ b47 : Bool, e45 = .returned (.bool b47) ∧
 hollowaylaw5_PileCuts_j2 b47 w46 K)
 (hollowaylaw5_PileCuts_j2 false w40 K))
 (0 ≤ n_2 ∧ n_2 ≤ (l_1.len : Int) ∧ ∀ s50 : Sl, s50 = Sl.sub l_1.ptr l_1.cap (Int.toNat n_2) l_1.len 1 →
 Calls Try.prog fn_pile_Pile_Push #[.pointer p13, s50.val] w31 fun e51 w52 => ∃ b53 : Bool, e51 = .returned (.bool b53) ∧
 brB b53
 (Calls Try.prog fn_pile_Pile_All #[.pointer p13] w52 fun e54 w55 => ∃ s56 : Sl, e54 = .returned (s56.val) ∧
 Calls Try.prog fn_hollowaybook_SameInts #[s56.val, l_1.val] w55 fun e57 w58 => ∃ b59 : Bool, e57 = .returned (.bool b59) ∧
 hollowaylaw5_PileCuts_j3 b59 w58 K)
 (hollowaylaw5_PileCuts_j3 false w52 K)))))
def hollowaylaw5_PileCuts_j5 (l_1 : Sl) (n_2 : Int) (b7 : Bool) (w6 : World) (K : Value → World → Prop) : Prop :=
 brB b7
 (Calls Try.prog fn_hollowaylaw5_alive #[] w6 fun e8 w9 => ∃ b10 : Bool, e8 = .returned (.bool b10) ∧
 K (.bool b10) w9)
 (Calls Try.prog fn_pile_New #[.int .i64 (100 : Int), l_1.val] w6 fun e11 w12 => ∃ p13 : Option Addr, e11 = .returned (.pointer p13) ∧
 brB (Option.isNone p13)
 (hollowaylaw5_PileCuts_j4 p13 n_2 l_1 true w12 K)
 (Calls Try.prog fn_pile_Pile_Cut #[.pointer p13, .int .i64 n_2] w12 fun e14 w15 => ∃ b16 : Bool, e14 = .returned (.bool b16) ∧
 brB (!b16)
 (hollowaylaw5_PileCuts_j4 p13 n_2 l_1 true w15 K)
 (Calls Try.prog fn_pile_Pile_Len #[.pointer p13] w15 fun e17 w18 => ∃ n19 : Int, e17 = .returned (.int .i64 n19) ∧
 brB (n19 != n_2)
 (hollowaylaw5_PileCuts_j4 p13 n_2 l_1 true w18 K)
 (Calls Try.prog fn_pile_Pile_Cut #[.pointer p13, .int .i64 (101 : Int)] w18 fun e20 w21 => ∃ b22 : Bool, e20 = .returned (.bool b22) ∧
 brB b22
 (hollowaylaw5_PileCuts_j4 p13 n_2 l_1 true w21 K)
 (Calls Try.prog fn_pile_Pile_Cut #[.pointer p13, .int .i64 (-1 : Int)] w21 fun e23 w24 => ∃ b25 : Bool, e23 = .returned (.bool b25) ∧
 hollowaylaw5_PileCuts_j4 p13 n_2 l_1 b25 w24 K)))))
def hollowaylaw5_PileCuts_sh (l_1 : Sl) (n_2 : Int) (w : World) (K : Value → World → Prop) : Prop :=
 brB (decide ((l_1.len : Int) > (60 : Int)))
 (hollowaylaw5_PileCuts_j5 l_1 n_2 true w K)
 (brB (decide (n_2 < (0 : Int)))
 (hollowaylaw5_PileCuts_j5 l_1 n_2 true w K)
 (brB (decide (n_2 > (100 : Int)))
 (hollowaylaw5_PileCuts_j5 l_1 n_2 true w K)
 (Calls Try.prog fn_hollowaylaw5_alive #[] w fun e3 w4 => ∃ b5 : Bool, e3 = .returned (.bool b5) ∧
 hollowaylaw5_PileCuts_j5 l_1 n_2 (!b5) w4 K)))
def hollowaylaw5_PileCuts_an : An := ⟨[(10, [(7, .int .i64)])], []⟩
theorem hollowaylaw5_PileCuts_lift {l_1 : Sl} {n_2 : Int} {w : World} {K : Value → World → Prop} (h : hollowaylaw5_PileCuts_sh l_1 n_2 w K) : Calls Try.prog fn_hollowaylaw5_PileCuts #[l_1.val, .int .i64 n_2] w fun e w' => ∃ v, e = .returned v ∧ K v w' :=
   lift_calls (A := hollowaylaw5_PileCuts_an) (c := bodyOf Try.f5) (args := [l_1.val, .int .i64 n_2]) orc orc_wide Try.func5 (by kernel_rfl) (by kernel_rfl) (Eq.mp (by kernel_rfl : hollowaylaw5_PileCuts_sh l_1 n_2 w K = wpc orc Try.f5.ntmps hollowaylaw5_PileCuts_an (bodyOf Try.f5) (argl 0 [l_1.val, .int .i64 n_2]) w (retQ orc Try.f5.results.toList K)) h)

-- holloway/hollowaylaw1.CellFloors
def hollowaylaw1_CellFloors_j1 (b17 : Bool) (w16 : World) (K : Value → World → Prop) : Prop :=
 K (.bool b17) w16
def hollowaylaw1_CellFloors_j2 (a_1 : Int) (b_2 : Int) (b7 : Bool) (w6 : World) (K : Value → World → Prop) : Prop :=
 brB b7
 (Calls Try.prog fn_hollowaylaw1_alive #[] w6 fun e8 w9 => ∃ b10 : Bool, e8 = .returned (.bool b10) ∧
 K (.bool b10) w9)
 (Calls Try.prog fn_cell_Floor #[.int .i64 a_1, .int .i64 b_2] w6 fun e11 w12 => ∃ n13 : Int, ∃ n14 : Int, ∃ b15 : Bool, e11 = .returned (.tuple #[.int .i64 n13, .int .i64 n14, .bool b15]) ∧
 brB b15
 (brB ((wr ((wr (n13 * b_2)) + n14)) == a_1)
 (brB (n14 == (0 : Int))
 (brB (decide (b_2 > (0 : Int)))
 (brB (decide (n14 < b_2))
 (hollowaylaw1_CellFloors_j1 true w12 K)
 (brB (decide (b_2 < (0 : Int)))
 (hollowaylaw1_CellFloors_j1 (decide (n14 > b_2)) w12 K)
 (hollowaylaw1_CellFloors_j1 false w12 K)))
 (brB (decide (b_2 < (0 : Int)))
 (hollowaylaw1_CellFloors_j1 (decide (n14 > b_2)) w12 K)
 (hollowaylaw1_CellFloors_j1 false w12 K)))
 (brB ((decide (n14 > (0 : Int))) == (decide (b_2 > (0 : Int))))
 (brB (decide (b_2 > (0 : Int)))
 (brB (decide (n14 < b_2))
 (hollowaylaw1_CellFloors_j1 true w12 K)
 (brB (decide (b_2 < (0 : Int)))
 (hollowaylaw1_CellFloors_j1 (decide (n14 > b_2)) w12 K)
 (hollowaylaw1_CellFloors_j1 false w12 K)))
 (brB (decide (b_2 < (0 : Int)))
 (hollowaylaw1_CellFloors_j1 (decide (n14 > b_2)) w12 K)
 (hollowaylaw1_CellFloors_j1 false w12 K)))
 (hollowaylaw1_CellFloors_j1 false w12 K)))
 (hollowaylaw1_CellFloors_j1 false w12 K))
 (hollowaylaw1_CellFloors_j1 false w12 K))
def hollowaylaw1_CellFloors_sh (a_1 : Int) (b_2 : Int) (w : World) (K : Value → World → Prop) : Prop :=
 brB (b_2 == (0 : Int))
 (hollowaylaw1_CellFloors_j2 a_1 b_2 true w K)
 (Calls Try.prog fn_hollowaylaw1_alive #[] w fun e3 w4 => ∃ b5 : Bool, e3 = .returned (.bool b5) ∧
 hollowaylaw1_CellFloors_j2 a_1 b_2 (!b5) w4 K)
def hollowaylaw1_CellFloors_an : An := ⟨[], []⟩
theorem hollowaylaw1_CellFloors_lift {a_1 : Int} {b_2 : Int} {w : World} {K : Value → World → Prop} (h : hollowaylaw1_CellFloors_sh a_1 b_2 w K) : Calls Try.prog fn_hollowaylaw1_CellFloors #[.int .i64 a_1, .int .i64 b_2] w fun e w' => ∃ v, e = .returned v ∧ K v w' :=
   lift_calls (A := hollowaylaw1_CellFloors_an) (c := bodyOf Try.f6) (args := [.int .i64 a_1, .int .i64 b_2]) orc orc_wide Try.func6 (by kernel_rfl) (by kernel_rfl) (Eq.mp (by kernel_rfl : hollowaylaw1_CellFloors_sh a_1 b_2 w K = wpc orc Try.f6.ntmps hollowaylaw1_CellFloors_an (bodyOf Try.f6) (argl 0 [.int .i64 a_1, .int .i64 b_2]) w (retQ orc Try.f6.results.toList K)) h)

-- holloway/hollowaylaw1.CellShifts
def hollowaylaw1_CellShifts_j1 (b37 : Bool) (w36 : World) (K : Value → World → Prop) : Prop :=
 K (.bool b37) w36
def hollowaylaw1_CellShifts_j2 (a_1 : Int) (m_2 : Int) (n_3 : Int) (b8 : Bool) (w7 : World) (K : Value → World → Prop) : Prop :=
 brB b8
 (Calls Try.prog fn_hollowaylaw1_alive #[] w7 fun e9 w10 => ∃ b11 : Bool, e9 = .returned (.bool b11) ∧
 K (.bool b11) w10)
 (Calls Try.prog fn_cell_Two #[.int .i64 (21 : Int), .int .i64 a_1, .int .i64 m_2] w7 fun e12 w13 => ∃ n14 : Int, ∃ b15 : Bool, e12 = .returned (.tuple #[.int .i64 n14, .bool b15]) ∧
 Calls Try.prog fn_cell_Two #[.int .i64 (21 : Int), .int .i64 n14, .int .i64 n_3] w13 fun e16 w17 => ∃ n18 : Int, ∃ b19 : Bool, e16 = .returned (.tuple #[.int .i64 n18, .bool b19]) ∧
 Calls Try.prog fn_cell_Two #[.int .i64 (21 : Int), .int .i64 a_1, .int .i64 (wr (m_2 + n_3))] w17 fun e20 w21 => ∃ n22 : Int, ∃ b23 : Bool, e20 = .returned (.tuple #[.int .i64 n22, .bool b23]) ∧
 Calls Try.prog fn_cell_Two #[.int .i64 (22 : Int), .int .i64 a_1, .int .i64 m_2] w21 fun e24 w25 => ∃ n26 : Int, ∃ b27 : Bool, e24 = .returned (.tuple #[.int .i64 n26, .bool b27]) ∧
 Calls Try.prog fn_cell_Two #[.int .i64 (22 : Int), .int .i64 n26, .int .i64 n_3] w25 fun e28 w29 => ∃ n30 : Int, ∃ b31 : Bool, e28 = .returned (.tuple #[.int .i64 n30, .bool b31]) ∧
 Calls Try.prog fn_cell_Two #[.int .i64 (22 : Int), .int .i64 a_1, .int .i64 (wr (m_2 + n_3))] w29 fun e32 w33 => ∃ n34 : Int, ∃ b35 : Bool, e32 = .returned (.tuple #[.int .i64 n34, .bool b35]) ∧
 brB (n18 == n22)
 (hollowaylaw1_CellShifts_j1 (n30 == n34) w33 K)
 (hollowaylaw1_CellShifts_j1 false w33 K))
def hollowaylaw1_CellShifts_sh (a_1 : Int) (m_2 : Int) (n_3 : Int) (w : World) (K : Value → World → Prop) : Prop :=
 brB (decide (m_2 < (0 : Int)))
 (hollowaylaw1_CellShifts_j2 a_1 m_2 n_3 true w K)
 (brB (decide (n_3 < (0 : Int)))
 (hollowaylaw1_CellShifts_j2 a_1 m_2 n_3 true w K)
 (brB (decide ((wr (m_2 + n_3)) > (63 : Int)))
 (hollowaylaw1_CellShifts_j2 a_1 m_2 n_3 true w K)
 (brB (decide (m_2 > (63 : Int)))
 (hollowaylaw1_CellShifts_j2 a_1 m_2 n_3 true w K)
 (brB (decide (n_3 > (63 : Int)))
 (hollowaylaw1_CellShifts_j2 a_1 m_2 n_3 true w K)
 (Calls Try.prog fn_hollowaylaw1_alive #[] w fun e4 w5 => ∃ b6 : Bool, e4 = .returned (.bool b6) ∧
 hollowaylaw1_CellShifts_j2 a_1 m_2 n_3 (!b6) w5 K)))))
def hollowaylaw1_CellShifts_an : An := ⟨[], []⟩
theorem hollowaylaw1_CellShifts_lift {a_1 : Int} {m_2 : Int} {n_3 : Int} {w : World} {K : Value → World → Prop} (h : hollowaylaw1_CellShifts_sh a_1 m_2 n_3 w K) : Calls Try.prog fn_hollowaylaw1_CellShifts #[.int .i64 a_1, .int .i64 m_2, .int .i64 n_3] w fun e w' => ∃ v, e = .returned v ∧ K v w' :=
   lift_calls (A := hollowaylaw1_CellShifts_an) (c := bodyOf Try.f7) (args := [.int .i64 a_1, .int .i64 m_2, .int .i64 n_3]) orc orc_wide Try.func7 (by kernel_rfl) (by kernel_rfl) (Eq.mp (by kernel_rfl : hollowaylaw1_CellShifts_sh a_1 m_2 n_3 w K = wpc orc Try.f7.ntmps hollowaylaw1_CellShifts_an (bodyOf Try.f7) (argl 0 [.int .i64 a_1, .int .i64 m_2, .int .i64 n_3]) w (retQ orc Try.f7.results.toList K)) h)

-- holloway/hollowaylaw1.CellLoops
def hollowaylaw1_CellLoops_j1 (b13 : Bool) (w12 : World) (K : Value → World → Prop) : Prop :=
 K (.bool b13) w12
def hollowaylaw1_CellLoops_sh (index1 : Int) (limit2 : Int) (w : World) (K : Value → World → Prop) : Prop :=
 Calls Try.prog fn_hollowaylaw1_alive #[] w fun e3 w4 => ∃ b5 : Bool, e3 = .returned (.bool b5) ∧
 brB (!b5)
 (K (.bool false) w4)
 (Calls Try.prog fn_cell_Crosses #[.int .i64 (wr (index1 - limit2)), .int .i64 (1 : Int)] w4 fun e6 w7 => ∃ b8 : Bool, e6 = .returned (.bool b8) ∧
 brB (b8 == ((wr (index1 + (1 : Int))) == limit2))
 (Calls Try.prog fn_cell_Crosses #[.int .i64 (wr (index1 - limit2)), .int .i64 (0 : Int)] w7 fun e9 w10 => ∃ b11 : Bool, e9 = .returned (.bool b11) ∧
 hollowaylaw1_CellLoops_j1 (!b11) w10 K)
 (hollowaylaw1_CellLoops_j1 false w7 K))
def hollowaylaw1_CellLoops_an : An := ⟨[], []⟩
theorem hollowaylaw1_CellLoops_lift {index1 : Int} {limit2 : Int} {w : World} {K : Value → World → Prop} (h : hollowaylaw1_CellLoops_sh index1 limit2 w K) : Calls Try.prog fn_hollowaylaw1_CellLoops #[.int .i64 index1, .int .i64 limit2] w fun e w' => ∃ v, e = .returned v ∧ K v w' :=
   lift_calls (A := hollowaylaw1_CellLoops_an) (c := bodyOf Try.f8) (args := [.int .i64 index1, .int .i64 limit2]) orc orc_wide Try.func8 (by kernel_rfl) (by kernel_rfl) (Eq.mp (by kernel_rfl : hollowaylaw1_CellLoops_sh index1 limit2 w K = wpc orc Try.f8.ntmps hollowaylaw1_CellLoops_an (bodyOf Try.f8) (argl 0 [.int .i64 index1, .int .i64 limit2]) w (retQ orc Try.f8.results.toList K)) h)

-- holloway/hollowaylaw5.PilePlays
def hollowaylaw5_PilePlays_j1 (I1 : (Option Addr) → Sl → Int → World → Prop) (p131 : Option Addr) (want141 : Sl) (i30 : Int) (μ1 : (Option Addr) → Sl → Int → World → Nat) (p47 : Option Addr) (want40 : Sl) (w29 : World) (b154 : Bool) (w153 : World) (K : Value → World → Prop) : Prop :=
 brB b154
 (K (.bool false) w153)
 (I1 p131 want141 (wr (i30 + (1 : Int))) w153 ∧ μ1 p131 want141 (wr (i30 + (1 : Int))) w153 < μ1 p47 want40 i30 w29)
def hollowaylaw5_PilePlays_j2 (ok143 : Bool) (I1 : (Option Addr) → Sl → Int → World → Prop) (p131 : Option Addr) (want141 : Sl) (i30 : Int) (μ1 : (Option Addr) → Sl → Int → World → Nat) (p47 : Option Addr) (want40 : Sl) (w29 : World) (s134 : Sl) (b140 : Bool) (ask4 : Int) (n139 : Int) (in150 : Bool) (w142 : World) (K : Value → World → Prop) : Prop :=
 brB (!ok143)
 (hollowaylaw5_PilePlays_j1 I1 p131 want141 i30 (μ1) p47 want40 w29 true w142 K)
 (Calls Try.prog fn_hollowaybook_SameInts #[s134.val, want141.val] w142 fun e144 w145 => ∃ b146 : Bool, e144 = .returned (.bool b146) ∧
 brB (!b146)
 (hollowaylaw5_PilePlays_j1 I1 p131 want141 i30 (μ1) p47 want40 w29 true w145 K)
 (Calls Try.prog fn_pile_Pile_Len #[.pointer p131] w145 fun e147 w148 => ∃ n149 : Int, e147 = .returned (.int .i64 n149) ∧
 brB (n149 != (want141.len : Int))
 (hollowaylaw5_PilePlays_j1 I1 p131 want141 i30 (μ1) p47 want40 w29 true w148 K)
 (brB (!(b140 == in150))
 (hollowaylaw5_PilePlays_j1 I1 p131 want141 i30 (μ1) p47 want40 w29 true w148 K)
 (brB in150
 (∃ a151 : Addr, want141.ptr = some a151 ∧ 0 ≤ (wr ((wr ((want141.len : Int) - (1 : Int))) - ask4)) ∧ (wr ((wr ((want141.len : Int) - (1 : Int))) - ask4)) < (want141.len : Int) ∧
 ∃ n152 : Int, w148.cell? (Addr.add a151 (Int.toNat (wr ((wr ((want141.len : Int) - (1 : Int))) - ask4)) * 1)) = some (.int .i64 n152) ∧
 brB (n139 != n152)
 (hollowaylaw5_PilePlays_j1 I1 p131 want141 i30 (μ1) p47 want40 w29 true w148 K)
 (brB (!in150)
 (hollowaylaw5_PilePlays_j1 I1 p131 want141 i30 (μ1) p47 want40 w29 (n139 != (0 : Int)) w148 K)
 (hollowaylaw5_PilePlays_j1 I1 p131 want141 i30 (μ1) p47 want40 w29 false w148 K)))
 (brB (!in150)
 (hollowaylaw5_PilePlays_j1 I1 p131 want141 i30 (μ1) p47 want40 w29 (n139 != (0 : Int)) w148 K)
 (hollowaylaw5_PilePlays_j1 I1 p131 want141 i30 (μ1) p47 want40 w29 false w148 K))))))
def hollowaylaw5_PilePlays_j3 (b27 : Nat) (ask4 : Int) (I1 : (Option Addr) → Sl → Int → World → Prop) (i30 : Int) (μ1 : (Option Addr) → Sl → Int → World → Nat) (p47 : Option Addr) (want40 : Sl) (w29 : World) (p131 : Option Addr) (want141 : Sl) (ok143 : Bool) (w130 : World) (K : Value → World → Prop) : Prop :=
 Calls Try.prog fn_pile_Pile_All #[.pointer p131] w130 fun e132 w133 => ∃ s134 : Sl, e132 = .returned (s134.val) ∧
 Calls Try.prog fn_hollowaybook_Book_Ints #[.pointer (some ⟨b27, 0, none⟩), s134.val] w133 fun e135 w136 => e135 = .returned (.tuple #[]) ∧
 Calls Try.prog fn_pile_Pile_Peek #[.pointer p131, .int .i64 ask4] w136 fun e137 w138 => ∃ n139 : Int, ∃ b140 : Bool, e137 = .returned (.tuple #[.int .i64 n139, .bool b140]) ∧
 brB (decide (ask4 ≥ (0 : Int)))
 (hollowaylaw5_PilePlays_j2 ok143 I1 p131 want141 i30 (μ1) p47 want40 w29 s134 b140 ask4 n139 (decide (ask4 < (want141.len : Int))) w138 K)
 (hollowaylaw5_PilePlays_j2 ok143 I1 p131 want141 i30 (μ1) p47 want40 w29 s134 b140 ask4 n139 false w138 K)
def hollowaylaw5_PilePlays_j4 (b27 : Nat) (ask4 : Int) (I1 : (Option Addr) → Sl → Int → World → Prop) (i30 : Int) (μ1 : (Option Addr) → Sl → Int → World → Nat) (p47 : Option Addr) (want40 : Sl) (w29 : World) (p188 : Option Addr) (want189 : Sl) (ok190 : Bool) (w129 : World) (K : Value → World → Prop) : Prop :=
 hollowaylaw5_PilePlays_j3 b27 ask4 I1 i30 (μ1) p47 want40 w29 p188 want189 ok190 w129 K
def hollowaylaw5_PilePlays_j5 (s46 : Sl) (most1 : Int) (want40 : Sl) (b36 : Nat) (b27 : Nat) (ask4 : Int) (I1 : (Option Addr) → Sl → Int → World → Prop) (i30 : Int) (μ1 : (Option Addr) → Sl → Int → World → Nat) (p47 : Option Addr) (w29 : World) (ok191 : Bool) (w55 : World) (K : Value → World → Prop) : Prop :=
 brB (decide ((s46.len : Int) ≤ (wr ((imin (imax most1 (0 : Int)) (1000 : Int)) - (want40.len : Int)))))
 (∀ w56 : World, w56 = World.drew w55 →
 ∃ S57 : World → Prop, S57 w56 ∧
 ∃ s58 : Sl, held S57 ⟨b36, 3, none⟩ (s58.val) ∧
 ∃ s59 : Sl, ∃ w60 : World, (Builtin.append_ #[T_sl_int, T_sl_int] T_sl_int #[.slice none 0 0, want40.val]).run Try.prog w56 = .ok (s59.val) w60 ∧
 S57 w60 ∧
 ∃ s61 : Sl, ∃ w62 : World, (Builtin.append_ #[T_sl_int, T_sl_int] T_sl_int #[s59.val, s58.val]).run Try.prog w60 = .ok (s61.val) w62 ∧
 hollowaylaw5_PilePlays_j4 b27 ask4 I1 i30 (μ1) p47 want40 w29 p47 s61 ok191 w62 K)
 (hollowaylaw5_PilePlays_j4 b27 ask4 I1 i30 (μ1) p47 want40 w29 p47 want40 ok191 w55 K)
def hollowaylaw5_PilePlays_j6 (may73 : Bool) (b36 : Nat) (want40 : Sl) (b27 : Nat) (ask4 : Int) (I1 : (Option Addr) → Sl → Int → World → Prop) (i30 : Int) (μ1 : (Option Addr) → Sl → Int → World → Nat) (p47 : Option Addr) (w29 : World) (ok192 : Bool) (w79 : World) (K : Value → World → Prop) : Prop :=
 brB may73
 (∃ n80 : Int, w79.cell? ⟨b36, 1, none⟩ = some (.int .i64 n80) ∧
 0 ≤ (wr ((want40.len : Int) - n80)) ∧ (wr ((want40.len : Int) - n80)) ≤ (want40.cap : Int) ∧ ∀ s81 : Sl, s81 = Sl.sub want40.ptr want40.cap 0 (Int.toNat (wr ((want40.len : Int) - n80))) 1 →
 ∃ s82 : Sl, ∃ w83 : World, (Builtin.append_ #[T_sl_int, T_sl_int] T_sl_int #[.slice none 0 0, s81.val]).run Try.prog w79 = .ok (s82.val) w83 ∧
 hollowaylaw5_PilePlays_j4 b27 ask4 I1 i30 (μ1) p47 want40 w29 p47 s82 ok192 w83 K)
 (hollowaylaw5_PilePlays_j4 b27 ask4 I1 i30 (μ1) p47 want40 w29 p47 want40 ok192 w79 K)
def hollowaylaw5_PilePlays_j7 (b36 : Nat) (p47 : Option Addr) (b27 : Nat) (want40 : Sl) (ask4 : Int) (I1 : (Option Addr) → Sl → Int → World → Prop) (i30 : Int) (μ1 : (Option Addr) → Sl → Int → World → Nat) (w29 : World) (may73 : Bool) (w65 : World) (K : Value → World → Prop) : Prop :=
 ∃ n66 : Int, w65.cell? ⟨b36, 1, none⟩ = some (.int .i64 n66) ∧
 Calls Try.prog fn_pile_Pile_Pop #[.pointer p47, .int .i64 n66] w65 fun e67 w68 => ∃ s69 : Sl, ∃ b70 : Bool, e67 = .returned (.tuple #[s69.val, .bool b70]) ∧
 Calls Try.prog fn_hollowaybook_Book_Ints #[.pointer (some ⟨b27, 0, none⟩), s69.val] w68 fun e71 w72 => e71 = .returned (.tuple #[]) ∧
 brB (b70 == may73)
 (brB may73
 (∃ n74 : Int, w72.cell? ⟨b36, 1, none⟩ = some (.int .i64 n74) ∧
 0 ≤ (wr ((want40.len : Int) - n74)) ∧ (wr ((want40.len : Int) - n74)) ≤ (want40.len : Int) ∧ ∀ s75 : Sl, s75 = Sl.sub want40.ptr want40.cap (Int.toNat (wr ((want40.len : Int) - n74))) want40.len 1 →
 Calls Try.prog fn_hollowaybook_SameInts #[s69.val, s75.val] w72 fun e76 w77 => ∃ b78 : Bool, e76 = .returned (.bool b78) ∧
 brB b78
 (hollowaylaw5_PilePlays_j6 may73 b36 want40 b27 ask4 I1 i30 (μ1) p47 w29 true w77 K)
 (brB (!may73)
 (hollowaylaw5_PilePlays_j6 may73 b36 want40 b27 ask4 I1 i30 (μ1) p47 w29 ((s69.len : Int) == (0 : Int)) w77 K)
 (hollowaylaw5_PilePlays_j6 may73 b36 want40 b27 ask4 I1 i30 (μ1) p47 w29 false w77 K)))
 (brB (!may73)
 (hollowaylaw5_PilePlays_j6 may73 b36 want40 b27 ask4 I1 i30 (μ1) p47 w29 ((s69.len : Int) == (0 : Int)) w72 K)
 (hollowaylaw5_PilePlays_j6 may73 b36 want40 b27 ask4 I1 i30 (μ1) p47 w29 false w72 K)))
 (hollowaylaw5_PilePlays_j6 may73 b36 want40 b27 ask4 I1 i30 (μ1) p47 w29 false w72 K)
def hollowaylaw5_PilePlays_j8 (b36 : Nat) (p47 : Option Addr) (want40 : Sl) (b27 : Nat) (ask4 : Int) (I1 : (Option Addr) → Sl → Int → World → Prop) (i30 : Int) (μ1 : (Option Addr) → Sl → Int → World → Nat) (w29 : World) (may92 : Bool) (w86 : World) (K : Value → World → Prop) : Prop :=
 ∃ n87 : Int, w86.cell? ⟨b36, 1, none⟩ = some (.int .i64 n87) ∧
 ∃ n88 : Int, w86.cell? ⟨b36, 2, none⟩ = some (.int .i64 n88) ∧
 Calls Try.prog fn_pile_Pile_Set #[.pointer p47, .int .i64 n87, .int .i64 n88] w86 fun e89 w90 => ∃ b91 : Bool, e89 = .returned (.bool b91) ∧
 brB may92
 (∃ s93 : Sl, ∃ w94 : World, (Builtin.append_ #[T_sl_int, T_sl_int] T_sl_int #[.slice none 0 0, want40.val]).run Try.prog w90 = .ok (s93.val) w94 ∧
 ∃ n95 : Int, w94.cell? ⟨b36, 1, none⟩ = some (.int .i64 n95) ∧
 ∃ n96 : Int, w94.cell? ⟨b36, 2, none⟩ = some (.int .i64 n96) ∧
 ∃ a97 : Addr, s93.ptr = some a97 ∧ 0 ≤ (wr ((wr ((want40.len : Int) - (1 : Int))) - n95)) ∧ (wr ((wr ((want40.len : Int) - (1 : Int))) - n95)) < (s93.len : Int) ∧
 wrOk w94 (Addr.add a97 (Int.toNat (wr ((wr ((want40.len : Int) - (1 : Int))) - n95)) * 1)) 1 ∧ ∀ w98 : World, w98 = stW w94 (Addr.add a97 (Int.toNat (wr ((wr ((want40.len : Int) - (1 : Int))) - n95)) * 1)) 0 [.int .i64 n96] →
 hollowaylaw5_PilePlays_j4 b27 ask4 I1 i30 (μ1) p47 want40 w29 p47 s93 (b91 == may92) w98 K)
 (hollowaylaw5_PilePlays_j4 b27 ask4 I1 i30 (μ1) p47 want40 w29 p47 want40 (b91 == may92) w90 K)
def hollowaylaw5_PilePlays_j9 (b36 : Nat) (p47 : Option Addr) (want40 : Sl) (b27 : Nat) (ask4 : Int) (I1 : (Option Addr) → Sl → Int → World → Prop) (i30 : Int) (μ1 : (Option Addr) → Sl → Int → World → Nat) (w29 : World) (may106 : Bool) (w101 : World) (K : Value → World → Prop) : Prop :=
 ∃ n102 : Int, w101.cell? ⟨b36, 1, none⟩ = some (.int .i64 n102) ∧
 Calls Try.prog fn_pile_Pile_Cut #[.pointer p47, .int .i64 n102] w101 fun e103 w104 => ∃ b105 : Bool, e103 = .returned (.bool b105) ∧
 brB may106
 (∃ n107 : Int, w104.cell? ⟨b36, 1, none⟩ = some (.int .i64 n107) ∧
 0 ≤ (imin (want40.len : Int) n107) ∧ (imin (want40.len : Int) n107) ≤ (want40.cap : Int) ∧ ∀ s108 : Sl, s108 = Sl.sub want40.ptr want40.cap 0 (Int.toNat (imin (want40.len : Int) n107)) 1 →
 ∃ s109 : Sl, ∃ w110 : World, (Builtin.append_ #[T_sl_int, T_sl_int] T_sl_int #[.slice none 0 0, s108.val]).run Try.prog w104 = .ok (s109.val) w110 ∧
 ∃ (I2 : Sl → World → Prop) (μ2 : Sl → World → Nat), I2 s109 w110 ∧ ∀ (want112 : Sl) (w111 : World), I2 want112 w111 →
 ∃ n113 : Int, w111.cell? ⟨b36, 1, none⟩ = some (.int .i64 n113) ∧
 brB (decide ((want112.len : Int) < n113))
 (∀ (b114 : Nat) (w115 : World), b114 = w111.heap.size → w115 = World.alloc w111 (.cells #[.int .i64 (0 : Int)] T_int) →
 ∃ s116 : Sl, ∃ w117 : World, (Builtin.append_ #[T_sl_int, T_sl_int] T_sl_int #[want112.val, .slice (some ⟨b114, 0, none⟩) 1 1]).run Try.prog w115 = .ok (s116.val) w117 ∧
 I2 s116 w117 ∧ μ2 s116 w117 < μ2 want112 w111)
 (hollowaylaw5_PilePlays_j4 b27 ask4 I1 i30 (μ1) p47 want40 w29 p47 want112 (b105 == may106) w111 K))
 (hollowaylaw5_PilePlays_j4 b27 ask4 I1 i30 (μ1) p47 want40 w29 p47 want40 (b105 == may106) w104 K)
def hollowaylaw5_PilePlays_j10 (b187 : Bool) (w186 : World) (K : Value → World → Prop) : Prop :=
 K (.bool b187) w186
def hollowaylaw5_PilePlays_j11 (p18 : Option Addr) (s20 : Sl) (l_3 : Sl) (most1 : Int) (ask4 : Int) (b26 : Bool) (w25 : World) (K : Value → World → Prop) : Prop :=
 brB b26
 (K (.bool false) w25)
 (∀ (b27 : Nat) (w28 : World), b27 = w25.heap.size → w28 = World.alloc w25 (.cells #[.slice none 0 0, .slice none 0 0, .slice none 0 0, .slice none 0 0, .slice none 0 0, .slice none 0 0, .slice none 0 0, .slice none 0 0, .slice none 0 0, .slice none 0 0, .slice none 0 0, .slice none 0 0] T_hollowaybook_Book) →
 ∃ (I1 : (Option Addr) → Sl → Int → World → Prop) (μ1 : (Option Addr) → Sl → Int → World → Nat), I1 p18 s20 (0 : Int) w28 ∧ ∀ (p47 : Option Addr) (want40 : Sl) (i30 : Int) (w29 : World), I1 p47 want40 i30 w29 →
 brB (decide (i30 ≤ (l_3.len : Int)))
 (brB (decide (i30 > (0 : Int)))
 (∃ a31 : Addr, l_3.ptr = some a31 ∧ 0 ≤ (wr (i30 - (1 : Int))) ∧ (wr (i30 - (1 : Int))) < (l_3.len : Int) ∧
 ∃ n_Kind32 : Int, ∃ n_N33 : Int, ∃ n_V34 : Int, ∃ s_L35 : Sl, w29.cell? (Addr.add a31 (Int.toNat (wr (i30 - (1 : Int))) * 4)) = some (.int .i64 n_Kind32) ∧ w29.cell? (Addr.add (Addr.add a31 (Int.toNat (wr (i30 - (1 : Int))) * 4)) 1) = some (.int .i64 n_N33) ∧ w29.cell? (Addr.add (Addr.add a31 (Int.toNat (wr (i30 - (1 : Int))) * 4)) 2) = some (.int .i64 n_V34) ∧ w29.cell? (Addr.add (Addr.add a31 (Int.toNat (wr (i30 - (1 : Int))) * 4)) 3) = some (s_L35.val) ∧
 ∀ (b36 : Nat) (w37 : World), b36 = w29.heap.size → w37 = World.alloc w29 (.cells #[.int .i64 (0 : Int), .int .i64 (0 : Int), .int .i64 (0 : Int), .slice none 0 0] T_hollowaylaw5_Op) →
 wrOk w37 ⟨b36, 0, none⟩ 4 ∧ ∀ w38 : World, w38 = stW w37 ⟨b36, 0, none⟩ 0 [.int .i64 n_Kind32, .int .i64 n_N33, .int .i64 n_V34, s_L35.val] →
 ∃ s39 : Sl, w38.cell? ⟨b36, 3, none⟩ = some (s39.val) ∧
 brB (decide ((s39.len : Int) > (60 : Int)))
 (K (.bool true) w38)
 (∃ n41 : Int, w38.cell? ⟨b36, 0, none⟩ = some (.int .i64 n41) ∧
 brB (n41 == (1 : Int))
 (∃ s42 : Sl, w38.cell? ⟨b36, 3, none⟩ = some (s42.val) ∧
 Calls Try.prog fn_hollowaybook_LentInts #[s42.val] w38 fun e43 w44 => ∃ s45 : Sl, e43 = .returned (s45.val) ∧
 ∃ s46 : Sl, w44.cell? ⟨b36, 3, none⟩ = some (s46.val) ∧
 Calls Try.prog fn_pile_Pile_Push #[.pointer p47, s45.val] w44 fun e48 w49 => ∃ b50 : Bool, e48 = .returned (.bool b50) ∧
 brB (b50 == (decide ((s46.len : Int) ≤ (wr ((imin (imax most1 (0 : Int)) (1000 : Int)) - (want40.len : Int))))))
 (∃ s51 : Sl, w49.cell? ⟨b36, 3, none⟩ = some (s51.val) ∧
 Calls Try.prog fn_hollowaybook_StaysInts #[s45.val, s51.val] w49 fun e52 w53 => ∃ b54 : Bool, e52 = .returned (.bool b54) ∧
 hollowaylaw5_PilePlays_j5 s46 most1 want40 b36 b27 ask4 I1 i30 (μ1) p47 w29 b54 w53 K)
 (hollowaylaw5_PilePlays_j5 s46 most1 want40 b36 b27 ask4 I1 i30 (μ1) p47 w29 false w49 K))
 (brB (n41 == (2 : Int))
 (∃ n63 : Int, w38.cell? ⟨b36, 1, none⟩ = some (.int .i64 n63) ∧
 brB (decide (n63 ≥ (0 : Int)))
 (∃ n64 : Int, w38.cell? ⟨b36, 1, none⟩ = some (.int .i64 n64) ∧
 hollowaylaw5_PilePlays_j7 b36 p47 b27 want40 ask4 I1 i30 (μ1) w29 (decide (n64 ≤ (want40.len : Int))) w38 K)
 (hollowaylaw5_PilePlays_j7 b36 p47 b27 want40 ask4 I1 i30 (μ1) w29 false w38 K))
 (brB (n41 == (3 : Int))
 (∃ n84 : Int, w38.cell? ⟨b36, 1, none⟩ = some (.int .i64 n84) ∧
 brB (decide (n84 ≥ (0 : Int)))
 (∃ n85 : Int, w38.cell? ⟨b36, 1, none⟩ = some (.int .i64 n85) ∧
 hollowaylaw5_PilePlays_j8 b36 p47 want40 b27 ask4 I1 i30 (μ1) w29 (decide (n85 < (want40.len : Int))) w38 K)
 (hollowaylaw5_PilePlays_j8 b36 p47 want40 b27 ask4 I1 i30 (μ1) w29 false w38 K))
 (brB (n41 == (4 : Int))
 (∃ n99 : Int, w38.cell? ⟨b36, 1, none⟩ = some (.int .i64 n99) ∧
 brB (decide (n99 ≥ (0 : Int)))
 (∃ n100 : Int, w38.cell? ⟨b36, 1, none⟩ = some (.int .i64 n100) ∧
 hollowaylaw5_PilePlays_j9 b36 p47 want40 b27 ask4 I1 i30 (μ1) w29 (decide (n100 ≤ (imin (imax most1 (0 : Int)) (1000 : Int)))) w38 K)
 (hollowaylaw5_PilePlays_j9 b36 p47 want40 b27 ask4 I1 i30 (μ1) w29 false w38 K))
 (Calls Try.prog fn_pile_Pile_Copy #[.pointer p47] w38 fun e118 w119 => ∃ p120 : Option Addr, e118 = .returned (.pointer p120) ∧
 brB (Option.isNone p120)
 (K (.bool false) w119)
 (∀ (b121 : Nat) (w122 : World), b121 = w119.heap.size → w122 = World.alloc w119 (.cells #[.int .i64 (7 : Int)] T_int) →
 Calls Try.prog fn_pile_Pile_Push #[.pointer p47, .slice (some ⟨b121, 0, none⟩) 1 1] w122 fun e123 w124 => ∃ b125 : Bool, e123 = .returned (.bool b125) ∧
 Calls Try.prog fn_pile_Pile_Set #[.pointer p47, .int .i64 (0 : Int), .int .i64 (-7 : Int)] w124 fun e126 w127 => ∃ b128 : Bool, e126 = .returned (.bool b128) ∧
 hollowaylaw5_PilePlays_j4 b27 ask4 I1 i30 (μ1) p47 want40 w29 p120 want40 true w127 K)))))))
 (hollowaylaw5_PilePlays_j3 b27 ask4 I1 i30 (μ1) p47 want40 w29 p47 want40 true w29 K))
 (Calls Try.prog fn_pile_Pile_Pop #[.pointer none, .int .i64 (0 : Int)] w29 fun e155 w156 => ∃ s157 : Sl, ∃ b158 : Bool, e155 = .returned (.tuple #[s157.val, .bool b158]) ∧
 Calls Try.prog fn_pile_Pile_Peek #[.pointer none, .int .i64 (0 : Int)] w156 fun e159 w160 => ∃ n161 : Int, ∃ b162 : Bool, e159 = .returned (.tuple #[.int .i64 n161, .bool b162]) ∧
 brB (!b158)
 (brB (!b162)
 (∀ (b163 : Nat) (w164 : World), b163 = w160.heap.size → w164 = World.alloc w160 (.cells #[.int .i64 (1 : Int)] T_int) →
 Calls Try.prog fn_pile_Pile_Push #[.pointer none, .slice (some ⟨b163, 0, none⟩) 1 1] w164 fun e165 w166 => ∃ b167 : Bool, e165 = .returned (.bool b167) ∧
 brB (!b167)
 (Calls Try.prog fn_pile_Pile_Set #[.pointer none, .int .i64 (0 : Int), .int .i64 (1 : Int)] w166 fun e168 w169 => ∃ b170 : Bool, e168 = .returned (.bool b170) ∧
 brB (!b170)
 (Calls Try.prog fn_pile_Pile_Cut #[.pointer none, .int .i64 (0 : Int)] w169 fun e171 w172 => ∃ b173 : Bool, e171 = .returned (.bool b173) ∧
 brB (!b173)
 (Calls Try.prog fn_pile_Pile_Len #[.pointer none] w172 fun e174 w175 => ∃ n176 : Int, e174 = .returned (.int .i64 n176) ∧
 Calls Try.prog fn_pile_Pile_All #[.pointer none] w175 fun e177 w178 => ∃ s179 : Sl, e177 = .returned (s179.val) ∧
 brB ((wr (n176 + (s179.len : Int))) == (0 : Int))
 (Calls Try.prog fn_pile_Pile_Copy #[.pointer none] w178 fun e180 w181 => ∃ p182 : Option Addr, e180 = .returned (.pointer p182) ∧
 brB (Option.isNone p182)
 (Calls Try.prog fn_hollowaybook_Book_Apart #[.pointer (some ⟨b27, 0, none⟩)] w181 fun e183 w184 => ∃ b185 : Bool, e183 = .returned (.bool b185) ∧
 hollowaylaw5_PilePlays_j10 b185 w184 K)
 (hollowaylaw5_PilePlays_j10 false w181 K))
 (hollowaylaw5_PilePlays_j10 false w178 K))
 (hollowaylaw5_PilePlays_j10 false w172 K))
 (hollowaylaw5_PilePlays_j10 false w169 K))
 (hollowaylaw5_PilePlays_j10 false w166 K))
 (hollowaylaw5_PilePlays_j10 false w160 K))
 (hollowaylaw5_PilePlays_j10 false w160 K)))
def hollowaylaw5_PilePlays_j12 (first2 : Sl) (most1 : Int) (l_3 : Sl) (ask4 : Int) (b9 : Bool) (w8 : World) (K : Value → World → Prop) : Prop :=
 brB b9
 (Calls Try.prog fn_hollowaylaw5_alive #[] w8 fun e10 w11 => ∃ b12 : Bool, e10 = .returned (.bool b12) ∧
 K (.bool b12) w11)
 (Calls Try.prog fn_hollowaybook_LentInts #[first2.val] w8 fun e13 w14 => ∃ s15 : Sl, e13 = .returned (s15.val) ∧
 Calls Try.prog fn_pile_New #[.int .i64 most1, s15.val] w14 fun e16 w17 => ∃ p18 : Option Addr, e16 = .returned (.pointer p18) ∧
 0 ≤ (imin (first2.len : Int) (imin (imax most1 (0 : Int)) (1000 : Int))) ∧ (imin (first2.len : Int) (imin (imax most1 (0 : Int)) (1000 : Int))) ≤ (first2.cap : Int) ∧ ∀ s19 : Sl, s19 = Sl.sub first2.ptr first2.cap 0 (Int.toNat (imin (first2.len : Int) (imin (imax most1 (0 : Int)) (1000 : Int)))) 1 →
 ∃ s20 : Sl, ∃ w21 : World, (Builtin.append_ #[T_sl_int, T_sl_int] T_sl_int #[.slice none 0 0, s19.val]).run Try.prog w17 = .ok (s20.val) w21 ∧
 brB (Option.isNone p18)
 (hollowaylaw5_PilePlays_j11 p18 s20 l_3 most1 ask4 true w21 K)
 (Calls Try.prog fn_hollowaybook_StaysInts #[s15.val, first2.val] w21 fun e22 w23 => ∃ b24 : Bool, e22 = .returned (.bool b24) ∧
 hollowaylaw5_PilePlays_j11 p18 s20 l_3 most1 ask4 (!b24) w23 K))
def hollowaylaw5_PilePlays_sh (most1 : Int) (first2 : Sl) (l_3 : Sl) (ask4 : Int) (w : World) (K : Value → World → Prop) : Prop :=
 brB (decide ((first2.len : Int) > (60 : Int)))
 (hollowaylaw5_PilePlays_j12 first2 most1 l_3 ask4 true w K)
 (brB (decide ((l_3.len : Int) > (80 : Int)))
 (hollowaylaw5_PilePlays_j12 first2 most1 l_3 ask4 true w K)
 (Calls Try.prog fn_hollowaylaw5_alive #[] w fun e5 w6 => ∃ b7 : Bool, e5 = .returned (.bool b7) ∧
 hollowaylaw5_PilePlays_j12 first2 most1 l_3 ask4 (!b7) w6 K))
def hollowaylaw5_PilePlays_an : An := ⟨[(11, [(10, .ptr), (12, .sl), (14, .int .i64)]), (50, [(12, .sl)])], [(31, (4, .st 0 (.st 2 (.st 3 (.ef 1 .done))), 1))]⟩
theorem hollowaylaw5_PilePlays_lift {most1 : Int} {first2 : Sl} {l_3 : Sl} {ask4 : Int} {w : World} {K : Value → World → Prop} (h : hollowaylaw5_PilePlays_sh most1 first2 l_3 ask4 w K) : Calls Try.prog fn_hollowaylaw5_PilePlays #[.int .i64 most1, first2.val, l_3.val, .int .i64 ask4] w fun e w' => ∃ v, e = .returned v ∧ K v w' :=
   lift_calls (A := hollowaylaw5_PilePlays_an) (c := bodyOf Try.f9) (args := [.int .i64 most1, first2.val, l_3.val, .int .i64 ask4]) orc orc_wide Try.func9 (by kernel_rfl) (by kernel_rfl) (Eq.mp (by kernel_rfl : hollowaylaw5_PilePlays_sh most1 first2 l_3 ask4 w K = wpc orc Try.f9.ntmps hollowaylaw5_PilePlays_an (bodyOf Try.f9) (argl 0 [.int .i64 most1, first2.val, l_3.val, .int .i64 ask4]) w (retQ orc Try.f9.results.toList K)) h)

-- holloway/hollowaylaw1.CellLaws
def hollowaylaw1_CellLaws_j1 (b63 : Bool) (w62 : World) (K : Value → World → Prop) : Prop :=
 K (.bool b63) w62
def hollowaylaw1_CellLaws_j2 (b65 : Bool) (w64 : World) (K : Value → World → Prop) : Prop :=
 K (.bool b65) w64
def hollowaylaw1_CellLaws_j3 (n37 : Int) (n41 : Int) (n_3 : Int) (a_1 : Int) (b61 : Bool) (w60 : World) (K : Value → World → Prop) : Prop :=
 brB b61
 (brB (n37 == (0 : Int))
 (hollowaylaw1_CellLaws_j1 (n41 == (0 : Int)) w60 K)
 (hollowaylaw1_CellLaws_j1 false w60 K))
 (0 ≤ (IntKind.wrap .u64 n_3) ∧ brB (n37 == (wr (ishl .u64 (IntKind.wrap .u64 a_1) (IntKind.wrap .u64 n_3))))
 (0 ≤ (IntKind.wrap .u64 n_3) ∧ 0 ≤ (IntKind.wrap .u64 n_3) ∧ hollowaylaw1_CellLaws_j2 ((IntKind.wrap .u64 n41) == (ishr .u64 (ishl .u64 (IntKind.wrap .u64 a_1) (IntKind.wrap .u64 n_3)) (IntKind.wrap .u64 n_3))) w60 K)
 (hollowaylaw1_CellLaws_j2 false w60 K))
def hollowaylaw1_CellLaws_j4 (n_3 : Int) (n37 : Int) (n41 : Int) (a_1 : Int) (b59 : Bool) (w58 : World) (K : Value → World → Prop) : Prop :=
 brB b59
 (K (.bool false) w58)
 (brB (decide (n_3 < (0 : Int)))
 (hollowaylaw1_CellLaws_j3 n37 n41 n_3 a_1 true w58 K)
 (hollowaylaw1_CellLaws_j3 n37 n41 n_3 a_1 (decide (n_3 > (63 : Int))) w58 K))
def hollowaylaw1_CellLaws_sh (a_1 : Int) (b_2 : Int) (n_3 : Int) (w : World) (K : Value → World → Prop) : Prop :=
 Calls Try.prog fn_hollowaylaw1_alive #[] w fun e4 w5 => ∃ b6 : Bool, e4 = .returned (.bool b6) ∧
 brB (!b6)
 (K (.bool false) w5)
 (Calls Try.prog fn_cell_Two #[.int .i64 (17 : Int), .int .i64 a_1, .int .i64 b_2] w5 fun e7 w8 => ∃ n9 : Int, ∃ b10 : Bool, e7 = .returned (.tuple #[.int .i64 n9, .bool b10]) ∧
 Calls Try.prog fn_cell_Two #[.int .i64 (18 : Int), .int .i64 a_1, .int .i64 b_2] w8 fun e11 w12 => ∃ n13 : Int, ∃ b14 : Bool, e11 = .returned (.tuple #[.int .i64 n13, .bool b14]) ∧
 Calls Try.prog fn_cell_Two #[.int .i64 (19 : Int), .int .i64 a_1, .int .i64 b_2] w12 fun e15 w16 => ∃ n17 : Int, ∃ b18 : Bool, e15 = .returned (.tuple #[.int .i64 n17, .bool b18]) ∧
 Calls Try.prog fn_cell_One #[.int .i64 (20 : Int), .int .i64 a_1] w16 fun e19 w20 => ∃ n21 : Int, ∃ b22 : Bool, e19 = .returned (.tuple #[.int .i64 n21, .bool b22]) ∧
 Calls Try.prog fn_cell_One #[.int .i64 (16 : Int), .int .i64 a_1] w20 fun e23 w24 => ∃ n25 : Int, ∃ b26 : Bool, e23 = .returned (.tuple #[.int .i64 n25, .bool b26]) ∧
 Calls Try.prog fn_cell_Two #[.int .i64 (11 : Int), .int .i64 n9, .int .i64 n13] w24 fun e27 w28 => ∃ n29 : Int, ∃ b30 : Bool, e27 = .returned (.tuple #[.int .i64 n29, .bool b30]) ∧
 Calls Try.prog fn_cell_Two #[.int .i64 (11 : Int), .int .i64 a_1, .int .i64 b_2] w28 fun e31 w32 => ∃ n33 : Int, ∃ b34 : Bool, e31 = .returned (.tuple #[.int .i64 n33, .bool b34]) ∧
 Calls Try.prog fn_cell_Two #[.int .i64 (21 : Int), .int .i64 a_1, .int .i64 n_3] w32 fun e35 w36 => ∃ n37 : Int, ∃ b38 : Bool, e35 = .returned (.tuple #[.int .i64 n37, .bool b38]) ∧
 Calls Try.prog fn_cell_Two #[.int .i64 (22 : Int), .int .i64 n37, .int .i64 n_3] w36 fun e39 w40 => ∃ n41 : Int, ∃ b42 : Bool, e39 = .returned (.tuple #[.int .i64 n41, .bool b42]) ∧
 Calls Try.prog fn_cell_Two #[.int .i64 (24 : Int), .int .i64 a_1, .int .i64 b_2] w40 fun e43 w44 => ∃ n45 : Int, ∃ b46 : Bool, e43 = .returned (.tuple #[.int .i64 n45, .bool b46]) ∧
 Calls Try.prog fn_cell_Two #[.int .i64 (23 : Int), .int .i64 a_1, .int .i64 b_2] w44 fun e47 w48 => ∃ n49 : Int, ∃ b50 : Bool, e47 = .returned (.tuple #[.int .i64 n49, .bool b50]) ∧
 Calls Try.prog fn_cell_Two #[.int .i64 (24 : Int), .int .i64 b_2, .int .i64 a_1] w48 fun e51 w52 => ∃ n53 : Int, ∃ b54 : Bool, e51 = .returned (.tuple #[.int .i64 n53, .bool b54]) ∧
 brB (n29 != n33)
 (hollowaylaw1_CellLaws_j4 n_3 n37 n41 a_1 true w52 K)
 (brB (n17 != (wr (n13 - n9)))
 (hollowaylaw1_CellLaws_j4 n_3 n37 n41 a_1 true w52 K)
 (brB (n21 != (wr ((-1 : Int) - a_1)))
 (hollowaylaw1_CellLaws_j4 n_3 n37 n41 a_1 true w52 K)
 (brB (n25 != (wr (0 - a_1)))
 (hollowaylaw1_CellLaws_j4 n_3 n37 n41 a_1 true w52 K)
 (brB ((wr ((wr (n45 + n49)) + n53)) != (-1 : Int))
 (hollowaylaw1_CellLaws_j4 n_3 n37 n41 a_1 true w52 K)
 (Calls Try.prog fn_cell_Flag #[.bool false] w52 fun e55 w56 => ∃ n57 : Int, e55 = .returned (.int .i64 n57) ∧
 hollowaylaw1_CellLaws_j4 n_3 n37 n41 a_1 (n57 != (0 : Int)) w56 K))))))
def hollowaylaw1_CellLaws_an : An := ⟨[], []⟩
theorem hollowaylaw1_CellLaws_lift {a_1 : Int} {b_2 : Int} {n_3 : Int} {w : World} {K : Value → World → Prop} (h : hollowaylaw1_CellLaws_sh a_1 b_2 n_3 w K) : Calls Try.prog fn_hollowaylaw1_CellLaws #[.int .i64 a_1, .int .i64 b_2, .int .i64 n_3] w fun e w' => ∃ v, e = .returned v ∧ K v w' :=
   lift_calls (A := hollowaylaw1_CellLaws_an) (c := bodyOf Try.f10) (args := [.int .i64 a_1, .int .i64 b_2, .int .i64 n_3]) orc orc_wide Try.func10 (by kernel_rfl) (by kernel_rfl) (Eq.mp (by kernel_rfl : hollowaylaw1_CellLaws_sh a_1 b_2 n_3 w K = wpc orc Try.f10.ntmps hollowaylaw1_CellLaws_an (bodyOf Try.f10) (argl 0 [.int .i64 a_1, .int .i64 b_2, .int .i64 n_3]) w (retQ orc Try.f10.results.toList K)) h)

-- holloway/hollowaylaw1.CellOrder
def hollowaylaw1_CellOrder_j1 (b31 : Bool) (w30 : World) (K : Value → World → Prop) : Prop :=
 K (.bool b31) w30
def hollowaylaw1_CellOrder_sh (a_1 : Int) (b_2 : Int) (w : World) (K : Value → World → Prop) : Prop :=
 Calls Try.prog fn_hollowaylaw1_alive #[] w fun e3 w4 => ∃ b5 : Bool, e3 = .returned (.bool b5) ∧
 brB (!b5)
 (K (.bool false) w4)
 (Calls Try.prog fn_cell_Two #[.int .i64 (28 : Int), .int .i64 a_1, .int .i64 b_2] w4 fun e6 w7 => ∃ n8 : Int, ∃ b9 : Bool, e6 = .returned (.tuple #[.int .i64 n8, .bool b9]) ∧
 Calls Try.prog fn_cell_Two #[.int .i64 (29 : Int), .int .i64 a_1, .int .i64 b_2] w7 fun e10 w11 => ∃ n12 : Int, ∃ b13 : Bool, e10 = .returned (.tuple #[.int .i64 n12, .bool b13]) ∧
 Calls Try.prog fn_cell_Two #[.int .i64 (24 : Int), .int .i64 a_1, .int .i64 b_2] w11 fun e14 w15 => ∃ n16 : Int, ∃ b17 : Bool, e14 = .returned (.tuple #[.int .i64 n16, .bool b17]) ∧
 Calls Try.prog fn_cell_Two #[.int .i64 (25 : Int), .int .i64 a_1, .int .i64 b_2] w15 fun e18 w19 => ∃ n20 : Int, ∃ b21 : Bool, e18 = .returned (.tuple #[.int .i64 n20, .bool b21]) ∧
 Calls Try.prog fn_cell_One #[.int .i64 (26 : Int), .int .i64 a_1] w19 fun e22 w23 => ∃ n24 : Int, ∃ b25 : Bool, e22 = .returned (.tuple #[.int .i64 n24, .bool b25]) ∧
 Calls Try.prog fn_cell_One #[.int .i64 (27 : Int), .int .i64 a_1] w23 fun e26 w27 => ∃ n28 : Int, ∃ b29 : Bool, e26 = .returned (.tuple #[.int .i64 n28, .bool b29]) ∧
 brB (decide (n8 ≤ n12))
 (brB (n8 == a_1)
 (brB (n12 == b_2)
 (brB ((n16 == (-1 : Int)) == (decide (a_1 < b_2)))
 (brB ((n20 == (-1 : Int)) == (decide ((IntKind.wrap .u64 a_1) < (IntKind.wrap .u64 b_2))))
 (brB ((n24 == (-1 : Int)) == (a_1 == (0 : Int)))
 (brB ((n28 == (-1 : Int)) == (decide (a_1 < (0 : Int))))
 (hollowaylaw1_CellOrder_j1 ((!((decide (a_1 < (0 : Int))) == (decide (b_2 < (0 : Int))))) == (n16 != n20)) w27 K)
 (hollowaylaw1_CellOrder_j1 false w27 K))
 (hollowaylaw1_CellOrder_j1 false w27 K))
 (hollowaylaw1_CellOrder_j1 false w27 K))
 (hollowaylaw1_CellOrder_j1 false w27 K))
 (brB (n8 == b_2)
 (brB (n12 == a_1)
 (brB ((n16 == (-1 : Int)) == (decide (a_1 < b_2)))
 (brB ((n20 == (-1 : Int)) == (decide ((IntKind.wrap .u64 a_1) < (IntKind.wrap .u64 b_2))))
 (brB ((n24 == (-1 : Int)) == (a_1 == (0 : Int)))
 (brB ((n28 == (-1 : Int)) == (decide (a_1 < (0 : Int))))
 (hollowaylaw1_CellOrder_j1 ((!((decide (a_1 < (0 : Int))) == (decide (b_2 < (0 : Int))))) == (n16 != n20)) w27 K)
 (hollowaylaw1_CellOrder_j1 false w27 K))
 (hollowaylaw1_CellOrder_j1 false w27 K))
 (hollowaylaw1_CellOrder_j1 false w27 K))
 (hollowaylaw1_CellOrder_j1 false w27 K))
 (hollowaylaw1_CellOrder_j1 false w27 K))
 (hollowaylaw1_CellOrder_j1 false w27 K)))
 (brB (n8 == b_2)
 (brB (n12 == a_1)
 (brB ((n16 == (-1 : Int)) == (decide (a_1 < b_2)))
 (brB ((n20 == (-1 : Int)) == (decide ((IntKind.wrap .u64 a_1) < (IntKind.wrap .u64 b_2))))
 (brB ((n24 == (-1 : Int)) == (a_1 == (0 : Int)))
 (brB ((n28 == (-1 : Int)) == (decide (a_1 < (0 : Int))))
 (hollowaylaw1_CellOrder_j1 ((!((decide (a_1 < (0 : Int))) == (decide (b_2 < (0 : Int))))) == (n16 != n20)) w27 K)
 (hollowaylaw1_CellOrder_j1 false w27 K))
 (hollowaylaw1_CellOrder_j1 false w27 K))
 (hollowaylaw1_CellOrder_j1 false w27 K))
 (hollowaylaw1_CellOrder_j1 false w27 K))
 (hollowaylaw1_CellOrder_j1 false w27 K))
 (hollowaylaw1_CellOrder_j1 false w27 K)))
 (hollowaylaw1_CellOrder_j1 false w27 K))
def hollowaylaw1_CellOrder_an : An := ⟨[], []⟩
theorem hollowaylaw1_CellOrder_lift {a_1 : Int} {b_2 : Int} {w : World} {K : Value → World → Prop} (h : hollowaylaw1_CellOrder_sh a_1 b_2 w K) : Calls Try.prog fn_hollowaylaw1_CellOrder #[.int .i64 a_1, .int .i64 b_2] w fun e w' => ∃ v, e = .returned v ∧ K v w' :=
   lift_calls (A := hollowaylaw1_CellOrder_an) (c := bodyOf Try.f11) (args := [.int .i64 a_1, .int .i64 b_2]) orc orc_wide Try.func11 (by kernel_rfl) (by kernel_rfl) (Eq.mp (by kernel_rfl : hollowaylaw1_CellOrder_sh a_1 b_2 w K = wpc orc Try.f11.ntmps hollowaylaw1_CellOrder_an (bodyOf Try.f11) (argl 0 [.int .i64 a_1, .int .i64 b_2]) w (retQ orc Try.f11.results.toList K)) h)

-- holloway/hollowaylaw1.CellTells
def hollowaylaw1_CellTells_j1 (b29 : Bool) (w28 : World) (K : Value → World → Prop) : Prop :=
 K (.bool b29) w28
def hollowaylaw1_CellTells_j2 (b41 : Bool) (w40 : World) (K : Value → World → Prop) : Prop :=
 K (.bool b41) w40
def hollowaylaw1_CellTells_sh (op1 : Int) (a_2 : Int) (b_3 : Int) (w : World) (K : Value → World → Prop) : Prop :=
 Calls Try.prog fn_hollowaylaw1_alive #[] w fun e4 w5 => ∃ b6 : Bool, e4 = .returned (.bool b6) ∧
 brB (!b6)
 (K (.bool false) w5)
 (Calls Try.prog fn_cell_Two #[.int .i64 op1, .int .i64 a_2, .int .i64 b_3] w5 fun e7 w8 => ∃ n9 : Int, ∃ b10 : Bool, e7 = .returned (.tuple #[.int .i64 n9, .bool b10]) ∧
 Calls Try.prog fn_hollowayref1_Two #[.int .i64 op1, .int .i64 a_2, .int .i64 b_3] w8 fun e11 w12 => ∃ n13 : Int, ∃ b14 : Bool, e11 = .returned (.tuple #[.int .i64 n13, .bool b14]) ∧
 Calls Try.prog fn_cell_One #[.int .i64 op1, .int .i64 a_2] w12 fun e15 w16 => ∃ n17 : Int, ∃ b18 : Bool, e15 = .returned (.tuple #[.int .i64 n17, .bool b18]) ∧
 Calls Try.prog fn_hollowayref1_One #[.int .i64 op1, .int .i64 a_2] w16 fun e19 w20 => ∃ n21 : Int, ∃ b22 : Bool, e19 = .returned (.tuple #[.int .i64 n21, .bool b22]) ∧
 Calls Try.prog fn_cell_Floor #[.int .i64 a_2, .int .i64 b_3] w20 fun e23 w24 => ∃ n25 : Int, ∃ n26 : Int, ∃ b27 : Bool, e23 = .returned (.tuple #[.int .i64 n25, .int .i64 n26, .bool b27]) ∧
 brB (b_3 == (0 : Int))
 (brB (n9 == n13)
 (brB (b10 == b14)
 (brB (n17 == n21)
 (brB (b18 == b22)
 (brB (!b27)
 (brB (n25 == (0 : Int))
 (hollowaylaw1_CellTells_j1 (n26 == (0 : Int)) w24 K)
 (hollowaylaw1_CellTells_j1 false w24 K))
 (hollowaylaw1_CellTells_j1 false w24 K))
 (hollowaylaw1_CellTells_j1 false w24 K))
 (hollowaylaw1_CellTells_j1 false w24 K))
 (hollowaylaw1_CellTells_j1 false w24 K))
 (hollowaylaw1_CellTells_j1 false w24 K))
 (Calls Try.prog fn_hollowayref1_Floor #[.int .i64 a_2, .int .i64 b_3] w24 fun e30 w31 => ∃ n32 : Int, ∃ n33 : Int, e30 = .returned (.tuple #[.int .i64 n32, .int .i64 n33]) ∧
 brB (n9 == n13)
 (brB (b10 == b14)
 (brB (n17 == n21)
 (brB (b18 == b22)
 (brB b27
 (brB (n25 == n32)
 (brB (n26 == n33)
 (Calls Try.prog fn_cell_Crosses #[.int .i64 a_2, .int .i64 b_3] w31 fun e34 w35 => ∃ b36 : Bool, e34 = .returned (.bool b36) ∧
 Calls Try.prog fn_hollowayref1_Crosses #[.int .i64 a_2, .int .i64 b_3] w35 fun e37 w38 => ∃ b39 : Bool, e37 = .returned (.bool b39) ∧
 hollowaylaw1_CellTells_j2 (b36 == b39) w38 K)
 (hollowaylaw1_CellTells_j2 false w31 K))
 (hollowaylaw1_CellTells_j2 false w31 K))
 (hollowaylaw1_CellTells_j2 false w31 K))
 (hollowaylaw1_CellTells_j2 false w31 K))
 (hollowaylaw1_CellTells_j2 false w31 K))
 (hollowaylaw1_CellTells_j2 false w31 K))
 (hollowaylaw1_CellTells_j2 false w31 K)))
def hollowaylaw1_CellTells_an : An := ⟨[], []⟩
theorem hollowaylaw1_CellTells_lift {op1 : Int} {a_2 : Int} {b_3 : Int} {w : World} {K : Value → World → Prop} (h : hollowaylaw1_CellTells_sh op1 a_2 b_3 w K) : Calls Try.prog fn_hollowaylaw1_CellTells #[.int .i64 op1, .int .i64 a_2, .int .i64 b_3] w fun e w' => ∃ v, e = .returned v ∧ K v w' :=
   lift_calls (A := hollowaylaw1_CellTells_an) (c := bodyOf Try.f12) (args := [.int .i64 op1, .int .i64 a_2, .int .i64 b_3]) orc orc_wide Try.func12 (by kernel_rfl) (by kernel_rfl) (Eq.mp (by kernel_rfl : hollowaylaw1_CellTells_sh op1 a_2 b_3 w K = wpc orc Try.f12.ntmps hollowaylaw1_CellTells_an (bodyOf Try.f12) (argl 0 [.int .i64 op1, .int .i64 a_2, .int .i64 b_3]) w (retQ orc Try.f12.results.toList K)) h)

-- holloway/hollowaylaw5.alive
def hollowaylaw5_alive_j1 (b30 : Bool) (w29 : World) (K : Value → World → Prop) : Prop :=
 K (.bool b30) w29
def hollowaylaw5_alive_j2 (p5 : Option Addr) (b17 : Bool) (w16 : World) (K : Value → World → Prop) : Prop :=
 brB b17
 (K (.bool false) w16)
 (Calls Try.prog fn_pile_Pile_Pop #[.pointer p5, .int .i64 (2 : Int)] w16 fun e18 w19 => ∃ s20 : Sl, ∃ b21 : Bool, e18 = .returned (.tuple #[s20.val, .bool b21]) ∧
 brB b21
 (brB ((s20.len : Int) == (2 : Int))
 (∃ a22 : Addr, s20.ptr = some a22 ∧ 0 ≤ (0 : Int) ∧ (0 : Int) < (s20.len : Int) ∧
 ∃ n23 : Int, w19.cell? (Addr.add a22 (Int.toNat (0 : Int) * 1)) = some (.int .i64 n23) ∧
 brB (n23 == (2 : Int))
 (∃ a24 : Addr, s20.ptr = some a24 ∧ 0 ≤ (1 : Int) ∧ (1 : Int) < (s20.len : Int) ∧
 ∃ n25 : Int, w19.cell? (Addr.add a24 (Int.toNat (1 : Int) * 1)) = some (.int .i64 n25) ∧
 brB (n25 == (3 : Int))
 (Calls Try.prog fn_pile_Pile_Len #[.pointer p5] w19 fun e26 w27 => ∃ n28 : Int, e26 = .returned (.int .i64 n28) ∧
 hollowaylaw5_alive_j1 (n28 == (1 : Int)) w27 K)
 (hollowaylaw5_alive_j1 false w19 K))
 (hollowaylaw5_alive_j1 false w19 K))
 (hollowaylaw5_alive_j1 false w19 K))
 (hollowaylaw5_alive_j1 false w19 K))
def hollowaylaw5_alive_sh  (w : World) (K : Value → World → Prop) : Prop :=
 ∀ (b1 : Nat) (w2 : World), b1 = w.heap.size → w2 = World.alloc w (.cells #[.int .i64 (1 : Int), .int .i64 (2 : Int)] T_int) →
 Calls Try.prog fn_pile_New #[.int .i64 (3 : Int), .slice (some ⟨b1, 0, none⟩) 2 2] w2 fun e3 w4 => ∃ p5 : Option Addr, e3 = .returned (.pointer p5) ∧
 brB (Option.isNone p5)
 (hollowaylaw5_alive_j2 p5 true w4 K)
 (∀ (b6 : Nat) (w7 : World), b6 = w4.heap.size → w7 = World.alloc w4 (.cells #[.int .i64 (3 : Int), .int .i64 (4 : Int)] T_int) →
 Calls Try.prog fn_pile_Pile_Push #[.pointer p5, .slice (some ⟨b6, 0, none⟩) 2 2] w7 fun e8 w9 => ∃ b10 : Bool, e8 = .returned (.bool b10) ∧
 brB b10
 (hollowaylaw5_alive_j2 p5 true w9 K)
 (∀ (b11 : Nat) (w12 : World), b11 = w9.heap.size → w12 = World.alloc w9 (.cells #[.int .i64 (3 : Int)] T_int) →
 Calls Try.prog fn_pile_Pile_Push #[.pointer p5, .slice (some ⟨b11, 0, none⟩) 1 1] w12 fun e13 w14 => ∃ b15 : Bool, e13 = .returned (.bool b15) ∧
 hollowaylaw5_alive_j2 p5 (!b15) w14 K))
def hollowaylaw5_alive_an : An := ⟨[], []⟩
theorem hollowaylaw5_alive_lift  {w : World} {K : Value → World → Prop} (h : hollowaylaw5_alive_sh  w K) : Calls Try.prog fn_hollowaylaw5_alive #[] w fun e w' => ∃ v, e = .returned v ∧ K v w' :=
   lift_calls (A := hollowaylaw5_alive_an) (c := bodyOf Try.f13) (args := []) orc orc_wide Try.func13 (by kernel_rfl) (by kernel_rfl) (Eq.mp (by kernel_rfl : hollowaylaw5_alive_sh  w K = wpc orc Try.f13.ntmps hollowaylaw5_alive_an (bodyOf Try.f13) (argl 0 []) w (retQ orc Try.f13.results.toList K)) h)

-- holloway/pile.New
def pile_New_sh (most1 : Int) (l_2 : Sl) (w : World) (K : Value → World → Prop) : Prop :=
 0 ≤ (imin (l_2.len : Int) (imin (imax most1 (0 : Int)) (1000 : Int))) ∧ (imin (l_2.len : Int) (imin (imax most1 (0 : Int)) (1000 : Int))) ≤ (l_2.cap : Int) ∧ ∀ s3 : Sl, s3 = Sl.sub l_2.ptr l_2.cap 0 (Int.toNat (imin (l_2.len : Int) (imin (imax most1 (0 : Int)) (1000 : Int)))) 1 →
 Calls Try.prog fn_slices_Clone_sl_int_int #[s3.val] w fun e4 w5 => ∃ s6 : Sl, e4 = .returned (s6.val) ∧
 ∀ (b7 : Nat) (w8 : World), b7 = w5.heap.size → w8 = World.alloc w5 (.cells #[.int .i64 (imin (imax most1 (0 : Int)) (1000 : Int)), s6.val] T_pile_Pile) →
 K (.pointer (some ⟨b7, 0, none⟩)) w8
def pile_New_an : An := ⟨[], []⟩
theorem pile_New_lift {most1 : Int} {l_2 : Sl} {w : World} {K : Value → World → Prop} (h : pile_New_sh most1 l_2 w K) : Calls Try.prog fn_pile_New #[.int .i64 most1, l_2.val] w fun e w' => ∃ v, e = .returned v ∧ K v w' :=
   lift_calls (A := pile_New_an) (c := bodyOf Try.f14) (args := [.int .i64 most1, l_2.val]) orc orc_wide Try.func14 (by kernel_rfl) (by kernel_rfl) (Eq.mp (by kernel_rfl : pile_New_sh most1 l_2 w K = wpc orc Try.f14.ntmps pile_New_an (bodyOf Try.f14) (argl 0 [.int .i64 most1, l_2.val]) w (retQ orc Try.f14.results.toList K)) h)

-- (*holloway/pile.Pile).All
def pile_Pile_All_sh (p_1 : Nat) (w : World) (K : Value → World → Prop) : Prop :=
 ∃ s2 : Sl, w.cell? ⟨p_1, 1, none⟩ = some (s2.val) ∧
 Calls Try.prog fn_slices_Clone_sl_int_int #[s2.val] w fun e3 w4 => ∃ s5 : Sl, e3 = .returned (s5.val) ∧
 K (s5.val) w4
def pile_Pile_All_an : An := ⟨[], []⟩
theorem pile_Pile_All_lift {p_1 : Nat} {w : World} {K : Value → World → Prop} (h : pile_Pile_All_sh p_1 w K) : Calls Try.prog fn_pile_Pile_All #[.pointer (some ⟨p_1, 0, none⟩)] w fun e w' => ∃ v, e = .returned v ∧ K v w' :=
   lift_calls (A := pile_Pile_All_an) (c := bodyOf Try.f15) (args := [.pointer (some ⟨p_1, 0, none⟩)]) orc orc_wide Try.func15 (by kernel_rfl) (by kernel_rfl) (Eq.mp (by kernel_rfl : pile_Pile_All_sh p_1 w K = wpc orc Try.f15.ntmps pile_Pile_All_an (bodyOf Try.f15) (argl 0 [.pointer (some ⟨p_1, 0, none⟩)]) w (retQ orc Try.f15.results.toList K)) h)

-- (*holloway/pile.Pile).Push
def pile_Pile_Push_sh (p_1 : Nat) (l_2 : Sl) (w : World) (K : Value → World → Prop) : Prop :=
 ∀ w3 : World, w3 = World.drew w →
 ∃ n4 : Int, held (Lw w3) ⟨p_1, 0, none⟩ (.int .i64 n4) ∧
 ∃ s5 : Sl, held (Lw w3) ⟨p_1, 1, none⟩ (s5.val) ∧
 brB (decide ((l_2.len : Int) > (wr (n4 - (s5.len : Int)))))
 (K (.bool false) w3)
 (∃ s6 : Sl, w3.cell? ⟨p_1, 1, none⟩ = some (s6.val) ∧
 ∃ s7 : Sl, ∃ w8 : World, (Builtin.append_ #[T_sl_int, T_sl_int] T_sl_int #[s6.val, l_2.val]).run Try.prog w3 = .ok (s7.val) w8 ∧
 wrOk w8 ⟨p_1, 1, none⟩ 1 ∧ ∀ w9 : World, w9 = stW w8 ⟨p_1, 1, none⟩ 0 [s7.val] →
 K (.bool true) w9)
def pile_Pile_Push_an : An := ⟨[], [(1, (17, .st 0 (.st 1 (.st 2 (.st 3 (.st 4 (.st 5 (.st 6 (.st 7 (.st 8 (.st 9 (.st 10 (.st 11 (.st 12 (.st 13 (.st 14 (.st 15 (.st 16 .done)))))))))))))))), 0))]⟩
theorem pile_Pile_Push_lift {p_1 : Nat} {l_2 : Sl} {w : World} {K : Value → World → Prop} (h : pile_Pile_Push_sh p_1 l_2 w K) : Calls Try.prog fn_pile_Pile_Push #[.pointer (some ⟨p_1, 0, none⟩), l_2.val] w fun e w' => ∃ v, e = .returned v ∧ K v w' :=
   lift_calls (A := pile_Pile_Push_an) (c := bodyOf Try.f16) (args := [.pointer (some ⟨p_1, 0, none⟩), l_2.val]) orc orc_wide Try.func16 (by kernel_rfl) (by kernel_rfl) (Eq.mp (by kernel_rfl : pile_Pile_Push_sh p_1 l_2 w K = wpc orc Try.f16.ntmps pile_Pile_Push_an (bodyOf Try.f16) (argl 0 [.pointer (some ⟨p_1, 0, none⟩), l_2.val]) w (retQ orc Try.f16.results.toList K)) h)

-- holloway/hollowaybook.SameInts
def hollowaybook_SameInts_sh (a_1 : Sl) (b_2 : Sl) (w : World) (K : Value → World → Prop) : Prop :=
 brB ((a_1.len : Int) != (b_2.len : Int))
 (K (.bool false) w)
 (∃ (I1 : Int → World → Prop) (μ1 : Int → World → Nat), I1 (0 : Int) w ∧ ∀ (i4 : Int) (w3 : World), I1 i4 w3 →
 brB (decide (i4 < (a_1.len : Int)))
 (∀ w5 : World, w5 = World.drew w3 →
 ∃ a6 : Addr, a_1.ptr = some a6 ∧ 0 ≤ i4 ∧ i4 < (a_1.len : Int) ∧
 ∃ n7 : Int, held (Lw w5) (Addr.add a6 (Int.toNat i4 * 1)) (.int .i64 n7) ∧
 ∃ a8 : Addr, b_2.ptr = some a8 ∧ 0 ≤ i4 ∧ i4 < (b_2.len : Int) ∧
 ∃ n9 : Int, held (Lw w5) (Addr.add a8 (Int.toNat i4 * 1)) (.int .i64 n9) ∧
 brB (!(n7 == n9))
 (K (.bool false) w5)
 (I1 (wr (i4 + (1 : Int))) w5 ∧ μ1 (wr (i4 + (1 : Int))) w5 < μ1 i4 w3))
 (K (.bool true) w3))
def hollowaybook_SameInts_an : An := ⟨[(4, [(5, .int .i64)])], [(6, (10, .st 0 (.st 1 (.st 2 (.st 3 (.st 4 (.st 5 (.st 6 (.st 7 (.st 8 (.st 9 .done))))))))), 0))]⟩
theorem hollowaybook_SameInts_lift {a_1 : Sl} {b_2 : Sl} {w : World} {K : Value → World → Prop} (h : hollowaybook_SameInts_sh a_1 b_2 w K) : Calls Try.prog fn_hollowaybook_SameInts #[a_1.val, b_2.val] w fun e w' => ∃ v, e = .returned v ∧ K v w' :=
   lift_calls (A := hollowaybook_SameInts_an) (c := bodyOf Try.f17) (args := [a_1.val, b_2.val]) orc orc_wide Try.func17 (by kernel_rfl) (by kernel_rfl) (Eq.mp (by kernel_rfl : hollowaybook_SameInts_sh a_1 b_2 w K = wpc orc Try.f17.ntmps hollowaybook_SameInts_an (bodyOf Try.f17) (argl 0 [a_1.val, b_2.val]) w (retQ orc Try.f17.results.toList K)) h)

-- (*holloway/pile.Pile).Pop
def pile_Pile_Pop_j1 (p_1 : Nat) (n_2 : Int) (b5 : Bool) (w4 : World) (K : Value → World → Prop) : Prop :=
 brB b5
 (K (.tuple #[.slice none 0 0, .bool false]) w4)
 (∃ s6 : Sl, w4.cell? ⟨p_1, 1, none⟩ = some (s6.val) ∧
 ∃ s7 : Sl, w4.cell? ⟨p_1, 1, none⟩ = some (s7.val) ∧
 0 ≤ (wr ((s6.len : Int) - n_2)) ∧ (wr ((s6.len : Int) - n_2)) ≤ (s7.len : Int) ∧ ∀ s8 : Sl, s8 = Sl.sub s7.ptr s7.cap (Int.toNat (wr ((s6.len : Int) - n_2))) s7.len 1 →
 Calls Try.prog fn_slices_Clone_sl_int_int #[s8.val] w4 fun e9 w10 => ∃ s11 : Sl, e9 = .returned (s11.val) ∧
 ∃ s12 : Sl, w10.cell? ⟨p_1, 1, none⟩ = some (s12.val) ∧
 0 ≤ (wr ((s6.len : Int) - n_2)) ∧ (wr ((s6.len : Int) - n_2)) ≤ (s12.cap : Int) ∧ ∀ s13 : Sl, s13 = Sl.sub s12.ptr s12.cap 0 (Int.toNat (wr ((s6.len : Int) - n_2))) 1 →
 wrOk w10 ⟨p_1, 1, none⟩ 1 ∧ ∀ w14 : World, w14 = stW w10 ⟨p_1, 1, none⟩ 0 [s13.val] →
 K (.tuple #[s11.val, .bool true]) w14)
def pile_Pile_Pop_sh (p_1 : Nat) (n_2 : Int) (w : World) (K : Value → World → Prop) : Prop :=
 brB (decide (n_2 < (0 : Int)))
 (pile_Pile_Pop_j1 p_1 n_2 true w K)
 (∃ s3 : Sl, w.cell? ⟨p_1, 1, none⟩ = some (s3.val) ∧
 pile_Pile_Pop_j1 p_1 n_2 (decide (n_2 > (s3.len : Int))) w K)
def pile_Pile_Pop_an : An := ⟨[], []⟩
theorem pile_Pile_Pop_lift {p_1 : Nat} {n_2 : Int} {w : World} {K : Value → World → Prop} (h : pile_Pile_Pop_sh p_1 n_2 w K) : Calls Try.prog fn_pile_Pile_Pop #[.pointer (some ⟨p_1, 0, none⟩), .int .i64 n_2] w fun e w' => ∃ v, e = .returned v ∧ K v w' :=
   lift_calls (A := pile_Pile_Pop_an) (c := bodyOf Try.f18) (args := [.pointer (some ⟨p_1, 0, none⟩), .int .i64 n_2]) orc orc_wide Try.func18 (by kernel_rfl) (by kernel_rfl) (Eq.mp (by kernel_rfl : pile_Pile_Pop_sh p_1 n_2 w K = wpc orc Try.f18.ntmps pile_Pile_Pop_an (bodyOf Try.f18) (argl 0 [.pointer (some ⟨p_1, 0, none⟩), .int .i64 n_2]) w (retQ orc Try.f18.results.toList K)) h)

-- (*holloway/pile.Pile).Len
def pile_Pile_Len_sh (p_1 : Nat) (w : World) (K : Value → World → Prop) : Prop :=
 ∃ s2 : Sl, w.cell? ⟨p_1, 1, none⟩ = some (s2.val) ∧
 K (.int .i64 (s2.len : Int)) w
def pile_Pile_Len_an : An := ⟨[], []⟩
theorem pile_Pile_Len_lift {p_1 : Nat} {w : World} {K : Value → World → Prop} (h : pile_Pile_Len_sh p_1 w K) : Calls Try.prog fn_pile_Pile_Len #[.pointer (some ⟨p_1, 0, none⟩)] w fun e w' => ∃ v, e = .returned v ∧ K v w' :=
   lift_calls (A := pile_Pile_Len_an) (c := bodyOf Try.f19) (args := [.pointer (some ⟨p_1, 0, none⟩)]) orc orc_wide Try.func19 (by kernel_rfl) (by kernel_rfl) (Eq.mp (by kernel_rfl : pile_Pile_Len_sh p_1 w K = wpc orc Try.f19.ntmps pile_Pile_Len_an (bodyOf Try.f19) (argl 0 [.pointer (some ⟨p_1, 0, none⟩)]) w (retQ orc Try.f19.results.toList K)) h)

-- (*holloway/pile.Pile).Cut
def pile_Pile_Cut_j1 (p_1 : Nat) (n_2 : Int) (w10 : World) (K : Value → World → Prop) : Prop :=
 ∀ w11 : World, w11 = World.drew w10 →
 ∃ S12 : World → Prop, S12 w11 ∧
 ∃ s13 : Sl, held S12 ⟨p_1, 1, none⟩ (s13.val) ∧
 ∃ s14 : Sl, held S12 ⟨p_1, 1, none⟩ (s14.val) ∧
 ∃ s15 : Sl, ∃ w16 : World, (Builtin.append_ #[T_sl_int, T_int] T_sl_int #[s13.val, .int .i64 (wr (n_2 - (s14.len : Int)))]).run Try.prog w11 = .ok (s15.val) w16 ∧
 S12 w16 ∧
 wrOk w16 ⟨p_1, 1, none⟩ 1 ∧ ∀ w17 : World, w17 = stW w16 ⟨p_1, 1, none⟩ 0 [s15.val] →
 K (.bool true) w17
def pile_Pile_Cut_j2 (p_1 : Nat) (n_2 : Int) (b5 : Bool) (w4 : World) (K : Value → World → Prop) : Prop :=
 brB b5
 (K (.bool false) w4)
 (∃ s6 : Sl, w4.cell? ⟨p_1, 1, none⟩ = some (s6.val) ∧
 brB (decide (n_2 < (s6.len : Int)))
 (∃ s7 : Sl, w4.cell? ⟨p_1, 1, none⟩ = some (s7.val) ∧
 0 ≤ n_2 ∧ n_2 ≤ (s7.cap : Int) ∧ ∀ s8 : Sl, s8 = Sl.sub s7.ptr s7.cap 0 (Int.toNat n_2) 1 →
 wrOk w4 ⟨p_1, 1, none⟩ 1 ∧ ∀ w9 : World, w9 = stW w4 ⟨p_1, 1, none⟩ 0 [s8.val] →
 pile_Pile_Cut_j1 p_1 n_2 w9 K)
 (pile_Pile_Cut_j1 p_1 n_2 w4 K))
def pile_Pile_Cut_sh (p_1 : Nat) (n_2 : Int) (w : World) (K : Value → World → Prop) : Prop :=
 brB (decide (n_2 < (0 : Int)))
 (pile_Pile_Cut_j2 p_1 n_2 true w K)
 (∃ n3 : Int, w.cell? ⟨p_1, 0, none⟩ = some (.int .i64 n3) ∧
 pile_Pile_Cut_j2 p_1 n_2 (decide (n_2 > n3)) w K)
def pile_Pile_Cut_an : An := ⟨[], [(5, (13, .st 0 (.st 1 (.st 2 (.st 3 (.st 4 (.st 5 (.st 6 (.st 7 (.st 8 (.st 9 (.st 10 (.st 11 (.ef 12 .done)))))))))))), 1))]⟩
theorem pile_Pile_Cut_lift {p_1 : Nat} {n_2 : Int} {w : World} {K : Value → World → Prop} (h : pile_Pile_Cut_sh p_1 n_2 w K) : Calls Try.prog fn_pile_Pile_Cut #[.pointer (some ⟨p_1, 0, none⟩), .int .i64 n_2] w fun e w' => ∃ v, e = .returned v ∧ K v w' :=
   lift_calls (A := pile_Pile_Cut_an) (c := bodyOf Try.f20) (args := [.pointer (some ⟨p_1, 0, none⟩), .int .i64 n_2]) orc orc_wide Try.func20 (by kernel_rfl) (by kernel_rfl) (Eq.mp (by kernel_rfl : pile_Pile_Cut_sh p_1 n_2 w K = wpc orc Try.f20.ntmps pile_Pile_Cut_an (bodyOf Try.f20) (argl 0 [.pointer (some ⟨p_1, 0, none⟩), .int .i64 n_2]) w (retQ orc Try.f20.results.toList K)) h)

-- holloway/hollowaylaw1.alive
def hollowaylaw1_alive_j1 (b14 : Bool) (w13 : World) (K : Value → World → Prop) : Prop :=
 K (.bool b14) w13
def hollowaylaw1_alive_sh  (w : World) (K : Value → World → Prop) : Prop :=
 Calls Try.prog fn_cell_Floor #[.int .i64 (-7 : Int), .int .i64 (2 : Int)] w fun e1 w2 => ∃ n3 : Int, ∃ n4 : Int, ∃ b5 : Bool, e1 = .returned (.tuple #[.int .i64 n3, .int .i64 n4, .bool b5]) ∧
 Calls Try.prog fn_cell_Two #[.int .i64 (11 : Int), .int .i64 (2 : Int), .int .i64 (3 : Int)] w2 fun e6 w7 => ∃ n8 : Int, ∃ b9 : Bool, e6 = .returned (.tuple #[.int .i64 n8, .bool b9]) ∧
 brB b5
 (brB (n3 == (-4 : Int))
 (brB (n4 == (1 : Int))
 (brB b9
 (brB (n8 == (5 : Int))
 (Calls Try.prog fn_cell_Flag #[.bool true] w7 fun e10 w11 => ∃ n12 : Int, e10 = .returned (.int .i64 n12) ∧
 hollowaylaw1_alive_j1 (n12 == (-1 : Int)) w11 K)
 (hollowaylaw1_alive_j1 false w7 K))
 (hollowaylaw1_alive_j1 false w7 K))
 (hollowaylaw1_alive_j1 false w7 K))
 (hollowaylaw1_alive_j1 false w7 K))
 (hollowaylaw1_alive_j1 false w7 K)
def hollowaylaw1_alive_an : An := ⟨[], []⟩
theorem hollowaylaw1_alive_lift  {w : World} {K : Value → World → Prop} (h : hollowaylaw1_alive_sh  w K) : Calls Try.prog fn_hollowaylaw1_alive #[] w fun e w' => ∃ v, e = .returned v ∧ K v w' :=
   lift_calls (A := hollowaylaw1_alive_an) (c := bodyOf Try.f21) (args := []) orc orc_wide Try.func21 (by kernel_rfl) (by kernel_rfl) (Eq.mp (by kernel_rfl : hollowaylaw1_alive_sh  w K = wpc orc Try.f21.ntmps hollowaylaw1_alive_an (bodyOf Try.f21) (argl 0 []) w (retQ orc Try.f21.results.toList K)) h)

-- holloway/cell.Floor
def cell_Floor_j1 (a_1 : Int) (b_2 : Int) (b5 : Bool) (w4 : World) (K : Value → World → Prop) : Prop :=
 brB b5
 (K (.tuple #[.int .i64 (wr ((wr (Int.tdiv a_1 b_2)) - (1 : Int))), .int .i64 (wr ((Int.tmod a_1 b_2) + b_2)), .bool true]) w4)
 (K (.tuple #[.int .i64 (wr (Int.tdiv a_1 b_2)), .int .i64 (Int.tmod a_1 b_2), .bool true]) w4)
def cell_Floor_sh (a_1 : Int) (b_2 : Int) (w : World) (K : Value → World → Prop) : Prop :=
 brB (b_2 == (0 : Int))
 (K (.tuple #[.int .i64 (0 : Int), .int .i64 (0 : Int), .bool false]) w)
 (brB (b_2 == (-1 : Int))
 (K (.tuple #[.int .i64 (wr (0 - a_1)), .int .i64 (0 : Int), .bool true]) w)
 (∀ w3 : World, w3 = World.drew w →
 b_2 ≠ 0 ∧ b_2 ≠ 0 ∧ brB ((Int.tmod a_1 b_2) != (0 : Int))
 (cell_Floor_j1 a_1 b_2 (!((decide ((Int.tmod a_1 b_2) < (0 : Int))) == (decide (b_2 < (0 : Int))))) w3 K)
 (cell_Floor_j1 a_1 b_2 false w3 K)))
def cell_Floor_an : An := ⟨[], [(6, (8, .st 0 (.st 1 (.st 2 (.st 3 (.st 4 (.st 5 (.st 6 (.st 7 .done))))))), 0))]⟩
theorem cell_Floor_lift {a_1 : Int} {b_2 : Int} {w : World} {K : Value → World → Prop} (h : cell_Floor_sh a_1 b_2 w K) : Calls Try.prog fn_cell_Floor #[.int .i64 a_1, .int .i64 b_2] w fun e w' => ∃ v, e = .returned v ∧ K v w' :=
   lift_calls (A := cell_Floor_an) (c := bodyOf Try.f22) (args := [.int .i64 a_1, .int .i64 b_2]) orc orc_wide Try.func22 (by kernel_rfl) (by kernel_rfl) (Eq.mp (by kernel_rfl : cell_Floor_sh a_1 b_2 w K = wpc orc Try.f22.ntmps cell_Floor_an (bodyOf Try.f22) (argl 0 [.int .i64 a_1, .int .i64 b_2]) w (retQ orc Try.f22.results.toList K)) h)

-- holloway/cell.Two
def cell_Two_j1 (op1 : Int) (a_2 : Int) (b_3 : Int) (w16 : World) (K : Value → World → Prop) : Prop :=
 Calls Try.prog fn_cell_shift #[.int .i64 op1, .int .i64 a_2, .int .i64 b_3] w16 fun e17 w18 => ∃ n19 : Int, e17 = .returned (.int .i64 n19) ∧
 K (.tuple #[.int .i64 n19, .bool true]) w18
def cell_Two_j2 (op1 : Int) (a_2 : Int) (b_3 : Int) (w20 : World) (K : Value → World → Prop) : Prop :=
 Calls Try.prog fn_cell_compare #[.int .i64 op1, .int .i64 a_2, .int .i64 b_3] w20 fun e21 w22 => ∃ n23 : Int, e21 = .returned (.int .i64 n23) ∧
 K (.tuple #[.int .i64 n23, .bool true]) w22
def cell_Two_j3 (op1 : Int) (a_2 : Int) (b_3 : Int) (b5 : Bool) (w4 : World) (K : Value → World → Prop) : Prop :=
 brB b5
 (cell_Two_j2 op1 a_2 b_3 w4 K)
 (brB (op1 == (25 : Int))
 (cell_Two_j2 op1 a_2 b_3 w4 K)
 (brB (op1 == (28 : Int))
 (K (.tuple #[.int .i64 (imin a_2 b_3), .bool true]) w4)
 (brB (op1 == (29 : Int))
 (K (.tuple #[.int .i64 (imax a_2 b_3), .bool true]) w4)
 (K (.tuple #[.int .i64 (0 : Int), .bool false]) w4))))
def cell_Two_sh (op1 : Int) (a_2 : Int) (b_3 : Int) (w : World) (K : Value → World → Prop) : Prop :=
 brB (op1 == (11 : Int))
 (K (.tuple #[.int .i64 (wr (a_2 + b_3)), .bool true]) w)
 (brB (op1 == (12 : Int))
 (K (.tuple #[.int .i64 (wr (a_2 - b_3)), .bool true]) w)
 (brB (op1 == (13 : Int))
 (K (.tuple #[.int .i64 (wr (a_2 * b_3)), .bool true]) w)
 (brB (op1 == (14 : Int))
 (Calls Try.prog fn_cell_Floor #[.int .i64 a_2, .int .i64 b_3] w fun e6 w7 => ∃ n8 : Int, ∃ n9 : Int, ∃ b10 : Bool, e6 = .returned (.tuple #[.int .i64 n8, .int .i64 n9, .bool b10]) ∧
 K (.tuple #[.int .i64 n8, .bool b10]) w7)
 (brB (op1 == (15 : Int))
 (Calls Try.prog fn_cell_Floor #[.int .i64 a_2, .int .i64 b_3] w fun e11 w12 => ∃ n13 : Int, ∃ n14 : Int, ∃ b15 : Bool, e11 = .returned (.tuple #[.int .i64 n13, .int .i64 n14, .bool b15]) ∧
 K (.tuple #[.int .i64 n14, .bool b15]) w12)
 (brB (op1 == (17 : Int))
 (K (.tuple #[.int .i64 (iand .i64 a_2 b_3), .bool true]) w)
 (brB (op1 == (18 : Int))
 (K (.tuple #[.int .i64 (ior .i64 a_2 b_3), .bool true]) w)
 (brB (op1 == (19 : Int))
 (K (.tuple #[.int .i64 (ixor .i64 a_2 b_3), .bool true]) w)
 (brB (op1 == (21 : Int))
 (cell_Two_j1 op1 a_2 b_3 w K)
 (brB (op1 == (22 : Int))
 (cell_Two_j1 op1 a_2 b_3 w K)
 (brB (op1 == (23 : Int))
 (cell_Two_j3 op1 a_2 b_3 (op1 == (23 : Int)) w K)
 (cell_Two_j3 op1 a_2 b_3 (op1 == (24 : Int)) w K)))))))))))
def cell_Two_an : An := ⟨[], []⟩
theorem cell_Two_lift {op1 : Int} {a_2 : Int} {b_3 : Int} {w : World} {K : Value → World → Prop} (h : cell_Two_sh op1 a_2 b_3 w K) : Calls Try.prog fn_cell_Two #[.int .i64 op1, .int .i64 a_2, .int .i64 b_3] w fun e w' => ∃ v, e = .returned v ∧ K v w' :=
   lift_calls (A := cell_Two_an) (c := bodyOf Try.f23) (args := [.int .i64 op1, .int .i64 a_2, .int .i64 b_3]) orc orc_wide Try.func23 (by kernel_rfl) (by kernel_rfl) (Eq.mp (by kernel_rfl : cell_Two_sh op1 a_2 b_3 w K = wpc orc Try.f23.ntmps cell_Two_an (bodyOf Try.f23) (argl 0 [.int .i64 op1, .int .i64 a_2, .int .i64 b_3]) w (retQ orc Try.f23.results.toList K)) h)

-- holloway/cell.Crosses
def cell_Crosses_sh (x_1 : Int) (n_2 : Int) (w : World) (K : Value → World → Prop) : Prop :=
 K (.bool (decide ((iand .i64 (ixor .i64 x_1 (wr (x_1 + n_2))) (ixor .i64 x_1 n_2)) < (0 : Int)))) w
def cell_Crosses_an : An := ⟨[], []⟩
theorem cell_Crosses_lift {x_1 : Int} {n_2 : Int} {w : World} {K : Value → World → Prop} (h : cell_Crosses_sh x_1 n_2 w K) : Calls Try.prog fn_cell_Crosses #[.int .i64 x_1, .int .i64 n_2] w fun e w' => ∃ v, e = .returned v ∧ K v w' :=
   lift_calls (A := cell_Crosses_an) (c := bodyOf Try.f24) (args := [.int .i64 x_1, .int .i64 n_2]) orc orc_wide Try.func24 (by kernel_rfl) (by kernel_rfl) (Eq.mp (by kernel_rfl : cell_Crosses_sh x_1 n_2 w K = wpc orc Try.f24.ntmps cell_Crosses_an (bodyOf Try.f24) (argl 0 [.int .i64 x_1, .int .i64 n_2]) w (retQ orc Try.f24.results.toList K)) h)

-- holloway/hollowaybook.LentInts
def hollowaybook_LentInts_sh (l_1 : Sl) (w : World) (K : Value → World → Prop) : Prop :=
 Calls Try.prog fn_hollowaybook_copyInts #[l_1.val] w fun e2 w3 => ∃ s4 : Sl, e2 = .returned (s4.val) ∧
 ∀ (b5 : Nat) (w6 : World), b5 = w3.heap.size → w6 = World.alloc w3 (.cells #[.int .i64 (-77 : Int)] T_int) →
 ∃ s7 : Sl, ∃ w8 : World, (Builtin.append_ #[T_sl_int, T_sl_int] T_sl_int #[s4.val, .slice (some ⟨b5, 0, none⟩) 1 1]).run Try.prog w6 = .ok (s7.val) w8 ∧
 0 ≤ (l_1.len : Int) ∧ (l_1.len : Int) ≤ (s7.cap : Int) ∧ ∀ s9 : Sl, s9 = Sl.sub s7.ptr s7.cap 0 (Int.toNat (l_1.len : Int)) 1 →
 K (s9.val) w8
def hollowaybook_LentInts_an : An := ⟨[], []⟩
theorem hollowaybook_LentInts_lift {l_1 : Sl} {w : World} {K : Value → World → Prop} (h : hollowaybook_LentInts_sh l_1 w K) : Calls Try.prog fn_hollowaybook_LentInts #[l_1.val] w fun e w' => ∃ v, e = .returned v ∧ K v w' :=
   lift_calls (A := hollowaybook_LentInts_an) (c := bodyOf Try.f25) (args := [l_1.val]) orc orc_wide Try.func25 (by kernel_rfl) (by kernel_rfl) (Eq.mp (by kernel_rfl : hollowaybook_LentInts_sh l_1 w K = wpc orc Try.f25.ntmps hollowaybook_LentInts_an (bodyOf Try.f25) (argl 0 [l_1.val]) w (retQ orc Try.f25.results.toList K)) h)

-- holloway/hollowaybook.StaysInts
def hollowaybook_StaysInts_j1 (b10 : Bool) (w9 : World) (K : Value → World → Prop) : Prop :=
 K (.bool b10) w9
def hollowaybook_StaysInts_sh (m_1 : Sl) (was2 : Sl) (w : World) (K : Value → World → Prop) : Prop :=
 Calls Try.prog fn_hollowaybook_SameInts #[m_1.val, was2.val] w fun e3 w4 => ∃ b5 : Bool, e3 = .returned (.bool b5) ∧
 brB b5
 (0 ≤ (wr ((m_1.len : Int) + (1 : Int))) ∧ (wr ((m_1.len : Int) + (1 : Int))) ≤ (m_1.cap : Int) ∧ ∀ s6 : Sl, s6 = Sl.sub m_1.ptr m_1.cap 0 (Int.toNat (wr ((m_1.len : Int) + (1 : Int)))) 1 →
 ∃ a7 : Addr, s6.ptr = some a7 ∧ 0 ≤ (m_1.len : Int) ∧ (m_1.len : Int) < (s6.len : Int) ∧
 ∃ n8 : Int, w4.cell? (Addr.add a7 (Int.toNat (m_1.len : Int) * 1)) = some (.int .i64 n8) ∧
 hollowaybook_StaysInts_j1 (n8 == (-77 : Int)) w4 K)
 (hollowaybook_StaysInts_j1 false w4 K)
def hollowaybook_StaysInts_an : An := ⟨[], []⟩
theorem hollowaybook_StaysInts_lift {m_1 : Sl} {was2 : Sl} {w : World} {K : Value → World → Prop} (h : hollowaybook_StaysInts_sh m_1 was2 w K) : Calls Try.prog fn_hollowaybook_StaysInts #[m_1.val, was2.val] w fun e w' => ∃ v, e = .returned v ∧ K v w' :=
   lift_calls (A := hollowaybook_StaysInts_an) (c := bodyOf Try.f26) (args := [m_1.val, was2.val]) orc orc_wide Try.func26 (by kernel_rfl) (by kernel_rfl) (Eq.mp (by kernel_rfl : hollowaybook_StaysInts_sh m_1 was2 w K = wpc orc Try.f26.ntmps hollowaybook_StaysInts_an (bodyOf Try.f26) (argl 0 [m_1.val, was2.val]) w (retQ orc Try.f26.results.toList K)) h)

-- (*holloway/hollowaybook.Book).Ints
def hollowaybook_Book_Ints_sh (b_1 : Nat) (l_2 : Sl) (w : World) (K : Value → World → Prop) : Prop :=
 ∃ s3 : Sl, w.cell? ⟨b_1, 2, none⟩ = some (s3.val) ∧
 brB (decide ((s3.len : Int) < (250 : Int)))
 (∃ s4 : Sl, w.cell? ⟨b_1, 2, none⟩ = some (s4.val) ∧
 ∀ (b5 : Nat) (w6 : World), b5 = w.heap.size → w6 = World.alloc w (.cells #[l_2.val] T_sl_int) →
 ∃ s7 : Sl, ∃ w8 : World, (Builtin.append_ #[T_sl_sl_int, T_sl_sl_int] T_sl_sl_int #[s4.val, .slice (some ⟨b5, 0, none⟩) 1 1]).run Try.prog w6 = .ok (s7.val) w8 ∧
 wrOk w8 ⟨b_1, 2, none⟩ 1 ∧ ∀ w9 : World, w9 = stW w8 ⟨b_1, 2, none⟩ 0 [s7.val] →
 ∀ w10 : World, w10 = World.drew w9 →
 ∃ S11 : World → Prop, S11 w10 ∧
 ∃ s12 : Sl, held S11 ⟨b_1, 3, none⟩ (s12.val) ∧
 Calls Try.prog fn_hollowaybook_copyInts #[l_2.val] w10 fun e13 w14 => ∃ s15 : Sl, e13 = .returned (s15.val) ∧
 S11 w14 ∧
 ∀ (b16 : Nat) (w17 : World), b16 = w14.heap.size → w17 = World.alloc w14 (.cells #[s15.val] T_sl_int) →
 S11 w17 ∧
 ∃ s18 : Sl, ∃ w19 : World, (Builtin.append_ #[T_sl_sl_int, T_sl_sl_int] T_sl_sl_int #[s12.val, .slice (some ⟨b16, 0, none⟩) 1 1]).run Try.prog w17 = .ok (s18.val) w19 ∧
 S11 w19 ∧
 wrOk w19 ⟨b_1, 3, none⟩ 1 ∧ ∀ w20 : World, w20 = stW w19 ⟨b_1, 3, none⟩ 0 [s18.val] →
 K (.tuple #[]) w20)
 (K (.tuple #[]) w)
def hollowaybook_Book_Ints_an : An := ⟨[], [(2, (9, .st 0 (.st 1 (.st 2 (.st 3 (.st 4 (.st 5 (.ef 6 (.ef 7 (.ef 8 .done)))))))), 1))]⟩
theorem hollowaybook_Book_Ints_lift {b_1 : Nat} {l_2 : Sl} {w : World} {K : Value → World → Prop} (h : hollowaybook_Book_Ints_sh b_1 l_2 w K) : Calls Try.prog fn_hollowaybook_Book_Ints #[.pointer (some ⟨b_1, 0, none⟩), l_2.val] w fun e w' => ∃ v, e = .returned v ∧ K v w' :=
   lift_calls (A := hollowaybook_Book_Ints_an) (c := bodyOf Try.f27) (args := [.pointer (some ⟨b_1, 0, none⟩), l_2.val]) orc orc_wide Try.func27 (by kernel_rfl) (by kernel_rfl) (Eq.mp (by kernel_rfl : hollowaybook_Book_Ints_sh b_1 l_2 w K = wpc orc Try.f27.ntmps hollowaybook_Book_Ints_an (bodyOf Try.f27) (argl 0 [.pointer (some ⟨b_1, 0, none⟩), l_2.val]) w (retQ orc Try.f27.results.toList K)) h)

-- (*holloway/pile.Pile).Set
def pile_Pile_Set_sh (p_1 : Nat) (k_2 : Int) (v_3 : Int) (w : World) (K : Value → World → Prop) : Prop :=
 Calls Try.prog fn_pile_Pile_place #[.pointer (some ⟨p_1, 0, none⟩), .int .i64 k_2] w fun e4 w5 => ∃ n6 : Int, e4 = .returned (.int .i64 n6) ∧
 brB (decide (n6 < (0 : Int)))
 (K (.bool false) w5)
 (∃ s7 : Sl, w5.cell? ⟨p_1, 1, none⟩ = some (s7.val) ∧
 ∃ a8 : Addr, s7.ptr = some a8 ∧ 0 ≤ n6 ∧ n6 < (s7.len : Int) ∧
 wrOk w5 (Addr.add a8 (Int.toNat n6 * 1)) 1 ∧ ∀ w9 : World, w9 = stW w5 (Addr.add a8 (Int.toNat n6 * 1)) 0 [.int .i64 v_3] →
 K (.bool true) w9)
def pile_Pile_Set_an : An := ⟨[], []⟩
theorem pile_Pile_Set_lift {p_1 : Nat} {k_2 : Int} {v_3 : Int} {w : World} {K : Value → World → Prop} (h : pile_Pile_Set_sh p_1 k_2 v_3 w K) : Calls Try.prog fn_pile_Pile_Set #[.pointer (some ⟨p_1, 0, none⟩), .int .i64 k_2, .int .i64 v_3] w fun e w' => ∃ v, e = .returned v ∧ K v w' :=
   lift_calls (A := pile_Pile_Set_an) (c := bodyOf Try.f28) (args := [.pointer (some ⟨p_1, 0, none⟩), .int .i64 k_2, .int .i64 v_3]) orc orc_wide Try.func28 (by kernel_rfl) (by kernel_rfl) (Eq.mp (by kernel_rfl : pile_Pile_Set_sh p_1 k_2 v_3 w K = wpc orc Try.f28.ntmps pile_Pile_Set_an (bodyOf Try.f28) (argl 0 [.pointer (some ⟨p_1, 0, none⟩), .int .i64 k_2, .int .i64 v_3]) w (retQ orc Try.f28.results.toList K)) h)

-- (*holloway/pile.Pile).Copy
def pile_Pile_Copy_sh (p_1 : Nat) (w : World) (K : Value → World → Prop) : Prop :=
 ∀ w2 : World, w2 = World.drew w →
 ∃ S3 : World → Prop, S3 w2 ∧
 ∃ n4 : Int, held S3 ⟨p_1, 0, none⟩ (.int .i64 n4) ∧
 Calls Try.prog fn_pile_Pile_All #[.pointer (some ⟨p_1, 0, none⟩)] w2 fun e5 w6 => ∃ s7 : Sl, e5 = .returned (s7.val) ∧
 S3 w6 ∧
 ∀ (b8 : Nat) (w9 : World), b8 = w6.heap.size → w9 = World.alloc w6 (.cells #[.int .i64 n4, s7.val] T_pile_Pile) →
 K (.pointer (some ⟨b8, 0, none⟩)) w9
def pile_Pile_Copy_an : An := ⟨[], [(3, (6, .st 0 (.st 1 (.st 2 (.st 3 (.st 4 (.ef 5 .done))))), 1))]⟩
theorem pile_Pile_Copy_lift {p_1 : Nat} {w : World} {K : Value → World → Prop} (h : pile_Pile_Copy_sh p_1 w K) : Calls Try.prog fn_pile_Pile_Copy #[.pointer (some ⟨p_1, 0, none⟩)] w fun e w' => ∃ v, e = .returned v ∧ K v w' :=
   lift_calls (A := pile_Pile_Copy_an) (c := bodyOf Try.f29) (args := [.pointer (some ⟨p_1, 0, none⟩)]) orc orc_wide Try.func29 (by kernel_rfl) (by kernel_rfl) (Eq.mp (by kernel_rfl : pile_Pile_Copy_sh p_1 w K = wpc orc Try.f29.ntmps pile_Pile_Copy_an (bodyOf Try.f29) (argl 0 [.pointer (some ⟨p_1, 0, none⟩)]) w (retQ orc Try.f29.results.toList K)) h)

-- (*holloway/pile.Pile).Peek
def pile_Pile_Peek_sh (p_1 : Nat) (k_2 : Int) (w : World) (K : Value → World → Prop) : Prop :=
 Calls Try.prog fn_pile_Pile_place #[.pointer (some ⟨p_1, 0, none⟩), .int .i64 k_2] w fun e3 w4 => ∃ n5 : Int, e3 = .returned (.int .i64 n5) ∧
 brB (decide (n5 < (0 : Int)))
 (K (.tuple #[.int .i64 (0 : Int), .bool false]) w4)
 (∃ s6 : Sl, w4.cell? ⟨p_1, 1, none⟩ = some (s6.val) ∧
 ∃ a7 : Addr, s6.ptr = some a7 ∧ 0 ≤ n5 ∧ n5 < (s6.len : Int) ∧
 ∃ n8 : Int, w4.cell? (Addr.add a7 (Int.toNat n5 * 1)) = some (.int .i64 n8) ∧
 K (.tuple #[.int .i64 n8, .bool true]) w4)
def pile_Pile_Peek_an : An := ⟨[], []⟩
theorem pile_Pile_Peek_lift {p_1 : Nat} {k_2 : Int} {w : World} {K : Value → World → Prop} (h : pile_Pile_Peek_sh p_1 k_2 w K) : Calls Try.prog fn_pile_Pile_Peek #[.pointer (some ⟨p_1, 0, none⟩), .int .i64 k_2] w fun e w' => ∃ v, e = .returned v ∧ K v w' :=
   lift_calls (A := pile_Pile_Peek_an) (c := bodyOf Try.f30) (args := [.pointer (some ⟨p_1, 0, none⟩), .int .i64 k_2]) orc orc_wide Try.func30 (by kernel_rfl) (by kernel_rfl) (Eq.mp (by kernel_rfl : pile_Pile_Peek_sh p_1 k_2 w K = wpc orc Try.f30.ntmps pile_Pile_Peek_an (bodyOf Try.f30) (argl 0 [.pointer (some ⟨p_1, 0, none⟩), .int .i64 k_2]) w (retQ orc Try.f30.results.toList K)) h)

-- (*holloway/hollowaybook.Book).Apart
def hollowaybook_Book_Apart_j1 (b93 : Bool) (w92 : World) (K : Value → World → Prop) : Prop :=
 K (.bool b93) w92
def hollowaybook_Book_Apart_sh (b_1 : Nat) (w : World) (K : Value → World → Prop) : Prop :=
 Calls Try.prog fn_hollowaybook_Book_stillTexts #[.pointer (some ⟨b_1, 0, none⟩)] w fun e2 w3 => ∃ b4 : Bool, e2 = .returned (.bool b4) ∧
 brB (!b4)
 (K (.bool false) w3)
 (Calls Try.prog fn_hollowaybook_Book_stillInts #[.pointer (some ⟨b_1, 0, none⟩)] w3 fun e5 w6 => ∃ b7 : Bool, e5 = .returned (.bool b7) ∧
 brB (!b7)
 (K (.bool false) w6)
 (Calls Try.prog fn_hollowaybook_Book_stillWords #[.pointer (some ⟨b_1, 0, none⟩)] w6 fun e8 w9 => ∃ b10 : Bool, e8 = .returned (.bool b10) ∧
 brB (!b10)
 (K (.bool false) w9)
 (Calls Try.prog fn_hollowaybook_Book_stillSeens #[.pointer (some ⟨b_1, 0, none⟩)] w9 fun e11 w12 => ∃ b13 : Bool, e11 = .returned (.bool b13) ∧
 brB (!b13)
 (K (.bool false) w12)
 (Calls Try.prog fn_hollowaybook_Book_stillCodes #[.pointer (some ⟨b_1, 0, none⟩)] w12 fun e14 w15 => ∃ b16 : Bool, e14 = .returned (.bool b16) ∧
 brB (!b16)
 (K (.bool false) w15)
 (Calls Try.prog fn_hollowaybook_Book_stillExits #[.pointer (some ⟨b_1, 0, none⟩)] w15 fun e17 w18 => ∃ b19 : Bool, e17 = .returned (.bool b19) ∧
 brB (!b19)
 (K (.bool false) w18)
 (Calls Try.prog fn_hollowaybook_Book_putExits #[.pointer (some ⟨b_1, 0, none⟩)] w18 fun e20 w21 => e20 = .returned (.tuple #[]) ∧
 Calls Try.prog fn_hollowaybook_Book_putTexts #[.pointer (some ⟨b_1, 0, none⟩)] w21 fun e22 w23 => e22 = .returned (.tuple #[]) ∧
 Calls Try.prog fn_hollowaybook_Book_putInts #[.pointer (some ⟨b_1, 0, none⟩)] w23 fun e24 w25 => e24 = .returned (.tuple #[]) ∧
 Calls Try.prog fn_hollowaybook_Book_putWords #[.pointer (some ⟨b_1, 0, none⟩)] w25 fun e26 w27 => e26 = .returned (.tuple #[]) ∧
 Calls Try.prog fn_hollowaybook_Book_putSeens #[.pointer (some ⟨b_1, 0, none⟩)] w27 fun e28 w29 => e28 = .returned (.tuple #[]) ∧
 Calls Try.prog fn_hollowaybook_Book_putCodes #[.pointer (some ⟨b_1, 0, none⟩)] w29 fun e30 w31 => e30 = .returned (.tuple #[]) ∧
 Calls Try.prog fn_hollowaybook_Book_growTexts #[.pointer (some ⟨b_1, 0, none⟩)] w31 fun e32 w33 => ∃ s34 : Sl, e32 = .returned (s34.val) ∧
 Calls Try.prog fn_hollowaybook_Book_growInts #[.pointer (some ⟨b_1, 0, none⟩)] w33 fun e35 w36 => ∃ s37 : Sl, e35 = .returned (s37.val) ∧
 Calls Try.prog fn_hollowaybook_Book_growWords #[.pointer (some ⟨b_1, 0, none⟩)] w36 fun e38 w39 => ∃ s40 : Sl, e38 = .returned (s40.val) ∧
 Calls Try.prog fn_hollowaybook_Book_growSeens #[.pointer (some ⟨b_1, 0, none⟩)] w39 fun e41 w42 => ∃ s43 : Sl, e41 = .returned (s43.val) ∧
 Calls Try.prog fn_hollowaybook_Book_growCodes #[.pointer (some ⟨b_1, 0, none⟩)] w42 fun e44 w45 => ∃ s46 : Sl, e44 = .returned (s46.val) ∧
 Calls Try.prog fn_hollowaybook_Book_growExits #[.pointer (some ⟨b_1, 0, none⟩)] w45 fun e47 w48 => ∃ s49 : Sl, e47 = .returned (s49.val) ∧
 Calls Try.prog fn_hollowaybook_markedTexts #[s34.val] w48 fun e50 w51 => ∃ b52 : Bool, e50 = .returned (.bool b52) ∧
 brB b52
 (∃ s53 : Sl, w51.cell? ⟨b_1, 0, none⟩ = some (s53.val) ∧
 Calls Try.prog fn_hollowaybook_markedTexts #[s53.val] w51 fun e54 w55 => ∃ b56 : Bool, e54 = .returned (.bool b56) ∧
 brB b56
 (Calls Try.prog fn_hollowaybook_markedInts #[s37.val] w55 fun e57 w58 => ∃ b59 : Bool, e57 = .returned (.bool b59) ∧
 brB b59
 (∃ s60 : Sl, w58.cell? ⟨b_1, 2, none⟩ = some (s60.val) ∧
 Calls Try.prog fn_hollowaybook_markedInts #[s60.val] w58 fun e61 w62 => ∃ b63 : Bool, e61 = .returned (.bool b63) ∧
 brB b63
 (Calls Try.prog fn_hollowaybook_markedWords #[s40.val] w62 fun e64 w65 => ∃ b66 : Bool, e64 = .returned (.bool b66) ∧
 brB b66
 (∃ s67 : Sl, w65.cell? ⟨b_1, 4, none⟩ = some (s67.val) ∧
 Calls Try.prog fn_hollowaybook_markedWords #[s67.val] w65 fun e68 w69 => ∃ b70 : Bool, e68 = .returned (.bool b70) ∧
 brB b70
 (Calls Try.prog fn_hollowaybook_markedSeens #[s43.val] w69 fun e71 w72 => ∃ b73 : Bool, e71 = .returned (.bool b73) ∧
 brB b73
 (∃ s74 : Sl, w72.cell? ⟨b_1, 6, none⟩ = some (s74.val) ∧
 Calls Try.prog fn_hollowaybook_markedSeens #[s74.val] w72 fun e75 w76 => ∃ b77 : Bool, e75 = .returned (.bool b77) ∧
 brB b77
 (Calls Try.prog fn_hollowaybook_markedCodes #[s46.val] w76 fun e78 w79 => ∃ b80 : Bool, e78 = .returned (.bool b80) ∧
 brB b80
 (∃ s81 : Sl, w79.cell? ⟨b_1, 8, none⟩ = some (s81.val) ∧
 Calls Try.prog fn_hollowaybook_markedCodes #[s81.val] w79 fun e82 w83 => ∃ b84 : Bool, e82 = .returned (.bool b84) ∧
 brB b84
 (Calls Try.prog fn_hollowaybook_markedExits #[s49.val] w83 fun e85 w86 => ∃ b87 : Bool, e85 = .returned (.bool b87) ∧
 brB b87
 (∃ s88 : Sl, w86.cell? ⟨b_1, 10, none⟩ = some (s88.val) ∧
 Calls Try.prog fn_hollowaybook_markedExits #[s88.val] w86 fun e89 w90 => ∃ b91 : Bool, e89 = .returned (.bool b91) ∧
 hollowaybook_Book_Apart_j1 b91 w90 K)
 (hollowaybook_Book_Apart_j1 false w86 K))
 (hollowaybook_Book_Apart_j1 false w83 K))
 (hollowaybook_Book_Apart_j1 false w79 K))
 (hollowaybook_Book_Apart_j1 false w76 K))
 (hollowaybook_Book_Apart_j1 false w72 K))
 (hollowaybook_Book_Apart_j1 false w69 K))
 (hollowaybook_Book_Apart_j1 false w65 K))
 (hollowaybook_Book_Apart_j1 false w62 K))
 (hollowaybook_Book_Apart_j1 false w58 K))
 (hollowaybook_Book_Apart_j1 false w55 K))
 (hollowaybook_Book_Apart_j1 false w51 K)))))))
def hollowaybook_Book_Apart_an : An := ⟨[], []⟩
theorem hollowaybook_Book_Apart_lift {b_1 : Nat} {w : World} {K : Value → World → Prop} (h : hollowaybook_Book_Apart_sh b_1 w K) : Calls Try.prog fn_hollowaybook_Book_Apart #[.pointer (some ⟨b_1, 0, none⟩)] w fun e w' => ∃ v, e = .returned v ∧ K v w' :=
   lift_calls (A := hollowaybook_Book_Apart_an) (c := bodyOf Try.f31) (args := [.pointer (some ⟨b_1, 0, none⟩)]) orc orc_wide Try.func31 (by kernel_rfl) (by kernel_rfl) (Eq.mp (by kernel_rfl : hollowaybook_Book_Apart_sh b_1 w K = wpc orc Try.f31.ntmps hollowaybook_Book_Apart_an (bodyOf Try.f31) (argl 0 [.pointer (some ⟨b_1, 0, none⟩)]) w (retQ orc Try.f31.results.toList K)) h)

-- holloway/cell.One
def cell_One_sh (op1 : Int) (a_2 : Int) (w : World) (K : Value → World → Prop) : Prop :=
 brB (op1 == (16 : Int))
 (K (.tuple #[.int .i64 (wr (0 - a_2)), .bool true]) w)
 (brB (op1 == (20 : Int))
 (K (.tuple #[.int .i64 (ixor .i64 (-1) a_2), .bool true]) w)
 (brB (op1 == (26 : Int))
 (Calls Try.prog fn_cell_Flag #[.bool (a_2 == (0 : Int))] w fun e3 w4 => ∃ n5 : Int, e3 = .returned (.int .i64 n5) ∧
 K (.tuple #[.int .i64 n5, .bool true]) w4)
 (brB (op1 == (27 : Int))
 (Calls Try.prog fn_cell_Flag #[.bool (decide (a_2 < (0 : Int)))] w fun e6 w7 => ∃ n8 : Int, e6 = .returned (.int .i64 n8) ∧
 K (.tuple #[.int .i64 n8, .bool true]) w7)
 (K (.tuple #[.int .i64 (0 : Int), .bool false]) w))))
def cell_One_an : An := ⟨[], []⟩
theorem cell_One_lift {op1 : Int} {a_2 : Int} {w : World} {K : Value → World → Prop} (h : cell_One_sh op1 a_2 w K) : Calls Try.prog fn_cell_One #[.int .i64 op1, .int .i64 a_2] w fun e w' => ∃ v, e = .returned v ∧ K v w' :=
   lift_calls (A := cell_One_an) (c := bodyOf Try.f32) (args := [.int .i64 op1, .int .i64 a_2]) orc orc_wide Try.func32 (by kernel_rfl) (by kernel_rfl) (Eq.mp (by kernel_rfl : cell_One_sh op1 a_2 w K = wpc orc Try.f32.ntmps cell_One_an (bodyOf Try.f32) (argl 0 [.int .i64 op1, .int .i64 a_2]) w (retQ orc Try.f32.results.toList K)) h)

-- holloway/cell.Flag
def cell_Flag_sh (is1 : Bool) (w : World) (K : Value → World → Prop) : Prop :=
 brB is1
 (K (.int .i64 (-1 : Int)) w)
 (K (.int .i64 (0 : Int)) w)
def cell_Flag_an : An := ⟨[], []⟩
theorem cell_Flag_lift {is1 : Bool} {w : World} {K : Value → World → Prop} (h : cell_Flag_sh is1 w K) : Calls Try.prog fn_cell_Flag #[.bool is1] w fun e w' => ∃ v, e = .returned v ∧ K v w' :=
   lift_calls (A := cell_Flag_an) (c := bodyOf Try.f33) (args := [.bool is1]) orc orc_wide Try.func33 (by kernel_rfl) (by kernel_rfl) (Eq.mp (by kernel_rfl : cell_Flag_sh is1 w K = wpc orc Try.f33.ntmps cell_Flag_an (bodyOf Try.f33) (argl 0 [.bool is1]) w (retQ orc Try.f33.results.toList K)) h)

-- holloway/hollowayref1.Two
def hollowayref1_Two_j1 (I1 : Int → Int → World → Prop) (k18 : Int) (μ1 : Int → Int → World → Nat) (x19 : Int) (w17 : World) (x30 : Int) (w20 : World) (K : Value → World → Prop) : Prop :=
 I1 x30 (wr (k18 + (1 : Int))) w20 ∧ μ1 x30 (wr (k18 + (1 : Int))) w20 < μ1 x19 k18 w17
def hollowayref1_Two_j2 (a_2 : Int) (b_3 : Int) (op1 : Int) (b16 : Bool) (w15 : World) (K : Value → World → Prop) : Prop :=
 brB b16
 (K (.tuple #[.int .i64 (0 : Int), .bool true]) w15)
 (∃ (I1 : Int → Int → World → Prop) (μ1 : Int → Int → World → Nat), I1 (IntKind.wrap .u64 a_2) (0 : Int) w15 ∧ ∀ (x19 : Int) (k18 : Int) (w17 : World), I1 x19 k18 w17 →
 brB (decide (k18 < b_3))
 (brB (op1 == (21 : Int))
 (hollowayref1_Two_j1 I1 k18 (μ1) x19 w17 (IntKind.wrap .u64 (x19 * (2 : Int))) w17 K)
 ((2 : Int) ≠ 0 ∧ hollowayref1_Two_j1 I1 k18 (μ1) x19 w17 (IntKind.wrap .u64 (Int.tdiv x19 (2 : Int))) w17 K))
 (K (.tuple #[.int .i64 (wr x19), .bool true]) w17))
def hollowayref1_Two_j3 (b_3 : Int) (a_2 : Int) (op1 : Int) (b14 : Bool) (w13 : World) (K : Value → World → Prop) : Prop :=
 brB b14
 (brB (decide (b_3 < (0 : Int)))
 (hollowayref1_Two_j2 a_2 b_3 op1 true w13 K)
 (hollowayref1_Two_j2 a_2 b_3 op1 (decide (b_3 > (63 : Int))) w13 K))
 (brB (op1 == (23 : Int))
 (Calls Try.prog fn_hollowayref1_Flag #[.bool (a_2 == b_3)] w13 fun e21 w22 => ∃ n23 : Int, e21 = .returned (.int .i64 n23) ∧
 K (.tuple #[.int .i64 n23, .bool true]) w22)
 (brB (op1 == (24 : Int))
 (Calls Try.prog fn_hollowayref1_Flag #[.bool (decide (a_2 < b_3))] w13 fun e24 w25 => ∃ n26 : Int, e24 = .returned (.int .i64 n26) ∧
 K (.tuple #[.int .i64 n26, .bool true]) w25)
 (brB (op1 == (25 : Int))
 (Calls Try.prog fn_hollowayref1_Flag #[.bool (decide ((IntKind.wrap .u64 a_2) < (IntKind.wrap .u64 b_3)))] w13 fun e27 w28 => ∃ n29 : Int, e27 = .returned (.int .i64 n29) ∧
 K (.tuple #[.int .i64 n29, .bool true]) w28)
 (brB (op1 == (28 : Int))
 (K (.tuple #[.int .i64 (imin a_2 b_3), .bool true]) w13)
 (K (.tuple #[.int .i64 (imax a_2 b_3), .bool true]) w13)))))
def hollowayref1_Two_j4 (b_3 : Int) (a_2 : Int) (op1 : Int) (b8 : Bool) (w7 : World) (K : Value → World → Prop) : Prop :=
 brB b8
 (brB (b_3 == (0 : Int))
 (K (.tuple #[.int .i64 (0 : Int), .bool false]) w7)
 (Calls Try.prog fn_hollowayref1_Floor #[.int .i64 a_2, .int .i64 b_3] w7 fun e9 w10 => ∃ n11 : Int, ∃ n12 : Int, e9 = .returned (.tuple #[.int .i64 n11, .int .i64 n12]) ∧
 brB (op1 == (14 : Int))
 (K (.tuple #[.int .i64 n11, .bool true]) w10)
 (K (.tuple #[.int .i64 n12, .bool true]) w10)))
 (brB (op1 == (17 : Int))
 (K (.tuple #[.int .i64 (iand .i64 a_2 b_3), .bool true]) w7)
 (brB (op1 == (18 : Int))
 (K (.tuple #[.int .i64 (ior .i64 a_2 b_3), .bool true]) w7)
 (brB (op1 == (19 : Int))
 (K (.tuple #[.int .i64 (ixor .i64 a_2 b_3), .bool true]) w7)
 (brB (op1 == (21 : Int))
 (hollowayref1_Two_j3 b_3 a_2 op1 (op1 == (21 : Int)) w7 K)
 (hollowayref1_Two_j3 b_3 a_2 op1 (op1 == (22 : Int)) w7 K)))))
def hollowayref1_Two_sh (op1 : Int) (a_2 : Int) (b_3 : Int) (w : World) (K : Value → World → Prop) : Prop :=
 Calls Try.prog fn_hollowayref1_IsTwo #[.int .i64 op1] w fun e4 w5 => ∃ b6 : Bool, e4 = .returned (.bool b6) ∧
 brB (!b6)
 (K (.tuple #[.int .i64 (0 : Int), .bool false]) w5)
 (brB (op1 == (11 : Int))
 (K (.tuple #[.int .i64 (wr (a_2 + b_3)), .bool true]) w5)
 (brB (op1 == (12 : Int))
 (K (.tuple #[.int .i64 (wr (a_2 - b_3)), .bool true]) w5)
 (brB (op1 == (13 : Int))
 (K (.tuple #[.int .i64 (wr (a_2 * b_3)), .bool true]) w5)
 (brB (op1 == (14 : Int))
 (hollowayref1_Two_j4 b_3 a_2 op1 (op1 == (14 : Int)) w5 K)
 (hollowayref1_Two_j4 b_3 a_2 op1 (op1 == (15 : Int)) w5 K)))))
def hollowayref1_Two_an : An := ⟨[(30, [(10, .int .u64), (11, .int .i64)])], []⟩
theorem hollowayref1_Two_lift {op1 : Int} {a_2 : Int} {b_3 : Int} {w : World} {K : Value → World → Prop} (h : hollowayref1_Two_sh op1 a_2 b_3 w K) : Calls Try.prog fn_hollowayref1_Two #[.int .i64 op1, .int .i64 a_2, .int .i64 b_3] w fun e w' => ∃ v, e = .returned v ∧ K v w' :=
   lift_calls (A := hollowayref1_Two_an) (c := bodyOf Try.f34) (args := [.int .i64 op1, .int .i64 a_2, .int .i64 b_3]) orc orc_wide Try.func34 (by kernel_rfl) (by kernel_rfl) (Eq.mp (by kernel_rfl : hollowayref1_Two_sh op1 a_2 b_3 w K = wpc orc Try.f34.ntmps hollowayref1_Two_an (bodyOf Try.f34) (argl 0 [.int .i64 op1, .int .i64 a_2, .int .i64 b_3]) w (retQ orc Try.f34.results.toList K)) h)

-- holloway/hollowayref1.One
def hollowayref1_One_sh (op1 : Int) (a_2 : Int) (w : World) (K : Value → World → Prop) : Prop :=
 brB (op1 == (16 : Int))
 (K (.tuple #[.int .i64 (wr (0 - a_2)), .bool true]) w)
 (brB (op1 == (20 : Int))
 (K (.tuple #[.int .i64 (wr ((-1 : Int) - a_2)), .bool true]) w)
 (brB (op1 == (26 : Int))
 (Calls Try.prog fn_hollowayref1_Flag #[.bool (a_2 == (0 : Int))] w fun e3 w4 => ∃ n5 : Int, e3 = .returned (.int .i64 n5) ∧
 K (.tuple #[.int .i64 n5, .bool true]) w4)
 (brB (op1 == (27 : Int))
 (Calls Try.prog fn_hollowayref1_Flag #[.bool (decide (a_2 < (0 : Int)))] w fun e6 w7 => ∃ n8 : Int, e6 = .returned (.int .i64 n8) ∧
 K (.tuple #[.int .i64 n8, .bool true]) w7)
 (K (.tuple #[.int .i64 (0 : Int), .bool false]) w))))
def hollowayref1_One_an : An := ⟨[], []⟩
theorem hollowayref1_One_lift {op1 : Int} {a_2 : Int} {w : World} {K : Value → World → Prop} (h : hollowayref1_One_sh op1 a_2 w K) : Calls Try.prog fn_hollowayref1_One #[.int .i64 op1, .int .i64 a_2] w fun e w' => ∃ v, e = .returned v ∧ K v w' :=
   lift_calls (A := hollowayref1_One_an) (c := bodyOf Try.f35) (args := [.int .i64 op1, .int .i64 a_2]) orc orc_wide Try.func35 (by kernel_rfl) (by kernel_rfl) (Eq.mp (by kernel_rfl : hollowayref1_One_sh op1 a_2 w K = wpc orc Try.f35.ntmps hollowayref1_One_an (bodyOf Try.f35) (argl 0 [.int .i64 op1, .int .i64 a_2]) w (retQ orc Try.f35.results.toList K)) h)

-- holloway/hollowayref1.Floor
def hollowayref1_Floor_j1 (a_1 : Int) (b_2 : Int) (b4 : Bool) (w3 : World) (K : Value → World → Prop) : Prop :=
 brB b4
 (K (.tuple #[.int .i64 (wr ((wr (Int.tdiv a_1 b_2)) - (1 : Int))), .int .i64 (wr ((wr (a_1 - (wr ((wr (Int.tdiv a_1 b_2)) * b_2)))) + b_2))]) w3)
 (K (.tuple #[.int .i64 (wr (Int.tdiv a_1 b_2)), .int .i64 (wr (a_1 - (wr ((wr (Int.tdiv a_1 b_2)) * b_2))))]) w3)
def hollowayref1_Floor_sh (a_1 : Int) (b_2 : Int) (w : World) (K : Value → World → Prop) : Prop :=
 b_2 ≠ 0 ∧ brB ((wr (a_1 - (wr ((wr (Int.tdiv a_1 b_2)) * b_2)))) != (0 : Int))
 (hollowayref1_Floor_j1 a_1 b_2 (!((decide ((wr (a_1 - (wr ((wr (Int.tdiv a_1 b_2)) * b_2)))) < (0 : Int))) == (decide (b_2 < (0 : Int))))) w K)
 (hollowayref1_Floor_j1 a_1 b_2 false w K)
def hollowayref1_Floor_an : An := ⟨[], []⟩
theorem hollowayref1_Floor_lift {a_1 : Int} {b_2 : Int} {w : World} {K : Value → World → Prop} (h : hollowayref1_Floor_sh a_1 b_2 w K) : Calls Try.prog fn_hollowayref1_Floor #[.int .i64 a_1, .int .i64 b_2] w fun e w' => ∃ v, e = .returned v ∧ K v w' :=
   lift_calls (A := hollowayref1_Floor_an) (c := bodyOf Try.f36) (args := [.int .i64 a_1, .int .i64 b_2]) orc orc_wide Try.func36 (by kernel_rfl) (by kernel_rfl) (Eq.mp (by kernel_rfl : hollowayref1_Floor_sh a_1 b_2 w K = wpc orc Try.f36.ntmps hollowayref1_Floor_an (bodyOf Try.f36) (argl 0 [.int .i64 a_1, .int .i64 b_2]) w (retQ orc Try.f36.results.toList K)) h)

-- holloway/hollowayref1.Crosses
def hollowayref1_Crosses_sh (x_1 : Int) (n_2 : Int) (w : World) (K : Value → World → Prop) : Prop :=
 K (.bool (decide ((iand .i64 (ixor .i64 x_1 (wr (x_1 + n_2))) (ixor .i64 x_1 n_2)) < (0 : Int)))) w
def hollowayref1_Crosses_an : An := ⟨[], []⟩
theorem hollowayref1_Crosses_lift {x_1 : Int} {n_2 : Int} {w : World} {K : Value → World → Prop} (h : hollowayref1_Crosses_sh x_1 n_2 w K) : Calls Try.prog fn_hollowayref1_Crosses #[.int .i64 x_1, .int .i64 n_2] w fun e w' => ∃ v, e = .returned v ∧ K v w' :=
   lift_calls (A := hollowayref1_Crosses_an) (c := bodyOf Try.f37) (args := [.int .i64 x_1, .int .i64 n_2]) orc orc_wide Try.func37 (by kernel_rfl) (by kernel_rfl) (Eq.mp (by kernel_rfl : hollowayref1_Crosses_sh x_1 n_2 w K = wpc orc Try.f37.ntmps hollowayref1_Crosses_an (bodyOf Try.f37) (argl 0 [.int .i64 x_1, .int .i64 n_2]) w (retQ orc Try.f37.results.toList K)) h)

-- slices.Clone[[]int,int]
def slices_Clone_sl_int_int_sh (s_1 : Sl) (w : World) (K : Value → World → Prop) : Prop :=
 brB (Option.isNone s_1.ptr)
 (K (.slice none 0 0) w)
 (∀ (b2 : Nat) (w3 : World), b2 = w.heap.size → w3 = World.alloc w (.cells #[] T_int) →
 ∃ s4 : Sl, ∃ w5 : World, (Builtin.append_ #[T_sl_int, T_sl_int] T_sl_int #[.slice (some ⟨b2, 0, none⟩) 0 0, s_1.val]).run Try.prog w3 = .ok (s4.val) w5 ∧
 K (s4.val) w5)
def slices_Clone_sl_int_int_an : An := ⟨[], []⟩
theorem slices_Clone_sl_int_int_lift {s_1 : Sl} {w : World} {K : Value → World → Prop} (h : slices_Clone_sl_int_int_sh s_1 w K) : Calls Try.prog fn_slices_Clone_sl_int_int #[s_1.val] w fun e w' => ∃ v, e = .returned v ∧ K v w' :=
   lift_calls (A := slices_Clone_sl_int_int_an) (c := bodyOf Try.f38) (args := [s_1.val]) orc orc_wide Try.func38 (by kernel_rfl) (by kernel_rfl) (Eq.mp (by kernel_rfl : slices_Clone_sl_int_int_sh s_1 w K = wpc orc Try.f38.ntmps slices_Clone_sl_int_int_an (bodyOf Try.f38) (argl 0 [s_1.val]) w (retQ orc Try.f38.results.toList K)) h)

-- holloway/cell.shift
def cell_shift_j1 (op1 : Int) (b_3 : Int) (a_2 : Int) (b5 : Bool) (w4 : World) (K : Value → World → Prop) : Prop :=
 brB b5
 (K (.int .i64 (0 : Int)) w4)
 (brB (op1 == (21 : Int))
 (0 ≤ (IntKind.wrap .u64 b_3) ∧ K (.int .i64 (ishl .i64 a_2 (IntKind.wrap .u64 b_3))) w4)
 (0 ≤ (IntKind.wrap .u64 b_3) ∧ K (.int .i64 (wr (ishr .u64 (IntKind.wrap .u64 a_2) (IntKind.wrap .u64 b_3)))) w4))
def cell_shift_sh (op1 : Int) (a_2 : Int) (b_3 : Int) (w : World) (K : Value → World → Prop) : Prop :=
 brB (decide (b_3 < (0 : Int)))
 (cell_shift_j1 op1 b_3 a_2 true w K)
 (cell_shift_j1 op1 b_3 a_2 (decide (b_3 ≥ (64 : Int))) w K)
def cell_shift_an : An := ⟨[], []⟩
theorem cell_shift_lift {op1 : Int} {a_2 : Int} {b_3 : Int} {w : World} {K : Value → World → Prop} (h : cell_shift_sh op1 a_2 b_3 w K) : Calls Try.prog fn_cell_shift #[.int .i64 op1, .int .i64 a_2, .int .i64 b_3] w fun e w' => ∃ v, e = .returned v ∧ K v w' :=
   lift_calls (A := cell_shift_an) (c := bodyOf Try.f39) (args := [.int .i64 op1, .int .i64 a_2, .int .i64 b_3]) orc orc_wide Try.func39 (by kernel_rfl) (by kernel_rfl) (Eq.mp (by kernel_rfl : cell_shift_sh op1 a_2 b_3 w K = wpc orc Try.f39.ntmps cell_shift_an (bodyOf Try.f39) (argl 0 [.int .i64 op1, .int .i64 a_2, .int .i64 b_3]) w (retQ orc Try.f39.results.toList K)) h)

-- holloway/cell.compare
def cell_compare_sh (op1 : Int) (a_2 : Int) (b_3 : Int) (w : World) (K : Value → World → Prop) : Prop :=
 brB (op1 == (23 : Int))
 (Calls Try.prog fn_cell_Flag #[.bool (a_2 == b_3)] w fun e4 w5 => ∃ n6 : Int, e4 = .returned (.int .i64 n6) ∧
 K (.int .i64 n6) w5)
 (brB (op1 == (24 : Int))
 (Calls Try.prog fn_cell_Flag #[.bool (decide (a_2 < b_3))] w fun e7 w8 => ∃ n9 : Int, e7 = .returned (.int .i64 n9) ∧
 K (.int .i64 n9) w8)
 (Calls Try.prog fn_cell_Flag #[.bool (decide ((IntKind.wrap .u64 a_2) < (IntKind.wrap .u64 b_3)))] w fun e10 w11 => ∃ n12 : Int, e10 = .returned (.int .i64 n12) ∧
 K (.int .i64 n12) w11))
def cell_compare_an : An := ⟨[], []⟩
theorem cell_compare_lift {op1 : Int} {a_2 : Int} {b_3 : Int} {w : World} {K : Value → World → Prop} (h : cell_compare_sh op1 a_2 b_3 w K) : Calls Try.prog fn_cell_compare #[.int .i64 op1, .int .i64 a_2, .int .i64 b_3] w fun e w' => ∃ v, e = .returned v ∧ K v w' :=
   lift_calls (A := cell_compare_an) (c := bodyOf Try.f40) (args := [.int .i64 op1, .int .i64 a_2, .int .i64 b_3]) orc orc_wide Try.func40 (by kernel_rfl) (by kernel_rfl) (Eq.mp (by kernel_rfl : cell_compare_sh op1 a_2 b_3 w K = wpc orc Try.f40.ntmps cell_compare_an (bodyOf Try.f40) (argl 0 [.int .i64 op1, .int .i64 a_2, .int .i64 b_3]) w (retQ orc Try.f40.results.toList K)) h)

-- holloway/hollowaybook.copyInts
def hollowaybook_copyInts_sh (l_1 : Sl) (w : World) (K : Value → World → Prop) : Prop :=
 ∃ s2 : Sl, ∃ w3 : World, (Builtin.append_ #[T_sl_int, T_sl_int] T_sl_int #[.slice none 0 0, l_1.val]).run Try.prog w = .ok (s2.val) w3 ∧
 K (s2.val) w3
def hollowaybook_copyInts_an : An := ⟨[], []⟩
theorem hollowaybook_copyInts_lift {l_1 : Sl} {w : World} {K : Value → World → Prop} (h : hollowaybook_copyInts_sh l_1 w K) : Calls Try.prog fn_hollowaybook_copyInts #[l_1.val] w fun e w' => ∃ v, e = .returned v ∧ K v w' :=
   lift_calls (A := hollowaybook_copyInts_an) (c := bodyOf Try.f41) (args := [l_1.val]) orc orc_wide Try.func41 (by kernel_rfl) (by kernel_rfl) (Eq.mp (by kernel_rfl : hollowaybook_copyInts_sh l_1 w K = wpc orc Try.f41.ntmps hollowaybook_copyInts_an (bodyOf Try.f41) (argl 0 [l_1.val]) w (retQ orc Try.f41.results.toList K)) h)

-- (*holloway/pile.Pile).place
def pile_Pile_place_j1 (p_1 : Nat) (k_2 : Int) (b5 : Bool) (w4 : World) (K : Value → World → Prop) : Prop :=
 brB b5
 (K (.int .i64 (-1 : Int)) w4)
 (∃ s6 : Sl, w4.cell? ⟨p_1, 1, none⟩ = some (s6.val) ∧
 K (.int .i64 (wr ((wr ((s6.len : Int) - (1 : Int))) - k_2))) w4)
def pile_Pile_place_sh (p_1 : Nat) (k_2 : Int) (w : World) (K : Value → World → Prop) : Prop :=
 brB (decide (k_2 < (0 : Int)))
 (pile_Pile_place_j1 p_1 k_2 true w K)
 (∃ s3 : Sl, w.cell? ⟨p_1, 1, none⟩ = some (s3.val) ∧
 pile_Pile_place_j1 p_1 k_2 (decide (k_2 ≥ (s3.len : Int))) w K)
def pile_Pile_place_an : An := ⟨[], []⟩
theorem pile_Pile_place_lift {p_1 : Nat} {k_2 : Int} {w : World} {K : Value → World → Prop} (h : pile_Pile_place_sh p_1 k_2 w K) : Calls Try.prog fn_pile_Pile_place #[.pointer (some ⟨p_1, 0, none⟩), .int .i64 k_2] w fun e w' => ∃ v, e = .returned v ∧ K v w' :=
   lift_calls (A := pile_Pile_place_an) (c := bodyOf Try.f42) (args := [.pointer (some ⟨p_1, 0, none⟩), .int .i64 k_2]) orc orc_wide Try.func42 (by kernel_rfl) (by kernel_rfl) (Eq.mp (by kernel_rfl : pile_Pile_place_sh p_1 k_2 w K = wpc orc Try.f42.ntmps pile_Pile_place_an (bodyOf Try.f42) (argl 0 [.pointer (some ⟨p_1, 0, none⟩), .int .i64 k_2]) w (retQ orc Try.f42.results.toList K)) h)

-- (*holloway/hollowaybook.Book).stillTexts
def hollowaybook_Book_stillTexts_sh (b_1 : Nat) (w : World) (K : Value → World → Prop) : Prop :=
 ∃ (I1 : Int → World → Prop) (μ1 : Int → World → Nat), I1 (0 : Int) w ∧ ∀ (i3 : Int) (w2 : World), I1 i3 w2 →
 ∃ s4 : Sl, w2.cell? ⟨b_1, 0, none⟩ = some (s4.val) ∧
 brB (decide (i3 < (s4.len : Int)))
 (∀ w5 : World, w5 = World.drew w2 →
 ∃ s6 : Sl, held (Lw w5) ⟨b_1, 0, none⟩ (s6.val) ∧
 ∃ a7 : Addr, s6.ptr = some a7 ∧ 0 ≤ i3 ∧ i3 < (s6.len : Int) ∧
 ∃ s8 : Sl, held (Lw w5) (Addr.add a7 (Int.toNat i3 * 1)) (s8.val) ∧
 ∃ s9 : Sl, held (Lw w5) ⟨b_1, 1, none⟩ (s9.val) ∧
 ∃ a10 : Addr, s9.ptr = some a10 ∧ 0 ≤ i3 ∧ i3 < (s9.len : Int) ∧
 ∃ s11 : Sl, held (Lw w5) (Addr.add a10 (Int.toNat i3 * 1)) (s11.val) ∧
 Calls Try.prog fn_hollowaybook_SameTexts #[s8.val, s11.val] w5 fun e12 w13 => ∃ b14 : Bool, e12 = .returned (.bool b14) ∧
 brB (!b14)
 (K (.bool false) w13)
 (I1 (wr (i3 + (1 : Int))) w13 ∧ μ1 (wr (i3 + (1 : Int))) w13 < μ1 i3 w2))
 (K (.bool true) w2)
def hollowaybook_Book_stillTexts_an : An := ⟨[(2, [(3, .int .i64)])], [(4, (14, .st 0 (.st 1 (.st 2 (.st 3 (.st 4 (.st 5 (.st 6 (.st 7 (.st 8 (.st 9 (.st 10 (.st 11 (.st 12 (.st 13 .done))))))))))))), 0))]⟩
theorem hollowaybook_Book_stillTexts_lift {b_1 : Nat} {w : World} {K : Value → World → Prop} (h : hollowaybook_Book_stillTexts_sh b_1 w K) : Calls Try.prog fn_hollowaybook_Book_stillTexts #[.pointer (some ⟨b_1, 0, none⟩)] w fun e w' => ∃ v, e = .returned v ∧ K v w' :=
   lift_calls (A := hollowaybook_Book_stillTexts_an) (c := bodyOf Try.f43) (args := [.pointer (some ⟨b_1, 0, none⟩)]) orc orc_wide Try.func43 (by kernel_rfl) (by kernel_rfl) (Eq.mp (by kernel_rfl : hollowaybook_Book_stillTexts_sh b_1 w K = wpc orc Try.f43.ntmps hollowaybook_Book_stillTexts_an (bodyOf Try.f43) (argl 0 [.pointer (some ⟨b_1, 0, none⟩)]) w (retQ orc Try.f43.results.toList K)) h)

-- (*holloway/hollowaybook.Book).stillInts
def hollowaybook_Book_stillInts_sh (b_1 : Nat) (w : World) (K : Value → World → Prop) : Prop :=
 ∃ (I1 : Int → World → Prop) (μ1 : Int → World → Nat), I1 (0 : Int) w ∧ ∀ (i3 : Int) (w2 : World), I1 i3 w2 →
 ∃ s4 : Sl, w2.cell? ⟨b_1, 2, none⟩ = some (s4.val) ∧
 brB (decide (i3 < (s4.len : Int)))
 (∀ w5 : World, w5 = World.drew w2 →
 ∃ s6 : Sl, held (Lw w5) ⟨b_1, 2, none⟩ (s6.val) ∧
 ∃ a7 : Addr, s6.ptr = some a7 ∧ 0 ≤ i3 ∧ i3 < (s6.len : Int) ∧
 ∃ s8 : Sl, held (Lw w5) (Addr.add a7 (Int.toNat i3 * 1)) (s8.val) ∧
 ∃ s9 : Sl, held (Lw w5) ⟨b_1, 3, none⟩ (s9.val) ∧
 ∃ a10 : Addr, s9.ptr = some a10 ∧ 0 ≤ i3 ∧ i3 < (s9.len : Int) ∧
 ∃ s11 : Sl, held (Lw w5) (Addr.add a10 (Int.toNat i3 * 1)) (s11.val) ∧
 Calls Try.prog fn_hollowaybook_SameInts #[s8.val, s11.val] w5 fun e12 w13 => ∃ b14 : Bool, e12 = .returned (.bool b14) ∧
 brB (!b14)
 (K (.bool false) w13)
 (I1 (wr (i3 + (1 : Int))) w13 ∧ μ1 (wr (i3 + (1 : Int))) w13 < μ1 i3 w2))
 (K (.bool true) w2)
def hollowaybook_Book_stillInts_an : An := ⟨[(2, [(3, .int .i64)])], [(4, (14, .st 0 (.st 1 (.st 2 (.st 3 (.st 4 (.st 5 (.st 6 (.st 7 (.st 8 (.st 9 (.st 10 (.st 11 (.st 12 (.st 13 .done))))))))))))), 0))]⟩
theorem hollowaybook_Book_stillInts_lift {b_1 : Nat} {w : World} {K : Value → World → Prop} (h : hollowaybook_Book_stillInts_sh b_1 w K) : Calls Try.prog fn_hollowaybook_Book_stillInts #[.pointer (some ⟨b_1, 0, none⟩)] w fun e w' => ∃ v, e = .returned v ∧ K v w' :=
   lift_calls (A := hollowaybook_Book_stillInts_an) (c := bodyOf Try.f44) (args := [.pointer (some ⟨b_1, 0, none⟩)]) orc orc_wide Try.func44 (by kernel_rfl) (by kernel_rfl) (Eq.mp (by kernel_rfl : hollowaybook_Book_stillInts_sh b_1 w K = wpc orc Try.f44.ntmps hollowaybook_Book_stillInts_an (bodyOf Try.f44) (argl 0 [.pointer (some ⟨b_1, 0, none⟩)]) w (retQ orc Try.f44.results.toList K)) h)

-- (*holloway/hollowaybook.Book).stillWords
def hollowaybook_Book_stillWords_sh (b_1 : Nat) (w : World) (K : Value → World → Prop) : Prop :=
 ∃ (I1 : Int → World → Prop) (μ1 : Int → World → Nat), I1 (0 : Int) w ∧ ∀ (i3 : Int) (w2 : World), I1 i3 w2 →
 ∃ s4 : Sl, w2.cell? ⟨b_1, 4, none⟩ = some (s4.val) ∧
 brB (decide (i3 < (s4.len : Int)))
 (∀ w5 : World, w5 = World.drew w2 →
 ∃ s6 : Sl, held (Lw w5) ⟨b_1, 4, none⟩ (s6.val) ∧
 ∃ a7 : Addr, s6.ptr = some a7 ∧ 0 ≤ i3 ∧ i3 < (s6.len : Int) ∧
 ∃ s8 : Sl, held (Lw w5) (Addr.add a7 (Int.toNat i3 * 1)) (s8.val) ∧
 ∃ s9 : Sl, held (Lw w5) ⟨b_1, 5, none⟩ (s9.val) ∧
 ∃ a10 : Addr, s9.ptr = some a10 ∧ 0 ≤ i3 ∧ i3 < (s9.len : Int) ∧
 ∃ s11 : Sl, held (Lw w5) (Addr.add a10 (Int.toNat i3 * 1)) (s11.val) ∧
 Calls Try.prog fn_hollowaybook_SameWords #[s8.val, s11.val] w5 fun e12 w13 => ∃ b14 : Bool, e12 = .returned (.bool b14) ∧
 brB (!b14)
 (K (.bool false) w13)
 (I1 (wr (i3 + (1 : Int))) w13 ∧ μ1 (wr (i3 + (1 : Int))) w13 < μ1 i3 w2))
 (K (.bool true) w2)
def hollowaybook_Book_stillWords_an : An := ⟨[(2, [(3, .int .i64)])], [(4, (14, .st 0 (.st 1 (.st 2 (.st 3 (.st 4 (.st 5 (.st 6 (.st 7 (.st 8 (.st 9 (.st 10 (.st 11 (.st 12 (.st 13 .done))))))))))))), 0))]⟩
theorem hollowaybook_Book_stillWords_lift {b_1 : Nat} {w : World} {K : Value → World → Prop} (h : hollowaybook_Book_stillWords_sh b_1 w K) : Calls Try.prog fn_hollowaybook_Book_stillWords #[.pointer (some ⟨b_1, 0, none⟩)] w fun e w' => ∃ v, e = .returned v ∧ K v w' :=
   lift_calls (A := hollowaybook_Book_stillWords_an) (c := bodyOf Try.f45) (args := [.pointer (some ⟨b_1, 0, none⟩)]) orc orc_wide Try.func45 (by kernel_rfl) (by kernel_rfl) (Eq.mp (by kernel_rfl : hollowaybook_Book_stillWords_sh b_1 w K = wpc orc Try.f45.ntmps hollowaybook_Book_stillWords_an (bodyOf Try.f45) (argl 0 [.pointer (some ⟨b_1, 0, none⟩)]) w (retQ orc Try.f45.results.toList K)) h)

-- (*holloway/hollowaybook.Book).stillSeens
def hollowaybook_Book_stillSeens_sh (b_1 : Nat) (w : World) (K : Value → World → Prop) : Prop :=
 ∃ (I1 : Int → World → Prop) (μ1 : Int → World → Nat), I1 (0 : Int) w ∧ ∀ (i3 : Int) (w2 : World), I1 i3 w2 →
 ∃ s4 : Sl, w2.cell? ⟨b_1, 6, none⟩ = some (s4.val) ∧
 brB (decide (i3 < (s4.len : Int)))
 (∀ w5 : World, w5 = World.drew w2 →
 ∃ s6 : Sl, held (Lw w5) ⟨b_1, 6, none⟩ (s6.val) ∧
 ∃ a7 : Addr, s6.ptr = some a7 ∧ 0 ≤ i3 ∧ i3 < (s6.len : Int) ∧
 ∃ s8 : Sl, held (Lw w5) (Addr.add a7 (Int.toNat i3 * 1)) (s8.val) ∧
 ∃ s9 : Sl, held (Lw w5) ⟨b_1, 7, none⟩ (s9.val) ∧
 ∃ a10 : Addr, s9.ptr = some a10 ∧ 0 ≤ i3 ∧ i3 < (s9.len : Int) ∧
 ∃ s11 : Sl, held (Lw w5) (Addr.add a10 (Int.toNat i3 * 1)) (s11.val) ∧
 Calls Try.prog fn_hollowaybook_SameSeens #[s8.val, s11.val] w5 fun e12 w13 => ∃ b14 : Bool, e12 = .returned (.bool b14) ∧
 brB (!b14)
 (K (.bool false) w13)
 (I1 (wr (i3 + (1 : Int))) w13 ∧ μ1 (wr (i3 + (1 : Int))) w13 < μ1 i3 w2))
 (K (.bool true) w2)
def hollowaybook_Book_stillSeens_an : An := ⟨[(2, [(3, .int .i64)])], [(4, (14, .st 0 (.st 1 (.st 2 (.st 3 (.st 4 (.st 5 (.st 6 (.st 7 (.st 8 (.st 9 (.st 10 (.st 11 (.st 12 (.st 13 .done))))))))))))), 0))]⟩
theorem hollowaybook_Book_stillSeens_lift {b_1 : Nat} {w : World} {K : Value → World → Prop} (h : hollowaybook_Book_stillSeens_sh b_1 w K) : Calls Try.prog fn_hollowaybook_Book_stillSeens #[.pointer (some ⟨b_1, 0, none⟩)] w fun e w' => ∃ v, e = .returned v ∧ K v w' :=
   lift_calls (A := hollowaybook_Book_stillSeens_an) (c := bodyOf Try.f46) (args := [.pointer (some ⟨b_1, 0, none⟩)]) orc orc_wide Try.func46 (by kernel_rfl) (by kernel_rfl) (Eq.mp (by kernel_rfl : hollowaybook_Book_stillSeens_sh b_1 w K = wpc orc Try.f46.ntmps hollowaybook_Book_stillSeens_an (bodyOf Try.f46) (argl 0 [.pointer (some ⟨b_1, 0, none⟩)]) w (retQ orc Try.f46.results.toList K)) h)

-- (*holloway/hollowaybook.Book).stillCodes
def hollowaybook_Book_stillCodes_sh (b_1 : Nat) (w : World) (K : Value → World → Prop) : Prop :=
 ∃ (I1 : Int → World → Prop) (μ1 : Int → World → Nat), I1 (0 : Int) w ∧ ∀ (i3 : Int) (w2 : World), I1 i3 w2 →
 ∃ s4 : Sl, w2.cell? ⟨b_1, 8, none⟩ = some (s4.val) ∧
 brB (decide (i3 < (s4.len : Int)))
 (∀ w5 : World, w5 = World.drew w2 →
 ∃ s6 : Sl, held (Lw w5) ⟨b_1, 8, none⟩ (s6.val) ∧
 ∃ a7 : Addr, s6.ptr = some a7 ∧ 0 ≤ i3 ∧ i3 < (s6.len : Int) ∧
 ∃ s8 : Sl, held (Lw w5) (Addr.add a7 (Int.toNat i3 * 1)) (s8.val) ∧
 ∃ s9 : Sl, held (Lw w5) ⟨b_1, 9, none⟩ (s9.val) ∧
 ∃ a10 : Addr, s9.ptr = some a10 ∧ 0 ≤ i3 ∧ i3 < (s9.len : Int) ∧
 ∃ s11 : Sl, held (Lw w5) (Addr.add a10 (Int.toNat i3 * 1)) (s11.val) ∧
 Calls Try.prog fn_hollowaybook_SameCodes #[s8.val, s11.val] w5 fun e12 w13 => ∃ b14 : Bool, e12 = .returned (.bool b14) ∧
 brB (!b14)
 (K (.bool false) w13)
 (I1 (wr (i3 + (1 : Int))) w13 ∧ μ1 (wr (i3 + (1 : Int))) w13 < μ1 i3 w2))
 (K (.bool true) w2)
def hollowaybook_Book_stillCodes_an : An := ⟨[(2, [(3, .int .i64)])], [(4, (14, .st 0 (.st 1 (.st 2 (.st 3 (.st 4 (.st 5 (.st 6 (.st 7 (.st 8 (.st 9 (.st 10 (.st 11 (.st 12 (.st 13 .done))))))))))))), 0))]⟩
theorem hollowaybook_Book_stillCodes_lift {b_1 : Nat} {w : World} {K : Value → World → Prop} (h : hollowaybook_Book_stillCodes_sh b_1 w K) : Calls Try.prog fn_hollowaybook_Book_stillCodes #[.pointer (some ⟨b_1, 0, none⟩)] w fun e w' => ∃ v, e = .returned v ∧ K v w' :=
   lift_calls (A := hollowaybook_Book_stillCodes_an) (c := bodyOf Try.f47) (args := [.pointer (some ⟨b_1, 0, none⟩)]) orc orc_wide Try.func47 (by kernel_rfl) (by kernel_rfl) (Eq.mp (by kernel_rfl : hollowaybook_Book_stillCodes_sh b_1 w K = wpc orc Try.f47.ntmps hollowaybook_Book_stillCodes_an (bodyOf Try.f47) (argl 0 [.pointer (some ⟨b_1, 0, none⟩)]) w (retQ orc Try.f47.results.toList K)) h)

-- (*holloway/hollowaybook.Book).stillExits
def hollowaybook_Book_stillExits_sh (b_1 : Nat) (w : World) (K : Value → World → Prop) : Prop :=
 ∃ (I1 : Int → World → Prop) (μ1 : Int → World → Nat), I1 (0 : Int) w ∧ ∀ (i3 : Int) (w2 : World), I1 i3 w2 →
 ∃ s4 : Sl, w2.cell? ⟨b_1, 10, none⟩ = some (s4.val) ∧
 brB (decide (i3 < (s4.len : Int)))
 (∀ w5 : World, w5 = World.drew w2 →
 ∃ s6 : Sl, held (Lw w5) ⟨b_1, 10, none⟩ (s6.val) ∧
 ∃ a7 : Addr, s6.ptr = some a7 ∧ 0 ≤ i3 ∧ i3 < (s6.len : Int) ∧
 ∃ s8 : Sl, held (Lw w5) (Addr.add a7 (Int.toNat i3 * 1)) (s8.val) ∧
 ∃ s9 : Sl, held (Lw w5) ⟨b_1, 11, none⟩ (s9.val) ∧
 ∃ a10 : Addr, s9.ptr = some a10 ∧ 0 ≤ i3 ∧ i3 < (s9.len : Int) ∧
 ∃ s11 : Sl, held (Lw w5) (Addr.add a10 (Int.toNat i3 * 1)) (s11.val) ∧
 Calls Try.prog fn_hollowaybook_SameExits #[s8.val, s11.val] w5 fun e12 w13 => ∃ b14 : Bool, e12 = .returned (.bool b14) ∧
 brB (!b14)
 (K (.bool false) w13)
 (I1 (wr (i3 + (1 : Int))) w13 ∧ μ1 (wr (i3 + (1 : Int))) w13 < μ1 i3 w2))
 (K (.bool true) w2)
def hollowaybook_Book_stillExits_an : An := ⟨[(2, [(3, .int .i64)])], [(4, (14, .st 0 (.st 1 (.st 2 (.st 3 (.st 4 (.st 5 (.st 6 (.st 7 (.st 8 (.st 9 (.st 10 (.st 11 (.st 12 (.st 13 .done))))))))))))), 0))]⟩
theorem hollowaybook_Book_stillExits_lift {b_1 : Nat} {w : World} {K : Value → World → Prop} (h : hollowaybook_Book_stillExits_sh b_1 w K) : Calls Try.prog fn_hollowaybook_Book_stillExits #[.pointer (some ⟨b_1, 0, none⟩)] w fun e w' => ∃ v, e = .returned v ∧ K v w' :=
   lift_calls (A := hollowaybook_Book_stillExits_an) (c := bodyOf Try.f48) (args := [.pointer (some ⟨b_1, 0, none⟩)]) orc orc_wide Try.func48 (by kernel_rfl) (by kernel_rfl) (Eq.mp (by kernel_rfl : hollowaybook_Book_stillExits_sh b_1 w K = wpc orc Try.f48.ntmps hollowaybook_Book_stillExits_an (bodyOf Try.f48) (argl 0 [.pointer (some ⟨b_1, 0, none⟩)]) w (retQ orc Try.f48.results.toList K)) h)

-- (*holloway/hollowaybook.Book).putExits
def hollowaybook_Book_putExits_sh (b_1 : Nat) (w : World) (K : Value → World → Prop) : Prop :=
 ∃ (I1 : Int → World → Prop) (μ1 : Int → World → Nat), I1 (0 : Int) w ∧ ∀ (i3 : Int) (w2 : World), I1 i3 w2 →
 ∃ s4 : Sl, w2.cell? ⟨b_1, 10, none⟩ = some (s4.val) ∧
 brB (decide (i3 < (s4.len : Int)))
 (∃ s5 : Sl, w2.cell? ⟨b_1, 10, none⟩ = some (s5.val) ∧
 ∃ a6 : Addr, s5.ptr = some a6 ∧ 0 ≤ i3 ∧ i3 < (s5.len : Int) ∧
 ∃ s7 : Sl, w2.cell? (Addr.add a6 (Int.toNat i3 * 1)) = some (s7.val) ∧
 Calls Try.prog fn_hollowaybook_markExits #[.int .i64 i3, .int .i64 (0 : Int), .int .i64 (s7.len : Int)] w2 fun e8 w9 => ∃ s10 : Sl, e8 = .returned (s10.val) ∧
 ∃ (I2 : Int → World → Prop) (μ2 : Int → World → Nat), I2 (0 : Int) w9 ∧ ∀ (k12 : Int) (w11 : World), I2 k12 w11 →
 brB (decide (k12 < (s10.len : Int)))
 (∀ w13 : World, w13 = World.drew w11 →
 ∃ s14 : Sl, held (Lw w13) ⟨b_1, 10, none⟩ (s14.val) ∧
 ∃ a15 : Addr, s14.ptr = some a15 ∧ 0 ≤ i3 ∧ i3 < (s14.len : Int) ∧
 ∃ s16 : Sl, held (Lw w13) (Addr.add a15 (Int.toNat i3 * 1)) (s16.val) ∧
 ∃ a17 : Addr, s10.ptr = some a17 ∧ 0 ≤ k12 ∧ k12 < (s10.len : Int) ∧
 ∃ n_Ip18 : Int, ∃ n_Steps19 : Int, ∃ s_Stack20 : Sl, ∃ s_Back21 : Sl, held (Lw w13) (Addr.add a17 (Int.toNat k12 * 4)) (.int .i64 n_Ip18) ∧ held (Lw w13) (Addr.add (Addr.add a17 (Int.toNat k12 * 4)) 1) (.int .i64 n_Steps19) ∧ held (Lw w13) (Addr.add (Addr.add a17 (Int.toNat k12 * 4)) 2) (s_Stack20.val) ∧ held (Lw w13) (Addr.add (Addr.add a17 (Int.toNat k12 * 4)) 3) (s_Back21.val) ∧
 ∃ a22 : Addr, s16.ptr = some a22 ∧ 0 ≤ k12 ∧ k12 < (s16.len : Int) ∧
 wrOk w13 (Addr.add a22 (Int.toNat k12 * 4)) 4 ∧ ∀ w23 : World, w23 = stW w13 (Addr.add a22 (Int.toNat k12 * 4)) 0 [.int .i64 n_Ip18, .int .i64 n_Steps19, s_Stack20.val, s_Back21.val] →
 I2 (wr (k12 + (1 : Int))) w23 ∧ μ2 (wr (k12 + (1 : Int))) w23 < μ2 k12 w11)
 (I1 (wr (i3 + (1 : Int))) w11 ∧ μ1 (wr (i3 + (1 : Int))) w11 < μ1 i3 w2))
 (K (.tuple #[]) w2)
def hollowaybook_Book_putExits_an : An := ⟨[(1, [(2, .int .i64)]), (5, [(4, .int .i64)])], [(7, (13, .st 0 (.st 1 (.st 2 (.st 3 (.st 4 (.st 5 (.st 6 (.st 7 (.st 8 (.st 9 (.st 10 (.st 11 (.st 12 .done)))))))))))), 0))]⟩
theorem hollowaybook_Book_putExits_lift {b_1 : Nat} {w : World} {K : Value → World → Prop} (h : hollowaybook_Book_putExits_sh b_1 w K) : Calls Try.prog fn_hollowaybook_Book_putExits #[.pointer (some ⟨b_1, 0, none⟩)] w fun e w' => ∃ v, e = .returned v ∧ K v w' :=
   lift_calls (A := hollowaybook_Book_putExits_an) (c := bodyOf Try.f49) (args := [.pointer (some ⟨b_1, 0, none⟩)]) orc orc_wide Try.func49 (by kernel_rfl) (by kernel_rfl) (Eq.mp (by kernel_rfl : hollowaybook_Book_putExits_sh b_1 w K = wpc orc Try.f49.ntmps hollowaybook_Book_putExits_an (bodyOf Try.f49) (argl 0 [.pointer (some ⟨b_1, 0, none⟩)]) w (retQ orc Try.f49.results.toList K)) h)

-- (*holloway/hollowaybook.Book).putTexts
def hollowaybook_Book_putTexts_sh (b_1 : Nat) (w : World) (K : Value → World → Prop) : Prop :=
 ∃ (I1 : Int → World → Prop) (μ1 : Int → World → Nat), I1 (0 : Int) w ∧ ∀ (i3 : Int) (w2 : World), I1 i3 w2 →
 ∃ s4 : Sl, w2.cell? ⟨b_1, 0, none⟩ = some (s4.val) ∧
 brB (decide (i3 < (s4.len : Int)))
 (∃ s5 : Sl, w2.cell? ⟨b_1, 0, none⟩ = some (s5.val) ∧
 ∃ a6 : Addr, s5.ptr = some a6 ∧ 0 ≤ i3 ∧ i3 < (s5.len : Int) ∧
 ∃ s7 : Sl, w2.cell? (Addr.add a6 (Int.toNat i3 * 1)) = some (s7.val) ∧
 Calls Try.prog fn_hollowaybook_markTexts #[.int .i64 i3, .int .i64 (0 : Int), .int .i64 (s7.len : Int)] w2 fun e8 w9 => ∃ s10 : Sl, e8 = .returned (s10.val) ∧
 ∃ (I2 : Int → World → Prop) (μ2 : Int → World → Nat), I2 (0 : Int) w9 ∧ ∀ (k12 : Int) (w11 : World), I2 k12 w11 →
 brB (decide (k12 < (s10.len : Int)))
 (∀ w13 : World, w13 = World.drew w11 →
 ∃ s14 : Sl, held (Lw w13) ⟨b_1, 0, none⟩ (s14.val) ∧
 ∃ a15 : Addr, s14.ptr = some a15 ∧ 0 ≤ i3 ∧ i3 < (s14.len : Int) ∧
 ∃ s16 : Sl, held (Lw w13) (Addr.add a15 (Int.toNat i3 * 1)) (s16.val) ∧
 ∃ a17 : Addr, s10.ptr = some a17 ∧ 0 ≤ k12 ∧ k12 < (s10.len : Int) ∧
 ∃ t18 : ByteArray, held (Lw w13) (Addr.add a17 (Int.toNat k12 * 1)) (.string t18) ∧
 ∃ a19 : Addr, s16.ptr = some a19 ∧ 0 ≤ k12 ∧ k12 < (s16.len : Int) ∧
 wrOk w13 (Addr.add a19 (Int.toNat k12 * 1)) 1 ∧ ∀ w20 : World, w20 = stW w13 (Addr.add a19 (Int.toNat k12 * 1)) 0 [.string t18] →
 I2 (wr (k12 + (1 : Int))) w20 ∧ μ2 (wr (k12 + (1 : Int))) w20 < μ2 k12 w11)
 (I1 (wr (i3 + (1 : Int))) w11 ∧ μ1 (wr (i3 + (1 : Int))) w11 < μ1 i3 w2))
 (K (.tuple #[]) w2)
def hollowaybook_Book_putTexts_an : An := ⟨[(1, [(2, .int .i64)]), (5, [(4, .int .i64)])], [(7, (13, .st 0 (.st 1 (.st 2 (.st 3 (.st 4 (.st 5 (.st 6 (.st 7 (.st 8 (.st 9 (.st 10 (.st 11 (.st 12 .done)))))))))))), 0))]⟩
theorem hollowaybook_Book_putTexts_lift {b_1 : Nat} {w : World} {K : Value → World → Prop} (h : hollowaybook_Book_putTexts_sh b_1 w K) : Calls Try.prog fn_hollowaybook_Book_putTexts #[.pointer (some ⟨b_1, 0, none⟩)] w fun e w' => ∃ v, e = .returned v ∧ K v w' :=
   lift_calls (A := hollowaybook_Book_putTexts_an) (c := bodyOf Try.f50) (args := [.pointer (some ⟨b_1, 0, none⟩)]) orc orc_wide Try.func50 (by kernel_rfl) (by kernel_rfl) (Eq.mp (by kernel_rfl : hollowaybook_Book_putTexts_sh b_1 w K = wpc orc Try.f50.ntmps hollowaybook_Book_putTexts_an (bodyOf Try.f50) (argl 0 [.pointer (some ⟨b_1, 0, none⟩)]) w (retQ orc Try.f50.results.toList K)) h)

-- (*holloway/hollowaybook.Book).putInts
def hollowaybook_Book_putInts_sh (b_1 : Nat) (w : World) (K : Value → World → Prop) : Prop :=
 ∃ (I1 : Int → World → Prop) (μ1 : Int → World → Nat), I1 (0 : Int) w ∧ ∀ (i3 : Int) (w2 : World), I1 i3 w2 →
 ∃ s4 : Sl, w2.cell? ⟨b_1, 2, none⟩ = some (s4.val) ∧
 brB (decide (i3 < (s4.len : Int)))
 (∃ s5 : Sl, w2.cell? ⟨b_1, 2, none⟩ = some (s5.val) ∧
 ∃ a6 : Addr, s5.ptr = some a6 ∧ 0 ≤ i3 ∧ i3 < (s5.len : Int) ∧
 ∃ s7 : Sl, w2.cell? (Addr.add a6 (Int.toNat i3 * 1)) = some (s7.val) ∧
 Calls Try.prog fn_hollowaybook_markInts #[.int .i64 i3, .int .i64 (0 : Int), .int .i64 (s7.len : Int)] w2 fun e8 w9 => ∃ s10 : Sl, e8 = .returned (s10.val) ∧
 ∃ (I2 : Int → World → Prop) (μ2 : Int → World → Nat), I2 (0 : Int) w9 ∧ ∀ (k12 : Int) (w11 : World), I2 k12 w11 →
 brB (decide (k12 < (s10.len : Int)))
 (∀ w13 : World, w13 = World.drew w11 →
 ∃ s14 : Sl, held (Lw w13) ⟨b_1, 2, none⟩ (s14.val) ∧
 ∃ a15 : Addr, s14.ptr = some a15 ∧ 0 ≤ i3 ∧ i3 < (s14.len : Int) ∧
 ∃ s16 : Sl, held (Lw w13) (Addr.add a15 (Int.toNat i3 * 1)) (s16.val) ∧
 ∃ a17 : Addr, s10.ptr = some a17 ∧ 0 ≤ k12 ∧ k12 < (s10.len : Int) ∧
 ∃ n18 : Int, held (Lw w13) (Addr.add a17 (Int.toNat k12 * 1)) (.int .i64 n18) ∧
 ∃ a19 : Addr, s16.ptr = some a19 ∧ 0 ≤ k12 ∧ k12 < (s16.len : Int) ∧
 wrOk w13 (Addr.add a19 (Int.toNat k12 * 1)) 1 ∧ ∀ w20 : World, w20 = stW w13 (Addr.add a19 (Int.toNat k12 * 1)) 0 [.int .i64 n18] →
 I2 (wr (k12 + (1 : Int))) w20 ∧ μ2 (wr (k12 + (1 : Int))) w20 < μ2 k12 w11)
 (I1 (wr (i3 + (1 : Int))) w11 ∧ μ1 (wr (i3 + (1 : Int))) w11 < μ1 i3 w2))
 (K (.tuple #[]) w2)
def hollowaybook_Book_putInts_an : An := ⟨[(1, [(2, .int .i64)]), (5, [(4, .int .i64)])], [(7, (13, .st 0 (.st 1 (.st 2 (.st 3 (.st 4 (.st 5 (.st 6 (.st 7 (.st 8 (.st 9 (.st 10 (.st 11 (.st 12 .done)))))))))))), 0))]⟩
theorem hollowaybook_Book_putInts_lift {b_1 : Nat} {w : World} {K : Value → World → Prop} (h : hollowaybook_Book_putInts_sh b_1 w K) : Calls Try.prog fn_hollowaybook_Book_putInts #[.pointer (some ⟨b_1, 0, none⟩)] w fun e w' => ∃ v, e = .returned v ∧ K v w' :=
   lift_calls (A := hollowaybook_Book_putInts_an) (c := bodyOf Try.f51) (args := [.pointer (some ⟨b_1, 0, none⟩)]) orc orc_wide Try.func51 (by kernel_rfl) (by kernel_rfl) (Eq.mp (by kernel_rfl : hollowaybook_Book_putInts_sh b_1 w K = wpc orc Try.f51.ntmps hollowaybook_Book_putInts_an (bodyOf Try.f51) (argl 0 [.pointer (some ⟨b_1, 0, none⟩)]) w (retQ orc Try.f51.results.toList K)) h)

-- (*holloway/hollowaybook.Book).putWords
def hollowaybook_Book_putWords_sh (b_1 : Nat) (w : World) (K : Value → World → Prop) : Prop :=
 ∃ (I1 : Int → World → Prop) (μ1 : Int → World → Nat), I1 (0 : Int) w ∧ ∀ (i3 : Int) (w2 : World), I1 i3 w2 →
 ∃ s4 : Sl, w2.cell? ⟨b_1, 4, none⟩ = some (s4.val) ∧
 brB (decide (i3 < (s4.len : Int)))
 (∃ s5 : Sl, w2.cell? ⟨b_1, 4, none⟩ = some (s5.val) ∧
 ∃ a6 : Addr, s5.ptr = some a6 ∧ 0 ≤ i3 ∧ i3 < (s5.len : Int) ∧
 ∃ s7 : Sl, w2.cell? (Addr.add a6 (Int.toNat i3 * 1)) = some (s7.val) ∧
 Calls Try.prog fn_hollowaybook_markWords #[.int .i64 i3, .int .i64 (0 : Int), .int .i64 (s7.len : Int)] w2 fun e8 w9 => ∃ s10 : Sl, e8 = .returned (s10.val) ∧
 ∃ (I2 : Int → World → Prop) (μ2 : Int → World → Nat), I2 (0 : Int) w9 ∧ ∀ (k12 : Int) (w11 : World), I2 k12 w11 →
 brB (decide (k12 < (s10.len : Int)))
 (∀ w13 : World, w13 = World.drew w11 →
 ∃ s14 : Sl, held (Lw w13) ⟨b_1, 4, none⟩ (s14.val) ∧
 ∃ a15 : Addr, s14.ptr = some a15 ∧ 0 ≤ i3 ∧ i3 < (s14.len : Int) ∧
 ∃ s16 : Sl, held (Lw w13) (Addr.add a15 (Int.toNat i3 * 1)) (s16.val) ∧
 ∃ a17 : Addr, s10.ptr = some a17 ∧ 0 ≤ k12 ∧ k12 < (s10.len : Int) ∧
 ∃ t_Name18 : ByteArray, ∃ n_Xt19 : Int, ∃ n_Op20 : Int, ∃ b_Immediate21 : Bool, held (Lw w13) (Addr.add a17 (Int.toNat k12 * 4)) (.string t_Name18) ∧ held (Lw w13) (Addr.add (Addr.add a17 (Int.toNat k12 * 4)) 1) (.int .i64 n_Xt19) ∧ held (Lw w13) (Addr.add (Addr.add a17 (Int.toNat k12 * 4)) 2) (.int .i64 n_Op20) ∧ held (Lw w13) (Addr.add (Addr.add a17 (Int.toNat k12 * 4)) 3) (.bool b_Immediate21) ∧
 ∃ a22 : Addr, s16.ptr = some a22 ∧ 0 ≤ k12 ∧ k12 < (s16.len : Int) ∧
 wrOk w13 (Addr.add a22 (Int.toNat k12 * 4)) 4 ∧ ∀ w23 : World, w23 = stW w13 (Addr.add a22 (Int.toNat k12 * 4)) 0 [.string t_Name18, .int .i64 n_Xt19, .int .i64 n_Op20, .bool b_Immediate21] →
 I2 (wr (k12 + (1 : Int))) w23 ∧ μ2 (wr (k12 + (1 : Int))) w23 < μ2 k12 w11)
 (I1 (wr (i3 + (1 : Int))) w11 ∧ μ1 (wr (i3 + (1 : Int))) w11 < μ1 i3 w2))
 (K (.tuple #[]) w2)
def hollowaybook_Book_putWords_an : An := ⟨[(1, [(2, .int .i64)]), (5, [(4, .int .i64)])], [(7, (13, .st 0 (.st 1 (.st 2 (.st 3 (.st 4 (.st 5 (.st 6 (.st 7 (.st 8 (.st 9 (.st 10 (.st 11 (.st 12 .done)))))))))))), 0))]⟩
theorem hollowaybook_Book_putWords_lift {b_1 : Nat} {w : World} {K : Value → World → Prop} (h : hollowaybook_Book_putWords_sh b_1 w K) : Calls Try.prog fn_hollowaybook_Book_putWords #[.pointer (some ⟨b_1, 0, none⟩)] w fun e w' => ∃ v, e = .returned v ∧ K v w' :=
   lift_calls (A := hollowaybook_Book_putWords_an) (c := bodyOf Try.f52) (args := [.pointer (some ⟨b_1, 0, none⟩)]) orc orc_wide Try.func52 (by kernel_rfl) (by kernel_rfl) (Eq.mp (by kernel_rfl : hollowaybook_Book_putWords_sh b_1 w K = wpc orc Try.f52.ntmps hollowaybook_Book_putWords_an (bodyOf Try.f52) (argl 0 [.pointer (some ⟨b_1, 0, none⟩)]) w (retQ orc Try.f52.results.toList K)) h)

-- (*holloway/hollowaybook.Book).putSeens
def hollowaybook_Book_putSeens_sh (b_1 : Nat) (w : World) (K : Value → World → Prop) : Prop :=
 ∃ (I1 : Int → World → Prop) (μ1 : Int → World → Nat), I1 (0 : Int) w ∧ ∀ (i3 : Int) (w2 : World), I1 i3 w2 →
 ∃ s4 : Sl, w2.cell? ⟨b_1, 6, none⟩ = some (s4.val) ∧
 brB (decide (i3 < (s4.len : Int)))
 (∃ s5 : Sl, w2.cell? ⟨b_1, 6, none⟩ = some (s5.val) ∧
 ∃ a6 : Addr, s5.ptr = some a6 ∧ 0 ≤ i3 ∧ i3 < (s5.len : Int) ∧
 ∃ s7 : Sl, w2.cell? (Addr.add a6 (Int.toNat i3 * 1)) = some (s7.val) ∧
 Calls Try.prog fn_hollowaybook_markSeens #[.int .i64 i3, .int .i64 (0 : Int), .int .i64 (s7.len : Int)] w2 fun e8 w9 => ∃ s10 : Sl, e8 = .returned (s10.val) ∧
 ∃ (I2 : Int → World → Prop) (μ2 : Int → World → Nat), I2 (0 : Int) w9 ∧ ∀ (k12 : Int) (w11 : World), I2 k12 w11 →
 brB (decide (k12 < (s10.len : Int)))
 (∀ w13 : World, w13 = World.drew w11 →
 ∃ s14 : Sl, held (Lw w13) ⟨b_1, 6, none⟩ (s14.val) ∧
 ∃ a15 : Addr, s14.ptr = some a15 ∧ 0 ≤ i3 ∧ i3 < (s14.len : Int) ∧
 ∃ s16 : Sl, held (Lw w13) (Addr.add a15 (Int.toNat i3 * 1)) (s16.val) ∧
 ∃ a17 : Addr, s10.ptr = some a17 ∧ 0 ≤ k12 ∧ k12 < (s10.len : Int) ∧
 ∃ n_Ip18 : Int, ∃ n_Cell19 : Int, ∃ n_Arg20 : Int, ∃ n_Next21 : Int, held (Lw w13) (Addr.add a17 (Int.toNat k12 * 4)) (.int .i64 n_Ip18) ∧ held (Lw w13) (Addr.add (Addr.add a17 (Int.toNat k12 * 4)) 1) (.int .i64 n_Cell19) ∧ held (Lw w13) (Addr.add (Addr.add a17 (Int.toNat k12 * 4)) 2) (.int .i64 n_Arg20) ∧ held (Lw w13) (Addr.add (Addr.add a17 (Int.toNat k12 * 4)) 3) (.int .i64 n_Next21) ∧
 ∃ a22 : Addr, s16.ptr = some a22 ∧ 0 ≤ k12 ∧ k12 < (s16.len : Int) ∧
 wrOk w13 (Addr.add a22 (Int.toNat k12 * 4)) 4 ∧ ∀ w23 : World, w23 = stW w13 (Addr.add a22 (Int.toNat k12 * 4)) 0 [.int .i64 n_Ip18, .int .i64 n_Cell19, .int .i64 n_Arg20, .int .i64 n_Next21] →
 I2 (wr (k12 + (1 : Int))) w23 ∧ μ2 (wr (k12 + (1 : Int))) w23 < μ2 k12 w11)
 (I1 (wr (i3 + (1 : Int))) w11 ∧ μ1 (wr (i3 + (1 : Int))) w11 < μ1 i3 w2))
 (K (.tuple #[]) w2)
def hollowaybook_Book_putSeens_an : An := ⟨[(1, [(2, .int .i64)]), (5, [(4, .int .i64)])], [(7, (13, .st 0 (.st 1 (.st 2 (.st 3 (.st 4 (.st 5 (.st 6 (.st 7 (.st 8 (.st 9 (.st 10 (.st 11 (.st 12 .done)))))))))))), 0))]⟩
theorem hollowaybook_Book_putSeens_lift {b_1 : Nat} {w : World} {K : Value → World → Prop} (h : hollowaybook_Book_putSeens_sh b_1 w K) : Calls Try.prog fn_hollowaybook_Book_putSeens #[.pointer (some ⟨b_1, 0, none⟩)] w fun e w' => ∃ v, e = .returned v ∧ K v w' :=
   lift_calls (A := hollowaybook_Book_putSeens_an) (c := bodyOf Try.f53) (args := [.pointer (some ⟨b_1, 0, none⟩)]) orc orc_wide Try.func53 (by kernel_rfl) (by kernel_rfl) (Eq.mp (by kernel_rfl : hollowaybook_Book_putSeens_sh b_1 w K = wpc orc Try.f53.ntmps hollowaybook_Book_putSeens_an (bodyOf Try.f53) (argl 0 [.pointer (some ⟨b_1, 0, none⟩)]) w (retQ orc Try.f53.results.toList K)) h)

-- (*holloway/hollowaybook.Book).putCodes
def hollowaybook_Book_putCodes_sh (b_1 : Nat) (w : World) (K : Value → World → Prop) : Prop :=
 ∃ (I1 : Int → World → Prop) (μ1 : Int → World → Nat), I1 (0 : Int) w ∧ ∀ (i3 : Int) (w2 : World), I1 i3 w2 →
 ∃ s4 : Sl, w2.cell? ⟨b_1, 8, none⟩ = some (s4.val) ∧
 brB (decide (i3 < (s4.len : Int)))
 (∃ s5 : Sl, w2.cell? ⟨b_1, 8, none⟩ = some (s5.val) ∧
 ∃ a6 : Addr, s5.ptr = some a6 ∧ 0 ≤ i3 ∧ i3 < (s5.len : Int) ∧
 ∃ s7 : Sl, w2.cell? (Addr.add a6 (Int.toNat i3 * 1)) = some (s7.val) ∧
 Calls Try.prog fn_hollowaybook_markCodes #[.int .i64 i3, .int .i64 (0 : Int), .int .i64 (s7.len : Int)] w2 fun e8 w9 => ∃ s10 : Sl, e8 = .returned (s10.val) ∧
 ∃ (I2 : Int → World → Prop) (μ2 : Int → World → Nat), I2 (0 : Int) w9 ∧ ∀ (k12 : Int) (w11 : World), I2 k12 w11 →
 brB (decide (k12 < (s10.len : Int)))
 (∀ w13 : World, w13 = World.drew w11 →
 ∃ s14 : Sl, held (Lw w13) ⟨b_1, 8, none⟩ (s14.val) ∧
 ∃ a15 : Addr, s14.ptr = some a15 ∧ 0 ≤ i3 ∧ i3 < (s14.len : Int) ∧
 ∃ s16 : Sl, held (Lw w13) (Addr.add a15 (Int.toNat i3 * 1)) (s16.val) ∧
 ∃ a17 : Addr, s10.ptr = some a17 ∧ 0 ≤ k12 ∧ k12 < (s10.len : Int) ∧
 ∃ n_Op18 : Int, ∃ n_A19 : Int, ∃ n_B20 : Int, ∃ n_C21 : Int, ∃ n_X22 : Int, held (Lw w13) (Addr.add a17 (Int.toNat k12 * 5)) (.int .i64 n_Op18) ∧ held (Lw w13) (Addr.add (Addr.add a17 (Int.toNat k12 * 5)) 1) (.int .i64 n_A19) ∧ held (Lw w13) (Addr.add (Addr.add a17 (Int.toNat k12 * 5)) 2) (.int .i64 n_B20) ∧ held (Lw w13) (Addr.add (Addr.add a17 (Int.toNat k12 * 5)) 3) (.int .i64 n_C21) ∧ held (Lw w13) (Addr.add (Addr.add a17 (Int.toNat k12 * 5)) 4) (.int .i64 n_X22) ∧
 ∃ a23 : Addr, s16.ptr = some a23 ∧ 0 ≤ k12 ∧ k12 < (s16.len : Int) ∧
 wrOk w13 (Addr.add a23 (Int.toNat k12 * 5)) 5 ∧ ∀ w24 : World, w24 = stW w13 (Addr.add a23 (Int.toNat k12 * 5)) 0 [.int .i64 n_Op18, .int .i64 n_A19, .int .i64 n_B20, .int .i64 n_C21, .int .i64 n_X22] →
 I2 (wr (k12 + (1 : Int))) w24 ∧ μ2 (wr (k12 + (1 : Int))) w24 < μ2 k12 w11)
 (I1 (wr (i3 + (1 : Int))) w11 ∧ μ1 (wr (i3 + (1 : Int))) w11 < μ1 i3 w2))
 (K (.tuple #[]) w2)
def hollowaybook_Book_putCodes_an : An := ⟨[(1, [(2, .int .i64)]), (5, [(4, .int .i64)])], [(7, (13, .st 0 (.st 1 (.st 2 (.st 3 (.st 4 (.st 5 (.st 6 (.st 7 (.st 8 (.st 9 (.st 10 (.st 11 (.st 12 .done)))))))))))), 0))]⟩
theorem hollowaybook_Book_putCodes_lift {b_1 : Nat} {w : World} {K : Value → World → Prop} (h : hollowaybook_Book_putCodes_sh b_1 w K) : Calls Try.prog fn_hollowaybook_Book_putCodes #[.pointer (some ⟨b_1, 0, none⟩)] w fun e w' => ∃ v, e = .returned v ∧ K v w' :=
   lift_calls (A := hollowaybook_Book_putCodes_an) (c := bodyOf Try.f54) (args := [.pointer (some ⟨b_1, 0, none⟩)]) orc orc_wide Try.func54 (by kernel_rfl) (by kernel_rfl) (Eq.mp (by kernel_rfl : hollowaybook_Book_putCodes_sh b_1 w K = wpc orc Try.f54.ntmps hollowaybook_Book_putCodes_an (bodyOf Try.f54) (argl 0 [.pointer (some ⟨b_1, 0, none⟩)]) w (retQ orc Try.f54.results.toList K)) h)

-- (*holloway/hollowaybook.Book).growTexts
def hollowaybook_Book_growTexts_sh (b_1 : Nat) (w : World) (K : Value → World → Prop) : Prop :=
 ∃ (I1 : Sl → Int → World → Prop) (μ1 : Sl → Int → World → Nat), I1 (⟨none, 0, 0⟩ : Sl) (0 : Int) w ∧ ∀ (out16 : Sl) (i3 : Int) (w2 : World), I1 out16 i3 w2 →
 ∃ s4 : Sl, w2.cell? ⟨b_1, 0, none⟩ = some (s4.val) ∧
 brB (decide (i3 < (s4.len : Int)))
 (∃ s5 : Sl, w2.cell? ⟨b_1, 0, none⟩ = some (s5.val) ∧
 ∃ a6 : Addr, s5.ptr = some a6 ∧ 0 ≤ i3 ∧ i3 < (s5.len : Int) ∧
 ∃ s7 : Sl, w2.cell? (Addr.add a6 (Int.toNat i3 * 1)) = some (s7.val) ∧
 ∃ (I2 : Sl → Int → World → Prop) (μ2 : Sl → Int → World → Nat), I2 s7 (0 : Int) w2 ∧ ∀ (l10 : Sl) (n9 : Int) (w8 : World), I2 l10 n9 w8 →
 brB (decide (n9 < (12 : Int)))
 (Calls Try.prog fn_hollowaybook_markTexts #[.int .i64 i3, .int .i64 (l10.len : Int), .int .i64 (1 : Int)] w8 fun e11 w12 => ∃ s13 : Sl, e11 = .returned (s13.val) ∧
 ∃ s14 : Sl, ∃ w15 : World, (Builtin.append_ #[T_sl_string, T_sl_string] T_sl_string #[l10.val, s13.val]).run Try.prog w12 = .ok (s14.val) w15 ∧
 I2 s14 (wr (n9 + (1 : Int))) w15 ∧ μ2 s14 (wr (n9 + (1 : Int))) w15 < μ2 l10 n9 w8)
 (Calls Try.prog fn_hollowaybook_markTexts #[.int .i64 i3, .int .i64 (l10.len : Int), .int .i64 (60 : Int)] w8 fun e17 w18 => ∃ s19 : Sl, e17 = .returned (s19.val) ∧
 ∃ s20 : Sl, ∃ w21 : World, (Builtin.append_ #[T_sl_string, T_sl_string] T_sl_string #[l10.val, s19.val]).run Try.prog w18 = .ok (s20.val) w21 ∧
 ∀ (b22 : Nat) (w23 : World), b22 = w21.heap.size → w23 = World.alloc w21 (.cells #[s20.val] T_sl_string) →
 ∃ s24 : Sl, ∃ w25 : World, (Builtin.append_ #[T_sl_sl_string, T_sl_sl_string] T_sl_sl_string #[out16.val, .slice (some ⟨b22, 0, none⟩) 1 1]).run Try.prog w23 = .ok (s24.val) w25 ∧
 I1 s24 (wr (i3 + (1 : Int))) w25 ∧ μ1 s24 (wr (i3 + (1 : Int))) w25 < μ1 out16 i3 w2))
 (K (out16.val) w2)
def hollowaybook_Book_growTexts_an : An := ⟨[(3, [(3, .sl), (4, .int .i64)]), (7, [(5, .sl), (6, .int .i64)])], []⟩
theorem hollowaybook_Book_growTexts_lift {b_1 : Nat} {w : World} {K : Value → World → Prop} (h : hollowaybook_Book_growTexts_sh b_1 w K) : Calls Try.prog fn_hollowaybook_Book_growTexts #[.pointer (some ⟨b_1, 0, none⟩)] w fun e w' => ∃ v, e = .returned v ∧ K v w' :=
   lift_calls (A := hollowaybook_Book_growTexts_an) (c := bodyOf Try.f55) (args := [.pointer (some ⟨b_1, 0, none⟩)]) orc orc_wide Try.func55 (by kernel_rfl) (by kernel_rfl) (Eq.mp (by kernel_rfl : hollowaybook_Book_growTexts_sh b_1 w K = wpc orc Try.f55.ntmps hollowaybook_Book_growTexts_an (bodyOf Try.f55) (argl 0 [.pointer (some ⟨b_1, 0, none⟩)]) w (retQ orc Try.f55.results.toList K)) h)

-- (*holloway/hollowaybook.Book).growInts
def hollowaybook_Book_growInts_sh (b_1 : Nat) (w : World) (K : Value → World → Prop) : Prop :=
 ∃ (I1 : Sl → Int → World → Prop) (μ1 : Sl → Int → World → Nat), I1 (⟨none, 0, 0⟩ : Sl) (0 : Int) w ∧ ∀ (out16 : Sl) (i3 : Int) (w2 : World), I1 out16 i3 w2 →
 ∃ s4 : Sl, w2.cell? ⟨b_1, 2, none⟩ = some (s4.val) ∧
 brB (decide (i3 < (s4.len : Int)))
 (∃ s5 : Sl, w2.cell? ⟨b_1, 2, none⟩ = some (s5.val) ∧
 ∃ a6 : Addr, s5.ptr = some a6 ∧ 0 ≤ i3 ∧ i3 < (s5.len : Int) ∧
 ∃ s7 : Sl, w2.cell? (Addr.add a6 (Int.toNat i3 * 1)) = some (s7.val) ∧
 ∃ (I2 : Sl → Int → World → Prop) (μ2 : Sl → Int → World → Nat), I2 s7 (0 : Int) w2 ∧ ∀ (l10 : Sl) (n9 : Int) (w8 : World), I2 l10 n9 w8 →
 brB (decide (n9 < (12 : Int)))
 (Calls Try.prog fn_hollowaybook_markInts #[.int .i64 i3, .int .i64 (l10.len : Int), .int .i64 (1 : Int)] w8 fun e11 w12 => ∃ s13 : Sl, e11 = .returned (s13.val) ∧
 ∃ s14 : Sl, ∃ w15 : World, (Builtin.append_ #[T_sl_int, T_sl_int] T_sl_int #[l10.val, s13.val]).run Try.prog w12 = .ok (s14.val) w15 ∧
 I2 s14 (wr (n9 + (1 : Int))) w15 ∧ μ2 s14 (wr (n9 + (1 : Int))) w15 < μ2 l10 n9 w8)
 (Calls Try.prog fn_hollowaybook_markInts #[.int .i64 i3, .int .i64 (l10.len : Int), .int .i64 (60 : Int)] w8 fun e17 w18 => ∃ s19 : Sl, e17 = .returned (s19.val) ∧
 ∃ s20 : Sl, ∃ w21 : World, (Builtin.append_ #[T_sl_int, T_sl_int] T_sl_int #[l10.val, s19.val]).run Try.prog w18 = .ok (s20.val) w21 ∧
 ∀ (b22 : Nat) (w23 : World), b22 = w21.heap.size → w23 = World.alloc w21 (.cells #[s20.val] T_sl_int) →
 ∃ s24 : Sl, ∃ w25 : World, (Builtin.append_ #[T_sl_sl_int, T_sl_sl_int] T_sl_sl_int #[out16.val, .slice (some ⟨b22, 0, none⟩) 1 1]).run Try.prog w23 = .ok (s24.val) w25 ∧
 I1 s24 (wr (i3 + (1 : Int))) w25 ∧ μ1 s24 (wr (i3 + (1 : Int))) w25 < μ1 out16 i3 w2))
 (K (out16.val) w2)
def hollowaybook_Book_growInts_an : An := ⟨[(3, [(3, .sl), (4, .int .i64)]), (7, [(5, .sl), (6, .int .i64)])], []⟩
theorem hollowaybook_Book_growInts_lift {b_1 : Nat} {w : World} {K : Value → World → Prop} (h : hollowaybook_Book_growInts_sh b_1 w K) : Calls Try.prog fn_hollowaybook_Book_growInts #[.pointer (some ⟨b_1, 0, none⟩)] w fun e w' => ∃ v, e = .returned v ∧ K v w' :=
   lift_calls (A := hollowaybook_Book_growInts_an) (c := bodyOf Try.f56) (args := [.pointer (some ⟨b_1, 0, none⟩)]) orc orc_wide Try.func56 (by kernel_rfl) (by kernel_rfl) (Eq.mp (by kernel_rfl : hollowaybook_Book_growInts_sh b_1 w K = wpc orc Try.f56.ntmps hollowaybook_Book_growInts_an (bodyOf Try.f56) (argl 0 [.pointer (some ⟨b_1, 0, none⟩)]) w (retQ orc Try.f56.results.toList K)) h)

-- (*holloway/hollowaybook.Book).growWords
def hollowaybook_Book_growWords_sh (b_1 : Nat) (w : World) (K : Value → World → Prop) : Prop :=
 ∃ (I1 : Sl → Int → World → Prop) (μ1 : Sl → Int → World → Nat), I1 (⟨none, 0, 0⟩ : Sl) (0 : Int) w ∧ ∀ (out16 : Sl) (i3 : Int) (w2 : World), I1 out16 i3 w2 →
 ∃ s4 : Sl, w2.cell? ⟨b_1, 4, none⟩ = some (s4.val) ∧
 brB (decide (i3 < (s4.len : Int)))
 (∃ s5 : Sl, w2.cell? ⟨b_1, 4, none⟩ = some (s5.val) ∧
 ∃ a6 : Addr, s5.ptr = some a6 ∧ 0 ≤ i3 ∧ i3 < (s5.len : Int) ∧
 ∃ s7 : Sl, w2.cell? (Addr.add a6 (Int.toNat i3 * 1)) = some (s7.val) ∧
 ∃ (I2 : Sl → Int → World → Prop) (μ2 : Sl → Int → World → Nat), I2 s7 (0 : Int) w2 ∧ ∀ (l10 : Sl) (n9 : Int) (w8 : World), I2 l10 n9 w8 →
 brB (decide (n9 < (12 : Int)))
 (Calls Try.prog fn_hollowaybook_markWords #[.int .i64 i3, .int .i64 (l10.len : Int), .int .i64 (1 : Int)] w8 fun e11 w12 => ∃ s13 : Sl, e11 = .returned (s13.val) ∧
 ∃ s14 : Sl, ∃ w15 : World, (Builtin.append_ #[T_sl_api_Word, T_sl_api_Word] T_sl_api_Word #[l10.val, s13.val]).run Try.prog w12 = .ok (s14.val) w15 ∧
 I2 s14 (wr (n9 + (1 : Int))) w15 ∧ μ2 s14 (wr (n9 + (1 : Int))) w15 < μ2 l10 n9 w8)
 (Calls Try.prog fn_hollowaybook_markWords #[.int .i64 i3, .int .i64 (l10.len : Int), .int .i64 (60 : Int)] w8 fun e17 w18 => ∃ s19 : Sl, e17 = .returned (s19.val) ∧
 ∃ s20 : Sl, ∃ w21 : World, (Builtin.append_ #[T_sl_api_Word, T_sl_api_Word] T_sl_api_Word #[l10.val, s19.val]).run Try.prog w18 = .ok (s20.val) w21 ∧
 ∀ (b22 : Nat) (w23 : World), b22 = w21.heap.size → w23 = World.alloc w21 (.cells #[s20.val] T_sl_api_Word) →
 ∃ s24 : Sl, ∃ w25 : World, (Builtin.append_ #[T_sl_sl_api_Word, T_sl_sl_api_Word] T_sl_sl_api_Word #[out16.val, .slice (some ⟨b22, 0, none⟩) 1 1]).run Try.prog w23 = .ok (s24.val) w25 ∧
 I1 s24 (wr (i3 + (1 : Int))) w25 ∧ μ1 s24 (wr (i3 + (1 : Int))) w25 < μ1 out16 i3 w2))
 (K (out16.val) w2)
def hollowaybook_Book_growWords_an : An := ⟨[(3, [(3, .sl), (4, .int .i64)]), (7, [(5, .sl), (6, .int .i64)])], []⟩
theorem hollowaybook_Book_growWords_lift {b_1 : Nat} {w : World} {K : Value → World → Prop} (h : hollowaybook_Book_growWords_sh b_1 w K) : Calls Try.prog fn_hollowaybook_Book_growWords #[.pointer (some ⟨b_1, 0, none⟩)] w fun e w' => ∃ v, e = .returned v ∧ K v w' :=
   lift_calls (A := hollowaybook_Book_growWords_an) (c := bodyOf Try.f57) (args := [.pointer (some ⟨b_1, 0, none⟩)]) orc orc_wide Try.func57 (by kernel_rfl) (by kernel_rfl) (Eq.mp (by kernel_rfl : hollowaybook_Book_growWords_sh b_1 w K = wpc orc Try.f57.ntmps hollowaybook_Book_growWords_an (bodyOf Try.f57) (argl 0 [.pointer (some ⟨b_1, 0, none⟩)]) w (retQ orc Try.f57.results.toList K)) h)

-- (*holloway/hollowaybook.Book).growSeens
def hollowaybook_Book_growSeens_sh (b_1 : Nat) (w : World) (K : Value → World → Prop) : Prop :=
 ∃ (I1 : Sl → Int → World → Prop) (μ1 : Sl → Int → World → Nat), I1 (⟨none, 0, 0⟩ : Sl) (0 : Int) w ∧ ∀ (out16 : Sl) (i3 : Int) (w2 : World), I1 out16 i3 w2 →
 ∃ s4 : Sl, w2.cell? ⟨b_1, 6, none⟩ = some (s4.val) ∧
 brB (decide (i3 < (s4.len : Int)))
 (∃ s5 : Sl, w2.cell? ⟨b_1, 6, none⟩ = some (s5.val) ∧
 ∃ a6 : Addr, s5.ptr = some a6 ∧ 0 ≤ i3 ∧ i3 < (s5.len : Int) ∧
 ∃ s7 : Sl, w2.cell? (Addr.add a6 (Int.toNat i3 * 1)) = some (s7.val) ∧
 ∃ (I2 : Sl → Int → World → Prop) (μ2 : Sl → Int → World → Nat), I2 s7 (0 : Int) w2 ∧ ∀ (l10 : Sl) (n9 : Int) (w8 : World), I2 l10 n9 w8 →
 brB (decide (n9 < (12 : Int)))
 (Calls Try.prog fn_hollowaybook_markSeens #[.int .i64 i3, .int .i64 (l10.len : Int), .int .i64 (1 : Int)] w8 fun e11 w12 => ∃ s13 : Sl, e11 = .returned (s13.val) ∧
 ∃ s14 : Sl, ∃ w15 : World, (Builtin.append_ #[T_sl_api_Seen, T_sl_api_Seen] T_sl_api_Seen #[l10.val, s13.val]).run Try.prog w12 = .ok (s14.val) w15 ∧
 I2 s14 (wr (n9 + (1 : Int))) w15 ∧ μ2 s14 (wr (n9 + (1 : Int))) w15 < μ2 l10 n9 w8)
 (Calls Try.prog fn_hollowaybook_markSeens #[.int .i64 i3, .int .i64 (l10.len : Int), .int .i64 (60 : Int)] w8 fun e17 w18 => ∃ s19 : Sl, e17 = .returned (s19.val) ∧
 ∃ s20 : Sl, ∃ w21 : World, (Builtin.append_ #[T_sl_api_Seen, T_sl_api_Seen] T_sl_api_Seen #[l10.val, s19.val]).run Try.prog w18 = .ok (s20.val) w21 ∧
 ∀ (b22 : Nat) (w23 : World), b22 = w21.heap.size → w23 = World.alloc w21 (.cells #[s20.val] T_sl_api_Seen) →
 ∃ s24 : Sl, ∃ w25 : World, (Builtin.append_ #[T_sl_sl_api_Seen, T_sl_sl_api_Seen] T_sl_sl_api_Seen #[out16.val, .slice (some ⟨b22, 0, none⟩) 1 1]).run Try.prog w23 = .ok (s24.val) w25 ∧
 I1 s24 (wr (i3 + (1 : Int))) w25 ∧ μ1 s24 (wr (i3 + (1 : Int))) w25 < μ1 out16 i3 w2))
 (K (out16.val) w2)
def hollowaybook_Book_growSeens_an : An := ⟨[(3, [(3, .sl), (4, .int .i64)]), (7, [(5, .sl), (6, .int .i64)])], []⟩
theorem hollowaybook_Book_growSeens_lift {b_1 : Nat} {w : World} {K : Value → World → Prop} (h : hollowaybook_Book_growSeens_sh b_1 w K) : Calls Try.prog fn_hollowaybook_Book_growSeens #[.pointer (some ⟨b_1, 0, none⟩)] w fun e w' => ∃ v, e = .returned v ∧ K v w' :=
   lift_calls (A := hollowaybook_Book_growSeens_an) (c := bodyOf Try.f58) (args := [.pointer (some ⟨b_1, 0, none⟩)]) orc orc_wide Try.func58 (by kernel_rfl) (by kernel_rfl) (Eq.mp (by kernel_rfl : hollowaybook_Book_growSeens_sh b_1 w K = wpc orc Try.f58.ntmps hollowaybook_Book_growSeens_an (bodyOf Try.f58) (argl 0 [.pointer (some ⟨b_1, 0, none⟩)]) w (retQ orc Try.f58.results.toList K)) h)

-- (*holloway/hollowaybook.Book).growCodes
def hollowaybook_Book_growCodes_sh (b_1 : Nat) (w : World) (K : Value → World → Prop) : Prop :=
 ∃ (I1 : Sl → Int → World → Prop) (μ1 : Sl → Int → World → Nat), I1 (⟨none, 0, 0⟩ : Sl) (0 : Int) w ∧ ∀ (out16 : Sl) (i3 : Int) (w2 : World), I1 out16 i3 w2 →
 ∃ s4 : Sl, w2.cell? ⟨b_1, 8, none⟩ = some (s4.val) ∧
 brB (decide (i3 < (s4.len : Int)))
 (∃ s5 : Sl, w2.cell? ⟨b_1, 8, none⟩ = some (s5.val) ∧
 ∃ a6 : Addr, s5.ptr = some a6 ∧ 0 ≤ i3 ∧ i3 < (s5.len : Int) ∧
 ∃ s7 : Sl, w2.cell? (Addr.add a6 (Int.toNat i3 * 1)) = some (s7.val) ∧
 ∃ (I2 : Sl → Int → World → Prop) (μ2 : Sl → Int → World → Nat), I2 s7 (0 : Int) w2 ∧ ∀ (l10 : Sl) (n9 : Int) (w8 : World), I2 l10 n9 w8 →
 brB (decide (n9 < (12 : Int)))
 (Calls Try.prog fn_hollowaybook_markCodes #[.int .i64 i3, .int .i64 (l10.len : Int), .int .i64 (1 : Int)] w8 fun e11 w12 => ∃ s13 : Sl, e11 = .returned (s13.val) ∧
 ∃ s14 : Sl, ∃ w15 : World, (Builtin.append_ #[T_sl_api_Ins, T_sl_api_Ins] T_sl_api_Ins #[l10.val, s13.val]).run Try.prog w12 = .ok (s14.val) w15 ∧
 I2 s14 (wr (n9 + (1 : Int))) w15 ∧ μ2 s14 (wr (n9 + (1 : Int))) w15 < μ2 l10 n9 w8)
 (Calls Try.prog fn_hollowaybook_markCodes #[.int .i64 i3, .int .i64 (l10.len : Int), .int .i64 (60 : Int)] w8 fun e17 w18 => ∃ s19 : Sl, e17 = .returned (s19.val) ∧
 ∃ s20 : Sl, ∃ w21 : World, (Builtin.append_ #[T_sl_api_Ins, T_sl_api_Ins] T_sl_api_Ins #[l10.val, s19.val]).run Try.prog w18 = .ok (s20.val) w21 ∧
 ∀ (b22 : Nat) (w23 : World), b22 = w21.heap.size → w23 = World.alloc w21 (.cells #[s20.val] T_sl_api_Ins) →
 ∃ s24 : Sl, ∃ w25 : World, (Builtin.append_ #[T_sl_sl_api_Ins, T_sl_sl_api_Ins] T_sl_sl_api_Ins #[out16.val, .slice (some ⟨b22, 0, none⟩) 1 1]).run Try.prog w23 = .ok (s24.val) w25 ∧
 I1 s24 (wr (i3 + (1 : Int))) w25 ∧ μ1 s24 (wr (i3 + (1 : Int))) w25 < μ1 out16 i3 w2))
 (K (out16.val) w2)
def hollowaybook_Book_growCodes_an : An := ⟨[(3, [(3, .sl), (4, .int .i64)]), (7, [(5, .sl), (6, .int .i64)])], []⟩
theorem hollowaybook_Book_growCodes_lift {b_1 : Nat} {w : World} {K : Value → World → Prop} (h : hollowaybook_Book_growCodes_sh b_1 w K) : Calls Try.prog fn_hollowaybook_Book_growCodes #[.pointer (some ⟨b_1, 0, none⟩)] w fun e w' => ∃ v, e = .returned v ∧ K v w' :=
   lift_calls (A := hollowaybook_Book_growCodes_an) (c := bodyOf Try.f59) (args := [.pointer (some ⟨b_1, 0, none⟩)]) orc orc_wide Try.func59 (by kernel_rfl) (by kernel_rfl) (Eq.mp (by kernel_rfl : hollowaybook_Book_growCodes_sh b_1 w K = wpc orc Try.f59.ntmps hollowaybook_Book_growCodes_an (bodyOf Try.f59) (argl 0 [.pointer (some ⟨b_1, 0, none⟩)]) w (retQ orc Try.f59.results.toList K)) h)

-- (*holloway/hollowaybook.Book).growExits
def hollowaybook_Book_growExits_sh (b_1 : Nat) (w : World) (K : Value → World → Prop) : Prop :=
 ∃ (I1 : Sl → Int → World → Prop) (μ1 : Sl → Int → World → Nat), I1 (⟨none, 0, 0⟩ : Sl) (0 : Int) w ∧ ∀ (out16 : Sl) (i3 : Int) (w2 : World), I1 out16 i3 w2 →
 ∃ s4 : Sl, w2.cell? ⟨b_1, 10, none⟩ = some (s4.val) ∧
 brB (decide (i3 < (s4.len : Int)))
 (∃ s5 : Sl, w2.cell? ⟨b_1, 10, none⟩ = some (s5.val) ∧
 ∃ a6 : Addr, s5.ptr = some a6 ∧ 0 ≤ i3 ∧ i3 < (s5.len : Int) ∧
 ∃ s7 : Sl, w2.cell? (Addr.add a6 (Int.toNat i3 * 1)) = some (s7.val) ∧
 ∃ (I2 : Sl → Int → World → Prop) (μ2 : Sl → Int → World → Nat), I2 s7 (0 : Int) w2 ∧ ∀ (l10 : Sl) (n9 : Int) (w8 : World), I2 l10 n9 w8 →
 brB (decide (n9 < (12 : Int)))
 (Calls Try.prog fn_hollowaybook_markExits #[.int .i64 i3, .int .i64 (l10.len : Int), .int .i64 (1 : Int)] w8 fun e11 w12 => ∃ s13 : Sl, e11 = .returned (s13.val) ∧
 ∃ s14 : Sl, ∃ w15 : World, (Builtin.append_ #[T_sl_api_Out, T_sl_api_Out] T_sl_api_Out #[l10.val, s13.val]).run Try.prog w12 = .ok (s14.val) w15 ∧
 I2 s14 (wr (n9 + (1 : Int))) w15 ∧ μ2 s14 (wr (n9 + (1 : Int))) w15 < μ2 l10 n9 w8)
 (Calls Try.prog fn_hollowaybook_markExits #[.int .i64 i3, .int .i64 (l10.len : Int), .int .i64 (60 : Int)] w8 fun e17 w18 => ∃ s19 : Sl, e17 = .returned (s19.val) ∧
 ∃ s20 : Sl, ∃ w21 : World, (Builtin.append_ #[T_sl_api_Out, T_sl_api_Out] T_sl_api_Out #[l10.val, s19.val]).run Try.prog w18 = .ok (s20.val) w21 ∧
 ∀ (b22 : Nat) (w23 : World), b22 = w21.heap.size → w23 = World.alloc w21 (.cells #[s20.val] T_sl_api_Out) →
 ∃ s24 : Sl, ∃ w25 : World, (Builtin.append_ #[T_sl_sl_api_Out, T_sl_sl_api_Out] T_sl_sl_api_Out #[out16.val, .slice (some ⟨b22, 0, none⟩) 1 1]).run Try.prog w23 = .ok (s24.val) w25 ∧
 I1 s24 (wr (i3 + (1 : Int))) w25 ∧ μ1 s24 (wr (i3 + (1 : Int))) w25 < μ1 out16 i3 w2))
 (K (out16.val) w2)
def hollowaybook_Book_growExits_an : An := ⟨[(3, [(3, .sl), (4, .int .i64)]), (7, [(5, .sl), (6, .int .i64)])], []⟩
theorem hollowaybook_Book_growExits_lift {b_1 : Nat} {w : World} {K : Value → World → Prop} (h : hollowaybook_Book_growExits_sh b_1 w K) : Calls Try.prog fn_hollowaybook_Book_growExits #[.pointer (some ⟨b_1, 0, none⟩)] w fun e w' => ∃ v, e = .returned v ∧ K v w' :=
   lift_calls (A := hollowaybook_Book_growExits_an) (c := bodyOf Try.f60) (args := [.pointer (some ⟨b_1, 0, none⟩)]) orc orc_wide Try.func60 (by kernel_rfl) (by kernel_rfl) (Eq.mp (by kernel_rfl : hollowaybook_Book_growExits_sh b_1 w K = wpc orc Try.f60.ntmps hollowaybook_Book_growExits_an (bodyOf Try.f60) (argl 0 [.pointer (some ⟨b_1, 0, none⟩)]) w (retQ orc Try.f60.results.toList K)) h)

-- holloway/hollowaybook.markedTexts
def hollowaybook_markedTexts_sh (l_1 : Sl) (w : World) (K : Value → World → Prop) : Prop :=
 ∃ (I1 : Int → World → Prop) (μ1 : Int → World → Nat), I1 (0 : Int) w ∧ ∀ (i3 : Int) (w2 : World), I1 i3 w2 →
 brB (decide (i3 < (l_1.len : Int)))
 (∀ w4 : World, w4 = World.drew w2 →
 ∃ S5 : World → Prop, S5 w4 ∧
 ∃ a6 : Addr, l_1.ptr = some a6 ∧ 0 ≤ i3 ∧ i3 < (l_1.len : Int) ∧
 ∃ s7 : Sl, held S5 (Addr.add a6 (Int.toNat i3 * 1)) (s7.val) ∧
 ∃ a8 : Addr, l_1.ptr = some a8 ∧ 0 ≤ i3 ∧ i3 < (l_1.len : Int) ∧
 ∃ s9 : Sl, held S5 (Addr.add a8 (Int.toNat i3 * 1)) (s9.val) ∧
 Calls Try.prog fn_hollowaybook_markTexts #[.int .i64 i3, .int .i64 (0 : Int), .int .i64 (s9.len : Int)] w4 fun e10 w11 => ∃ s12 : Sl, e10 = .returned (s12.val) ∧
 S5 w11 ∧
 Calls Try.prog fn_hollowaybook_SameTexts #[s7.val, s12.val] w11 fun e13 w14 => ∃ b15 : Bool, e13 = .returned (.bool b15) ∧
 brB (!b15)
 (K (.bool false) w14)
 (I1 (wr (i3 + (1 : Int))) w14 ∧ μ1 (wr (i3 + (1 : Int))) w14 < μ1 i3 w2))
 (K (.bool true) w2)
def hollowaybook_markedTexts_an : An := ⟨[(2, [(3, .int .i64)])], [(4, (11, .st 0 (.st 1 (.st 2 (.st 3 (.st 4 (.st 5 (.st 6 (.st 7 (.st 8 (.st 9 (.ef 10 .done)))))))))), 1))]⟩
theorem hollowaybook_markedTexts_lift {l_1 : Sl} {w : World} {K : Value → World → Prop} (h : hollowaybook_markedTexts_sh l_1 w K) : Calls Try.prog fn_hollowaybook_markedTexts #[l_1.val] w fun e w' => ∃ v, e = .returned v ∧ K v w' :=
   lift_calls (A := hollowaybook_markedTexts_an) (c := bodyOf Try.f61) (args := [l_1.val]) orc orc_wide Try.func61 (by kernel_rfl) (by kernel_rfl) (Eq.mp (by kernel_rfl : hollowaybook_markedTexts_sh l_1 w K = wpc orc Try.f61.ntmps hollowaybook_markedTexts_an (bodyOf Try.f61) (argl 0 [l_1.val]) w (retQ orc Try.f61.results.toList K)) h)

-- holloway/hollowaybook.markedInts
def hollowaybook_markedInts_sh (l_1 : Sl) (w : World) (K : Value → World → Prop) : Prop :=
 ∃ (I1 : Int → World → Prop) (μ1 : Int → World → Nat), I1 (0 : Int) w ∧ ∀ (i3 : Int) (w2 : World), I1 i3 w2 →
 brB (decide (i3 < (l_1.len : Int)))
 (∀ w4 : World, w4 = World.drew w2 →
 ∃ S5 : World → Prop, S5 w4 ∧
 ∃ a6 : Addr, l_1.ptr = some a6 ∧ 0 ≤ i3 ∧ i3 < (l_1.len : Int) ∧
 ∃ s7 : Sl, held S5 (Addr.add a6 (Int.toNat i3 * 1)) (s7.val) ∧
 ∃ a8 : Addr, l_1.ptr = some a8 ∧ 0 ≤ i3 ∧ i3 < (l_1.len : Int) ∧
 ∃ s9 : Sl, held S5 (Addr.add a8 (Int.toNat i3 * 1)) (s9.val) ∧
 Calls Try.prog fn_hollowaybook_markInts #[.int .i64 i3, .int .i64 (0 : Int), .int .i64 (s9.len : Int)] w4 fun e10 w11 => ∃ s12 : Sl, e10 = .returned (s12.val) ∧
 S5 w11 ∧
 Calls Try.prog fn_hollowaybook_SameInts #[s7.val, s12.val] w11 fun e13 w14 => ∃ b15 : Bool, e13 = .returned (.bool b15) ∧
 brB (!b15)
 (K (.bool false) w14)
 (I1 (wr (i3 + (1 : Int))) w14 ∧ μ1 (wr (i3 + (1 : Int))) w14 < μ1 i3 w2))
 (K (.bool true) w2)
def hollowaybook_markedInts_an : An := ⟨[(2, [(3, .int .i64)])], [(4, (11, .st 0 (.st 1 (.st 2 (.st 3 (.st 4 (.st 5 (.st 6 (.st 7 (.st 8 (.st 9 (.ef 10 .done)))))))))), 1))]⟩
theorem hollowaybook_markedInts_lift {l_1 : Sl} {w : World} {K : Value → World → Prop} (h : hollowaybook_markedInts_sh l_1 w K) : Calls Try.prog fn_hollowaybook_markedInts #[l_1.val] w fun e w' => ∃ v, e = .returned v ∧ K v w' :=
   lift_calls (A := hollowaybook_markedInts_an) (c := bodyOf Try.f62) (args := [l_1.val]) orc orc_wide Try.func62 (by kernel_rfl) (by kernel_rfl) (Eq.mp (by kernel_rfl : hollowaybook_markedInts_sh l_1 w K = wpc orc Try.f62.ntmps hollowaybook_markedInts_an (bodyOf Try.f62) (argl 0 [l_1.val]) w (retQ orc Try.f62.results.toList K)) h)

-- holloway/hollowaybook.markedWords
def hollowaybook_markedWords_sh (l_1 : Sl) (w : World) (K : Value → World → Prop) : Prop :=
 ∃ (I1 : Int → World → Prop) (μ1 : Int → World → Nat), I1 (0 : Int) w ∧ ∀ (i3 : Int) (w2 : World), I1 i3 w2 →
 brB (decide (i3 < (l_1.len : Int)))
 (∀ w4 : World, w4 = World.drew w2 →
 ∃ S5 : World → Prop, S5 w4 ∧
 ∃ a6 : Addr, l_1.ptr = some a6 ∧ 0 ≤ i3 ∧ i3 < (l_1.len : Int) ∧
 ∃ s7 : Sl, held S5 (Addr.add a6 (Int.toNat i3 * 1)) (s7.val) ∧
 ∃ a8 : Addr, l_1.ptr = some a8 ∧ 0 ≤ i3 ∧ i3 < (l_1.len : Int) ∧
 ∃ s9 : Sl, held S5 (Addr.add a8 (Int.toNat i3 * 1)) (s9.val) ∧
 Calls Try.prog fn_hollowaybook_markWords #[.int .i64 i3, .int .i64 (0 : Int), .int .i64 (s9.len : Int)] w4 fun e10 w11 => ∃ s12 : Sl, e10 = .returned (s12.val) ∧
 S5 w11 ∧
 Calls Try.prog fn_hollowaybook_SameWords #[s7.val, s12.val] w11 fun e13 w14 => ∃ b15 : Bool, e13 = .returned (.bool b15) ∧
 brB (!b15)
 (K (.bool false) w14)
 (I1 (wr (i3 + (1 : Int))) w14 ∧ μ1 (wr (i3 + (1 : Int))) w14 < μ1 i3 w2))
 (K (.bool true) w2)
def hollowaybook_markedWords_an : An := ⟨[(2, [(3, .int .i64)])], [(4, (11, .st 0 (.st 1 (.st 2 (.st 3 (.st 4 (.st 5 (.st 6 (.st 7 (.st 8 (.st 9 (.ef 10 .done)))))))))), 1))]⟩
theorem hollowaybook_markedWords_lift {l_1 : Sl} {w : World} {K : Value → World → Prop} (h : hollowaybook_markedWords_sh l_1 w K) : Calls Try.prog fn_hollowaybook_markedWords #[l_1.val] w fun e w' => ∃ v, e = .returned v ∧ K v w' :=
   lift_calls (A := hollowaybook_markedWords_an) (c := bodyOf Try.f63) (args := [l_1.val]) orc orc_wide Try.func63 (by kernel_rfl) (by kernel_rfl) (Eq.mp (by kernel_rfl : hollowaybook_markedWords_sh l_1 w K = wpc orc Try.f63.ntmps hollowaybook_markedWords_an (bodyOf Try.f63) (argl 0 [l_1.val]) w (retQ orc Try.f63.results.toList K)) h)

-- holloway/hollowaybook.markedSeens
def hollowaybook_markedSeens_sh (l_1 : Sl) (w : World) (K : Value → World → Prop) : Prop :=
 ∃ (I1 : Int → World → Prop) (μ1 : Int → World → Nat), I1 (0 : Int) w ∧ ∀ (i3 : Int) (w2 : World), I1 i3 w2 →
 brB (decide (i3 < (l_1.len : Int)))
 (∀ w4 : World, w4 = World.drew w2 →
 ∃ S5 : World → Prop, S5 w4 ∧
 ∃ a6 : Addr, l_1.ptr = some a6 ∧ 0 ≤ i3 ∧ i3 < (l_1.len : Int) ∧
 ∃ s7 : Sl, held S5 (Addr.add a6 (Int.toNat i3 * 1)) (s7.val) ∧
 ∃ a8 : Addr, l_1.ptr = some a8 ∧ 0 ≤ i3 ∧ i3 < (l_1.len : Int) ∧
 ∃ s9 : Sl, held S5 (Addr.add a8 (Int.toNat i3 * 1)) (s9.val) ∧
 Calls Try.prog fn_hollowaybook_markSeens #[.int .i64 i3, .int .i64 (0 : Int), .int .i64 (s9.len : Int)] w4 fun e10 w11 => ∃ s12 : Sl, e10 = .returned (s12.val) ∧
 S5 w11 ∧
 Calls Try.prog fn_hollowaybook_SameSeens #[s7.val, s12.val] w11 fun e13 w14 => ∃ b15 : Bool, e13 = .returned (.bool b15) ∧
 brB (!b15)
 (K (.bool false) w14)
 (I1 (wr (i3 + (1 : Int))) w14 ∧ μ1 (wr (i3 + (1 : Int))) w14 < μ1 i3 w2))
 (K (.bool true) w2)
def hollowaybook_markedSeens_an : An := ⟨[(2, [(3, .int .i64)])], [(4, (11, .st 0 (.st 1 (.st 2 (.st 3 (.st 4 (.st 5 (.st 6 (.st 7 (.st 8 (.st 9 (.ef 10 .done)))))))))), 1))]⟩
theorem hollowaybook_markedSeens_lift {l_1 : Sl} {w : World} {K : Value → World → Prop} (h : hollowaybook_markedSeens_sh l_1 w K) : Calls Try.prog fn_hollowaybook_markedSeens #[l_1.val] w fun e w' => ∃ v, e = .returned v ∧ K v w' :=
   lift_calls (A := hollowaybook_markedSeens_an) (c := bodyOf Try.f64) (args := [l_1.val]) orc orc_wide Try.func64 (by kernel_rfl) (by kernel_rfl) (Eq.mp (by kernel_rfl : hollowaybook_markedSeens_sh l_1 w K = wpc orc Try.f64.ntmps hollowaybook_markedSeens_an (bodyOf Try.f64) (argl 0 [l_1.val]) w (retQ orc Try.f64.results.toList K)) h)

-- holloway/hollowaybook.markedCodes
def hollowaybook_markedCodes_sh (l_1 : Sl) (w : World) (K : Value → World → Prop) : Prop :=
 ∃ (I1 : Int → World → Prop) (μ1 : Int → World → Nat), I1 (0 : Int) w ∧ ∀ (i3 : Int) (w2 : World), I1 i3 w2 →
 brB (decide (i3 < (l_1.len : Int)))
 (∀ w4 : World, w4 = World.drew w2 →
 ∃ S5 : World → Prop, S5 w4 ∧
 ∃ a6 : Addr, l_1.ptr = some a6 ∧ 0 ≤ i3 ∧ i3 < (l_1.len : Int) ∧
 ∃ s7 : Sl, held S5 (Addr.add a6 (Int.toNat i3 * 1)) (s7.val) ∧
 ∃ a8 : Addr, l_1.ptr = some a8 ∧ 0 ≤ i3 ∧ i3 < (l_1.len : Int) ∧
 ∃ s9 : Sl, held S5 (Addr.add a8 (Int.toNat i3 * 1)) (s9.val) ∧
 Calls Try.prog fn_hollowaybook_markCodes #[.int .i64 i3, .int .i64 (0 : Int), .int .i64 (s9.len : Int)] w4 fun e10 w11 => ∃ s12 : Sl, e10 = .returned (s12.val) ∧
 S5 w11 ∧
 Calls Try.prog fn_hollowaybook_SameCodes #[s7.val, s12.val] w11 fun e13 w14 => ∃ b15 : Bool, e13 = .returned (.bool b15) ∧
 brB (!b15)
 (K (.bool false) w14)
 (I1 (wr (i3 + (1 : Int))) w14 ∧ μ1 (wr (i3 + (1 : Int))) w14 < μ1 i3 w2))
 (K (.bool true) w2)
def hollowaybook_markedCodes_an : An := ⟨[(2, [(3, .int .i64)])], [(4, (11, .st 0 (.st 1 (.st 2 (.st 3 (.st 4 (.st 5 (.st 6 (.st 7 (.st 8 (.st 9 (.ef 10 .done)))))))))), 1))]⟩
theorem hollowaybook_markedCodes_lift {l_1 : Sl} {w : World} {K : Value → World → Prop} (h : hollowaybook_markedCodes_sh l_1 w K) : Calls Try.prog fn_hollowaybook_markedCodes #[l_1.val] w fun e w' => ∃ v, e = .returned v ∧ K v w' :=
   lift_calls (A := hollowaybook_markedCodes_an) (c := bodyOf Try.f65) (args := [l_1.val]) orc orc_wide Try.func65 (by kernel_rfl) (by kernel_rfl) (Eq.mp (by kernel_rfl : hollowaybook_markedCodes_sh l_1 w K = wpc orc Try.f65.ntmps hollowaybook_markedCodes_an (bodyOf Try.f65) (argl 0 [l_1.val]) w (retQ orc Try.f65.results.toList K)) h)

-- holloway/hollowaybook.markedExits
def hollowaybook_markedExits_sh (l_1 : Sl) (w : World) (K : Value → World → Prop) : Prop :=
 ∃ (I1 : Int → World → Prop) (μ1 : Int → World → Nat), I1 (0 : Int) w ∧ ∀ (i3 : Int) (w2 : World), I1 i3 w2 →
 brB (decide (i3 < (l_1.len : Int)))
 (∀ w4 : World, w4 = World.drew w2 →
 ∃ S5 : World → Prop, S5 w4 ∧
 ∃ a6 : Addr, l_1.ptr = some a6 ∧ 0 ≤ i3 ∧ i3 < (l_1.len : Int) ∧
 ∃ s7 : Sl, held S5 (Addr.add a6 (Int.toNat i3 * 1)) (s7.val) ∧
 ∃ a8 : Addr, l_1.ptr = some a8 ∧ 0 ≤ i3 ∧ i3 < (l_1.len : Int) ∧
 ∃ s9 : Sl, held S5 (Addr.add a8 (Int.toNat i3 * 1)) (s9.val) ∧
 Calls Try.prog fn_hollowaybook_markExits #[.int .i64 i3, .int .i64 (0 : Int), .int .i64 (s9.len : Int)] w4 fun e10 w11 => ∃ s12 : Sl, e10 = .returned (s12.val) ∧
 S5 w11 ∧
 Calls Try.prog fn_hollowaybook_SameExits #[s7.val, s12.val] w11 fun e13 w14 => ∃ b15 : Bool, e13 = .returned (.bool b15) ∧
 brB (!b15)
 (K (.bool false) w14)
 (I1 (wr (i3 + (1 : Int))) w14 ∧ μ1 (wr (i3 + (1 : Int))) w14 < μ1 i3 w2))
 (K (.bool true) w2)
def hollowaybook_markedExits_an : An := ⟨[(2, [(3, .int .i64)])], [(4, (11, .st 0 (.st 1 (.st 2 (.st 3 (.st 4 (.st 5 (.st 6 (.st 7 (.st 8 (.st 9 (.ef 10 .done)))))))))), 1))]⟩
theorem hollowaybook_markedExits_lift {l_1 : Sl} {w : World} {K : Value → World → Prop} (h : hollowaybook_markedExits_sh l_1 w K) : Calls Try.prog fn_hollowaybook_markedExits #[l_1.val] w fun e w' => ∃ v, e = .returned v ∧ K v w' :=
   lift_calls (A := hollowaybook_markedExits_an) (c := bodyOf Try.f66) (args := [l_1.val]) orc orc_wide Try.func66 (by kernel_rfl) (by kernel_rfl) (Eq.mp (by kernel_rfl : hollowaybook_markedExits_sh l_1 w K = wpc orc Try.f66.ntmps hollowaybook_markedExits_an (bodyOf Try.f66) (argl 0 [l_1.val]) w (retQ orc Try.f66.results.toList K)) h)

-- holloway/hollowayref1.IsTwo
def hollowayref1_IsTwo_j1 (b3 : Bool) (w2 : World) (K : Value → World → Prop) : Prop :=
 K (.bool b3) w2
def hollowayref1_IsTwo_sh (op1 : Int) (w : World) (K : Value → World → Prop) : Prop :=
 brB (decide (op1 ≥ (11 : Int)))
 (brB (decide (op1 ≤ (15 : Int)))
 (hollowayref1_IsTwo_j1 true w K)
 (brB (decide (op1 ≥ (17 : Int)))
 (brB (decide (op1 ≤ (19 : Int)))
 (hollowayref1_IsTwo_j1 true w K)
 (brB (decide (op1 ≥ (21 : Int)))
 (brB (decide (op1 ≤ (25 : Int)))
 (hollowayref1_IsTwo_j1 true w K)
 (brB (op1 == (28 : Int))
 (hollowayref1_IsTwo_j1 true w K)
 (hollowayref1_IsTwo_j1 (op1 == (29 : Int)) w K)))
 (brB (op1 == (28 : Int))
 (hollowayref1_IsTwo_j1 true w K)
 (hollowayref1_IsTwo_j1 (op1 == (29 : Int)) w K))))
 (brB (decide (op1 ≥ (21 : Int)))
 (brB (decide (op1 ≤ (25 : Int)))
 (hollowayref1_IsTwo_j1 true w K)
 (brB (op1 == (28 : Int))
 (hollowayref1_IsTwo_j1 true w K)
 (hollowayref1_IsTwo_j1 (op1 == (29 : Int)) w K)))
 (brB (op1 == (28 : Int))
 (hollowayref1_IsTwo_j1 true w K)
 (hollowayref1_IsTwo_j1 (op1 == (29 : Int)) w K)))))
 (brB (decide (op1 ≥ (17 : Int)))
 (brB (decide (op1 ≤ (19 : Int)))
 (hollowayref1_IsTwo_j1 true w K)
 (brB (decide (op1 ≥ (21 : Int)))
 (brB (decide (op1 ≤ (25 : Int)))
 (hollowayref1_IsTwo_j1 true w K)
 (brB (op1 == (28 : Int))
 (hollowayref1_IsTwo_j1 true w K)
 (hollowayref1_IsTwo_j1 (op1 == (29 : Int)) w K)))
 (brB (op1 == (28 : Int))
 (hollowayref1_IsTwo_j1 true w K)
 (hollowayref1_IsTwo_j1 (op1 == (29 : Int)) w K))))
 (brB (decide (op1 ≥ (21 : Int)))
 (brB (decide (op1 ≤ (25 : Int)))
 (hollowayref1_IsTwo_j1 true w K)
 (brB (op1 == (28 : Int))
 (hollowayref1_IsTwo_j1 true w K)
 (hollowayref1_IsTwo_j1 (op1 == (29 : Int)) w K)))
 (brB (op1 == (28 : Int))
 (hollowayref1_IsTwo_j1 true w K)
 (hollowayref1_IsTwo_j1 (op1 == (29 : Int)) w K))))
def hollowayref1_IsTwo_an : An := ⟨[], []⟩
theorem hollowayref1_IsTwo_lift {op1 : Int} {w : World} {K : Value → World → Prop} (h : hollowayref1_IsTwo_sh op1 w K) : Calls Try.prog fn_hollowayref1_IsTwo #[.int .i64 op1] w fun e w' => ∃ v, e = .returned v ∧ K v w' :=
   lift_calls (A := hollowayref1_IsTwo_an) (c := bodyOf Try.f67) (args := [.int .i64 op1]) orc orc_wide Try.func67 (by kernel_rfl) (by kernel_rfl) (Eq.mp (by kernel_rfl : hollowayref1_IsTwo_sh op1 w K = wpc orc Try.f67.ntmps hollowayref1_IsTwo_an (bodyOf Try.f67) (argl 0 [.int .i64 op1]) w (retQ orc Try.f67.results.toList K)) h)

-- holloway/hollowayref1.Flag
def hollowayref1_Flag_sh (is1 : Bool) (w : World) (K : Value → World → Prop) : Prop :=
 brB is1
 (K (.int .i64 (-1 : Int)) w)
 (K (.int .i64 (0 : Int)) w)
def hollowayref1_Flag_an : An := ⟨[], []⟩
theorem hollowayref1_Flag_lift {is1 : Bool} {w : World} {K : Value → World → Prop} (h : hollowayref1_Flag_sh is1 w K) : Calls Try.prog fn_hollowayref1_Flag #[.bool is1] w fun e w' => ∃ v, e = .returned v ∧ K v w' :=
   lift_calls (A := hollowayref1_Flag_an) (c := bodyOf Try.f68) (args := [.bool is1]) orc orc_wide Try.func68 (by kernel_rfl) (by kernel_rfl) (Eq.mp (by kernel_rfl : hollowayref1_Flag_sh is1 w K = wpc orc Try.f68.ntmps hollowayref1_Flag_an (bodyOf Try.f68) (argl 0 [.bool is1]) w (retQ orc Try.f68.results.toList K)) h)

-- holloway/hollowaybook.SameTexts
def hollowaybook_SameTexts_sh (a_1 : Sl) (b_2 : Sl) (w : World) (K : Value → World → Prop) : Prop :=
 brB ((a_1.len : Int) != (b_2.len : Int))
 (K (.bool false) w)
 (∃ (I1 : Int → World → Prop) (μ1 : Int → World → Nat), I1 (0 : Int) w ∧ ∀ (i4 : Int) (w3 : World), I1 i4 w3 →
 brB (decide (i4 < (a_1.len : Int)))
 (∀ w5 : World, w5 = World.drew w3 →
 ∃ a6 : Addr, a_1.ptr = some a6 ∧ 0 ≤ i4 ∧ i4 < (a_1.len : Int) ∧
 ∃ t7 : ByteArray, held (Lw w5) (Addr.add a6 (Int.toNat i4 * 1)) (.string t7) ∧
 ∃ a8 : Addr, b_2.ptr = some a8 ∧ 0 ≤ i4 ∧ i4 < (b_2.len : Int) ∧
 ∃ t9 : ByteArray, held (Lw w5) (Addr.add a8 (Int.toNat i4 * 1)) (.string t9) ∧
 brB (!(t7.toList == t9.toList))
 (K (.bool false) w5)
 (I1 (wr (i4 + (1 : Int))) w5 ∧ μ1 (wr (i4 + (1 : Int))) w5 < μ1 i4 w3))
 (K (.bool true) w3))
def hollowaybook_SameTexts_an : An := ⟨[(4, [(5, .int .i64)])], [(6, (10, .st 0 (.st 1 (.st 2 (.st 3 (.st 4 (.st 5 (.st 6 (.st 7 (.st 8 (.st 9 .done))))))))), 0))]⟩
theorem hollowaybook_SameTexts_lift {a_1 : Sl} {b_2 : Sl} {w : World} {K : Value → World → Prop} (h : hollowaybook_SameTexts_sh a_1 b_2 w K) : Calls Try.prog fn_hollowaybook_SameTexts #[a_1.val, b_2.val] w fun e w' => ∃ v, e = .returned v ∧ K v w' :=
   lift_calls (A := hollowaybook_SameTexts_an) (c := bodyOf Try.f69) (args := [a_1.val, b_2.val]) orc orc_wide Try.func69 (by kernel_rfl) (by kernel_rfl) (Eq.mp (by kernel_rfl : hollowaybook_SameTexts_sh a_1 b_2 w K = wpc orc Try.f69.ntmps hollowaybook_SameTexts_an (bodyOf Try.f69) (argl 0 [a_1.val, b_2.val]) w (retQ orc Try.f69.results.toList K)) h)

-- holloway/hollowaybook.SameWords
def hollowaybook_SameWords_sh (a_1 : Sl) (b_2 : Sl) (w : World) (K : Value → World → Prop) : Prop :=
 brB ((a_1.len : Int) != (b_2.len : Int))
 (K (.bool false) w)
 (∃ (I1 : Int → World → Prop) (μ1 : Int → World → Nat), I1 (0 : Int) w ∧ ∀ (i4 : Int) (w3 : World), I1 i4 w3 →
 brB (decide (i4 < (a_1.len : Int)))
 (∀ w5 : World, w5 = World.drew w3 →
 ∃ a6 : Addr, a_1.ptr = some a6 ∧ 0 ≤ i4 ∧ i4 < (a_1.len : Int) ∧
 ∃ t_Name7 : ByteArray, ∃ n_Xt8 : Int, ∃ n_Op9 : Int, ∃ b_Immediate10 : Bool, held (Lw w5) (Addr.add a6 (Int.toNat i4 * 4)) (.string t_Name7) ∧ held (Lw w5) (Addr.add (Addr.add a6 (Int.toNat i4 * 4)) 1) (.int .i64 n_Xt8) ∧ held (Lw w5) (Addr.add (Addr.add a6 (Int.toNat i4 * 4)) 2) (.int .i64 n_Op9) ∧ held (Lw w5) (Addr.add (Addr.add a6 (Int.toNat i4 * 4)) 3) (.bool b_Immediate10) ∧
 ∃ a11 : Addr, b_2.ptr = some a11 ∧ 0 ≤ i4 ∧ i4 < (b_2.len : Int) ∧
 ∃ t_Name12 : ByteArray, ∃ n_Xt13 : Int, ∃ n_Op14 : Int, ∃ b_Immediate15 : Bool, held (Lw w5) (Addr.add a11 (Int.toNat i4 * 4)) (.string t_Name12) ∧ held (Lw w5) (Addr.add (Addr.add a11 (Int.toNat i4 * 4)) 1) (.int .i64 n_Xt13) ∧ held (Lw w5) (Addr.add (Addr.add a11 (Int.toNat i4 * 4)) 2) (.int .i64 n_Op14) ∧ held (Lw w5) (Addr.add (Addr.add a11 (Int.toNat i4 * 4)) 3) (.bool b_Immediate15) ∧
 ∃ b16 : Bool, ∃ w17 : World, ((do eqGuard .eql T_api_Word (.tmp 20) (.tmp 24) (.agg #[.string t_Name7, .int .i64 n_Xt8, .int .i64 n_Op9, .bool b_Immediate10]) (.agg #[.string t_Name12, .int .i64 n_Xt13, .int .i64 n_Op14, .bool b_Immediate15]); binOp .eql T_api_Word (.agg #[.string t_Name7, .int .i64 n_Xt8, .int .i64 n_Op9, .bool b_Immediate10]) (.agg #[.string t_Name12, .int .i64 n_Xt13, .int .i64 n_Op14, .bool b_Immediate15]) : Sem Value)).run Try.prog w5 = .ok (.bool b16) w17 ∧
 brB (!b16)
 (K (.bool false) w17)
 (I1 (wr (i4 + (1 : Int))) w17 ∧ μ1 (wr (i4 + (1 : Int))) w17 < μ1 i4 w3))
 (K (.bool true) w3))
def hollowaybook_SameWords_an : An := ⟨[(4, [(5, .int .i64)])], [(6, (8, .st 0 (.st 1 (.st 2 (.st 3 (.st 4 (.st 5 (.st 6 (.st 7 .done))))))), 0))]⟩
theorem hollowaybook_SameWords_lift {a_1 : Sl} {b_2 : Sl} {w : World} {K : Value → World → Prop} (h : hollowaybook_SameWords_sh a_1 b_2 w K) : Calls Try.prog fn_hollowaybook_SameWords #[a_1.val, b_2.val] w fun e w' => ∃ v, e = .returned v ∧ K v w' :=
   lift_calls (A := hollowaybook_SameWords_an) (c := bodyOf Try.f70) (args := [a_1.val, b_2.val]) orc orc_wide Try.func70 (by kernel_rfl) (by kernel_rfl) (Eq.mp (by kernel_rfl : hollowaybook_SameWords_sh a_1 b_2 w K = wpc orc Try.f70.ntmps hollowaybook_SameWords_an (bodyOf Try.f70) (argl 0 [a_1.val, b_2.val]) w (retQ orc Try.f70.results.toList K)) h)

-- holloway/hollowaybook.SameSeens
def hollowaybook_SameSeens_sh (a_1 : Sl) (b_2 : Sl) (w : World) (K : Value → World → Prop) : Prop :=
 brB ((a_1.len : Int) != (b_2.len : Int))
 (K (.bool false) w)
 (∃ (I1 : Int → World → Prop) (μ1 : Int → World → Nat), I1 (0 : Int) w ∧ ∀ (i4 : Int) (w3 : World), I1 i4 w3 →
 brB (decide (i4 < (a_1.len : Int)))
 (∀ w5 : World, w5 = World.drew w3 →
 ∃ a6 : Addr, a_1.ptr = some a6 ∧ 0 ≤ i4 ∧ i4 < (a_1.len : Int) ∧
 ∃ n_Ip7 : Int, ∃ n_Cell8 : Int, ∃ n_Arg9 : Int, ∃ n_Next10 : Int, held (Lw w5) (Addr.add a6 (Int.toNat i4 * 4)) (.int .i64 n_Ip7) ∧ held (Lw w5) (Addr.add (Addr.add a6 (Int.toNat i4 * 4)) 1) (.int .i64 n_Cell8) ∧ held (Lw w5) (Addr.add (Addr.add a6 (Int.toNat i4 * 4)) 2) (.int .i64 n_Arg9) ∧ held (Lw w5) (Addr.add (Addr.add a6 (Int.toNat i4 * 4)) 3) (.int .i64 n_Next10) ∧
 ∃ a11 : Addr, b_2.ptr = some a11 ∧ 0 ≤ i4 ∧ i4 < (b_2.len : Int) ∧
 ∃ n_Ip12 : Int, ∃ n_Cell13 : Int, ∃ n_Arg14 : Int, ∃ n_Next15 : Int, held (Lw w5) (Addr.add a11 (Int.toNat i4 * 4)) (.int .i64 n_Ip12) ∧ held (Lw w5) (Addr.add (Addr.add a11 (Int.toNat i4 * 4)) 1) (.int .i64 n_Cell13) ∧ held (Lw w5) (Addr.add (Addr.add a11 (Int.toNat i4 * 4)) 2) (.int .i64 n_Arg14) ∧ held (Lw w5) (Addr.add (Addr.add a11 (Int.toNat i4 * 4)) 3) (.int .i64 n_Next15) ∧
 ∃ b16 : Bool, ∃ w17 : World, ((do eqGuard .eql T_api_Seen (.tmp 20) (.tmp 24) (.agg #[.int .i64 n_Ip7, .int .i64 n_Cell8, .int .i64 n_Arg9, .int .i64 n_Next10]) (.agg #[.int .i64 n_Ip12, .int .i64 n_Cell13, .int .i64 n_Arg14, .int .i64 n_Next15]); binOp .eql T_api_Seen (.agg #[.int .i64 n_Ip7, .int .i64 n_Cell8, .int .i64 n_Arg9, .int .i64 n_Next10]) (.agg #[.int .i64 n_Ip12, .int .i64 n_Cell13, .int .i64 n_Arg14, .int .i64 n_Next15]) : Sem Value)).run Try.prog w5 = .ok (.bool b16) w17 ∧
 brB (!b16)
 (K (.bool false) w17)
 (I1 (wr (i4 + (1 : Int))) w17 ∧ μ1 (wr (i4 + (1 : Int))) w17 < μ1 i4 w3))
 (K (.bool true) w3))
def hollowaybook_SameSeens_an : An := ⟨[(4, [(5, .int .i64)])], [(6, (8, .st 0 (.st 1 (.st 2 (.st 3 (.st 4 (.st 5 (.st 6 (.st 7 .done))))))), 0))]⟩
theorem hollowaybook_SameSeens_lift {a_1 : Sl} {b_2 : Sl} {w : World} {K : Value → World → Prop} (h : hollowaybook_SameSeens_sh a_1 b_2 w K) : Calls Try.prog fn_hollowaybook_SameSeens #[a_1.val, b_2.val] w fun e w' => ∃ v, e = .returned v ∧ K v w' :=
   lift_calls (A := hollowaybook_SameSeens_an) (c := bodyOf Try.f71) (args := [a_1.val, b_2.val]) orc orc_wide Try.func71 (by kernel_rfl) (by kernel_rfl) (Eq.mp (by kernel_rfl : hollowaybook_SameSeens_sh a_1 b_2 w K = wpc orc Try.f71.ntmps hollowaybook_SameSeens_an (bodyOf Try.f71) (argl 0 [a_1.val, b_2.val]) w (retQ orc Try.f71.results.toList K)) h)

-- holloway/hollowaybook.SameCodes
def hollowaybook_SameCodes_sh (a_1 : Sl) (b_2 : Sl) (w : World) (K : Value → World → Prop) : Prop :=
 brB ((a_1.len : Int) != (b_2.len : Int))
 (K (.bool false) w)
 (∃ (I1 : Int → World → Prop) (μ1 : Int → World → Nat), I1 (0 : Int) w ∧ ∀ (i4 : Int) (w3 : World), I1 i4 w3 →
 brB (decide (i4 < (a_1.len : Int)))
 (∀ w5 : World, w5 = World.drew w3 →
 ∃ a6 : Addr, a_1.ptr = some a6 ∧ 0 ≤ i4 ∧ i4 < (a_1.len : Int) ∧
 ∃ n_Op7 : Int, ∃ n_A8 : Int, ∃ n_B9 : Int, ∃ n_C10 : Int, ∃ n_X11 : Int, held (Lw w5) (Addr.add a6 (Int.toNat i4 * 5)) (.int .i64 n_Op7) ∧ held (Lw w5) (Addr.add (Addr.add a6 (Int.toNat i4 * 5)) 1) (.int .i64 n_A8) ∧ held (Lw w5) (Addr.add (Addr.add a6 (Int.toNat i4 * 5)) 2) (.int .i64 n_B9) ∧ held (Lw w5) (Addr.add (Addr.add a6 (Int.toNat i4 * 5)) 3) (.int .i64 n_C10) ∧ held (Lw w5) (Addr.add (Addr.add a6 (Int.toNat i4 * 5)) 4) (.int .i64 n_X11) ∧
 ∃ a12 : Addr, b_2.ptr = some a12 ∧ 0 ≤ i4 ∧ i4 < (b_2.len : Int) ∧
 ∃ n_Op13 : Int, ∃ n_A14 : Int, ∃ n_B15 : Int, ∃ n_C16 : Int, ∃ n_X17 : Int, held (Lw w5) (Addr.add a12 (Int.toNat i4 * 5)) (.int .i64 n_Op13) ∧ held (Lw w5) (Addr.add (Addr.add a12 (Int.toNat i4 * 5)) 1) (.int .i64 n_A14) ∧ held (Lw w5) (Addr.add (Addr.add a12 (Int.toNat i4 * 5)) 2) (.int .i64 n_B15) ∧ held (Lw w5) (Addr.add (Addr.add a12 (Int.toNat i4 * 5)) 3) (.int .i64 n_C16) ∧ held (Lw w5) (Addr.add (Addr.add a12 (Int.toNat i4 * 5)) 4) (.int .i64 n_X17) ∧
 ∃ b18 : Bool, ∃ w19 : World, ((do eqGuard .eql T_api_Ins (.tmp 20) (.tmp 24) (.agg #[.int .i64 n_Op7, .int .i64 n_A8, .int .i64 n_B9, .int .i64 n_C10, .int .i64 n_X11]) (.agg #[.int .i64 n_Op13, .int .i64 n_A14, .int .i64 n_B15, .int .i64 n_C16, .int .i64 n_X17]); binOp .eql T_api_Ins (.agg #[.int .i64 n_Op7, .int .i64 n_A8, .int .i64 n_B9, .int .i64 n_C10, .int .i64 n_X11]) (.agg #[.int .i64 n_Op13, .int .i64 n_A14, .int .i64 n_B15, .int .i64 n_C16, .int .i64 n_X17]) : Sem Value)).run Try.prog w5 = .ok (.bool b18) w19 ∧
 brB (!b18)
 (K (.bool false) w19)
 (I1 (wr (i4 + (1 : Int))) w19 ∧ μ1 (wr (i4 + (1 : Int))) w19 < μ1 i4 w3))
 (K (.bool true) w3))
def hollowaybook_SameCodes_an : An := ⟨[(4, [(5, .int .i64)])], [(6, (8, .st 0 (.st 1 (.st 2 (.st 3 (.st 4 (.st 5 (.st 6 (.st 7 .done))))))), 0))]⟩
theorem hollowaybook_SameCodes_lift {a_1 : Sl} {b_2 : Sl} {w : World} {K : Value → World → Prop} (h : hollowaybook_SameCodes_sh a_1 b_2 w K) : Calls Try.prog fn_hollowaybook_SameCodes #[a_1.val, b_2.val] w fun e w' => ∃ v, e = .returned v ∧ K v w' :=
   lift_calls (A := hollowaybook_SameCodes_an) (c := bodyOf Try.f72) (args := [a_1.val, b_2.val]) orc orc_wide Try.func72 (by kernel_rfl) (by kernel_rfl) (Eq.mp (by kernel_rfl : hollowaybook_SameCodes_sh a_1 b_2 w K = wpc orc Try.f72.ntmps hollowaybook_SameCodes_an (bodyOf Try.f72) (argl 0 [a_1.val, b_2.val]) w (retQ orc Try.f72.results.toList K)) h)

-- holloway/hollowaybook.SameExits
def hollowaybook_SameExits_j1 (I1 : Int → World → Prop) (i4 : Int) (μ1 : Int → World → Nat) (w3 : World) (b30 : Bool) (w29 : World) (K : Value → World → Prop) : Prop :=
 brB b30
 (K (.bool false) w29)
 (I1 (wr (i4 + (1 : Int))) w29 ∧ μ1 (wr (i4 + (1 : Int))) w29 < μ1 i4 w3)
def hollowaybook_SameExits_sh (a_1 : Sl) (b_2 : Sl) (w : World) (K : Value → World → Prop) : Prop :=
 brB ((a_1.len : Int) != (b_2.len : Int))
 (K (.bool false) w)
 (∃ (I1 : Int → World → Prop) (μ1 : Int → World → Nat), I1 (0 : Int) w ∧ ∀ (i4 : Int) (w3 : World), I1 i4 w3 →
 brB (decide (i4 < (a_1.len : Int)))
 (∀ w5 : World, w5 = World.drew w3 →
 ∃ S6 : World → Prop, S6 w5 ∧
 ∃ a7 : Addr, a_1.ptr = some a7 ∧ 0 ≤ i4 ∧ i4 < (a_1.len : Int) ∧
 ∃ n8 : Int, held S6 (Addr.add a7 (Int.toNat i4 * 4)) (.int .i64 n8) ∧
 ∃ a9 : Addr, b_2.ptr = some a9 ∧ 0 ≤ i4 ∧ i4 < (b_2.len : Int) ∧
 ∃ n10 : Int, held S6 (Addr.add a9 (Int.toNat i4 * 4)) (.int .i64 n10) ∧
 brB (n8 == n10)
 (∃ a11 : Addr, a_1.ptr = some a11 ∧ 0 ≤ i4 ∧ i4 < (a_1.len : Int) ∧
 ∃ n12 : Int, held S6 (Addr.add (Addr.add a11 (Int.toNat i4 * 4)) 1) (.int .i64 n12) ∧
 ∃ a13 : Addr, b_2.ptr = some a13 ∧ 0 ≤ i4 ∧ i4 < (b_2.len : Int) ∧
 ∃ n14 : Int, held S6 (Addr.add (Addr.add a13 (Int.toNat i4 * 4)) 1) (.int .i64 n14) ∧
 brB (n12 == n14)
 (∃ a15 : Addr, a_1.ptr = some a15 ∧ 0 ≤ i4 ∧ i4 < (a_1.len : Int) ∧
 ∃ s16 : Sl, held S6 (Addr.add (Addr.add a15 (Int.toNat i4 * 4)) 2) (s16.val) ∧
 ∃ a17 : Addr, b_2.ptr = some a17 ∧ 0 ≤ i4 ∧ i4 < (b_2.len : Int) ∧
 ∃ s18 : Sl, held S6 (Addr.add (Addr.add a17 (Int.toNat i4 * 4)) 2) (s18.val) ∧
 Calls Try.prog fn_hollowaybook_SameInts #[s16.val, s18.val] w5 fun e19 w20 => ∃ b21 : Bool, e19 = .returned (.bool b21) ∧
 S6 w20 ∧
 brB b21
 (∃ a22 : Addr, a_1.ptr = some a22 ∧ 0 ≤ i4 ∧ i4 < (a_1.len : Int) ∧
 ∃ s23 : Sl, held S6 (Addr.add (Addr.add a22 (Int.toNat i4 * 4)) 3) (s23.val) ∧
 ∃ a24 : Addr, b_2.ptr = some a24 ∧ 0 ≤ i4 ∧ i4 < (b_2.len : Int) ∧
 ∃ s25 : Sl, held S6 (Addr.add (Addr.add a24 (Int.toNat i4 * 4)) 3) (s25.val) ∧
 Calls Try.prog fn_hollowaybook_SameInts #[s23.val, s25.val] w20 fun e26 w27 => ∃ b28 : Bool, e26 = .returned (.bool b28) ∧
 hollowaybook_SameExits_j1 I1 i4 (μ1) w3 (!b28) w27 K)
 (hollowaybook_SameExits_j1 I1 i4 (μ1) w3 true w20 K))
 (hollowaybook_SameExits_j1 I1 i4 (μ1) w3 true w5 K))
 (hollowaybook_SameExits_j1 I1 i4 (μ1) w3 true w5 K))
 (K (.bool true) w3))
def hollowaybook_SameExits_an : An := ⟨[(4, [(5, .int .i64)])], [(6, (48, .st 0 (.st 1 (.st 2 (.st 3 (.st 4 (.st 5 (.st 6 (.st 7 (.st 8 (.st 9 (.st 10 (.st 11 (.st 12 (.st 13 (.st 14 (.st 15 (.st 16 (.st 17 (.st 18 (.st 19 (.st 20 (.st 21 (.st 22 (.st 23 (.st 24 (.st 25 (.st 26 (.st 27 (.st 28 (.st 29 (.st 30 (.st 31 (.st 32 (.st 33 (.st 34 (.ef 35 (.st 36 (.st 37 (.st 38 (.st 39 (.st 40 (.st 41 (.st 42 (.st 43 (.st 44 (.st 45 (.st 46 (.st 47 .done))))))))))))))))))))))))))))))))))))))))))))))), 1))]⟩
theorem hollowaybook_SameExits_lift {a_1 : Sl} {b_2 : Sl} {w : World} {K : Value → World → Prop} (h : hollowaybook_SameExits_sh a_1 b_2 w K) : Calls Try.prog fn_hollowaybook_SameExits #[a_1.val, b_2.val] w fun e w' => ∃ v, e = .returned v ∧ K v w' :=
   lift_calls (A := hollowaybook_SameExits_an) (c := bodyOf Try.f73) (args := [a_1.val, b_2.val]) orc orc_wide Try.func73 (by kernel_rfl) (by kernel_rfl) (Eq.mp (by kernel_rfl : hollowaybook_SameExits_sh a_1 b_2 w K = wpc orc Try.f73.ntmps hollowaybook_SameExits_an (bodyOf Try.f73) (argl 0 [a_1.val, b_2.val]) w (retQ orc Try.f73.results.toList K)) h)

-- holloway/hollowaybook.markExits
def hollowaybook_markExits_sh (i_1 : Int) (from_2 : Int) (n_3 : Int) (w : World) (K : Value → World → Prop) : Prop :=
 ∃ (I1 : Sl → Int → World → Prop) (μ1 : Sl → Int → World → Nat), I1 (⟨none, 0, 0⟩ : Sl) from_2 w ∧ ∀ (out6 : Sl) (k5 : Int) (w4 : World), I1 out6 k5 w4 →
 brB (decide (k5 < (wr (from_2 + n_3))))
 (∀ (b7 : Nat) (w8 : World), b7 = w4.heap.size → w8 = World.alloc w4 (.cells #[.int .i64 (wr ((wr ((wr ((-1000 : Int) * i_1)) - k5)) - (1 : Int))), .int .i64 (0 : Int), .slice none 0 0, .slice none 0 0] T_api_Out) →
 ∃ s9 : Sl, ∃ w10 : World, (Builtin.append_ #[T_sl_api_Out, T_sl_api_Out] T_sl_api_Out #[out6.val, .slice (some ⟨b7, 0, none⟩) 1 1]).run Try.prog w8 = .ok (s9.val) w10 ∧
 I1 s9 (wr (k5 + (1 : Int))) w10 ∧ μ1 s9 (wr (k5 + (1 : Int))) w10 < μ1 out6 k5 w4)
 (K (out6.val) w4)
def hollowaybook_markExits_an : An := ⟨[(3, [(7, .sl), (8, .int .i64)])], []⟩
theorem hollowaybook_markExits_lift {i_1 : Int} {from_2 : Int} {n_3 : Int} {w : World} {K : Value → World → Prop} (h : hollowaybook_markExits_sh i_1 from_2 n_3 w K) : Calls Try.prog fn_hollowaybook_markExits #[.int .i64 i_1, .int .i64 from_2, .int .i64 n_3] w fun e w' => ∃ v, e = .returned v ∧ K v w' :=
   lift_calls (A := hollowaybook_markExits_an) (c := bodyOf Try.f74) (args := [.int .i64 i_1, .int .i64 from_2, .int .i64 n_3]) orc orc_wide Try.func74 (by kernel_rfl) (by kernel_rfl) (Eq.mp (by kernel_rfl : hollowaybook_markExits_sh i_1 from_2 n_3 w K = wpc orc Try.f74.ntmps hollowaybook_markExits_an (bodyOf Try.f74) (argl 0 [.int .i64 i_1, .int .i64 from_2, .int .i64 n_3]) w (retQ orc Try.f74.results.toList K)) h)

-- holloway/hollowaybook.markTexts
def hollowaybook_markTexts_sh (i_1 : Int) (from_2 : Int) (n_3 : Int) (w : World) (K : Value → World → Prop) : Prop :=
 ∃ (I1 : Sl → Int → World → Prop) (μ1 : Sl → Int → World → Nat), I1 (⟨none, 0, 0⟩ : Sl) from_2 w ∧ ∀ (out6 : Sl) (k5 : Int) (w4 : World), I1 out6 k5 w4 →
 brB (decide (k5 < (wr (from_2 + n_3))))
 (Calls Try.prog fn_hollowaybook_name #[.int .i64 i_1, .int .i64 k5] w4 fun e7 w8 => ∃ t9 : ByteArray, e7 = .returned (.string t9) ∧
 ∀ (b10 : Nat) (w11 : World), b10 = w8.heap.size → w11 = World.alloc w8 (.cells #[.string t9] T_string) →
 ∃ s12 : Sl, ∃ w13 : World, (Builtin.append_ #[T_sl_string, T_sl_string] T_sl_string #[out6.val, .slice (some ⟨b10, 0, none⟩) 1 1]).run Try.prog w11 = .ok (s12.val) w13 ∧
 I1 s12 (wr (k5 + (1 : Int))) w13 ∧ μ1 s12 (wr (k5 + (1 : Int))) w13 < μ1 out6 k5 w4)
 (K (out6.val) w4)
def hollowaybook_markTexts_an : An := ⟨[(3, [(7, .sl), (8, .int .i64)])], []⟩
theorem hollowaybook_markTexts_lift {i_1 : Int} {from_2 : Int} {n_3 : Int} {w : World} {K : Value → World → Prop} (h : hollowaybook_markTexts_sh i_1 from_2 n_3 w K) : Calls Try.prog fn_hollowaybook_markTexts #[.int .i64 i_1, .int .i64 from_2, .int .i64 n_3] w fun e w' => ∃ v, e = .returned v ∧ K v w' :=
   lift_calls (A := hollowaybook_markTexts_an) (c := bodyOf Try.f75) (args := [.int .i64 i_1, .int .i64 from_2, .int .i64 n_3]) orc orc_wide Try.func75 (by kernel_rfl) (by kernel_rfl) (Eq.mp (by kernel_rfl : hollowaybook_markTexts_sh i_1 from_2 n_3 w K = wpc orc Try.f75.ntmps hollowaybook_markTexts_an (bodyOf Try.f75) (argl 0 [.int .i64 i_1, .int .i64 from_2, .int .i64 n_3]) w (retQ orc Try.f75.results.toList K)) h)

-- holloway/hollowaybook.markInts
def hollowaybook_markInts_sh (i_1 : Int) (from_2 : Int) (n_3 : Int) (w : World) (K : Value → World → Prop) : Prop :=
 ∃ (I1 : Sl → Int → World → Prop) (μ1 : Sl → Int → World → Nat), I1 (⟨none, 0, 0⟩ : Sl) from_2 w ∧ ∀ (out6 : Sl) (k5 : Int) (w4 : World), I1 out6 k5 w4 →
 brB (decide (k5 < (wr (from_2 + n_3))))
 (∀ (b7 : Nat) (w8 : World), b7 = w4.heap.size → w8 = World.alloc w4 (.cells #[.int .i64 (wr ((wr ((wr ((-1000000 : Int) * i_1)) - k5)) - (7 : Int)))] T_int) →
 ∃ s9 : Sl, ∃ w10 : World, (Builtin.append_ #[T_sl_int, T_sl_int] T_sl_int #[out6.val, .slice (some ⟨b7, 0, none⟩) 1 1]).run Try.prog w8 = .ok (s9.val) w10 ∧
 I1 s9 (wr (k5 + (1 : Int))) w10 ∧ μ1 s9 (wr (k5 + (1 : Int))) w10 < μ1 out6 k5 w4)
 (K (out6.val) w4)
def hollowaybook_markInts_an : An := ⟨[(3, [(7, .sl), (8, .int .i64)])], []⟩
theorem hollowaybook_markInts_lift {i_1 : Int} {from_2 : Int} {n_3 : Int} {w : World} {K : Value → World → Prop} (h : hollowaybook_markInts_sh i_1 from_2 n_3 w K) : Calls Try.prog fn_hollowaybook_markInts #[.int .i64 i_1, .int .i64 from_2, .int .i64 n_3] w fun e w' => ∃ v, e = .returned v ∧ K v w' :=
   lift_calls (A := hollowaybook_markInts_an) (c := bodyOf Try.f76) (args := [.int .i64 i_1, .int .i64 from_2, .int .i64 n_3]) orc orc_wide Try.func76 (by kernel_rfl) (by kernel_rfl) (Eq.mp (by kernel_rfl : hollowaybook_markInts_sh i_1 from_2 n_3 w K = wpc orc Try.f76.ntmps hollowaybook_markInts_an (bodyOf Try.f76) (argl 0 [.int .i64 i_1, .int .i64 from_2, .int .i64 n_3]) w (retQ orc Try.f76.results.toList K)) h)

-- holloway/hollowaybook.markWords
def hollowaybook_markWords_sh (i_1 : Int) (from_2 : Int) (n_3 : Int) (w : World) (K : Value → World → Prop) : Prop :=
 ∃ (I1 : Sl → Int → World → Prop) (μ1 : Sl → Int → World → Nat), I1 (⟨none, 0, 0⟩ : Sl) from_2 w ∧ ∀ (out6 : Sl) (k5 : Int) (w4 : World), I1 out6 k5 w4 →
 brB (decide (k5 < (wr (from_2 + n_3))))
 (∀ (b7 : Nat) (w8 : World), b7 = w4.heap.size → w8 = World.alloc w4 (.cells #[.string (bs []), .int .i64 (wr ((wr ((wr ((-1000 : Int) * i_1)) - k5)) - (1 : Int))), .int .i64 (0 : Int), .bool false] T_api_Word) →
 ∃ s9 : Sl, ∃ w10 : World, (Builtin.append_ #[T_sl_api_Word, T_sl_api_Word] T_sl_api_Word #[out6.val, .slice (some ⟨b7, 0, none⟩) 1 1]).run Try.prog w8 = .ok (s9.val) w10 ∧
 I1 s9 (wr (k5 + (1 : Int))) w10 ∧ μ1 s9 (wr (k5 + (1 : Int))) w10 < μ1 out6 k5 w4)
 (K (out6.val) w4)
def hollowaybook_markWords_an : An := ⟨[(3, [(7, .sl), (8, .int .i64)])], []⟩
theorem hollowaybook_markWords_lift {i_1 : Int} {from_2 : Int} {n_3 : Int} {w : World} {K : Value → World → Prop} (h : hollowaybook_markWords_sh i_1 from_2 n_3 w K) : Calls Try.prog fn_hollowaybook_markWords #[.int .i64 i_1, .int .i64 from_2, .int .i64 n_3] w fun e w' => ∃ v, e = .returned v ∧ K v w' :=
   lift_calls (A := hollowaybook_markWords_an) (c := bodyOf Try.f77) (args := [.int .i64 i_1, .int .i64 from_2, .int .i64 n_3]) orc orc_wide Try.func77 (by kernel_rfl) (by kernel_rfl) (Eq.mp (by kernel_rfl : hollowaybook_markWords_sh i_1 from_2 n_3 w K = wpc orc Try.f77.ntmps hollowaybook_markWords_an (bodyOf Try.f77) (argl 0 [.int .i64 i_1, .int .i64 from_2, .int .i64 n_3]) w (retQ orc Try.f77.results.toList K)) h)

-- holloway/hollowaybook.markSeens
def hollowaybook_markSeens_sh (i_1 : Int) (from_2 : Int) (n_3 : Int) (w : World) (K : Value → World → Prop) : Prop :=
 ∃ (I1 : Sl → Int → World → Prop) (μ1 : Sl → Int → World → Nat), I1 (⟨none, 0, 0⟩ : Sl) from_2 w ∧ ∀ (out6 : Sl) (k5 : Int) (w4 : World), I1 out6 k5 w4 →
 brB (decide (k5 < (wr (from_2 + n_3))))
 (∀ (b7 : Nat) (w8 : World), b7 = w4.heap.size → w8 = World.alloc w4 (.cells #[.int .i64 (wr ((wr ((wr ((-1000 : Int) * i_1)) - k5)) - (1 : Int))), .int .i64 (0 : Int), .int .i64 (0 : Int), .int .i64 (0 : Int)] T_api_Seen) →
 ∃ s9 : Sl, ∃ w10 : World, (Builtin.append_ #[T_sl_api_Seen, T_sl_api_Seen] T_sl_api_Seen #[out6.val, .slice (some ⟨b7, 0, none⟩) 1 1]).run Try.prog w8 = .ok (s9.val) w10 ∧
 I1 s9 (wr (k5 + (1 : Int))) w10 ∧ μ1 s9 (wr (k5 + (1 : Int))) w10 < μ1 out6 k5 w4)
 (K (out6.val) w4)
def hollowaybook_markSeens_an : An := ⟨[(3, [(7, .sl), (8, .int .i64)])], []⟩
theorem hollowaybook_markSeens_lift {i_1 : Int} {from_2 : Int} {n_3 : Int} {w : World} {K : Value → World → Prop} (h : hollowaybook_markSeens_sh i_1 from_2 n_3 w K) : Calls Try.prog fn_hollowaybook_markSeens #[.int .i64 i_1, .int .i64 from_2, .int .i64 n_3] w fun e w' => ∃ v, e = .returned v ∧ K v w' :=
   lift_calls (A := hollowaybook_markSeens_an) (c := bodyOf Try.f78) (args := [.int .i64 i_1, .int .i64 from_2, .int .i64 n_3]) orc orc_wide Try.func78 (by kernel_rfl) (by kernel_rfl) (Eq.mp (by kernel_rfl : hollowaybook_markSeens_sh i_1 from_2 n_3 w K = wpc orc Try.f78.ntmps hollowaybook_markSeens_an (bodyOf Try.f78) (argl 0 [.int .i64 i_1, .int .i64 from_2, .int .i64 n_3]) w (retQ orc Try.f78.results.toList K)) h)

-- holloway/hollowaybook.markCodes
def hollowaybook_markCodes_sh (i_1 : Int) (from_2 : Int) (n_3 : Int) (w : World) (K : Value → World → Prop) : Prop :=
 ∃ (I1 : Sl → Int → World → Prop) (μ1 : Sl → Int → World → Nat), I1 (⟨none, 0, 0⟩ : Sl) from_2 w ∧ ∀ (out6 : Sl) (k5 : Int) (w4 : World), I1 out6 k5 w4 →
 brB (decide (k5 < (wr (from_2 + n_3))))
 (∀ (b7 : Nat) (w8 : World), b7 = w4.heap.size → w8 = World.alloc w4 (.cells #[.int .i64 (wr ((wr ((wr ((-1000 : Int) * i_1)) - k5)) - (1 : Int))), .int .i64 (0 : Int), .int .i64 (0 : Int), .int .i64 (0 : Int), .int .i64 (0 : Int)] T_api_Ins) →
 ∃ s9 : Sl, ∃ w10 : World, (Builtin.append_ #[T_sl_api_Ins, T_sl_api_Ins] T_sl_api_Ins #[out6.val, .slice (some ⟨b7, 0, none⟩) 1 1]).run Try.prog w8 = .ok (s9.val) w10 ∧
 I1 s9 (wr (k5 + (1 : Int))) w10 ∧ μ1 s9 (wr (k5 + (1 : Int))) w10 < μ1 out6 k5 w4)
 (K (out6.val) w4)
def hollowaybook_markCodes_an : An := ⟨[(3, [(7, .sl), (8, .int .i64)])], []⟩
theorem hollowaybook_markCodes_lift {i_1 : Int} {from_2 : Int} {n_3 : Int} {w : World} {K : Value → World → Prop} (h : hollowaybook_markCodes_sh i_1 from_2 n_3 w K) : Calls Try.prog fn_hollowaybook_markCodes #[.int .i64 i_1, .int .i64 from_2, .int .i64 n_3] w fun e w' => ∃ v, e = .returned v ∧ K v w' :=
   lift_calls (A := hollowaybook_markCodes_an) (c := bodyOf Try.f79) (args := [.int .i64 i_1, .int .i64 from_2, .int .i64 n_3]) orc orc_wide Try.func79 (by kernel_rfl) (by kernel_rfl) (Eq.mp (by kernel_rfl : hollowaybook_markCodes_sh i_1 from_2 n_3 w K = wpc orc Try.f79.ntmps hollowaybook_markCodes_an (bodyOf Try.f79) (argl 0 [.int .i64 i_1, .int .i64 from_2, .int .i64 n_3]) w (retQ orc Try.f79.results.toList K)) h)

-- holloway/hollowaybook.name
def hollowaybook_name_sh (i_1 : Int) (k_2 : Int) (w : World) (K : Value → World → Prop) : Prop :=
 (26 : Int) ≠ 0 ∧ (26 : Int) ≠ 0 ∧ (26 : Int) ≠ 0 ∧ (10 : Int) ≠ 0 ∧ (10 : Int) ≠ 0 ∧ (10 : Int) ≠ 0 ∧ (100 : Int) ≠ 0 ∧ (10 : Int) ≠ 0 ∧ ∀ (b3 : Nat) (w4 : World), b3 = w.heap.size → w4 = World.alloc w (.cells #[.int .u8 (109 : Int), .int .u8 (IntKind.wrap .u8 (wr ((65 : Int) + (Int.tmod i_1 (26 : Int))))), .int .u8 (IntKind.wrap .u8 (wr ((65 : Int) + (Int.tmod (wr (Int.tdiv i_1 (26 : Int))) (26 : Int))))), .int .u8 (IntKind.wrap .u8 (wr ((48 : Int) + (Int.tmod k_2 (10 : Int))))), .int .u8 (IntKind.wrap .u8 (wr ((48 : Int) + (Int.tmod (wr (Int.tdiv k_2 (10 : Int))) (10 : Int))))), .int .u8 (IntKind.wrap .u8 (wr ((48 : Int) + (Int.tmod (wr (Int.tdiv k_2 (100 : Int))) (10 : Int)))))] T_uint8) →
 ∃ t5 : ByteArray, ∃ w6 : World, (convert T_sl_uint8 T_string (.slice (some ⟨b3, 0, none⟩) 6 6)).run Try.prog w4 = .ok (.string t5) w6 ∧
 K (.string t5) w6
def hollowaybook_name_an : An := ⟨[], []⟩
theorem hollowaybook_name_lift {i_1 : Int} {k_2 : Int} {w : World} {K : Value → World → Prop} (h : hollowaybook_name_sh i_1 k_2 w K) : Calls Try.prog fn_hollowaybook_name #[.int .i64 i_1, .int .i64 k_2] w fun e w' => ∃ v, e = .returned v ∧ K v w' :=
   lift_calls (A := hollowaybook_name_an) (c := bodyOf Try.f80) (args := [.int .i64 i_1, .int .i64 k_2]) orc orc_wide Try.func80 (by kernel_rfl) (by kernel_rfl) (Eq.mp (by kernel_rfl : hollowaybook_name_sh i_1 k_2 w K = wpc orc Try.f80.ntmps hollowaybook_name_an (bodyOf Try.f80) (argl 0 [.int .i64 i_1, .int .i64 k_2]) w (retQ orc Try.f80.results.toList K)) h)

end Go.Proofs.Ytaikagkakajdfaa
