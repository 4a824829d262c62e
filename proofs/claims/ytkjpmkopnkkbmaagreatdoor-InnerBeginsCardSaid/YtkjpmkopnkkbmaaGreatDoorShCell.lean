/- Functions of Cell, read without their frames; that each is enough. Printed by a program of mine (wip/lift/gen.py). -/
import Derived.Test.YtkjpmkopnkkbmaaGreatDoorOrc
set_option maxRecDepth 100000
namespace Go.Proofs.YtkjpmkopnkkbmaaGreatDoor
open Go.RowKit

-- holloway/cell.Crosses
def cell_Crosses_sh (x_1 : Int) (n_2 : Int) (w : World) (K : Value → World → Prop) : Prop :=
 K (.bool (decide ((iand .i64 (ixor .i64 x_1 (wr (x_1 + n_2))) (ixor .i64 x_1 n_2)) < (0 : Int)))) w
def cell_Crosses_an : An := ⟨[], [], []⟩
theorem cell_Crosses_lift {x_1 : Int} {n_2 : Int} {w : World} {K : Value → World → Prop} (h : cell_Crosses_sh x_1 n_2 w K) : Calls Tryz.prog fn_cell_Crosses #[.int .i64 x_1, .int .i64 n_2] w fun e w' => ∃ v, e = .returned v ∧ K v w' :=
   lift_calls (A := cell_Crosses_an) (c := bodyOf Tryz.f156) (args := [.int .i64 x_1, .int .i64 n_2]) orc orc_wide Tryz.func156 (by kernel_rfl) (by kernel_rfl) (Eq.mp (by kernel_rfl : cell_Crosses_sh x_1 n_2 w K = wpc orc Tryz.f156.ntmps cell_Crosses_an (bodyOf Tryz.f156) (argl 0 [.int .i64 x_1, .int .i64 n_2]) w (retQ orc Tryz.f156.results.toList K)) h)

-- holloway/cell.One
def cell_One_sh (op1 : Int) (a_2 : Int) (w : World) (K : Value → World → Prop) : Prop :=
 brB (op1 == (16 : Int))
 (K (.tuple #[.int .i64 (wr (0 - a_2)), .bool true]) w)
 (brB (op1 == (20 : Int))
 (K (.tuple #[.int .i64 (ixor .i64 (-1) a_2), .bool true]) w)
 (brB (op1 == (26 : Int))
 (Calls Tryz.prog fn_cell_Flag #[.bool (a_2 == (0 : Int))] w fun e3 w4 => ∃ n5 : Int, e3 = .returned (.int .i64 n5) ∧
 K (.tuple #[.int .i64 n5, .bool true]) w4)
 (brB (op1 == (27 : Int))
 (Calls Tryz.prog fn_cell_Flag #[.bool (decide (a_2 < (0 : Int)))] w fun e6 w7 => ∃ n8 : Int, e6 = .returned (.int .i64 n8) ∧
 K (.tuple #[.int .i64 n8, .bool true]) w7)
 (K (.tuple #[.int .i64 (0 : Int), .bool false]) w))))
def cell_One_an : An := ⟨[], [], []⟩
theorem cell_One_lift {op1 : Int} {a_2 : Int} {w : World} {K : Value → World → Prop} (h : cell_One_sh op1 a_2 w K) : Calls Tryz.prog fn_cell_One #[.int .i64 op1, .int .i64 a_2] w fun e w' => ∃ v, e = .returned v ∧ K v w' :=
   lift_calls (A := cell_One_an) (c := bodyOf Tryz.f159) (args := [.int .i64 op1, .int .i64 a_2]) orc orc_wide Tryz.func159 (by kernel_rfl) (by kernel_rfl) (Eq.mp (by kernel_rfl : cell_One_sh op1 a_2 w K = wpc orc Tryz.f159.ntmps cell_One_an (bodyOf Tryz.f159) (argl 0 [.int .i64 op1, .int .i64 a_2]) w (retQ orc Tryz.f159.results.toList K)) h)

-- holloway/cell.Two
def cell_Two_j1 (J6 : World → Prop) (op1 : Int) (a_2 : Int) (b_3 : Int) (b7 : Bool) (w6 : World) (K : Value → World → Prop) : Prop :=
 brB b7
 (J6  w6)
 (brB (op1 == (25 : Int))
 (J6  w6)
 (brB (op1 == (28 : Int))
 (K (.tuple #[.int .i64 (imin a_2 b_3), .bool true]) w6)
 (brB (op1 == (29 : Int))
 (K (.tuple #[.int .i64 (imax a_2 b_3), .bool true]) w6)
 (K (.tuple #[.int .i64 (0 : Int), .bool false]) w6))))
def cell_Two_sh (op1 : Int) (a_2 : Int) (b_3 : Int) (w : World) (K : Value → World → Prop) : Prop :=
 ∃ J6 : World → Prop, (∀ (w22 : World), J6  w22 →
 Calls Tryz.prog fn_cell_compare #[.int .i64 op1, .int .i64 a_2, .int .i64 b_3] w22 fun e23 w24 => ∃ n25 : Int, e23 = .returned (.int .i64 n25) ∧
 K (.tuple #[.int .i64 n25, .bool true]) w24) ∧
 ∃ J7 : World → Prop, (∀ (w18 : World), J7  w18 →
 Calls Tryz.prog fn_cell_shift #[.int .i64 op1, .int .i64 a_2, .int .i64 b_3] w18 fun e19 w20 => ∃ n21 : Int, e19 = .returned (.int .i64 n21) ∧
 K (.tuple #[.int .i64 n21, .bool true]) w20) ∧
 brB (op1 == (11 : Int))
 (K (.tuple #[.int .i64 (wr (a_2 + b_3)), .bool true]) w)
 (brB (op1 == (12 : Int))
 (K (.tuple #[.int .i64 (wr (a_2 - b_3)), .bool true]) w)
 (brB (op1 == (13 : Int))
 (K (.tuple #[.int .i64 (wr (a_2 * b_3)), .bool true]) w)
 (brB (op1 == (14 : Int))
 (Calls Tryz.prog fn_cell_Floor #[.int .i64 a_2, .int .i64 b_3] w fun e8 w9 => ∃ n10 : Int, ∃ n11 : Int, ∃ b12 : Bool, e8 = .returned (.tuple #[.int .i64 n10, .int .i64 n11, .bool b12]) ∧
 K (.tuple #[.int .i64 n10, .bool b12]) w9)
 (brB (op1 == (15 : Int))
 (Calls Tryz.prog fn_cell_Floor #[.int .i64 a_2, .int .i64 b_3] w fun e13 w14 => ∃ n15 : Int, ∃ n16 : Int, ∃ b17 : Bool, e13 = .returned (.tuple #[.int .i64 n15, .int .i64 n16, .bool b17]) ∧
 K (.tuple #[.int .i64 n16, .bool b17]) w14)
 (brB (op1 == (17 : Int))
 (K (.tuple #[.int .i64 (iand .i64 a_2 b_3), .bool true]) w)
 (brB (op1 == (18 : Int))
 (K (.tuple #[.int .i64 (ior .i64 a_2 b_3), .bool true]) w)
 (brB (op1 == (19 : Int))
 (K (.tuple #[.int .i64 (ixor .i64 a_2 b_3), .bool true]) w)
 (brB (op1 == (21 : Int))
 (J7  w)
 (brB (op1 == (22 : Int))
 (J7  w)
 (brB (op1 == (23 : Int))
 (cell_Two_j1 J6 op1 a_2 b_3 (op1 == (23 : Int)) w K)
 (cell_Two_j1 J6 op1 a_2 b_3 (op1 == (24 : Int)) w K)))))))))))
def cell_Two_an : An := ⟨[], [], [(27, []), (28, [])]⟩
theorem cell_Two_lift {op1 : Int} {a_2 : Int} {b_3 : Int} {w : World} {K : Value → World → Prop} (h : cell_Two_sh op1 a_2 b_3 w K) : Calls Tryz.prog fn_cell_Two #[.int .i64 op1, .int .i64 a_2, .int .i64 b_3] w fun e w' => ∃ v, e = .returned v ∧ K v w' :=
   lift_calls (A := cell_Two_an) (c := bodyOf Tryz.f160) (args := [.int .i64 op1, .int .i64 a_2, .int .i64 b_3]) orc orc_wide Tryz.func160 (by kernel_rfl) (by kernel_rfl) (Eq.mp (by kernel_rfl : cell_Two_sh op1 a_2 b_3 w K = wpc orc Tryz.f160.ntmps cell_Two_an (bodyOf Tryz.f160) (argl 0 [.int .i64 op1, .int .i64 a_2, .int .i64 b_3]) w (retQ orc Tryz.f160.results.toList K)) h)

-- holloway/cell.Flag
def cell_Flag_sh (is1 : Bool) (w : World) (K : Value → World → Prop) : Prop :=
 brB is1
 (K (.int .i64 (-1 : Int)) w)
 (K (.int .i64 (0 : Int)) w)
def cell_Flag_an : An := ⟨[], [], []⟩
theorem cell_Flag_lift {is1 : Bool} {w : World} {K : Value → World → Prop} (h : cell_Flag_sh is1 w K) : Calls Tryz.prog fn_cell_Flag #[.bool is1] w fun e w' => ∃ v, e = .returned v ∧ K v w' :=
   lift_calls (A := cell_Flag_an) (c := bodyOf Tryz.f168) (args := [.bool is1]) orc orc_wide Tryz.func168 (by kernel_rfl) (by kernel_rfl) (Eq.mp (by kernel_rfl : cell_Flag_sh is1 w K = wpc orc Tryz.f168.ntmps cell_Flag_an (bodyOf Tryz.f168) (argl 0 [.bool is1]) w (retQ orc Tryz.f168.results.toList K)) h)

-- holloway/cell.Floor
def cell_Floor_sh (a_1 : Int) (b_2 : Int) (w : World) (K : Value → World → Prop) : Prop :=
 brB (b_2 == (0 : Int))
 (K (.tuple #[.int .i64 (0 : Int), .int .i64 (0 : Int), .bool false]) w)
 (brB (b_2 == (-1 : Int))
 (K (.tuple #[.int .i64 (wr (0 - a_1)), .int .i64 (0 : Int), .bool true]) w)
 (∀ w3 : World, w3 = World.drew w →
 b_2 ≠ 0 ∧ b_2 ≠ 0 ∧ ∃ J10 : Bool → World → Prop, (∀ (b5 : Bool) (w4 : World), J10 b5 w4 →
 brB b5
 (K (.tuple #[.int .i64 (wr ((wr (Int.tdiv a_1 b_2)) - (1 : Int))), .int .i64 (wr ((Int.tmod a_1 b_2) + b_2)), .bool true]) w4)
 (K (.tuple #[.int .i64 (wr (Int.tdiv a_1 b_2)), .int .i64 (Int.tmod a_1 b_2), .bool true]) w4)) ∧
 brB ((Int.tmod a_1 b_2) != (0 : Int))
 (J10 (!((decide ((Int.tmod a_1 b_2) < (0 : Int))) == (decide (b_2 < (0 : Int))))) w3)
 (J10 false w3)))
def cell_Floor_an : An := ⟨[], [(6, (8, .st 0 (.st 1 (.st 2 (.st 3 (.st 4 (.st 5 (.st 6 (.st 7 .done))))))), 0))], [(8, [(30, .bool)])]⟩
theorem cell_Floor_lift {a_1 : Int} {b_2 : Int} {w : World} {K : Value → World → Prop} (h : cell_Floor_sh a_1 b_2 w K) : Calls Tryz.prog fn_cell_Floor #[.int .i64 a_1, .int .i64 b_2] w fun e w' => ∃ v, e = .returned v ∧ K v w' :=
   lift_calls (A := cell_Floor_an) (c := bodyOf Tryz.f169) (args := [.int .i64 a_1, .int .i64 b_2]) orc orc_wide Tryz.func169 (by kernel_rfl) (by kernel_rfl) (Eq.mp (by kernel_rfl : cell_Floor_sh a_1 b_2 w K = wpc orc Tryz.f169.ntmps cell_Floor_an (bodyOf Tryz.f169) (argl 0 [.int .i64 a_1, .int .i64 b_2]) w (retQ orc Tryz.f169.results.toList K)) h)

-- holloway/cell.shift
def cell_shift_sh (op1 : Int) (a_2 : Int) (b_3 : Int) (w : World) (K : Value → World → Prop) : Prop :=
 ∃ J3 : Bool → World → Prop, (∀ (b5 : Bool) (w4 : World), J3 b5 w4 →
 brB b5
 (K (.int .i64 (0 : Int)) w4)
 (brB (op1 == (21 : Int))
 (0 ≤ (IntKind.wrap .u64 b_3) ∧ K (.int .i64 (ishl .i64 a_2 (IntKind.wrap .u64 b_3))) w4)
 (0 ≤ (IntKind.wrap .u64 b_3) ∧ K (.int .i64 (wr (ishr .u64 (IntKind.wrap .u64 a_2) (IntKind.wrap .u64 b_3)))) w4))) ∧
 brB (decide (b_3 < (0 : Int)))
 (J3 true w)
 (J3 (decide (b_3 ≥ (64 : Int))) w)
def cell_shift_an : An := ⟨[], [], [(2, [(7, .bool)])]⟩
theorem cell_shift_lift {op1 : Int} {a_2 : Int} {b_3 : Int} {w : World} {K : Value → World → Prop} (h : cell_shift_sh op1 a_2 b_3 w K) : Calls Tryz.prog fn_cell_shift #[.int .i64 op1, .int .i64 a_2, .int .i64 b_3] w fun e w' => ∃ v, e = .returned v ∧ K v w' :=
   lift_calls (A := cell_shift_an) (c := bodyOf Tryz.f170) (args := [.int .i64 op1, .int .i64 a_2, .int .i64 b_3]) orc orc_wide Tryz.func170 (by kernel_rfl) (by kernel_rfl) (Eq.mp (by kernel_rfl : cell_shift_sh op1 a_2 b_3 w K = wpc orc Tryz.f170.ntmps cell_shift_an (bodyOf Tryz.f170) (argl 0 [.int .i64 op1, .int .i64 a_2, .int .i64 b_3]) w (retQ orc Tryz.f170.results.toList K)) h)

-- holloway/cell.compare
def cell_compare_sh (op1 : Int) (a_2 : Int) (b_3 : Int) (w : World) (K : Value → World → Prop) : Prop :=
 brB (op1 == (23 : Int))
 (Calls Tryz.prog fn_cell_Flag #[.bool (a_2 == b_3)] w fun e4 w5 => ∃ n6 : Int, e4 = .returned (.int .i64 n6) ∧
 K (.int .i64 n6) w5)
 (brB (op1 == (24 : Int))
 (Calls Tryz.prog fn_cell_Flag #[.bool (decide (a_2 < b_3))] w fun e7 w8 => ∃ n9 : Int, e7 = .returned (.int .i64 n9) ∧
 K (.int .i64 n9) w8)
 (Calls Tryz.prog fn_cell_Flag #[.bool (decide ((IntKind.wrap .u64 a_2) < (IntKind.wrap .u64 b_3)))] w fun e10 w11 => ∃ n12 : Int, e10 = .returned (.int .i64 n12) ∧
 K (.int .i64 n12) w11))
def cell_compare_an : An := ⟨[], [], []⟩
theorem cell_compare_lift {op1 : Int} {a_2 : Int} {b_3 : Int} {w : World} {K : Value → World → Prop} (h : cell_compare_sh op1 a_2 b_3 w K) : Calls Tryz.prog fn_cell_compare #[.int .i64 op1, .int .i64 a_2, .int .i64 b_3] w fun e w' => ∃ v, e = .returned v ∧ K v w' :=
   lift_calls (A := cell_compare_an) (c := bodyOf Tryz.f171) (args := [.int .i64 op1, .int .i64 a_2, .int .i64 b_3]) orc orc_wide Tryz.func171 (by kernel_rfl) (by kernel_rfl) (Eq.mp (by kernel_rfl : cell_compare_sh op1 a_2 b_3 w K = wpc orc Tryz.f171.ntmps cell_compare_an (bodyOf Tryz.f171) (argl 0 [.int .i64 op1, .int .i64 a_2, .int .i64 b_3]) w (retQ orc Tryz.f171.results.toList K)) h)

end Go.Proofs.YtkjpmkopnkkbmaaGreatDoor
