/- Functions of Op, read without their frames; that each is enough. Printed by a program of mine (wip/lift/gen.py). -/
import Derived.Test.YtkjpmkopnkkbmaaGreatDoorOrc
set_option maxRecDepth 100000
namespace Go.Proofs.YtkjpmkopnkkbmaaGreatDoor
open Go.RowKit

-- holloway/op.Arg
def op_Arg_j1 (op1 : Int) (b5 : Bool) (w4 : World) (K : Value → World → Prop) : Prop :=
 brB b5
 (K (.bool true) w4)
 (brB (op1 == (4 : Int))
 ((brB (op1 == (4 : Int))
 (K (.bool true) w4)
 (brB (op1 == (38 : Int))
 (K (.bool true) w4)
 (K (.bool false) w4))))
 ((brB (op1 == (37 : Int))
 (K (.bool true) w4)
 (brB (op1 == (38 : Int))
 (K (.bool true) w4)
 (K (.bool false) w4)))))
def op_Arg_sh (op1 : Int) (w : World) (K : Value → World → Prop) : Prop :=
 brB (op1 == (2 : Int))
 (op_Arg_j1 op1 (op1 == (2 : Int)) w K)
 (op_Arg_j1 op1 (op1 == (3 : Int)) w K)
def op_Arg_an : An := ⟨[], [], []⟩
theorem op_Arg_lift {op1 : Int} {w : World} {K : Value → World → Prop} (h : op_Arg_sh op1 w K) : Calls Tryz.prog fn_op_Arg #[.int .i64 op1] w fun e w' => ∃ v, e = .returned v ∧ K v w' :=
   lift_calls (A := op_Arg_an) (c := bodyOf Tryz.f107) (args := [.int .i64 op1]) orc orc_wide Tryz.func107 (by kernel_rfl) (by kernel_rfl) (Eq.mp (by kernel_rfl : op_Arg_sh op1 w K = wpc orc Tryz.f107.ntmps op_Arg_an (bodyOf Tryz.f107) (argl 0 [.int .i64 op1]) w (retQ orc Tryz.f107.results.toList K)) h)

-- holloway/op.Right
def op_Right_sh (op1 : Int) (w : World) (K : Value → World → Prop) : Prop :=
 brB (decide (op1 ≥ (0 : Int)))
 (K (.bool (decide (op1 < (48 : Int)))) w)
 (K (.bool false) w)
def op_Right_an : An := ⟨[], [], []⟩
theorem op_Right_lift {op1 : Int} {w : World} {K : Value → World → Prop} (h : op_Right_sh op1 w K) : Calls Tryz.prog fn_op_Right #[.int .i64 op1] w fun e w' => ∃ v, e = .returned v ∧ K v w' :=
   lift_calls (A := op_Right_an) (c := bodyOf Tryz.f113) (args := [.int .i64 op1]) orc orc_wide Tryz.func113 (by kernel_rfl) (by kernel_rfl) (Eq.mp (by kernel_rfl : op_Right_sh op1 w K = wpc orc Tryz.f113.ntmps op_Right_an (bodyOf Tryz.f113) (argl 0 [.int .i64 op1]) w (retQ orc Tryz.f113.results.toList K)) h)

-- holloway/op.Name
def op_Name_sh (op1 : Int) (w : World) (K : Value → World → Prop) : Prop :=
 Calls Tryz.prog fn_op_of #[.int .i64 op1] w fun e2 w3 => ∃ t_name4 : ByteArray, ∃ n_takes5 : Int, ∃ n_backs6 : Int, ∃ n_gives7 : Int, ∃ n_givesBak8 : Int, e2 = .returned (.agg #[.string t_name4, .int .i64 n_takes5, .int .i64 n_backs6, .int .i64 n_gives7, .int .i64 n_givesBak8]) ∧
 K (.string t_name4) w3
def op_Name_an : An := ⟨[], [], []⟩
theorem op_Name_lift {op1 : Int} {w : World} {K : Value → World → Prop} (h : op_Name_sh op1 w K) : Calls Tryz.prog fn_op_Name #[.int .i64 op1] w fun e w' => ∃ v, e = .returned v ∧ K v w' :=
   lift_calls (A := op_Name_an) (c := bodyOf Tryz.f118) (args := [.int .i64 op1]) orc orc_wide Tryz.func118 (by kernel_rfl) (by kernel_rfl) (Eq.mp (by kernel_rfl : op_Name_sh op1 w K = wpc orc Tryz.f118.ntmps op_Name_an (bodyOf Tryz.f118) (argl 0 [.int .i64 op1]) w (retQ orc Tryz.f118.results.toList K)) h)

-- holloway/op.Plain
def op_Plain_j1 (op1 : Int) (b5 : Bool) (w4 : World) (K : Value → World → Prop) : Prop :=
 brB b5
 (K (.bool false) w4)
 (brB (op1 == (45 : Int))
 ((brB (op1 == (45 : Int))
 (K (.bool false) w4)
 (Calls Tryz.prog fn_op_Right #[.int .i64 op1] w4 fun e11 w12 => ∃ b13 : Bool, e11 = .returned (.bool b13) ∧
 K (.bool b13) w12)))
 ((brB (op1 == (46 : Int))
 (K (.bool false) w4)
 (Calls Tryz.prog fn_op_Right #[.int .i64 op1] w4 fun e11 w12 => ∃ b13 : Bool, e11 = .returned (.bool b13) ∧
 K (.bool b13) w12))))
def op_Plain_sh (op1 : Int) (w : World) (K : Value → World → Prop) : Prop :=
 brB (op1 == (0 : Int))
 (op_Plain_j1 op1 (op1 == (0 : Int)) w K)
 (op_Plain_j1 op1 (op1 == (1 : Int)) w K)
def op_Plain_an : An := ⟨[], [], []⟩
theorem op_Plain_lift {op1 : Int} {w : World} {K : Value → World → Prop} (h : op_Plain_sh op1 w K) : Calls Tryz.prog fn_op_Plain #[.int .i64 op1] w fun e w' => ∃ v, e = .returned v ∧ K v w' :=
   lift_calls (A := op_Plain_an) (c := bodyOf Tryz.f120) (args := [.int .i64 op1]) orc orc_wide Tryz.func120 (by kernel_rfl) (by kernel_rfl) (Eq.mp (by kernel_rfl : op_Plain_sh op1 w K = wpc orc Tryz.f120.ntmps op_Plain_an (bodyOf Tryz.f120) (argl 0 [.int .i64 op1]) w (retQ orc Tryz.f120.results.toList K)) h)

-- holloway/op.Takes
def op_Takes_sh (op1 : Int) (w : World) (K : Value → World → Prop) : Prop :=
 Calls Tryz.prog fn_op_of #[.int .i64 op1] w fun e2 w3 => ∃ t_name4 : ByteArray, ∃ n_takes5 : Int, ∃ n_backs6 : Int, ∃ n_gives7 : Int, ∃ n_givesBak8 : Int, e2 = .returned (.agg #[.string t_name4, .int .i64 n_takes5, .int .i64 n_backs6, .int .i64 n_gives7, .int .i64 n_givesBak8]) ∧
 ∀ (b9 : Nat) (w10 : World), b9 = w3.heap.size → w10 = World.alloc w3 (.cells #[.string (bs []), .int .i64 (0 : Int), .int .i64 (0 : Int), .int .i64 (0 : Int), .int .i64 (0 : Int)] T_op_row) →
 wrOk w10 ⟨b9, 0, none⟩ 5 ∧ ∀ w11 : World, w11 = stW w10 ⟨b9, 0, none⟩ 0 [.string t_name4, .int .i64 n_takes5, .int .i64 n_backs6, .int .i64 n_gives7, .int .i64 n_givesBak8] →
 ∀ w12 : World, w12 = World.drew w11 →
 ∃ n13 : Int, held (Lw w12) ⟨b9, 1, none⟩ (.int .i64 n13) ∧
 ∃ n14 : Int, held (Lw w12) ⟨b9, 2, none⟩ (.int .i64 n14) ∧
 K (.tuple #[.int .i64 n13, .int .i64 n14]) w12
def op_Takes_an : An := ⟨[], [(2, (6, .st 0 (.st 1 (.st 2 (.st 3 (.st 4 (.st 5 .done))))), 0))], []⟩
theorem op_Takes_lift {op1 : Int} {w : World} {K : Value → World → Prop} (h : op_Takes_sh op1 w K) : Calls Tryz.prog fn_op_Takes #[.int .i64 op1] w fun e w' => ∃ v, e = .returned v ∧ K v w' :=
   lift_calls (A := op_Takes_an) (c := bodyOf Tryz.f134) (args := [.int .i64 op1]) orc orc_wide Tryz.func134 (by kernel_rfl) (by kernel_rfl) (Eq.mp (by kernel_rfl : op_Takes_sh op1 w K = wpc orc Tryz.f134.ntmps op_Takes_an (bodyOf Tryz.f134) (argl 0 [.int .i64 op1]) w (retQ orc Tryz.f134.results.toList K)) h)

-- holloway/op.Gives
def op_Gives_sh (op1 : Int) (w : World) (K : Value → World → Prop) : Prop :=
 Calls Tryz.prog fn_op_of #[.int .i64 op1] w fun e2 w3 => ∃ t_name4 : ByteArray, ∃ n_takes5 : Int, ∃ n_backs6 : Int, ∃ n_gives7 : Int, ∃ n_givesBak8 : Int, e2 = .returned (.agg #[.string t_name4, .int .i64 n_takes5, .int .i64 n_backs6, .int .i64 n_gives7, .int .i64 n_givesBak8]) ∧
 ∀ (b9 : Nat) (w10 : World), b9 = w3.heap.size → w10 = World.alloc w3 (.cells #[.string (bs []), .int .i64 (0 : Int), .int .i64 (0 : Int), .int .i64 (0 : Int), .int .i64 (0 : Int)] T_op_row) →
 wrOk w10 ⟨b9, 0, none⟩ 5 ∧ ∀ w11 : World, w11 = stW w10 ⟨b9, 0, none⟩ 0 [.string t_name4, .int .i64 n_takes5, .int .i64 n_backs6, .int .i64 n_gives7, .int .i64 n_givesBak8] →
 ∀ w12 : World, w12 = World.drew w11 →
 ∃ n13 : Int, held (Lw w12) ⟨b9, 3, none⟩ (.int .i64 n13) ∧
 ∃ n14 : Int, held (Lw w12) ⟨b9, 4, none⟩ (.int .i64 n14) ∧
 K (.tuple #[.int .i64 n13, .int .i64 n14]) w12
def op_Gives_an : An := ⟨[], [(2, (6, .st 0 (.st 1 (.st 2 (.st 3 (.st 4 (.st 5 .done))))), 0))], []⟩
theorem op_Gives_lift {op1 : Int} {w : World} {K : Value → World → Prop} (h : op_Gives_sh op1 w K) : Calls Tryz.prog fn_op_Gives #[.int .i64 op1] w fun e w' => ∃ v, e = .returned v ∧ K v w' :=
   lift_calls (A := op_Gives_an) (c := bodyOf Tryz.f135) (args := [.int .i64 op1]) orc orc_wide Tryz.func135 (by kernel_rfl) (by kernel_rfl) (Eq.mp (by kernel_rfl : op_Gives_sh op1 w K = wpc orc Tryz.f135.ntmps op_Gives_an (bodyOf Tryz.f135) (argl 0 [.int .i64 op1]) w (retQ orc Tryz.f135.results.toList K)) h)

-- holloway/op.of
def op_of_sh (op1 : Int) (w : World) (K : Value → World → Prop) : Prop :=
 ∀ (b2 : Nat) (w3 : World), b2 = w.heap.size → w3 = World.alloc w (.cells #[.string (bs []), .int .i64 (0 : Int), .int .i64 (0 : Int), .int .i64 (0 : Int), .int .i64 (0 : Int)] T_op_row) →
 Calls Tryz.prog fn_op_Right #[.int .i64 op1] w3 fun e4 w5 => ∃ b6 : Bool, e4 = .returned (.bool b6) ∧
 brB (!b6)
 (wrOk w5 ⟨b2, 0, none⟩ 5 ∧ ∀ w7 : World, w7 = stW w5 ⟨b2, 0, none⟩ 0 [.string (bs []), .int .i64 (0 : Int), .int .i64 (0 : Int), .int .i64 (0 : Int), .int .i64 (0 : Int)] →
 ∃ r_name8 : ByteArray, ∃ r_takes9 : Int, ∃ r_backs10 : Int, ∃ r_gives11 : Int, ∃ r_givesBak12 : Int, w7.cell? ⟨b2, 0, none⟩ = some (.string r_name8) ∧ w7.cell? ⟨b2, 1, none⟩ = some (.int .i64 r_takes9) ∧ w7.cell? ⟨b2, 2, none⟩ = some (.int .i64 r_backs10) ∧ w7.cell? ⟨b2, 3, none⟩ = some (.int .i64 r_gives11) ∧ w7.cell? ⟨b2, 4, none⟩ = some (.int .i64 r_givesBak12) ∧
 K (.agg #[.string r_name8, .int .i64 r_takes9, .int .i64 r_backs10, .int .i64 r_gives11, .int .i64 r_givesBak12]) w7)
 (Calls Tryz.prog fn_op_table #[] w5 fun e13 w14 => ∃ v15 : Value, e13 = .returned (v15) ∧
 ∃ t_name16 : ByteArray, ∃ n_takes17 : Int, ∃ n_backs18 : Int, ∃ n_gives19 : Int, ∃ n_givesBak20 : Int, ∃ w21 : World, (Instr.index T_48_op_row (v15) (.int .i64 op1)).run Tryz.prog w14 = .ok (.agg #[.string t_name16, .int .i64 n_takes17, .int .i64 n_backs18, .int .i64 n_gives19, .int .i64 n_givesBak20]) w21 ∧
 wrOk w21 ⟨b2, 0, none⟩ 5 ∧ ∀ w22 : World, w22 = stW w21 ⟨b2, 0, none⟩ 0 [.string t_name16, .int .i64 n_takes17, .int .i64 n_backs18, .int .i64 n_gives19, .int .i64 n_givesBak20] →
 ∃ r_name23 : ByteArray, ∃ r_takes24 : Int, ∃ r_backs25 : Int, ∃ r_gives26 : Int, ∃ r_givesBak27 : Int, w22.cell? ⟨b2, 0, none⟩ = some (.string r_name23) ∧ w22.cell? ⟨b2, 1, none⟩ = some (.int .i64 r_takes24) ∧ w22.cell? ⟨b2, 2, none⟩ = some (.int .i64 r_backs25) ∧ w22.cell? ⟨b2, 3, none⟩ = some (.int .i64 r_gives26) ∧ w22.cell? ⟨b2, 4, none⟩ = some (.int .i64 r_givesBak27) ∧
 K (.agg #[.string r_name23, .int .i64 r_takes24, .int .i64 r_backs25, .int .i64 r_gives26, .int .i64 r_givesBak27]) w22)
def op_of_an : An := ⟨[], [], []⟩
theorem op_of_lift {op1 : Int} {w : World} {K : Value → World → Prop} (h : op_of_sh op1 w K) : Calls Tryz.prog fn_op_of #[.int .i64 op1] w fun e w' => ∃ v, e = .returned v ∧ K v w' :=
   lift_calls (A := op_of_an) (c := bodyOf Tryz.f147) (args := [.int .i64 op1]) orc orc_wide Tryz.func147 (by kernel_rfl) (by kernel_rfl) (Eq.mp (by kernel_rfl : op_of_sh op1 w K = wpc orc Tryz.f147.ntmps op_of_an (bodyOf Tryz.f147) (argl 0 [.int .i64 op1]) w (retQ orc Tryz.f147.results.toList K)) h)

-- holloway/op.table
def op_table_sh  (w : World) (K : Value → World → Prop) : Prop :=
 ∀ (b1 : Nat) (w2 : World), b1 = w.heap.size → w2 = World.alloc w (.cells #[.string (bs []), .int .i64 (0 : Int), .int .i64 (0 : Int), .int .i64 (0 : Int), .int .i64 (0 : Int), .string (bs []), .int .i64 (0 : Int), .int .i64 (0 : Int), .int .i64 (0 : Int), .int .i64 (0 : Int), .string (bs []), .int .i64 (0 : Int), .int .i64 (0 : Int), .int .i64 (0 : Int), .int .i64 (0 : Int), .string (bs []), .int .i64 (0 : Int), .int .i64 (0 : Int), .int .i64 (0 : Int), .int .i64 (0 : Int), .string (bs []), .int .i64 (0 : Int), .int .i64 (0 : Int), .int .i64 (0 : Int), .int .i64 (0 : Int), .string (bs []), .int .i64 (0 : Int), .int .i64 (0 : Int), .int .i64 (0 : Int), .int .i64 (0 : Int), .string (bs []), .int .i64 (0 : Int), .int .i64 (0 : Int), .int .i64 (0 : Int), .int .i64 (0 : Int), .string (bs []), .int .i64 (0 : Int), .int .i64 (0 : Int), .int .i64 (0 : Int), .int .i64 (0 : Int), .string (bs []), .int .i64 (0 : Int), .int .i64 (0 : Int), .int .i64 (0 : Int), .int .i64 (0 : Int), .string (bs []), .int .i64 (0 : Int), .int .i64 (0 : Int), .int .i64 (0 : Int), .int .i64 (0 : Int), .string (bs []), .int .i64 (0 : Int), .int .i64 (0 : Int), .int .i64 (0 : Int), .int .i64 (0 : Int), .string (bs []), .int .i64 (0 : Int), .int .i64 (0 : Int), .int .i64 (0 : Int), .int .i64 (0 : Int), .string (bs []), .int .i64 (0 : Int), .int .i64 (0 : Int), .int .i64 (0 : Int), .int .i64 (0 : Int), .string (bs []), .int .i64 (0 : Int), .int .i64 (0 : Int), .int .i64 (0 : Int), .int .i64 (0 : Int), .string (bs []), .int .i64 (0 : Int), .int .i64 (0 : Int), .int .i64 (0 : Int), .int .i64 (0 : Int), .string (bs []), .int .i64 (0 : Int), .int .i64 (0 : Int), .int .i64 (0 : Int), .int .i64 (0 : Int), .string (bs []), .int .i64 (0 : Int), .int .i64 (0 : Int), .int .i64 (0 : Int), .int .i64 (0 : Int), .string (bs []), .int .i64 (0 : Int), .int .i64 (0 : Int), .int .i64 (0 : Int), .int .i64 (0 : Int), .string (bs []), .int .i64 (0 : Int), .int .i64 (0 : Int), .int .i64 (0 : Int), .int .i64 (0 : Int), .string (bs []), .int .i64 (0 : Int), .int .i64 (0 : Int), .int .i64 (0 : Int), .int .i64 (0 : Int), .string (bs []), .int .i64 (0 : Int), .int .i64 (0 : Int), .int .i64 (0 : Int), .int .i64 (0 : Int), .string (bs []), .int .i64 (0 : Int), .int .i64 (0 : Int), .int .i64 (0 : Int), .int .i64 (0 : Int), .string (bs []), .int .i64 (0 : Int), .int .i64 (0 : Int), .int .i64 (0 : Int), .int .i64 (0 : Int), .string (bs []), .int .i64 (0 : Int), .int .i64 (0 : Int), .int .i64 (0 : Int), .int .i64 (0 : Int), .string (bs []), .int .i64 (0 : Int), .int .i64 (0 : Int), .int .i64 (0 : Int), .int .i64 (0 : Int), .string (bs []), .int .i64 (0 : Int), .int .i64 (0 : Int), .int .i64 (0 : Int), .int .i64 (0 : Int), .string (bs []), .int .i64 (0 : Int), .int .i64 (0 : Int), .int .i64 (0 : Int), .int .i64 (0 : Int), .string (bs []), .int .i64 (0 : Int), .int .i64 (0 : Int), .int .i64 (0 : Int), .int .i64 (0 : Int), .string (bs []), .int .i64 (0 : Int), .int .i64 (0 : Int), .int .i64 (0 : Int), .int .i64 (0 : Int), .string (bs []), .int .i64 (0 : Int), .int .i64 (0 : Int), .int .i64 (0 : Int), .int .i64 (0 : Int), .string (bs []), .int .i64 (0 : Int), .int .i64 (0 : Int), .int .i64 (0 : Int), .int .i64 (0 : Int), .string (bs []), .int .i64 (0 : Int), .int .i64 (0 : Int), .int .i64 (0 : Int), .int .i64 (0 : Int), .string (bs []), .int .i64 (0 : Int), .int .i64 (0 : Int), .int .i64 (0 : Int), .int .i64 (0 : Int), .string (bs []), .int .i64 (0 : Int), .int .i64 (0 : Int), .int .i64 (0 : Int), .int .i64 (0 : Int), .string (bs []), .int .i64 (0 : Int), .int .i64 (0 : Int), .int .i64 (0 : Int), .int .i64 (0 : Int), .string (bs []), .int .i64 (0 : Int), .int .i64 (0 : Int), .int .i64 (0 : Int), .int .i64 (0 : Int), .string (bs []), .int .i64 (0 : Int), .int .i64 (0 : Int), .int .i64 (0 : Int), .int .i64 (0 : Int), .string (bs []), .int .i64 (0 : Int), .int .i64 (0 : Int), .int .i64 (0 : Int), .int .i64 (0 : Int), .string (bs []), .int .i64 (0 : Int), .int .i64 (0 : Int), .int .i64 (0 : Int), .int .i64 (0 : Int), .string (bs []), .int .i64 (0 : Int), .int .i64 (0 : Int), .int .i64 (0 : Int), .int .i64 (0 : Int), .string (bs []), .int .i64 (0 : Int), .int .i64 (0 : Int), .int .i64 (0 : Int), .int .i64 (0 : Int), .string (bs []), .int .i64 (0 : Int), .int .i64 (0 : Int), .int .i64 (0 : Int), .int .i64 (0 : Int), .string (bs []), .int .i64 (0 : Int), .int .i64 (0 : Int), .int .i64 (0 : Int), .int .i64 (0 : Int), .string (bs []), .int .i64 (0 : Int), .int .i64 (0 : Int), .int .i64 (0 : Int), .int .i64 (0 : Int), .string (bs []), .int .i64 (0 : Int), .int .i64 (0 : Int), .int .i64 (0 : Int), .int .i64 (0 : Int), .string (bs []), .int .i64 (0 : Int), .int .i64 (0 : Int), .int .i64 (0 : Int), .int .i64 (0 : Int), .string (bs []), .int .i64 (0 : Int), .int .i64 (0 : Int), .int .i64 (0 : Int), .int .i64 (0 : Int), .string (bs []), .int .i64 (0 : Int), .int .i64 (0 : Int), .int .i64 (0 : Int), .int .i64 (0 : Int)] T_48_op_row) →
 wrOk w2 ⟨b1, 0, none⟩ 240 ∧ ∀ w3 : World, w3 = stW w2 ⟨b1, 0, none⟩ 0 [.string (bs [72, 65, 76, 84]), .int .i64 (0 : Int), .int .i64 (0 : Int), .int .i64 (0 : Int), .int .i64 (0 : Int), .string (bs [69, 78, 68, 67, 65, 84, 67, 72]), .int .i64 (0 : Int), .int .i64 (0 : Int), .int .i64 (0 : Int), .int .i64 (0 : Int), .string (bs [76, 73, 84]), .int .i64 (0 : Int), .int .i64 (0 : Int), .int .i64 (1 : Int), .int .i64 (0 : Int), .string (bs [66, 82, 65, 78, 67, 72]), .int .i64 (0 : Int), .int .i64 (0 : Int), .int .i64 (0 : Int), .int .i64 (0 : Int), .string (bs [48, 66, 82, 65, 78, 67, 72]), .int .i64 (1 : Int), .int .i64 (0 : Int), .int .i64 (0 : Int), .int .i64 (0 : Int), .string (bs [69, 88, 73, 84]), .int .i64 (0 : Int), .int .i64 (1 : Int), .int .i64 (0 : Int), .int .i64 (0 : Int), .string (bs [68, 85, 80]), .int .i64 (1 : Int), .int .i64 (0 : Int), .int .i64 (2 : Int), .int .i64 (0 : Int), .string (bs [68, 82, 79, 80]), .int .i64 (1 : Int), .int .i64 (0 : Int), .int .i64 (0 : Int), .int .i64 (0 : Int), .string (bs [83, 87, 65, 80]), .int .i64 (2 : Int), .int .i64 (0 : Int), .int .i64 (2 : Int), .int .i64 (0 : Int), .string (bs [79, 86, 69, 82]), .int .i64 (2 : Int), .int .i64 (0 : Int), .int .i64 (3 : Int), .int .i64 (0 : Int), .string (bs [82, 79, 84]), .int .i64 (3 : Int), .int .i64 (0 : Int), .int .i64 (3 : Int), .int .i64 (0 : Int), .string (bs [43]), .int .i64 (2 : Int), .int .i64 (0 : Int), .int .i64 (1 : Int), .int .i64 (0 : Int), .string (bs [45]), .int .i64 (2 : Int), .int .i64 (0 : Int), .int .i64 (1 : Int), .int .i64 (0 : Int), .string (bs [42]), .int .i64 (2 : Int), .int .i64 (0 : Int), .int .i64 (1 : Int), .int .i64 (0 : Int), .string (bs [47]), .int .i64 (2 : Int), .int .i64 (0 : Int), .int .i64 (1 : Int), .int .i64 (0 : Int), .string (bs [77, 79, 68]), .int .i64 (2 : Int), .int .i64 (0 : Int), .int .i64 (1 : Int), .int .i64 (0 : Int), .string (bs [78, 69, 71, 65, 84, 69]), .int .i64 (1 : Int), .int .i64 (0 : Int), .int .i64 (1 : Int), .int .i64 (0 : Int), .string (bs [65, 78, 68]), .int .i64 (2 : Int), .int .i64 (0 : Int), .int .i64 (1 : Int), .int .i64 (0 : Int), .string (bs [79, 82]), .int .i64 (2 : Int), .int .i64 (0 : Int), .int .i64 (1 : Int), .int .i64 (0 : Int), .string (bs [88, 79, 82]), .int .i64 (2 : Int), .int .i64 (0 : Int), .int .i64 (1 : Int), .int .i64 (0 : Int), .string (bs [73, 78, 86, 69, 82, 84]), .int .i64 (1 : Int), .int .i64 (0 : Int), .int .i64 (1 : Int), .int .i64 (0 : Int), .string (bs [76, 83, 72, 73, 70, 84]), .int .i64 (2 : Int), .int .i64 (0 : Int), .int .i64 (1 : Int), .int .i64 (0 : Int), .string (bs [82, 83, 72, 73, 70, 84]), .int .i64 (2 : Int), .int .i64 (0 : Int), .int .i64 (1 : Int), .int .i64 (0 : Int), .string (bs [61]), .int .i64 (2 : Int), .int .i64 (0 : Int), .int .i64 (1 : Int), .int .i64 (0 : Int), .string (bs [60]), .int .i64 (2 : Int), .int .i64 (0 : Int), .int .i64 (1 : Int), .int .i64 (0 : Int), .string (bs [85, 60]), .int .i64 (2 : Int), .int .i64 (0 : Int), .int .i64 (1 : Int), .int .i64 (0 : Int), .string (bs [48, 61]), .int .i64 (1 : Int), .int .i64 (0 : Int), .int .i64 (1 : Int), .int .i64 (0 : Int), .string (bs [48, 60]), .int .i64 (1 : Int), .int .i64 (0 : Int), .int .i64 (1 : Int), .int .i64 (0 : Int), .string (bs [77, 73, 78]), .int .i64 (2 : Int), .int .i64 (0 : Int), .int .i64 (1 : Int), .int .i64 (0 : Int), .string (bs [77, 65, 88]), .int .i64 (2 : Int), .int .i64 (0 : Int), .int .i64 (1 : Int), .int .i64 (0 : Int), .string (bs [64]), .int .i64 (1 : Int), .int .i64 (0 : Int), .int .i64 (1 : Int), .int .i64 (0 : Int), .string (bs [33]), .int .i64 (2 : Int), .int .i64 (0 : Int), .int .i64 (0 : Int), .int .i64 (0 : Int), .string (bs [43, 33]), .int .i64 (2 : Int), .int .i64 (0 : Int), .int .i64 (0 : Int), .int .i64 (0 : Int), .string (bs [62, 82]), .int .i64 (1 : Int), .int .i64 (0 : Int), .int .i64 (0 : Int), .int .i64 (1 : Int), .string (bs [82, 62]), .int .i64 (0 : Int), .int .i64 (1 : Int), .int .i64 (1 : Int), .int .i64 (0 : Int), .string (bs [82, 64]), .int .i64 (0 : Int), .int .i64 (1 : Int), .int .i64 (1 : Int), .int .i64 (1 : Int), .string (bs [40, 68, 79, 41]), .int .i64 (2 : Int), .int .i64 (0 : Int), .int .i64 (0 : Int), .int .i64 (2 : Int), .string (bs [40, 76, 79, 79, 80, 41]), .int .i64 (0 : Int), .int .i64 (2 : Int), .int .i64 (0 : Int), .int .i64 (2 : Int), .string (bs [40, 43, 76, 79, 79, 80, 41]), .int .i64 (1 : Int), .int .i64 (2 : Int), .int .i64 (0 : Int), .int .i64 (2 : Int), .string (bs [74]), .int .i64 (0 : Int), .int .i64 (3 : Int), .int .i64 (1 : Int), .int .i64 (3 : Int), .string (bs [85, 78, 76, 79, 79, 80]), .int .i64 (0 : Int), .int .i64 (2 : Int), .int .i64 (0 : Int), .int .i64 (0 : Int), .string (bs [69, 77, 73, 84]), .int .i64 (1 : Int), .int .i64 (0 : Int), .int .i64 (0 : Int), .int .i64 (0 : Int), .string (bs [46]), .int .i64 (1 : Int), .int .i64 (0 : Int), .int .i64 (0 : Int), .int .i64 (0 : Int), .string (bs [75, 69, 89]), .int .i64 (0 : Int), .int .i64 (0 : Int), .int .i64 (1 : Int), .int .i64 (0 : Int), .string (bs [69, 88, 69, 67, 85, 84, 69]), .int .i64 (1 : Int), .int .i64 (0 : Int), .int .i64 (0 : Int), .int .i64 (1 : Int), .string (bs [84, 72, 82, 79, 87]), .int .i64 (1 : Int), .int .i64 (0 : Int), .int .i64 (0 : Int), .int .i64 (0 : Int), .string (bs [67, 65, 84, 67, 72]), .int .i64 (1 : Int), .int .i64 (0 : Int), .int .i64 (0 : Int), .int .i64 (4 : Int), .string (bs [78, 79, 80]), .int .i64 (0 : Int), .int .i64 (0 : Int), .int .i64 (0 : Int), .int .i64 (0 : Int)] →
 ∃ r4 : List Value, r4.length = 240 ∧ (∀ (i : Nat) (u : Value), r4[i]? = some u → w3.cell? (Addr.add ⟨b1, 0, none⟩ i) = some u) ∧
 K (.agg r4.toArray) w3
def op_table_an : An := ⟨[], [], []⟩
theorem op_table_lift  {w : World} {K : Value → World → Prop} (h : op_table_sh  w K) : Calls Tryz.prog fn_op_table #[] w fun e w' => ∃ v, e = .returned v ∧ K v w' :=
   lift_calls (A := op_table_an) (c := bodyOf Tryz.f161) (args := []) orc orc_wide Tryz.func161 (by kernel_rfl) (by kernel_rfl) (Eq.mp (by kernel_rfl : op_table_sh  w K = wpc orc Tryz.f161.ntmps op_table_an (bodyOf Tryz.f161) (argl 0 []) w (retQ orc Tryz.f161.results.toList K)) h)

end Go.Proofs.YtkjpmkopnkkbmaaGreatDoor
