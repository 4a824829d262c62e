/- The package op. -/
import Derived.Test.YtkjpmkopnkkbmaaJ4
import Derived.Test.YtkjpmkopnkkbmaaJ2

/- Functions of Op, read without their frames; that each is enough. Printed by a program of mine (wip/lift/gen.py). -/
set_option maxRecDepth 100000
namespace Go.Proofs.Ytkjpmkopnkkbmaa
open Go.RowKit

-- holloway/op.Takes
def op_Takes_sh (op1 : Int) (w : World) (K : Value → World → Prop) : Prop :=
 Calls Try.prog fn_op_of #[.int .i64 op1] w fun e2 w3 => ∃ t_name4 : ByteArray, ∃ n_takes5 : Int, ∃ n_backs6 : Int, ∃ n_gives7 : Int, ∃ n_givesBak8 : Int, e2 = .returned (.agg #[.string t_name4, .int .i64 n_takes5, .int .i64 n_backs6, .int .i64 n_gives7, .int .i64 n_givesBak8]) ∧
 ∀ (b9 : Nat) (w10 : World), b9 = w3.heap.size → w10 = World.alloc w3 (.cells #[.string (bs []), .int .i64 (0 : Int), .int .i64 (0 : Int), .int .i64 (0 : Int), .int .i64 (0 : Int)] T_op_row) →
 wrOk w10 ⟨b9, 0, none⟩ 5 ∧ ∀ w11 : World, w11 = stW w10 ⟨b9, 0, none⟩ 0 [.string t_name4, .int .i64 n_takes5, .int .i64 n_backs6, .int .i64 n_gives7, .int .i64 n_givesBak8] →
 ∀ w12 : World, w12 = World.drew w11 →
 ∃ n13 : Int, held (Lw w12) ⟨b9, 1, none⟩ (.int .i64 n13) ∧
 ∃ n14 : Int, held (Lw w12) ⟨b9, 2, none⟩ (.int .i64 n14) ∧
 K (.tuple #[.int .i64 n13, .int .i64 n14]) w12
def op_Takes_an : An := ⟨[], [(2, (6, .st 0 (.st 1 (.st 2 (.st 3 (.st 4 (.st 5 .done))))), 0))], []⟩
theorem op_Takes_lift {op1 : Int} {w : World} {K : Value → World → Prop} (h : op_Takes_sh op1 w K) : Calls Try.prog fn_op_Takes #[.int .i64 op1] w fun e w' => ∃ v, e = .returned v ∧ K v w' :=
   lift_calls (A := op_Takes_an) (c := bodyOf Try.f26) (args := [.int .i64 op1]) orc orc_wide Try.func26 (by kernel_rfl) (by kernel_rfl) (Eq.mp (by kernel_rfl : op_Takes_sh op1 w K = wpc orc Try.f26.ntmps op_Takes_an (bodyOf Try.f26) (argl 0 [.int .i64 op1]) w (retQ orc Try.f26.results.toList K)) h)

-- holloway/op.Gives
def op_Gives_sh (op1 : Int) (w : World) (K : Value → World → Prop) : Prop :=
 Calls Try.prog fn_op_of #[.int .i64 op1] w fun e2 w3 => ∃ t_name4 : ByteArray, ∃ n_takes5 : Int, ∃ n_backs6 : Int, ∃ n_gives7 : Int, ∃ n_givesBak8 : Int, e2 = .returned (.agg #[.string t_name4, .int .i64 n_takes5, .int .i64 n_backs6, .int .i64 n_gives7, .int .i64 n_givesBak8]) ∧
 ∀ (b9 : Nat) (w10 : World), b9 = w3.heap.size → w10 = World.alloc w3 (.cells #[.string (bs []), .int .i64 (0 : Int), .int .i64 (0 : Int), .int .i64 (0 : Int), .int .i64 (0 : Int)] T_op_row) →
 wrOk w10 ⟨b9, 0, none⟩ 5 ∧ ∀ w11 : World, w11 = stW w10 ⟨b9, 0, none⟩ 0 [.string t_name4, .int .i64 n_takes5, .int .i64 n_backs6, .int .i64 n_gives7, .int .i64 n_givesBak8] →
 ∀ w12 : World, w12 = World.drew w11 →
 ∃ n13 : Int, held (Lw w12) ⟨b9, 3, none⟩ (.int .i64 n13) ∧
 ∃ n14 : Int, held (Lw w12) ⟨b9, 4, none⟩ (.int .i64 n14) ∧
 K (.tuple #[.int .i64 n13, .int .i64 n14]) w12
def op_Gives_an : An := ⟨[], [(2, (6, .st 0 (.st 1 (.st 2 (.st 3 (.st 4 (.st 5 .done))))), 0))], []⟩
theorem op_Gives_lift {op1 : Int} {w : World} {K : Value → World → Prop} (h : op_Gives_sh op1 w K) : Calls Try.prog fn_op_Gives #[.int .i64 op1] w fun e w' => ∃ v, e = .returned v ∧ K v w' :=
   lift_calls (A := op_Gives_an) (c := bodyOf Try.f27) (args := [.int .i64 op1]) orc orc_wide Try.func27 (by kernel_rfl) (by kernel_rfl) (Eq.mp (by kernel_rfl : op_Gives_sh op1 w K = wpc orc Try.f27.ntmps op_Gives_an (bodyOf Try.f27) (argl 0 [.int .i64 op1]) w (retQ orc Try.f27.results.toList K)) h)

-- holloway/op.of
def op_of_sh (op1 : Int) (w : World) (K : Value → World → Prop) : Prop :=
 ∀ (b2 : Nat) (w3 : World), b2 = w.heap.size → w3 = World.alloc w (.cells #[.string (bs []), .int .i64 (0 : Int), .int .i64 (0 : Int), .int .i64 (0 : Int), .int .i64 (0 : Int)] T_op_row) →
 Calls Try.prog fn_op_Right #[.int .i64 op1] w3 fun e4 w5 => ∃ b6 : Bool, e4 = .returned (.bool b6) ∧
 brB (!b6)
 (wrOk w5 ⟨b2, 0, none⟩ 5 ∧ ∀ w7 : World, w7 = stW w5 ⟨b2, 0, none⟩ 0 [.string (bs []), .int .i64 (0 : Int), .int .i64 (0 : Int), .int .i64 (0 : Int), .int .i64 (0 : Int)] →
 ∃ r_name8 : ByteArray, ∃ r_takes9 : Int, ∃ r_backs10 : Int, ∃ r_gives11 : Int, ∃ r_givesBak12 : Int, w7.cell? ⟨b2, 0, none⟩ = some (.string r_name8) ∧ w7.cell? ⟨b2, 1, none⟩ = some (.int .i64 r_takes9) ∧ w7.cell? ⟨b2, 2, none⟩ = some (.int .i64 r_backs10) ∧ w7.cell? ⟨b2, 3, none⟩ = some (.int .i64 r_gives11) ∧ w7.cell? ⟨b2, 4, none⟩ = some (.int .i64 r_givesBak12) ∧
 K (.agg #[.string r_name8, .int .i64 r_takes9, .int .i64 r_backs10, .int .i64 r_gives11, .int .i64 r_givesBak12]) w7)
 (Calls Try.prog fn_op_table #[] w5 fun e13 w14 => ∃ v15 : Value, e13 = .returned (v15) ∧
 ∃ t_name16 : ByteArray, ∃ n_takes17 : Int, ∃ n_backs18 : Int, ∃ n_gives19 : Int, ∃ n_givesBak20 : Int, ∃ w21 : World, (Instr.index T_48_op_row (v15) (.int .i64 op1)).run Try.prog w14 = .ok (.agg #[.string t_name16, .int .i64 n_takes17, .int .i64 n_backs18, .int .i64 n_gives19, .int .i64 n_givesBak20]) w21 ∧
 wrOk w21 ⟨b2, 0, none⟩ 5 ∧ ∀ w22 : World, w22 = stW w21 ⟨b2, 0, none⟩ 0 [.string t_name16, .int .i64 n_takes17, .int .i64 n_backs18, .int .i64 n_gives19, .int .i64 n_givesBak20] →
 ∃ r_name23 : ByteArray, ∃ r_takes24 : Int, ∃ r_backs25 : Int, ∃ r_gives26 : Int, ∃ r_givesBak27 : Int, w22.cell? ⟨b2, 0, none⟩ = some (.string r_name23) ∧ w22.cell? ⟨b2, 1, none⟩ = some (.int .i64 r_takes24) ∧ w22.cell? ⟨b2, 2, none⟩ = some (.int .i64 r_backs25) ∧ w22.cell? ⟨b2, 3, none⟩ = some (.int .i64 r_gives26) ∧ w22.cell? ⟨b2, 4, none⟩ = some (.int .i64 r_givesBak27) ∧
 K (.agg #[.string r_name23, .int .i64 r_takes24, .int .i64 r_backs25, .int .i64 r_gives26, .int .i64 r_givesBak27]) w22)
def op_of_an : An := ⟨[], [], []⟩
theorem op_of_lift {op1 : Int} {w : World} {K : Value → World → Prop} (h : op_of_sh op1 w K) : Calls Try.prog fn_op_of #[.int .i64 op1] w fun e w' => ∃ v, e = .returned v ∧ K v w' :=
   lift_calls (A := op_of_an) (c := bodyOf Try.f58) (args := [.int .i64 op1]) orc orc_wide Try.func58 (by kernel_rfl) (by kernel_rfl) (Eq.mp (by kernel_rfl : op_of_sh op1 w K = wpc orc Try.f58.ntmps op_of_an (bodyOf Try.f58) (argl 0 [.int .i64 op1]) w (retQ orc Try.f58.results.toList K)) h)

-- holloway/op.Arg
def op_Arg_j1 (op1 : Int) (b5 : Bool) (w4 : World) (K : Value → World → Prop) : Prop :=
 brB b5
 (K (.bool true) w4)
 (brB (op1 == (4 : Int))
 ((brB (op1 == (4 : Int))
 (K (.bool true) w4)
 (brB (op1 == (38 : Int))
 (K (.bool true) w4)
 (K (.bool false) w4))))
 ((brB (op1 == (37 : Int))
 (K (.bool true) w4)
 (brB (op1 == (38 : Int))
 (K (.bool true) w4)
 (K (.bool false) w4)))))
def op_Arg_sh (op1 : Int) (w : World) (K : Value → World → Prop) : Prop :=
 brB (op1 == (2 : Int))
 (op_Arg_j1 op1 (op1 == (2 : Int)) w K)
 (op_Arg_j1 op1 (op1 == (3 : Int)) w K)
def op_Arg_an : An := ⟨[], [], []⟩
theorem op_Arg_lift {op1 : Int} {w : World} {K : Value → World → Prop} (h : op_Arg_sh op1 w K) : Calls Try.prog fn_op_Arg #[.int .i64 op1] w fun e w' => ∃ v, e = .returned v ∧ K v w' :=
   lift_calls (A := op_Arg_an) (c := bodyOf Try.f64) (args := [.int .i64 op1]) orc orc_wide Try.func64 (by kernel_rfl) (by kernel_rfl) (Eq.mp (by kernel_rfl : op_Arg_sh op1 w K = wpc orc Try.f64.ntmps op_Arg_an (bodyOf Try.f64) (argl 0 [.int .i64 op1]) w (retQ orc Try.f64.results.toList K)) h)

-- holloway/op.Right
def op_Right_sh (op1 : Int) (w : World) (K : Value → World → Prop) : Prop :=
 brB (decide (op1 ≥ (0 : Int)))
 (K (.bool (decide (op1 < (48 : Int)))) w)
 (K (.bool false) w)
def op_Right_an : An := ⟨[], [], []⟩
theorem op_Right_lift {op1 : Int} {w : World} {K : Value → World → Prop} (h : op_Right_sh op1 w K) : Calls Try.prog fn_op_Right #[.int .i64 op1] w fun e w' => ∃ v, e = .returned v ∧ K v w' :=
   lift_calls (A := op_Right_an) (c := bodyOf Try.f78) (args := [.int .i64 op1]) orc orc_wide Try.func78 (by kernel_rfl) (by kernel_rfl) (Eq.mp (by kernel_rfl : op_Right_sh op1 w K = wpc orc Try.f78.ntmps op_Right_an (bodyOf Try.f78) (argl 0 [.int .i64 op1]) w (retQ orc Try.f78.results.toList K)) h)

-- holloway/op.table
def op_table_sh  (w : World) (K : Value → World → Prop) : Prop :=
 ∀ (b1 : Nat) (w2 : World), b1 = w.heap.size → w2 = World.alloc w (.cells #[.string (bs []), .int .i64 (0 : Int), .int .i64 (0 : Int), .int .i64 (0 : Int), .int .i64 (0 : Int), .string (bs []), .int .i64 (0 : Int), .int .i64 (0 : Int), .int .i64 (0 : Int), .int .i64 (0 : Int), .string (bs []), .int .i64 (0 : Int), .int .i64 (0 : Int), .int .i64 (0 : Int), .int .i64 (0 : Int), .string (bs []), .int .i64 (0 : Int), .int .i64 (0 : Int), .int .i64 (0 : Int), .int .i64 (0 : Int), .string (bs []), .int .i64 (0 : Int), .int .i64 (0 : Int), .int .i64 (0 : Int), .int .i64 (0 : Int), .string (bs []), .int .i64 (0 : Int), .int .i64 (0 : Int), .int .i64 (0 : Int), .int .i64 (0 : Int), .string (bs []), .int .i64 (0 : Int), .int .i64 (0 : Int), .int .i64 (0 : Int), .int .i64 (0 : Int), .string (bs []), .int .i64 (0 : Int), .int .i64 (0 : Int), .int .i64 (0 : Int), .int .i64 (0 : Int), .string (bs []), .int .i64 (0 : Int), .int .i64 (0 : Int), .int .i64 (0 : Int), .int .i64 (0 : Int), .string (bs []), .int .i64 (0 : Int), .int .i64 (0 : Int), .int .i64 (0 : Int), .int .i64 (0 : Int), .string (bs []), .int .i64 (0 : Int), .int .i64 (0 : Int), .int .i64 (0 : Int), .int .i64 (0 : Int), .string (bs []), .int .i64 (0 : Int), .int .i64 (0 : Int), .int .i64 (0 : Int), .int .i64 (0 : Int), .string (bs []), .int .i64 (0 : Int), .int .i64 (0 : Int), .int .i64 (0 : Int), .int .i64 (0 : Int), .string (bs []), .int .i64 (0 : Int), .int .i64 (0 : Int), .int .i64 (0 : Int), .int .i64 (0 : Int), .string (bs []), .int .i64 (0 : Int), .int .i64 (0 : Int), .int .i64 (0 : Int), .int .i64 (0 : Int), .string (bs []), .int .i64 (0 : Int), .int .i64 (0 : Int), .int .i64 (0 : Int), .int .i64 (0 : Int), .string (bs []), .int .i64 (0 : Int), .int .i64 (0 : Int), .int .i64 (0 : Int), .int .i64 (0 : Int), .string (bs []), .int .i64 (0 : Int), .int .i64 (0 : Int), .int .i64 (0 : Int), .int .i64 (0 : Int), .string (bs []), .int .i64 (0 : Int), .int .i64 (0 : Int), .int .i64 (0 : Int), .int .i64 (0 : Int), .string (bs []), .int .i64 (0 : Int), .int .i64 (0 : Int), .int .i64 (0 : Int), .int .i64 (0 : Int), .string (bs []), .int .i64 (0 : Int), .int .i64 (0 : Int), .int .i64 (0 : Int), .int .i64 (0 : Int), .string (bs []), .int .i64 (0 : Int), .int .i64 (0 : Int), .int .i64 (0 : Int), .int .i64 (0 : Int), .string (bs []), .int .i64 (0 : Int), .int .i64 (0 : Int), .int .i64 (0 : Int), .int .i64 (0 : Int), .string (bs []), .int .i64 (0 : Int), .int .i64 (0 : Int), .int .i64 (0 : Int), .int .i64 (0 : Int), .string (bs []), .int .i64 (0 : Int), .int .i64 (0 : Int), .int .i64 (0 : Int), .int .i64 (0 : Int), .string (bs []), .int .i64 (0 : Int), .int .i64 (0 : Int), .int .i64 (0 : Int), .int .i64 (0 : Int), .string (bs []), .int .i64 (0 : Int), .int .i64 (0 : Int), .int .i64 (0 : Int), .int .i64 (0 : Int), .string (bs []), .int .i64 (0 : Int), .int .i64 (0 : Int), .int .i64 (0 : Int), .int .i64 (0 : Int), .string (bs []), .int .i64 (0 : Int), .int .i64 (0 : Int), .int .i64 (0 : Int), .int .i64 (0 : Int), .string (bs []), .int .i64 (0 : Int), .int .i64 (0 : Int), .int .i64 (0 : Int), .int .i64 (0 : Int), .string (bs []), .int .i64 (0 : Int), .int .i64 (0 : Int), .int .i64 (0 : Int), .int .i64 (0 : Int), .string (bs []), .int .i64 (0 : Int), .int .i64 (0 : Int), .int .i64 (0 : Int), .int .i64 (0 : Int), .string (bs []), .int .i64 (0 : Int), .int .i64 (0 : Int), .int .i64 (0 : Int), .int .i64 (0 : Int), .string (bs []), .int .i64 (0 : Int), .int .i64 (0 : Int), .int .i64 (0 : Int), .int .i64 (0 : Int), .string (bs []), .int .i64 (0 : Int), .int .i64 (0 : Int), .int .i64 (0 : Int), .int .i64 (0 : Int), .string (bs []), .int .i64 (0 : Int), .int .i64 (0 : Int), .int .i64 (0 : Int), .int .i64 (0 : Int), .string (bs []), .int .i64 (0 : Int), .int .i64 (0 : Int), .int .i64 (0 : Int), .int .i64 (0 : Int), .string (bs []), .int .i64 (0 : Int), .int .i64 (0 : Int), .int .i64 (0 : Int), .int .i64 (0 : Int), .string (bs []), .int .i64 (0 : Int), .int .i64 (0 : Int), .int .i64 (0 : Int), .int .i64 (0 : Int), .string (bs []), .int .i64 (0 : Int), .int .i64 (0 : Int), .int .i64 (0 : Int), .int .i64 (0 : Int), .string (bs []), .int .i64 (0 : Int), .int .i64 (0 : Int), .int .i64 (0 : Int), .int .i64 (0 : Int), .string (bs []), .int .i64 (0 : Int), .int .i64 (0 : Int), .int .i64 (0 : Int), .int .i64 (0 : Int), .string (bs []), .int .i64 (0 : Int), .int .i64 (0 : Int), .int .i64 (0 : Int), .int .i64 (0 : Int), .string (bs []), .int .i64 (0 : Int), .int .i64 (0 : Int), .int .i64 (0 : Int), .int .i64 (0 : Int), .string (bs []), .int .i64 (0 : Int), .int .i64 (0 : Int), .int .i64 (0 : Int), .int .i64 (0 : Int), .string (bs []), .int .i64 (0 : Int), .int .i64 (0 : Int), .int .i64 (0 : Int), .int .i64 (0 : Int), .string (bs []), .int .i64 (0 : Int), .int .i64 (0 : Int), .int .i64 (0 : Int), .int .i64 (0 : Int), .string (bs []), .int .i64 (0 : Int), .int .i64 (0 : Int), .int .i64 (0 : Int), .int .i64 (0 : Int)] T_48_op_row) →
 wrOk w2 ⟨b1, 0, none⟩ 240 ∧ ∀ w3 : World, w3 = stW w2 ⟨b1, 0, none⟩ 0 [.string (bs [72, 65, 76, 84]), .int .i64 (0 : Int), .int .i64 (0 : Int), .int .i64 (0 : Int), .int .i64 (0 : Int), .string (bs [69, 78, 68, 67, 65, 84, 67, 72]), .int .i64 (0 : Int), .int .i64 (0 : Int), .int .i64 (0 : Int), .int .i64 (0 : Int), .string (bs [76, 73, 84]), .int .i64 (0 : Int), .int .i64 (0 : Int), .int .i64 (1 : Int), .int .i64 (0 : Int), .string (bs [66, 82, 65, 78, 67, 72]), .int .i64 (0 : Int), .int .i64 (0 : Int), .int .i64 (0 : Int), .int .i64 (0 : Int), .string (bs [48, 66, 82, 65, 78, 67, 72]), .int .i64 (1 : Int), .int .i64 (0 : Int), .int .i64 (0 : Int), .int .i64 (0 : Int), .string (bs [69, 88, 73, 84]), .int .i64 (0 : Int), .int .i64 (1 : Int), .int .i64 (0 : Int), .int .i64 (0 : Int), .string (bs [68, 85, 80]), .int .i64 (1 : Int), .int .i64 (0 : Int), .int .i64 (2 : Int), .int .i64 (0 : Int), .string (bs [68, 82, 79, 80]), .int .i64 (1 : Int), .int .i64 (0 : Int), .int .i64 (0 : Int), .int .i64 (0 : Int), .string (bs [83, 87, 65, 80]), .int .i64 (2 : Int), .int .i64 (0 : Int), .int .i64 (2 : Int), .int .i64 (0 : Int), .string (bs [79, 86, 69, 82]), .int .i64 (2 : Int), .int .i64 (0 : Int), .int .i64 (3 : Int), .int .i64 (0 : Int), .string (bs [82, 79, 84]), .int .i64 (3 : Int), .int .i64 (0 : Int), .int .i64 (3 : Int), .int .i64 (0 : Int), .string (bs [43]), .int .i64 (2 : Int), .int .i64 (0 : Int), .int .i64 (1 : Int), .int .i64 (0 : Int), .string (bs [45]), .int .i64 (2 : Int), .int .i64 (0 : Int), .int .i64 (1 : Int), .int .i64 (0 : Int), .string (bs [42]), .int .i64 (2 : Int), .int .i64 (0 : Int), .int .i64 (1 : Int), .int .i64 (0 : Int), .string (bs [47]), .int .i64 (2 : Int), .int .i64 (0 : Int), .int .i64 (1 : Int), .int .i64 (0 : Int), .string (bs [77, 79, 68]), .int .i64 (2 : Int), .int .i64 (0 : Int), .int .i64 (1 : Int), .int .i64 (0 : Int), .string (bs [78, 69, 71, 65, 84, 69]), .int .i64 (1 : Int), .int .i64 (0 : Int), .int .i64 (1 : Int), .int .i64 (0 : Int), .string (bs [65, 78, 68]), .int .i64 (2 : Int), .int .i64 (0 : Int), .int .i64 (1 : Int), .int .i64 (0 : Int), .string (bs [79, 82]), .int .i64 (2 : Int), .int .i64 (0 : Int), .int .i64 (1 : Int), .int .i64 (0 : Int), .string (bs [88, 79, 82]), .int .i64 (2 : Int), .int .i64 (0 : Int), .int .i64 (1 : Int), .int .i64 (0 : Int), .string (bs [73, 78, 86, 69, 82, 84]), .int .i64 (1 : Int), .int .i64 (0 : Int), .int .i64 (1 : Int), .int .i64 (0 : Int), .string (bs [76, 83, 72, 73, 70, 84]), .int .i64 (2 : Int), .int .i64 (0 : Int), .int .i64 (1 : Int), .int .i64 (0 : Int), .string (bs [82, 83, 72, 73, 70, 84]), .int .i64 (2 : Int), .int .i64 (0 : Int), .int .i64 (1 : Int), .int .i64 (0 : Int), .string (bs [61]), .int .i64 (2 : Int), .int .i64 (0 : Int), .int .i64 (1 : Int), .int .i64 (0 : Int), .string (bs [60]), .int .i64 (2 : Int), .int .i64 (0 : Int), .int .i64 (1 : Int), .int .i64 (0 : Int), .string (bs [85, 60]), .int .i64 (2 : Int), .int .i64 (0 : Int), .int .i64 (1 : Int), .int .i64 (0 : Int), .string (bs [48, 61]), .int .i64 (1 : Int), .int .i64 (0 : Int), .int .i64 (1 : Int), .int .i64 (0 : Int), .string (bs [48, 60]), .int .i64 (1 : Int), .int .i64 (0 : Int), .int .i64 (1 : Int), .int .i64 (0 : Int), .string (bs [77, 73, 78]), .int .i64 (2 : Int), .int .i64 (0 : Int), .int .i64 (1 : Int), .int .i64 (0 : Int), .string (bs [77, 65, 88]), .int .i64 (2 : Int), .int .i64 (0 : Int), .int .i64 (1 : Int), .int .i64 (0 : Int), .string (bs [64]), .int .i64 (1 : Int), .int .i64 (0 : Int), .int .i64 (1 : Int), .int .i64 (0 : Int), .string (bs [33]), .int .i64 (2 : Int), .int .i64 (0 : Int), .int .i64 (0 : Int), .int .i64 (0 : Int), .string (bs [43, 33]), .int .i64 (2 : Int), .int .i64 (0 : Int), .int .i64 (0 : Int), .int .i64 (0 : Int), .string (bs [62, 82]), .int .i64 (1 : Int), .int .i64 (0 : Int), .int .i64 (0 : Int), .int .i64 (1 : Int), .string (bs [82, 62]), .int .i64 (0 : Int), .int .i64 (1 : Int), .int .i64 (1 : Int), .int .i64 (0 : Int), .string (bs [82, 64]), .int .i64 (0 : Int), .int .i64 (1 : Int), .int .i64 (1 : Int), .int .i64 (1 : Int), .string (bs [40, 68, 79, 41]), .int .i64 (2 : Int), .int .i64 (0 : Int), .int .i64 (0 : Int), .int .i64 (2 : Int), .string (bs [40, 76, 79, 79, 80, 41]), .int .i64 (0 : Int), .int .i64 (2 : Int), .int .i64 (0 : Int), .int .i64 (2 : Int), .string (bs [40, 43, 76, 79, 79, 80, 41]), .int .i64 (1 : Int), .int .i64 (2 : Int), .int .i64 (0 : Int), .int .i64 (2 : Int), .string (bs [74]), .int .i64 (0 : Int), .int .i64 (3 : Int), .int .i64 (1 : Int), .int .i64 (3 : Int), .string (bs [85, 78, 76, 79, 79, 80]), .int .i64 (0 : Int), .int .i64 (2 : Int), .int .i64 (0 : Int), .int .i64 (0 : Int), .string (bs [69, 77, 73, 84]), .int .i64 (1 : Int), .int .i64 (0 : Int), .int .i64 (0 : Int), .int .i64 (0 : Int), .string (bs [46]), .int .i64 (1 : Int), .int .i64 (0 : Int), .int .i64 (0 : Int), .int .i64 (0 : Int), .string (bs [75, 69, 89]), .int .i64 (0 : Int), .int .i64 (0 : Int), .int .i64 (1 : Int), .int .i64 (0 : Int), .string (bs [69, 88, 69, 67, 85, 84, 69]), .int .i64 (1 : Int), .int .i64 (0 : Int), .int .i64 (0 : Int), .int .i64 (1 : Int), .string (bs [84, 72, 82, 79, 87]), .int .i64 (1 : Int), .int .i64 (0 : Int), .int .i64 (0 : Int), .int .i64 (0 : Int), .string (bs [67, 65, 84, 67, 72]), .int .i64 (1 : Int), .int .i64 (0 : Int), .int .i64 (0 : Int), .int .i64 (4 : Int), .string (bs [78, 79, 80]), .int .i64 (0 : Int), .int .i64 (0 : Int), .int .i64 (0 : Int), .int .i64 (0 : Int)] →
 ∃ r4 : List Value, r4.length = 240 ∧ (∀ (i : Nat) (u : Value), r4[i]? = some u → w3.cell? (Addr.add ⟨b1, 0, none⟩ i) = some u) ∧
 K (.agg r4.toArray) w3
def op_table_an : An := ⟨[], [], []⟩
theorem op_table_lift  {w : World} {K : Value → World → Prop} (h : op_table_sh  w K) : Calls Try.prog fn_op_table #[] w fun e w' => ∃ v, e = .returned v ∧ K v w' :=
   lift_calls (A := op_table_an) (c := bodyOf Try.f79) (args := []) orc orc_wide Try.func79 (by kernel_rfl) (by kernel_rfl) (Eq.mp (by kernel_rfl : op_table_sh  w K = wpc orc Try.f79.ntmps op_table_an (bodyOf Try.f79) (argl 0 []) w (retQ orc Try.f79.results.toList K)) h)

-- holloway/op.Plain
def op_Plain_j1 (op1 : Int) (b5 : Bool) (w4 : World) (K : Value → World → Prop) : Prop :=
 brB b5
 (K (.bool false) w4)
 (brB (op1 == (45 : Int))
 ((brB (op1 == (45 : Int))
 (K (.bool false) w4)
 (Calls Try.prog fn_op_Right #[.int .i64 op1] w4 fun e11 w12 => ∃ b13 : Bool, e11 = .returned (.bool b13) ∧
 K (.bool b13) w12)))
 ((brB (op1 == (46 : Int))
 (K (.bool false) w4)
 (Calls Try.prog fn_op_Right #[.int .i64 op1] w4 fun e11 w12 => ∃ b13 : Bool, e11 = .returned (.bool b13) ∧
 K (.bool b13) w12))))
def op_Plain_sh (op1 : Int) (w : World) (K : Value → World → Prop) : Prop :=
 brB (op1 == (0 : Int))
 (op_Plain_j1 op1 (op1 == (0 : Int)) w K)
 (op_Plain_j1 op1 (op1 == (1 : Int)) w K)
def op_Plain_an : An := ⟨[], [], []⟩
theorem op_Plain_lift {op1 : Int} {w : World} {K : Value → World → Prop} (h : op_Plain_sh op1 w K) : Calls Try.prog fn_op_Plain #[.int .i64 op1] w fun e w' => ∃ v, e = .returned v ∧ K v w' :=
   lift_calls (A := op_Plain_an) (c := bodyOf Try.f80) (args := [.int .i64 op1]) orc orc_wide Try.func80 (by kernel_rfl) (by kernel_rfl) (Eq.mp (by kernel_rfl : op_Plain_sh op1 w K = wpc orc Try.f80.ntmps op_Plain_an (bodyOf Try.f80) (argl 0 [.int .i64 op1]) w (retQ orc Try.f80.results.toList K)) h)

end Go.Proofs.Ytkjpmkopnkkbmaa

/- The contracts of the package op's small functions, and of its table; what the table says, as a list. -/
set_option maxRecDepth 100000
namespace Go.Proofs.Ytkjpmkopnkkbmaa
open Go.RowKit

/-- A row of the table of operations. -/
structure OpRow where
  name : List UInt8
  takes : Int
  backs : Int
  gives : Int
  givesBak : Int
def rowE : Enc OpRow := ⟨T_op_row, 5, 48, fun r => [.string (bs r.name), .int .i64 r.takes, .int .i64 r.backs, .int .i64 r.gives, .int .i64 r.givesBak], by intro x; rfl, by intro x u hu; simp at hu; rcases hu with rfl | rfl | rfl | rfl | rfl <;> rfl, by decide⟩
def opRows : List OpRow := [⟨[72, 65, 76, 84], 0, 0, 0, 0⟩,
  ⟨[69, 78, 68, 67, 65, 84, 67, 72], 0, 0, 0, 0⟩,
  ⟨[76, 73, 84], 0, 0, 1, 0⟩,
  ⟨[66, 82, 65, 78, 67, 72], 0, 0, 0, 0⟩,
  ⟨[48, 66, 82, 65, 78, 67, 72], 1, 0, 0, 0⟩,
  ⟨[69, 88, 73, 84], 0, 1, 0, 0⟩,
  ⟨[68, 85, 80], 1, 0, 2, 0⟩,
  ⟨[68, 82, 79, 80], 1, 0, 0, 0⟩,
  ⟨[83, 87, 65, 80], 2, 0, 2, 0⟩,
  ⟨[79, 86, 69, 82], 2, 0, 3, 0⟩,
  ⟨[82, 79, 84], 3, 0, 3, 0⟩,
  ⟨[43], 2, 0, 1, 0⟩,
  ⟨[45], 2, 0, 1, 0⟩,
  ⟨[42], 2, 0, 1, 0⟩,
  ⟨[47], 2, 0, 1, 0⟩,
  ⟨[77, 79, 68], 2, 0, 1, 0⟩,
  ⟨[78, 69, 71, 65, 84, 69], 1, 0, 1, 0⟩,
  ⟨[65, 78, 68], 2, 0, 1, 0⟩,
  ⟨[79, 82], 2, 0, 1, 0⟩,
  ⟨[88, 79, 82], 2, 0, 1, 0⟩,
  ⟨[73, 78, 86, 69, 82, 84], 1, 0, 1, 0⟩,
  ⟨[76, 83, 72, 73, 70, 84], 2, 0, 1, 0⟩,
  ⟨[82, 83, 72, 73, 70, 84], 2, 0, 1, 0⟩,
  ⟨[61], 2, 0, 1, 0⟩,
  ⟨[60], 2, 0, 1, 0⟩,
  ⟨[85, 60], 2, 0, 1, 0⟩,
  ⟨[48, 61], 1, 0, 1, 0⟩,
  ⟨[48, 60], 1, 0, 1, 0⟩,
  ⟨[77, 73, 78], 2, 0, 1, 0⟩,
  ⟨[77, 65, 88], 2, 0, 1, 0⟩,
  ⟨[64], 1, 0, 1, 0⟩,
  ⟨[33], 2, 0, 0, 0⟩,
  ⟨[43, 33], 2, 0, 0, 0⟩,
  ⟨[62, 82], 1, 0, 0, 1⟩,
  ⟨[82, 62], 0, 1, 1, 0⟩,
  ⟨[82, 64], 0, 1, 1, 1⟩,
  ⟨[40, 68, 79, 41], 2, 0, 0, 2⟩,
  ⟨[40, 76, 79, 79, 80, 41], 0, 2, 0, 2⟩,
  ⟨[40, 43, 76, 79, 79, 80, 41], 1, 2, 0, 2⟩,
  ⟨[74], 0, 3, 1, 3⟩,
  ⟨[85, 78, 76, 79, 79, 80], 0, 2, 0, 0⟩,
  ⟨[69, 77, 73, 84], 1, 0, 0, 0⟩,
  ⟨[46], 1, 0, 0, 0⟩,
  ⟨[75, 69, 89], 0, 0, 1, 0⟩,
  ⟨[69, 88, 69, 67, 85, 84, 69], 1, 0, 0, 1⟩,
  ⟨[84, 72, 82, 79, 87], 1, 0, 0, 0⟩,
  ⟨[67, 65, 84, 67, 72], 1, 0, 0, 4⟩,
  ⟨[78, 79, 80], 0, 0, 0, 0⟩]
def noRow : OpRow := ⟨[], 0, 0, 0, 0⟩
def opRow (op : Int) : OpRow := if 0 ≤ op ∧ op < 48 then opRows.getD op.toNat noRow else noRow
theorem opRows_length : opRows.length = 48 := rfl
def zeroRows : List Value := fl rowE (List.replicate 48 noRow)
theorem table_text (w : World) (K : Value → World → Prop) (h : ∀ (b : Nat) (w2 : World), b = w.heap.size → w2 = World.alloc w (.cells zeroRows.toArray T_48_op_row) → wrOk w2 ⟨b, 0, none⟩ 240 ∧ ∀ w3 : World, w3 = stW w2 ⟨b, 0, none⟩ 0 (fl rowE opRows) →
    ∃ r : List Value, r.length = 240 ∧ (∀ (i : Nat) (u : Value), r[i]? = some u → w3.cell? (Addr.add ⟨b, 0, none⟩ i) = some u) ∧ K (.agg r.toArray) w3) : op_table_sh w K :=
  Eq.mp (by kernel_rfl : (∀ (b : Nat) (w2 : World), b = w.heap.size → w2 = World.alloc w (.cells zeroRows.toArray T_48_op_row) → wrOk w2 ⟨b, 0, none⟩ 240 ∧ ∀ w3 : World, w3 = stW w2 ⟨b, 0, none⟩ 0 (fl rowE opRows) →
    ∃ r : List Value, r.length = 240 ∧ (∀ (i : Nat) (u : Value), r[i]? = some u → w3.cell? (Addr.add ⟨b, 0, none⟩ i) = some u) ∧ K (.agg r.toArray) w3) = op_table_sh w K) h
theorem table_any (w : World) : Calls Try.prog fn_op_table #[] w fun e w' => e = .returned (.agg (fl rowE opRows).toArray) ∧ Chg No w w' := by
  refine (op_table_lift (K := fun v w' => v = .agg (fl rowE opRows).toArray ∧ Chg No w w') ?_).mono (by rintro e w' ⟨v, rfl, rfl, h⟩; exact ⟨rfl, h⟩)
  refine table_text w _ fun b w2 hb hw2 => ?_
  have hz : zeroRows.length = 240 := by kernel_rfl
  have hl : (fl rowE opRows).length = 240 := by kernel_rfl
  have ho : Ob w2 b zeroRows T_48_op_row := by rw [hw2, hb]; exact Ob.new _ _ _
  refine ⟨ho.wr (by omega), fun w3 hw3 => ?_⟩
  have h3 : Ob w3 b (fl rowE opRows) T_48_op_row := by
    have := Ob.st (vs := fl rowE opRows) (k := 0) (i := 0) ho
    rw [wrL_whole (hz.trans hl.symm)] at this
    rw [hw3]; exact this
  refine ⟨fl rowE opRows, hl, fun i u hu => by rw [add_mk, Nat.zero_add]; exact h3.cell hu, rfl, ?_⟩
  rw [hw3, hw2]
  refine (Chg.alloc No _ _).trans (Chg.st (S := fun k => k = b) rfl) (fun _ _ h => h) (fun x hx h => ?_)
  subst h; omega

/-- A row of an array of rows. -/
theorem index_rows {α : Type} {P : Program} {E : Enc α} {T e : TypeId} {n : Nat} {i1 i2 : Ti} (h1 : TiOk P T i1) (hk1 : i1.tk = .arr n e) (h2 : TiOk P e i2) (hk2 : i2.agg = true) (hk3 : i2.ks.length = E.sz) {xs : List α} (hn : xs.length = n) {i : Int} (h0 : 0 ≤ i) {x : α} (hx : xs[i.toNat]? = some x) (w : World) :
    (Instr.index T (.agg (fl E xs).toArray) (.int .i64 i)).run P w = .ok (.agg (E.e x).toArray) w := by
  obtain ⟨d, hd, hf⟩ := h1.und
  rw [hk1] at hf
  obtain rfl := hf
  have hlt : i.toNat < xs.length := (List.getElem?_eq_some_iff.1 hx).1
  have hin : i < (n : Int) := by omega
  have hag := fun w => h2.agg w
  rw [hk2] at hag
  have hsz := fun w => h2.size w
  rw [hk3] at hsz
  have hex : (fl E xs).toArray.extract (i.toNat * E.sz) (i.toNat * E.sz + E.sz) = (E.e x).toArray := by
    apply Array.ext'
    rw [Array.toList_extract, List.extract_eq_take_drop]
    simp only [List.toList_toArray, Nat.add_sub_cancel_left]
    rw [fl_drop, List.drop_eq_getElem_cons hlt, fl_cons]
    have : xs[i.toNat] = x := by rw [List.getElem?_eq_getElem hlt] at hx; exact Option.some.inj hx
    rw [this]
    have hl := E.len x
    rw [← hl, List.take_left]
  simp only [Instr.index, asIntOf, Sem.run_bind, Sem.run_pure, Result.andThen_ok, hd, h0, hin, and_self, if_true, hsz, part, hag, hex]

theorem right_any (op : Int) (w : World) : Calls Try.prog fn_op_Right #[.int .i64 op] w fun e w' => e = .returned (.bool (decide (0 ≤ op ∧ op < 48))) ∧ w = w' := by
  refine (op_Right_lift (K := fun v w' => v = .bool (decide (0 ≤ op ∧ op < 48)) ∧ w = w') ?_).mono (by rintro e w' ⟨v, rfl, rfl, h⟩; exact ⟨rfl, h⟩)
  unfold op_Right_sh
  refine brB_of (fun h => ⟨?_, rfl⟩) (fun h => ⟨?_, rfl⟩)
  · simp at h; simp [h]
  · simp at h; simp; omega
theorem ocells (r : OpRow) : (rowE.e r).toArray = #[.string (bs r.name), .int .i64 r.takes, .int .i64 r.backs, .int .i64 r.gives, .int .i64 r.givesBak] := rfl
theorem of_any (op : Int) (w : World) : Calls Try.prog fn_op_of #[.int .i64 op] w fun e w' => e = .returned (.agg (rowE.e (opRow op)).toArray) ∧ Chg No w w' := by
  refine (op_of_lift (K := fun v w' => v = .agg (rowE.e (opRow op)).toArray ∧ Chg No w w') ?_).mono (by rintro e w' ⟨v, rfl, rfl, h⟩; exact ⟨rfl, h⟩)
  unfold op_of_sh
  intro b w3 hb hw3
  have ho : Ob w3 b (rowE.e noRow) T_op_row := by rw [hw3, hb]; exact Ob.new w (rowE.e noRow) T_op_row
  have hc : Chg No w w3 := by rw [hw3]; exact Chg.alloc _ _ _
  have fin : ∀ (r : OpRow) (w5 : World), Chg No w3 w5 → wrOk w5 ⟨b, 0, none⟩ 5 ∧ ∀ w7 : World, w7 = stW w5 ⟨b, 0, none⟩ 0 (rowE.e r) → Ob w7 b (rowE.e r) T_op_row ∧ Chg No w w7 := by
    intro r w5 h5
    have ho5 := ho.no h5
    refine ⟨ho5.wr (by simp [rowE]), fun w7 h7 => ?_⟩
    rw [h7]
    refine ⟨?_, ?_⟩
    · have := Ob.st (vs := rowE.e r) (k := 0) (i := 0) ho5
      rwa [wrL_whole (by rw [rowE.len, rowE.len])] at this
    · refine (hc.trans h5 (fun _ _ h => h) (fun _ _ h => h)).trans (Chg.st (S := fun k => k = b) rfl) (fun _ _ h => h) (fun x hx h => ?_)
      subst h; omega
  refine (right_any op w3).mono ?_
  rintro e w5 ⟨rfl, rfl⟩
  refine ⟨_, rfl, ?_⟩
  by_cases hr : 0 ≤ op ∧ op < 48
  · rw [decide_eq_true hr]
    refine brB_f ?_
    refine (table_any w3).mono ?_
    rintro e w14 ⟨rfl, h14⟩
    refine ⟨_, rfl, ?_⟩
    have hlt : op.toNat < opRows.length := by rw [opRows_length]; omega
    have hx : opRows[op.toNat]? = some (opRow op) := by
      unfold opRow
      rw [if_pos hr, List.getD_eq_getElem?_getD, List.getElem?_eq_getElem hlt]; rfl
    have hrun := index_rows (P := Try.prog) (E := rowE) (orc.tok T_48_op_row _ rfl) rfl (orc.tok T_op_row _ rfl) rfl rfl opRows_length hr.1 hx w14
    obtain ⟨h1, h2⟩ := fin (opRow op) w14 h14
    refine ⟨bs (opRow op).name, (opRow op).takes, (opRow op).backs, (opRow op).gives, (opRow op).givesBak, w14, hrun, h1, fun w22 h22 => ?_⟩
    obtain ⟨h3, h4⟩ := h2 w22 h22
    exact ⟨_, _, _, _, _, h3.cell rfl, h3.cell rfl, h3.cell rfl, h3.cell rfl, h3.cell rfl, rfl, h4⟩
  · rw [decide_eq_false hr]
    refine brB_t ?_
    have hx : opRow op = noRow := by unfold opRow; rw [if_neg hr]
    obtain ⟨h1, h2⟩ := fin noRow w3 (Chg.refl _ _)
    refine ⟨h1, fun w7 h7 => ?_⟩
    obtain ⟨h3, h4⟩ := h2 w7 h7
    exact ⟨_, _, _, _, _, h3.cell rfl, h3.cell rfl, h3.cell rfl, h3.cell rfl, h3.cell rfl, by rw [hx]; rfl, h4⟩
theorem takes_any (op : Int) (w : World) : Calls Try.prog fn_op_Takes #[.int .i64 op] w fun e w' => e = .returned (.tuple #[.int .i64 (opRow op).takes, .int .i64 (opRow op).backs]) ∧ Chg No w w' := by
  refine (op_Takes_lift (K := fun v w' => v = .tuple #[.int .i64 (opRow op).takes, .int .i64 (opRow op).backs] ∧ Chg No w w') ?_).mono (by rintro e w' ⟨v, rfl, rfl, h⟩; exact ⟨rfl, h⟩)
  unfold op_Takes_sh
  refine (of_any op w).mono ?_
  rintro e w3 ⟨rfl, h3⟩
  refine ⟨_, _, _, _, _, rfl, ?_⟩
  intro b w10 hb hw10
  have ho : Ob w10 b (rowE.e noRow) T_op_row := by rw [hw10, hb]; exact Ob.new w3 (rowE.e noRow) T_op_row
  refine ⟨ho.wr (by simp [rowE]), fun w11 h11 => ?_⟩
  have h4 : Ob w11 b (rowE.e (opRow op)) T_op_row := by
    have := Ob.st (vs := rowE.e (opRow op)) (k := 0) (i := 0) ho
    rw [wrL_whole (by rw [rowE.len, rowE.len])] at this
    rw [h11]; exact this
  intro w12 h12
  have h5 := h4.qt (Qt.drew w11)
  rw [← h12] at h5
  refine ⟨_, held_Lw (h5.cell rfl), _, held_Lw (h5.cell rfl), rfl, ?_⟩
  rw [h12]
  refine Chg.trans (S := No) (T := No) ?_ (Chg.drew _ _) (fun _ _ h => h) (fun _ _ h => h)
  rw [h11, hw10]
  refine (h3.trans (Chg.alloc No _ _) (fun _ _ h => h) (fun _ _ h => h)).trans (Chg.st (S := fun k => k = b) rfl) (fun _ _ h => h) (fun x hx h => ?_)
  subst h; have := h3.size; omega
theorem gives_any (op : Int) (w : World) : Calls Try.prog fn_op_Gives #[.int .i64 op] w fun e w' => e = .returned (.tuple #[.int .i64 (opRow op).gives, .int .i64 (opRow op).givesBak]) ∧ Chg No w w' := by
  refine (op_Gives_lift (K := fun v w' => v = .tuple #[.int .i64 (opRow op).gives, .int .i64 (opRow op).givesBak] ∧ Chg No w w') ?_).mono (by rintro e w' ⟨v, rfl, rfl, h⟩; exact ⟨rfl, h⟩)
  unfold op_Gives_sh
  refine (of_any op w).mono ?_
  rintro e w3 ⟨rfl, h3⟩
  refine ⟨_, _, _, _, _, rfl, ?_⟩
  intro b w10 hb hw10
  have ho : Ob w10 b (rowE.e noRow) T_op_row := by rw [hw10, hb]; exact Ob.new w3 (rowE.e noRow) T_op_row
  refine ⟨ho.wr (by simp [rowE]), fun w11 h11 => ?_⟩
  have h4 : Ob w11 b (rowE.e (opRow op)) T_op_row := by
    have := Ob.st (vs := rowE.e (opRow op)) (k := 0) (i := 0) ho
    rw [wrL_whole (by rw [rowE.len, rowE.len])] at this
    rw [h11]; exact this
  intro w12 h12
  have h5 := h4.qt (Qt.drew w11)
  rw [← h12] at h5
  refine ⟨_, held_Lw (h5.cell rfl), _, held_Lw (h5.cell rfl), rfl, ?_⟩
  rw [h12]
  refine Chg.trans (S := No) (T := No) ?_ (Chg.drew _ _) (fun _ _ h => h) (fun _ _ h => h)
  rw [h11, hw10]
  refine (h3.trans (Chg.alloc No _ _) (fun _ _ h => h) (fun _ _ h => h)).trans (Chg.st (S := fun k => k = b) rfl) (fun _ _ h => h) (fun x hx h => ?_)
  subst h; have := h3.size; omega
def opArg (op : Int) : Bool := decide (op = 2 ∨ op = 3 ∨ op = 4 ∨ op = 37 ∨ op = 38)
def opPlain (op : Int) : Bool := decide (0 ≤ op ∧ op < 48 ∧ op ≠ 0 ∧ op ≠ 1 ∧ op ≠ 45 ∧ op ≠ 46)
theorem arg_any (op : Int) (w : World) : Calls Try.prog fn_op_Arg #[.int .i64 op] w fun e w' => e = .returned (.bool (opArg op)) ∧ w = w' := by
  refine (op_Arg_lift (K := fun v w' => v = .bool (opArg op) ∧ w = w') ?_).mono (by rintro e w' ⟨v, rfl, rfl, h⟩; exact ⟨rfl, h⟩)
  unfold op_Arg_sh op_Arg_j1
  simp only [brB_iff, opArg]
  simp
  omega
theorem plain_any (op : Int) (w : World) : Calls Try.prog fn_op_Plain #[.int .i64 op] w fun e w' => e = .returned (.bool (opPlain op)) ∧ w = w' := by
  refine (op_Plain_lift (K := fun v w' => v = .bool (opPlain op) ∧ w = w') ?_).mono (by rintro e w' ⟨v, rfl, rfl, h⟩; exact ⟨rfl, h⟩)
  have hc : ∀ w2, w = w2 → op ≠ 0 → op ≠ 1 → op ≠ 45 → op ≠ 46 → Calls Try.prog fn_op_Right #[.int .i64 op] w2 fun e w8 => ∃ b : Bool, e = .returned (.bool b) ∧ ((Value.bool b) = .bool (opPlain op) ∧ w = w8) := by
    intro w2 hw h1 h2 h3 h4
    subst hw
    refine (right_any op w).mono ?_
    rintro e w8 ⟨rfl, rfl⟩
    refine ⟨_, rfl, ?_, rfl⟩
    unfold opPlain; congr 2; simp [h1, h2, h3, h4]
  unfold op_Plain_sh op_Plain_j1
  have f : ∀ op, (op = 0 ∨ op = 1 ∨ op = 45 ∨ op = 46) → opPlain op = false := by intro op h; unfold opPlain; simp; omega
  refine brB_of (fun h => ?_) (fun h => brB_of (fun h2 => ?_) (fun h2 => brB_of (fun h3 => ?_) (fun h3 => ?_)))
  · have h : op = 0 := by simpa using h
    subst h; exact ⟨by rw [f 0 (Or.inl rfl)], rfl⟩
  · have h2 : op = 1 := by simpa using h2
    exact ⟨by rw [f op (by omega)], rfl⟩
  · have h3 : op = 45 := by simpa using h3
    subst h3; exact ⟨by rw [f 45 (by omega)], rfl⟩
  · refine brB_of (fun h4 => ?_) (fun h4 => ?_)
    · have h4 : op = 46 := by simpa using h4
      exact ⟨by rw [f op (by omega)], rfl⟩
    · exact hc w rfl (by simpa using h) (by simpa using h2) (by simpa using h3) (by simpa using h4)
end Go.Proofs.Ytkjpmkopnkkbmaa
