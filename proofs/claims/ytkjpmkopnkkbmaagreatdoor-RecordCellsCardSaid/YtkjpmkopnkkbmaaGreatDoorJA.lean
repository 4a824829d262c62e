/- The lifted texts of the package hollowaybook. -/
import Derived.Test.YtkjpmkopnkkbmaaGreatDoorJ4

/- Functions of Hollowaybook, read without their frames; that each is enough. Printed by a program of mine (wip/lift/gen.py). -/
set_option maxRecDepth 100000
namespace Go.Proofs.YtkjpmkopnkkbmaaGreatDoor
open Go.RowKit

-- (*holloway/hollowaybook.Book).State
-- holloway/hollowaybook.SameState
-- holloway/hollowaybook.LentState
-- holloway/hollowaybook.StaysState
-- (*holloway/hollowaybook.Book).Apart
-- holloway/hollowaybook.SameSeens
def hollowaybook_SameSeens_sh (a_1 : Sl) (b_2 : Sl) (w : World) (K : Value → World → Prop) : Prop :=
 brB ((a_1.len : Int) != (b_2.len : Int))
 (K (.bool false) w)
 (∃ (I1 : Int → World → Prop) (μ1 : Int → World → Nat), I1 (0 : Int) w ∧ ∀ (i4 : Int) (w3 : World), I1 i4 w3 →
 brB (decide (i4 < (a_1.len : Int)))
 (∀ w5 : World, w5 = World.drew w3 →
 ∃ a6 : Addr, a_1.ptr = some a6 ∧ 0 ≤ i4 ∧ i4 < (a_1.len : Int) ∧
 ∃ n_Ip7 : Int, ∃ n_Cell8 : Int, ∃ n_Arg9 : Int, ∃ n_Next10 : Int, held (Lw w5) (Addr.add a6 (Int.toNat i4 * 4)) (.int .i64 n_Ip7) ∧ held (Lw w5) (Addr.add (Addr.add a6 (Int.toNat i4 * 4)) 1) (.int .i64 n_Cell8) ∧ held (Lw w5) (Addr.add (Addr.add a6 (Int.toNat i4 * 4)) 2) (.int .i64 n_Arg9) ∧ held (Lw w5) (Addr.add (Addr.add a6 (Int.toNat i4 * 4)) 3) (.int .i64 n_Next10) ∧
 ∃ a11 : Addr, b_2.ptr = some a11 ∧ 0 ≤ i4 ∧ i4 < (b_2.len : Int) ∧
 ∃ n_Ip12 : Int, ∃ n_Cell13 : Int, ∃ n_Arg14 : Int, ∃ n_Next15 : Int, held (Lw w5) (Addr.add a11 (Int.toNat i4 * 4)) (.int .i64 n_Ip12) ∧ held (Lw w5) (Addr.add (Addr.add a11 (Int.toNat i4 * 4)) 1) (.int .i64 n_Cell13) ∧ held (Lw w5) (Addr.add (Addr.add a11 (Int.toNat i4 * 4)) 2) (.int .i64 n_Arg14) ∧ held (Lw w5) (Addr.add (Addr.add a11 (Int.toNat i4 * 4)) 3) (.int .i64 n_Next15) ∧
 ∃ b16 : Bool, ∃ w17 : World, ((do eqGuard .eql T_api_Seen (.tmp 20) (.tmp 24) (.agg #[.int .i64 n_Ip7, .int .i64 n_Cell8, .int .i64 n_Arg9, .int .i64 n_Next10]) (.agg #[.int .i64 n_Ip12, .int .i64 n_Cell13, .int .i64 n_Arg14, .int .i64 n_Next15]); binOp .eql T_api_Seen (.agg #[.int .i64 n_Ip7, .int .i64 n_Cell8, .int .i64 n_Arg9, .int .i64 n_Next10]) (.agg #[.int .i64 n_Ip12, .int .i64 n_Cell13, .int .i64 n_Arg14, .int .i64 n_Next15]) : Sem Value)).run Tryz.prog w5 = .ok (.bool b16) w17 ∧
 brB (!b16)
 (K (.bool false) w17)
 (I1 (wr (i4 + (1 : Int))) w17 ∧ μ1 (wr (i4 + (1 : Int))) w17 < μ1 i4 w3))
 (K (.bool true) w3))
def hollowaybook_SameSeens_an : An := ⟨[(4, [(5, .int .i64)])], [(6, (8, .st 0 (.st 1 (.st 2 (.st 3 (.st 4 (.st 5 (.st 6 (.st 7 .done))))))), 0))], []⟩
theorem hollowaybook_SameSeens_lift {a_1 : Sl} {b_2 : Sl} {w : World} {K : Value → World → Prop} (h : hollowaybook_SameSeens_sh a_1 b_2 w K) : Calls Tryz.prog fn_hollowaybook_SameSeens #[a_1.val, b_2.val] w fun e w' => ∃ v, e = .returned v ∧ K v w' :=
   lift_calls (A := hollowaybook_SameSeens_an) (c := bodyOf Tryz.f32) (args := [a_1.val, b_2.val]) orc orc_wide Tryz.func32 (by kernel_rfl) (by kernel_rfl) (Eq.mp (by kernel_rfl : hollowaybook_SameSeens_sh a_1 b_2 w K = wpc orc Tryz.f32.ntmps hollowaybook_SameSeens_an (bodyOf Tryz.f32) (argl 0 [a_1.val, b_2.val]) w (retQ orc Tryz.f32.results.toList K)) h)

-- (*holloway/hollowaybook.Book).Seens
-- (*holloway/hollowaybook.Book).Ints
-- holloway/hollowaybook.SameInts
-- holloway/hollowaybook.LentInts
-- holloway/hollowaybook.StaysInts
-- (*holloway/hollowaybook.Book).stillTexts
-- (*holloway/hollowaybook.Book).stillInts
-- (*holloway/hollowaybook.Book).stillWords
-- (*holloway/hollowaybook.Book).stillSeens
-- (*holloway/hollowaybook.Book).stillCodes
-- (*holloway/hollowaybook.Book).stillExits
-- (*holloway/hollowaybook.Book).putExits
-- (*holloway/hollowaybook.Book).putTexts
-- (*holloway/hollowaybook.Book).putInts
-- (*holloway/hollowaybook.Book).putWords
-- (*holloway/hollowaybook.Book).putSeens
-- (*holloway/hollowaybook.Book).putCodes
-- (*holloway/hollowaybook.Book).growTexts
-- (*holloway/hollowaybook.Book).growInts
-- (*holloway/hollowaybook.Book).growWords
-- (*holloway/hollowaybook.Book).growSeens
-- (*holloway/hollowaybook.Book).growCodes
-- (*holloway/hollowaybook.Book).growExits
-- holloway/hollowaybook.markedTexts
-- holloway/hollowaybook.markedInts
-- holloway/hollowaybook.markedWords
-- holloway/hollowaybook.markedSeens
-- holloway/hollowaybook.markedCodes
-- holloway/hollowaybook.markedExits
-- holloway/hollowaybook.copySeens
-- holloway/hollowaybook.copyInts
-- holloway/hollowaybook.SameTexts
-- holloway/hollowaybook.SameWords
-- holloway/hollowaybook.SameCodes
-- holloway/hollowaybook.SameExits
-- holloway/hollowaybook.markExits
-- holloway/hollowaybook.markTexts
-- holloway/hollowaybook.markInts
-- holloway/hollowaybook.markWords
-- holloway/hollowaybook.markSeens
-- holloway/hollowaybook.markCodes
-- holloway/hollowaybook.name
end Go.Proofs.YtkjpmkopnkkbmaaGreatDoor
