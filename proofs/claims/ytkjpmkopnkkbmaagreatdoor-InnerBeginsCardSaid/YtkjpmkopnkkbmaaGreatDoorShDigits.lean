/- Functions of Digits, read without their frames; that each is enough. Printed by a program of mine (wip/lift/gen.py). -/
import Derived.Test.YtkjpmkopnkkbmaaGreatDoorOrc
set_option maxRecDepth 100000
namespace Go.Proofs.YtkjpmkopnkkbmaaGreatDoor
open Go.RowKit

-- holloway/digits.Put
def digits_Put_j1 (base2 : Int) (n8 : Int) (out9 : Sl) (I1 : Int → Sl → World → Prop) (μ1 : Int → Sl → World → Nat) (w7 : World) (v_1 : Int) (b13 : Bool) (w12 : World) (K : Value → World → Prop) : Prop :=
 brB b13
 ((IntKind.wrap .u64 base2) ≠ 0 ∧ 0 ≤ (Int.tmod n8 (IntKind.wrap .u64 base2)) ∧ (Int.tmod n8 (IntKind.wrap .u64 base2)) < ((bs [48, 49, 50, 51, 52, 53, 54, 55, 56, 57, 65, 66, 67, 68, 69, 70, 71, 72, 73, 74, 75, 76, 77, 78, 79, 80, 81, 82, 83, 84, 85, 86, 87, 88, 89, 90]).size : Int) ∧
 ∀ (b14 : Nat) (w15 : World), b14 = w12.heap.size → w15 = World.alloc w12 (.cells #[.int .u8 (sb (bs [48, 49, 50, 51, 52, 53, 54, 55, 56, 57, 65, 66, 67, 68, 69, 70, 71, 72, 73, 74, 75, 76, 77, 78, 79, 80, 81, 82, 83, 84, 85, 86, 87, 88, 89, 90]) (Int.tmod n8 (IntKind.wrap .u64 base2)))] T_uint8) →
 ∃ s16 : Sl, ∃ w17 : World, (Builtin.append_ #[T_sl_uint8, T_sl_uint8] T_sl_uint8 #[.slice (some ⟨b14, 0, none⟩) 1 1, out9.val]).run Tryz.prog w15 = .ok (s16.val) w17 ∧
 (IntKind.wrap .u64 base2) ≠ 0 ∧ I1 (IntKind.wrap .u64 (Int.tdiv n8 (IntKind.wrap .u64 base2))) s16 w17 ∧ μ1 (IntKind.wrap .u64 (Int.tdiv n8 (IntKind.wrap .u64 base2))) s16 w17 < μ1 n8 out9 w7)
 (brB (decide (v_1 < (0 : Int)))
 (∃ t18 : ByteArray, ∃ w19 : World, (convert T_sl_uint8 T_string (out9.val)).run Tryz.prog w12 = .ok (.string t18) w19 ∧
 (((bs [45])).size : Int) + ((t18).size : Int) ≤ 9223372036854775807 ∧ K (.string ((bs [45]) ++ t18)) w19)
 (∃ t20 : ByteArray, ∃ w21 : World, (convert T_sl_uint8 T_string (out9.val)).run Tryz.prog w12 = .ok (.string t20) w21 ∧
 K (.string t20) w21))
def digits_Put_sh (v_1 : Int) (base2 : Int) (w : World) (K : Value → World → Prop) : Prop :=
 Calls Tryz.prog fn_digits_Right #[.int .i64 base2] w fun e3 w4 => ∃ b5 : Bool, e3 = .returned (.bool b5) ∧
 brB (!b5)
 (K (.string (bs [])) w4)
 (∃ J6 : Int → World → Prop, (∀ (n22 : Int) (w6 : World), J6 n22 w6 →
 ∃ (I1 : Int → Sl → World → Prop) (μ1 : Int → Sl → World → Nat), I1 n22 (⟨none, 0, 0⟩ : Sl) w6 ∧ ∀ (n8 : Int) (out9 : Sl) (w7 : World), I1 n8 out9 w7 →
 brB (decide (n8 > (0 : Int)))
 (digits_Put_j1 base2 n8 out9 I1 (μ1) w7 v_1 true w7 K)
 (digits_Put_j1 base2 n8 out9 I1 (μ1) w7 v_1 ((out9.len : Int) == (0 : Int)) w7 K)) ∧
 brB (decide (v_1 < (0 : Int)))
 (J6 (IntKind.wrap .u64 (0 - (IntKind.wrap .u64 v_1))) w4)
 (J6 (IntKind.wrap .u64 v_1) w4))
def digits_Put_an : An := ⟨[(7, [(5, .int .u64), (6, .sl)])], [], [(6, [(5, .int .u64)])]⟩
theorem digits_Put_lift {v_1 : Int} {base2 : Int} {w : World} {K : Value → World → Prop} (h : digits_Put_sh v_1 base2 w K) : Calls Tryz.prog fn_digits_Put #[.int .i64 v_1, .int .i64 base2] w fun e w' => ∃ v, e = .returned v ∧ K v w' :=
   lift_calls (A := digits_Put_an) (c := bodyOf Tryz.f157) (args := [.int .i64 v_1, .int .i64 base2]) orc orc_wide Tryz.func157 (by kernel_rfl) (by kernel_rfl) (Eq.mp (by kernel_rfl : digits_Put_sh v_1 base2 w K = wpc orc Tryz.f157.ntmps digits_Put_an (bodyOf Tryz.f157) (argl 0 [.int .i64 v_1, .int .i64 base2]) w (retQ orc Tryz.f157.results.toList K)) h)

-- holloway/digits.Right
def digits_Right_sh (base1 : Int) (w : World) (K : Value → World → Prop) : Prop :=
 brB (decide (base1 ≥ (2 : Int)))
 (K (.bool (decide (base1 ≤ (36 : Int)))) w)
 (K (.bool false) w)
def digits_Right_an : An := ⟨[], [], []⟩
theorem digits_Right_lift {base1 : Int} {w : World} {K : Value → World → Prop} (h : digits_Right_sh base1 w K) : Calls Tryz.prog fn_digits_Right #[.int .i64 base1] w fun e w' => ∃ v, e = .returned v ∧ K v w' :=
   lift_calls (A := digits_Right_an) (c := bodyOf Tryz.f167) (args := [.int .i64 base1]) orc orc_wide Tryz.func167 (by kernel_rfl) (by kernel_rfl) (Eq.mp (by kernel_rfl : digits_Right_sh base1 w K = wpc orc Tryz.f167.ntmps digits_Right_an (bodyOf Tryz.f167) (argl 0 [.int .i64 base1]) w (retQ orc Tryz.f167.results.toList K)) h)

end Go.Proofs.YtkjpmkopnkkbmaaGreatDoor
