/- The lifted texts of the packages hollowayref9 and hollowaylaw9. -/
import Derived.Test.YtkjpmkopnkkbmaaGreatDoorJ4

/- Functions of Hollowayref9, read without their frames; that each is enough. Printed by a program of mine (wip/lift/gen.py). -/
set_option maxRecDepth 100000
namespace Go.Proofs.YtkjpmkopnkkbmaaGreatDoor
open Go.RowKit

-- holloway/hollowayref9.Boot
def hollowayref9_Boot_sh (n_1 : Int) (in_2 : ByteArray) (w : World) (K : Value → World → Prop) : Prop :=
 ∀ (b3 : Nat) (w4 : World), b3 = w.heap.size → w4 = World.alloc w (.cells #[.int .i64 (0 : Int), .int .i64 (0 : Int), .slice none 0 0, .slice none 0 0, .slice none 0 0, .string (bs []), .string (bs []), .int .i64 (0 : Int), .int .i64 (0 : Int), .int .i64 (0 : Int)] T_api_State) →
 ∃ s5 : Sl, ∃ w6 : World, (Instr.makeSlice T_sl_int (.int .i64 (imin (imax n_1 (0 : Int)) (3000 : Int))) (.int .i64 (imin (imax n_1 (0 : Int)) (3000 : Int)))).run Tryz.prog w4 = .ok s5.val w6 ∧
 ∃ (I1 : Int → World → Prop) (μ1 : Int → World → Nat), I1 (0 : Int) w6 ∧ ∀ (k8 : Int) (w7 : World), I1 k8 w7 →
 brB (decide (k8 < (s5.len : Int)))
 (∃ J7 : World → Prop, (∀ (w18 : World), J7  w18 →
 I1 (wr (k8 + (1 : Int))) w18 ∧ μ1 (wr (k8 + (1 : Int))) w18 < μ1 k8 w7) ∧
 ∃ J8 : World → Prop, (∀ (w11 : World), J8  w11 →
 ∃ J10 : Bool → World → Prop, (∀ (b13 : Bool) (w12 : World), J10 b13 w12 →
 brB b13
 (∃ a14 : Addr, s5.ptr = some a14 ∧ 0 ≤ k8 ∧ k8 < (s5.len : Int) ∧
 wrOk w12 (Addr.add a14 (Int.toNat k8 * 1)) 1 ∧ ∀ w15 : World, w15 = stW w12 (Addr.add a14 (Int.toNat k8 * 1)) 0 [.int .i64 (5 : Int)] →
 (2 : Int) ≠ 0 ∧ brB ((Int.tmod k8 (2 : Int)) == (0 : Int))
 ((2 : Int) ≠ 0 ∧ ∃ a16 : Addr, s5.ptr = some a16 ∧ 0 ≤ k8 ∧ k8 < (s5.len : Int) ∧
 wrOk w15 (Addr.add a16 (Int.toNat k8 * 1)) 1 ∧ ∀ w17 : World, w17 = stW w15 (Addr.add a16 (Int.toNat k8 * 1)) 0 [.int .i64 (wr (Int.tdiv (wr (k8 - (64 : Int))) (2 : Int)))] →
 J7  w17)
 (J7  w15))
 (J7  w12)) ∧
 brB (decide (k8 ≥ (64 : Int)))
 (J10 (decide (k8 < (160 : Int))) w11)
 (J10 false w11)) ∧
 brB (k8 == (1 : Int))
 (∃ a9 : Addr, s5.ptr = some a9 ∧ 0 ≤ k8 ∧ k8 < (s5.len : Int) ∧
 wrOk w7 (Addr.add a9 (Int.toNat k8 * 1)) 1 ∧ ∀ w10 : World, w10 = stW w7 (Addr.add a9 (Int.toNat k8 * 1)) 0 [.int .i64 (1 : Int)] →
 J8  w10)
 (J8  w7))
 (wrOk w7 ⟨b3, 0, none⟩ 10 ∧ ∀ w19 : World, w19 = stW w7 ⟨b3, 0, none⟩ 0 [.int .i64 (0 : Int), .int .i64 (0 : Int), .slice none 0 0, .slice none 0 0, s5.val, .string (bs []), .string in_2, .int .i64 (0 : Int), .int .i64 (1 : Int), .int .i64 (0 : Int)] →
 ∃ r_Ip20 : Int, ∃ r_Handler21 : Int, ∃ r_Stack22 : Sl, ∃ r_Back23 : Sl, ∃ r_Mem24 : Sl, ∃ r_Out25 : ByteArray, ∃ r_In26 : ByteArray, ∃ r_Read27 : Int, ∃ r_Status28 : Int, ∃ r_Code29 : Int, w19.cell? ⟨b3, 0, none⟩ = some (.int .i64 r_Ip20) ∧ w19.cell? ⟨b3, 1, none⟩ = some (.int .i64 r_Handler21) ∧ w19.cell? ⟨b3, 2, none⟩ = some (r_Stack22.val) ∧ w19.cell? ⟨b3, 3, none⟩ = some (r_Back23.val) ∧ w19.cell? ⟨b3, 4, none⟩ = some (r_Mem24.val) ∧ w19.cell? ⟨b3, 5, none⟩ = some (.string r_Out25) ∧ w19.cell? ⟨b3, 6, none⟩ = some (.string r_In26) ∧ w19.cell? ⟨b3, 7, none⟩ = some (.int .i64 r_Read27) ∧ w19.cell? ⟨b3, 8, none⟩ = some (.int .i64 r_Status28) ∧ w19.cell? ⟨b3, 9, none⟩ = some (.int .i64 r_Code29) ∧
 K (.agg #[.int .i64 r_Ip20, .int .i64 r_Handler21, r_Stack22.val, r_Back23.val, r_Mem24.val, .string r_Out25, .string r_In26, .int .i64 r_Read27, .int .i64 r_Status28, .int .i64 r_Code29]) w19)
def hollowayref9_Boot_an : An := ⟨[(3, [(6, .int .i64)])], [], [(8, [(27, .bool)]), (7, []), (4, [])]⟩
theorem hollowayref9_Boot_lift {n_1 : Int} {in_2 : ByteArray} {w : World} {K : Value → World → Prop} (h : hollowayref9_Boot_sh n_1 in_2 w K) : Calls Tryz.prog fn_hollowayref9_Boot #[.int .i64 n_1, .string in_2] w fun e w' => ∃ v, e = .returned v ∧ K v w' :=
   lift_calls (A := hollowayref9_Boot_an) (c := bodyOf Tryz.f12) (args := [.int .i64 n_1, .string in_2]) orc orc_wide Tryz.func12 (by kernel_rfl) (by kernel_rfl) (Eq.mp (by kernel_rfl : hollowayref9_Boot_sh n_1 in_2 w K = wpc orc Tryz.f12.ntmps hollowayref9_Boot_an (bodyOf Tryz.f12) (argl 0 [.int .i64 n_1, .string in_2]) w (retQ orc Tryz.f12.results.toList K)) h)

-- holloway/hollowayref9.Right
def hollowayref9_Right_sh (s__Ip1 : Int) (s__Handler2 : Int) (s__Stack3 : Sl) (s__Back4 : Sl) (s__Mem5 : Sl) (s__Out6 : ByteArray) (s__In7 : ByteArray) (s__Read8 : Int) (s__Status9 : Int) (s__Code10 : Int) (w : World) (K : Value → World → Prop) : Prop :=
 ∀ (b11 : Nat) (w12 : World), b11 = w.heap.size → w12 = World.alloc w (.cells #[.int .i64 s__Ip1, .int .i64 s__Handler2, s__Stack3.val, s__Back4.val, s__Mem5.val, .string s__Out6, .string s__In7, .int .i64 s__Read8, .int .i64 s__Status9, .int .i64 s__Code10] T_api_State) →
 ∃ s13 : Sl, w12.cell? ⟨b11, 2, none⟩ = some (s13.val) ∧
 brB (decide ((s13.len : Int) ≤ (48 : Int)))
 (∃ s14 : Sl, w12.cell? ⟨b11, 3, none⟩ = some (s14.val) ∧
 brB (decide ((s14.len : Int) ≤ (48 : Int)))
 (∃ s15 : Sl, w12.cell? ⟨b11, 4, none⟩ = some (s15.val) ∧
 brB (decide ((s15.len : Int) ≤ (3000 : Int)))
 (∃ t16 : ByteArray, w12.cell? ⟨b11, 5, none⟩ = some (.string t16) ∧
 brB (decide ((t16.size : Int) ≤ (2000 : Int)))
 (∃ n17 : Int, w12.cell? ⟨b11, 7, none⟩ = some (.int .i64 n17) ∧
 brB (decide (n17 ≥ (0 : Int)))
 (∃ n18 : Int, w12.cell? ⟨b11, 7, none⟩ = some (.int .i64 n18) ∧
 ∃ t19 : ByteArray, w12.cell? ⟨b11, 6, none⟩ = some (.string t19) ∧
 brB (decide (n18 ≤ (t19.size : Int)))
 (∃ n20 : Int, w12.cell? ⟨b11, 8, none⟩ = some (.int .i64 n20) ∧
 brB (decide (n20 ≥ (0 : Int)))
 (∃ n21 : Int, w12.cell? ⟨b11, 8, none⟩ = some (.int .i64 n21) ∧
 K (.bool (decide (n21 ≤ (2 : Int)))) w12)
 (K (.bool false) w12))
 (K (.bool false) w12))
 (K (.bool false) w12))
 (K (.bool false) w12))
 (K (.bool false) w12))
 (K (.bool false) w12))
 (K (.bool false) w12)
def hollowayref9_Right_an : An := ⟨[], [], []⟩
theorem hollowayref9_Right_lift {s__Ip1 : Int} {s__Handler2 : Int} {s__Stack3 : Sl} {s__Back4 : Sl} {s__Mem5 : Sl} {s__Out6 : ByteArray} {s__In7 : ByteArray} {s__Read8 : Int} {s__Status9 : Int} {s__Code10 : Int} {w : World} {K : Value → World → Prop} (h : hollowayref9_Right_sh s__Ip1 s__Handler2 s__Stack3 s__Back4 s__Mem5 s__Out6 s__In7 s__Read8 s__Status9 s__Code10 w K) : Calls Tryz.prog fn_hollowayref9_Right #[.agg #[.int .i64 s__Ip1, .int .i64 s__Handler2, s__Stack3.val, s__Back4.val, s__Mem5.val, .string s__Out6, .string s__In7, .int .i64 s__Read8, .int .i64 s__Status9, .int .i64 s__Code10]] w fun e w' => ∃ v, e = .returned v ∧ K v w' :=
   lift_calls (A := hollowayref9_Right_an) (c := bodyOf Tryz.f14) (args := [.agg #[.int .i64 s__Ip1, .int .i64 s__Handler2, s__Stack3.val, s__Back4.val, s__Mem5.val, .string s__Out6, .string s__In7, .int .i64 s__Read8, .int .i64 s__Status9, .int .i64 s__Code10]]) orc orc_wide Tryz.func14 (by kernel_rfl) (by kernel_rfl) (Eq.mp (by kernel_rfl : hollowayref9_Right_sh s__Ip1 s__Handler2 s__Stack3 s__Back4 s__Mem5 s__Out6 s__In7 s__Read8 s__Status9 s__Code10 w K = wpc orc Tryz.f14.ntmps hollowayref9_Right_an (bodyOf Tryz.f14) (argl 0 [.agg #[.int .i64 s__Ip1, .int .i64 s__Handler2, s__Stack3.val, s__Back4.val, s__Mem5.val, .string s__Out6, .string s__In7, .int .i64 s__Read8, .int .i64 s__Status9, .int .i64 s__Code10]]) w (retQ orc Tryz.f14.results.toList K)) h)

-- holloway/hollowayref9.Enter
def hollowayref9_Enter_sh (s__Ip1 : Int) (s__Handler2 : Int) (s__Stack3 : Sl) (s__Back4 : Sl) (s__Mem5 : Sl) (s__Out6 : ByteArray) (s__In7 : ByteArray) (s__Read8 : Int) (s__Status9 : Int) (s__Code10 : Int) (xt11 : Int) (w : World) (K : Value → World → Prop) : Prop :=
 ∀ (b12 : Nat) (w13 : World), b12 = w.heap.size → w13 = World.alloc w (.cells #[.int .i64 s__Ip1, .int .i64 s__Handler2, s__Stack3.val, s__Back4.val, s__Mem5.val, .string s__Out6, .string s__In7, .int .i64 s__Read8, .int .i64 s__Status9, .int .i64 s__Code10] T_api_State) →
 ∀ (b14 : Nat) (w15 : World), b14 = w13.heap.size → w15 = World.alloc w13 (.cells #[.int .i64 (0 : Int), .int .i64 (0 : Int), .slice none 0 0, .slice none 0 0, .slice none 0 0, .string (bs []), .string (bs []), .int .i64 (0 : Int), .int .i64 (0 : Int), .int .i64 (0 : Int)] T_api_State) →
 ∀ (b16 : Nat) (w17 : World), b16 = w15.heap.size → w17 = World.alloc w15 (.cells #[.int .i64 (0 : Int)] T_int) →
 wrOk w17 ⟨b12, 0, none⟩ 1 ∧ ∀ w18 : World, w18 = stW w17 ⟨b12, 0, none⟩ 0 [.int .i64 xt11] →
 wrOk w18 ⟨b12, 1, none⟩ 1 ∧ ∀ w19 : World, w19 = stW w18 ⟨b12, 1, none⟩ 0 [.int .i64 (0 : Int)] →
 wrOk w19 ⟨b12, 3, none⟩ 1 ∧ ∀ w20 : World, w20 = stW w19 ⟨b12, 3, none⟩ 0 [.slice (some ⟨b16, 0, none⟩) 1 1] →
 wrOk w20 ⟨b12, 8, none⟩ 1 ∧ ∀ w21 : World, w21 = stW w20 ⟨b12, 8, none⟩ 0 [.int .i64 (0 : Int)] →
 wrOk w21 ⟨b12, 9, none⟩ 1 ∧ ∀ w22 : World, w22 = stW w21 ⟨b12, 9, none⟩ 0 [.int .i64 (0 : Int)] →
 ∃ n_Ip23 : Int, ∃ n_Handler24 : Int, ∃ s_Stack25 : Sl, ∃ s_Back26 : Sl, ∃ s_Mem27 : Sl, ∃ t_Out28 : ByteArray, ∃ t_In29 : ByteArray, ∃ n_Read30 : Int, ∃ n_Status31 : Int, ∃ n_Code32 : Int, w22.cell? ⟨b12, 0, none⟩ = some (.int .i64 n_Ip23) ∧ w22.cell? ⟨b12, 1, none⟩ = some (.int .i64 n_Handler24) ∧ w22.cell? ⟨b12, 2, none⟩ = some (s_Stack25.val) ∧ w22.cell? ⟨b12, 3, none⟩ = some (s_Back26.val) ∧ w22.cell? ⟨b12, 4, none⟩ = some (s_Mem27.val) ∧ w22.cell? ⟨b12, 5, none⟩ = some (.string t_Out28) ∧ w22.cell? ⟨b12, 6, none⟩ = some (.string t_In29) ∧ w22.cell? ⟨b12, 7, none⟩ = some (.int .i64 n_Read30) ∧ w22.cell? ⟨b12, 8, none⟩ = some (.int .i64 n_Status31) ∧ w22.cell? ⟨b12, 9, none⟩ = some (.int .i64 n_Code32) ∧
 wrOk w22 ⟨b14, 0, none⟩ 10 ∧ ∀ w33 : World, w33 = stW w22 ⟨b14, 0, none⟩ 0 [.int .i64 n_Ip23, .int .i64 n_Handler24, s_Stack25.val, s_Back26.val, s_Mem27.val, .string t_Out28, .string t_In29, .int .i64 n_Read30, .int .i64 n_Status31, .int .i64 n_Code32] →
 ∃ r_Ip34 : Int, ∃ r_Handler35 : Int, ∃ r_Stack36 : Sl, ∃ r_Back37 : Sl, ∃ r_Mem38 : Sl, ∃ r_Out39 : ByteArray, ∃ r_In40 : ByteArray, ∃ r_Read41 : Int, ∃ r_Status42 : Int, ∃ r_Code43 : Int, w33.cell? ⟨b14, 0, none⟩ = some (.int .i64 r_Ip34) ∧ w33.cell? ⟨b14, 1, none⟩ = some (.int .i64 r_Handler35) ∧ w33.cell? ⟨b14, 2, none⟩ = some (r_Stack36.val) ∧ w33.cell? ⟨b14, 3, none⟩ = some (r_Back37.val) ∧ w33.cell? ⟨b14, 4, none⟩ = some (r_Mem38.val) ∧ w33.cell? ⟨b14, 5, none⟩ = some (.string r_Out39) ∧ w33.cell? ⟨b14, 6, none⟩ = some (.string r_In40) ∧ w33.cell? ⟨b14, 7, none⟩ = some (.int .i64 r_Read41) ∧ w33.cell? ⟨b14, 8, none⟩ = some (.int .i64 r_Status42) ∧ w33.cell? ⟨b14, 9, none⟩ = some (.int .i64 r_Code43) ∧
 K (.agg #[.int .i64 r_Ip34, .int .i64 r_Handler35, r_Stack36.val, r_Back37.val, r_Mem38.val, .string r_Out39, .string r_In40, .int .i64 r_Read41, .int .i64 r_Status42, .int .i64 r_Code43]) w33
def hollowayref9_Enter_an : An := ⟨[], [], []⟩
theorem hollowayref9_Enter_lift {s__Ip1 : Int} {s__Handler2 : Int} {s__Stack3 : Sl} {s__Back4 : Sl} {s__Mem5 : Sl} {s__Out6 : ByteArray} {s__In7 : ByteArray} {s__Read8 : Int} {s__Status9 : Int} {s__Code10 : Int} {xt11 : Int} {w : World} {K : Value → World → Prop} (h : hollowayref9_Enter_sh s__Ip1 s__Handler2 s__Stack3 s__Back4 s__Mem5 s__Out6 s__In7 s__Read8 s__Status9 s__Code10 xt11 w K) : Calls Tryz.prog fn_hollowayref9_Enter #[.agg #[.int .i64 s__Ip1, .int .i64 s__Handler2, s__Stack3.val, s__Back4.val, s__Mem5.val, .string s__Out6, .string s__In7, .int .i64 s__Read8, .int .i64 s__Status9, .int .i64 s__Code10], .int .i64 xt11] w fun e w' => ∃ v, e = .returned v ∧ K v w' :=
   lift_calls (A := hollowayref9_Enter_an) (c := bodyOf Tryz.f19) (args := [.agg #[.int .i64 s__Ip1, .int .i64 s__Handler2, s__Stack3.val, s__Back4.val, s__Mem5.val, .string s__Out6, .string s__In7, .int .i64 s__Read8, .int .i64 s__Status9, .int .i64 s__Code10], .int .i64 xt11]) orc orc_wide Tryz.func19 (by kernel_rfl) (by kernel_rfl) (Eq.mp (by kernel_rfl : hollowayref9_Enter_sh s__Ip1 s__Handler2 s__Stack3 s__Back4 s__Mem5 s__Out6 s__In7 s__Read8 s__Status9 s__Code10 xt11 w K = wpc orc Tryz.f19.ntmps hollowayref9_Enter_an (bodyOf Tryz.f19) (argl 0 [.agg #[.int .i64 s__Ip1, .int .i64 s__Handler2, s__Stack3.val, s__Back4.val, s__Mem5.val, .string s__Out6, .string s__In7, .int .i64 s__Read8, .int .i64 s__Status9, .int .i64 s__Code10], .int .i64 xt11]) w (retQ orc Tryz.f19.results.toList K)) h)

-- holloway/hollowayref9.Fault
-- holloway/hollowayref9.Step
-- holloway/hollowayref9.Run
-- holloway/hollowayref9.Copy
def hollowayref9_Copy_sh (s__Ip1 : Int) (s__Handler2 : Int) (s__Stack3 : Sl) (s__Back4 : Sl) (s__Mem5 : Sl) (s__Out6 : ByteArray) (s__In7 : ByteArray) (s__Read8 : Int) (s__Status9 : Int) (s__Code10 : Int) (w : World) (K : Value → World → Prop) : Prop :=
 ∀ (b11 : Nat) (w12 : World), b11 = w.heap.size → w12 = World.alloc w (.cells #[.int .i64 s__Ip1, .int .i64 s__Handler2, s__Stack3.val, s__Back4.val, s__Mem5.val, .string s__Out6, .string s__In7, .int .i64 s__Read8, .int .i64 s__Status9, .int .i64 s__Code10] T_api_State) →
 ∀ (b13 : Nat) (w14 : World), b13 = w12.heap.size → w14 = World.alloc w12 (.cells #[.int .i64 (0 : Int), .int .i64 (0 : Int), .slice none 0 0, .slice none 0 0, .slice none 0 0, .string (bs []), .string (bs []), .int .i64 (0 : Int), .int .i64 (0 : Int), .int .i64 (0 : Int)] T_api_State) →
 ∃ s15 : Sl, w14.cell? ⟨b11, 2, none⟩ = some (s15.val) ∧
 ∃ s16 : Sl, ∃ w17 : World, (Builtin.append_ #[T_sl_int, T_sl_int] T_sl_int #[.slice none 0 0, s15.val]).run Tryz.prog w14 = .ok (s16.val) w17 ∧
 wrOk w17 ⟨b11, 2, none⟩ 1 ∧ ∀ w18 : World, w18 = stW w17 ⟨b11, 2, none⟩ 0 [s16.val] →
 ∃ s19 : Sl, w18.cell? ⟨b11, 3, none⟩ = some (s19.val) ∧
 ∃ s20 : Sl, ∃ w21 : World, (Builtin.append_ #[T_sl_int, T_sl_int] T_sl_int #[.slice none 0 0, s19.val]).run Tryz.prog w18 = .ok (s20.val) w21 ∧
 wrOk w21 ⟨b11, 3, none⟩ 1 ∧ ∀ w22 : World, w22 = stW w21 ⟨b11, 3, none⟩ 0 [s20.val] →
 ∃ s23 : Sl, w22.cell? ⟨b11, 4, none⟩ = some (s23.val) ∧
 ∃ s24 : Sl, ∃ w25 : World, (Builtin.append_ #[T_sl_int, T_sl_int] T_sl_int #[.slice none 0 0, s23.val]).run Tryz.prog w22 = .ok (s24.val) w25 ∧
 wrOk w25 ⟨b11, 4, none⟩ 1 ∧ ∀ w26 : World, w26 = stW w25 ⟨b11, 4, none⟩ 0 [s24.val] →
 ∃ n_Ip27 : Int, ∃ n_Handler28 : Int, ∃ s_Stack29 : Sl, ∃ s_Back30 : Sl, ∃ s_Mem31 : Sl, ∃ t_Out32 : ByteArray, ∃ t_In33 : ByteArray, ∃ n_Read34 : Int, ∃ n_Status35 : Int, ∃ n_Code36 : Int, w26.cell? ⟨b11, 0, none⟩ = some (.int .i64 n_Ip27) ∧ w26.cell? ⟨b11, 1, none⟩ = some (.int .i64 n_Handler28) ∧ w26.cell? ⟨b11, 2, none⟩ = some (s_Stack29.val) ∧ w26.cell? ⟨b11, 3, none⟩ = some (s_Back30.val) ∧ w26.cell? ⟨b11, 4, none⟩ = some (s_Mem31.val) ∧ w26.cell? ⟨b11, 5, none⟩ = some (.string t_Out32) ∧ w26.cell? ⟨b11, 6, none⟩ = some (.string t_In33) ∧ w26.cell? ⟨b11, 7, none⟩ = some (.int .i64 n_Read34) ∧ w26.cell? ⟨b11, 8, none⟩ = some (.int .i64 n_Status35) ∧ w26.cell? ⟨b11, 9, none⟩ = some (.int .i64 n_Code36) ∧
 wrOk w26 ⟨b13, 0, none⟩ 10 ∧ ∀ w37 : World, w37 = stW w26 ⟨b13, 0, none⟩ 0 [.int .i64 n_Ip27, .int .i64 n_Handler28, s_Stack29.val, s_Back30.val, s_Mem31.val, .string t_Out32, .string t_In33, .int .i64 n_Read34, .int .i64 n_Status35, .int .i64 n_Code36] →
 ∃ r_Ip38 : Int, ∃ r_Handler39 : Int, ∃ r_Stack40 : Sl, ∃ r_Back41 : Sl, ∃ r_Mem42 : Sl, ∃ r_Out43 : ByteArray, ∃ r_In44 : ByteArray, ∃ r_Read45 : Int, ∃ r_Status46 : Int, ∃ r_Code47 : Int, w37.cell? ⟨b13, 0, none⟩ = some (.int .i64 r_Ip38) ∧ w37.cell? ⟨b13, 1, none⟩ = some (.int .i64 r_Handler39) ∧ w37.cell? ⟨b13, 2, none⟩ = some (r_Stack40.val) ∧ w37.cell? ⟨b13, 3, none⟩ = some (r_Back41.val) ∧ w37.cell? ⟨b13, 4, none⟩ = some (r_Mem42.val) ∧ w37.cell? ⟨b13, 5, none⟩ = some (.string r_Out43) ∧ w37.cell? ⟨b13, 6, none⟩ = some (.string r_In44) ∧ w37.cell? ⟨b13, 7, none⟩ = some (.int .i64 r_Read45) ∧ w37.cell? ⟨b13, 8, none⟩ = some (.int .i64 r_Status46) ∧ w37.cell? ⟨b13, 9, none⟩ = some (.int .i64 r_Code47) ∧
 K (.agg #[.int .i64 r_Ip38, .int .i64 r_Handler39, r_Stack40.val, r_Back41.val, r_Mem42.val, .string r_Out43, .string r_In44, .int .i64 r_Read45, .int .i64 r_Status46, .int .i64 r_Code47]) w37
def hollowayref9_Copy_an : An := ⟨[], [], []⟩
theorem hollowayref9_Copy_lift {s__Ip1 : Int} {s__Handler2 : Int} {s__Stack3 : Sl} {s__Back4 : Sl} {s__Mem5 : Sl} {s__Out6 : ByteArray} {s__In7 : ByteArray} {s__Read8 : Int} {s__Status9 : Int} {s__Code10 : Int} {w : World} {K : Value → World → Prop} (h : hollowayref9_Copy_sh s__Ip1 s__Handler2 s__Stack3 s__Back4 s__Mem5 s__Out6 s__In7 s__Read8 s__Status9 s__Code10 w K) : Calls Tryz.prog fn_hollowayref9_Copy #[.agg #[.int .i64 s__Ip1, .int .i64 s__Handler2, s__Stack3.val, s__Back4.val, s__Mem5.val, .string s__Out6, .string s__In7, .int .i64 s__Read8, .int .i64 s__Status9, .int .i64 s__Code10]] w fun e w' => ∃ v, e = .returned v ∧ K v w' :=
   lift_calls (A := hollowayref9_Copy_an) (c := bodyOf Tryz.f31) (args := [.agg #[.int .i64 s__Ip1, .int .i64 s__Handler2, s__Stack3.val, s__Back4.val, s__Mem5.val, .string s__Out6, .string s__In7, .int .i64 s__Read8, .int .i64 s__Status9, .int .i64 s__Code10]]) orc orc_wide Tryz.func31 (by kernel_rfl) (by kernel_rfl) (Eq.mp (by kernel_rfl : hollowayref9_Copy_sh s__Ip1 s__Handler2 s__Stack3 s__Back4 s__Mem5 s__Out6 s__In7 s__Read8 s__Status9 s__Code10 w K = wpc orc Tryz.f31.ntmps hollowayref9_Copy_an (bodyOf Tryz.f31) (argl 0 [.agg #[.int .i64 s__Ip1, .int .i64 s__Handler2, s__Stack3.val, s__Back4.val, s__Mem5.val, .string s__Out6, .string s__In7, .int .i64 s__Read8, .int .i64 s__Status9, .int .i64 s__Code10]]) w (retQ orc Tryz.f31.results.toList K)) h)

-- holloway/hollowayref9.Record
-- holloway/hollowayref9.Cells
-- holloway/hollowayref9.faults
end Go.Proofs.YtkjpmkopnkkbmaaGreatDoor

/- Functions of Hollowaylaw9, read without their frames; that each is enough. Printed by a program of mine (wip/lift/gen.py). -/
set_option maxRecDepth 100000
namespace Go.Proofs.YtkjpmkopnkkbmaaGreatDoor
open Go.RowKit

-- holloway/hollowaylaw9.InnerBegins
-- holloway/hollowaylaw9.InnerSteps
-- holloway/hollowaylaw9.alive
-- holloway/hollowaylaw9.Light
def hollowaylaw9_Light_sh (s__Ip1 : Int) (s__Handler2 : Int) (s__Stack3 : Sl) (s__Back4 : Sl) (s__Mem5 : Sl) (s__Out6 : ByteArray) (s__In7 : ByteArray) (s__Read8 : Int) (s__Status9 : Int) (s__Code10 : Int) (w : World) (K : Value → World → Prop) : Prop :=
 ∀ (b11 : Nat) (w12 : World), b11 = w.heap.size → w12 = World.alloc w (.cells #[.int .i64 s__Ip1, .int .i64 s__Handler2, s__Stack3.val, s__Back4.val, s__Mem5.val, .string s__Out6, .string s__In7, .int .i64 s__Read8, .int .i64 s__Status9, .int .i64 s__Code10] T_api_State) →
 ∃ s13 : Sl, w12.cell? ⟨b11, 4, none⟩ = some (s13.val) ∧
 brB (decide ((s13.len : Int) ≤ (700 : Int)))
 (∃ t14 : ByteArray, w12.cell? ⟨b11, 6, none⟩ = some (.string t14) ∧
 brB (decide ((t14.size : Int) ≤ (300 : Int)))
 (∃ n_Ip15 : Int, ∃ n_Handler16 : Int, ∃ s_Stack17 : Sl, ∃ s_Back18 : Sl, ∃ s_Mem19 : Sl, ∃ t_Out20 : ByteArray, ∃ t_In21 : ByteArray, ∃ n_Read22 : Int, ∃ n_Status23 : Int, ∃ n_Code24 : Int, w12.cell? ⟨b11, 0, none⟩ = some (.int .i64 n_Ip15) ∧ w12.cell? ⟨b11, 1, none⟩ = some (.int .i64 n_Handler16) ∧ w12.cell? ⟨b11, 2, none⟩ = some (s_Stack17.val) ∧ w12.cell? ⟨b11, 3, none⟩ = some (s_Back18.val) ∧ w12.cell? ⟨b11, 4, none⟩ = some (s_Mem19.val) ∧ w12.cell? ⟨b11, 5, none⟩ = some (.string t_Out20) ∧ w12.cell? ⟨b11, 6, none⟩ = some (.string t_In21) ∧ w12.cell? ⟨b11, 7, none⟩ = some (.int .i64 n_Read22) ∧ w12.cell? ⟨b11, 8, none⟩ = some (.int .i64 n_Status23) ∧ w12.cell? ⟨b11, 9, none⟩ = some (.int .i64 n_Code24) ∧
 Calls Tryz.prog fn_hollowayref9_Right #[.agg #[.int .i64 n_Ip15, .int .i64 n_Handler16, s_Stack17.val, s_Back18.val, s_Mem19.val, .string t_Out20, .string t_In21, .int .i64 n_Read22, .int .i64 n_Status23, .int .i64 n_Code24]] w12 fun e25 w26 => ∃ b27 : Bool, e25 = .returned (.bool b27) ∧
 K (.bool b27) w26)
 (K (.bool false) w12))
 (K (.bool false) w12)
def hollowaylaw9_Light_an : An := ⟨[], [], []⟩
theorem hollowaylaw9_Light_lift {s__Ip1 : Int} {s__Handler2 : Int} {s__Stack3 : Sl} {s__Back4 : Sl} {s__Mem5 : Sl} {s__Out6 : ByteArray} {s__In7 : ByteArray} {s__Read8 : Int} {s__Status9 : Int} {s__Code10 : Int} {w : World} {K : Value → World → Prop} (h : hollowaylaw9_Light_sh s__Ip1 s__Handler2 s__Stack3 s__Back4 s__Mem5 s__Out6 s__In7 s__Read8 s__Status9 s__Code10 w K) : Calls Tryz.prog fn_hollowaylaw9_Light #[.agg #[.int .i64 s__Ip1, .int .i64 s__Handler2, s__Stack3.val, s__Back4.val, s__Mem5.val, .string s__Out6, .string s__In7, .int .i64 s__Read8, .int .i64 s__Status9, .int .i64 s__Code10]] w fun e w' => ∃ v, e = .returned v ∧ K v w' :=
   lift_calls (A := hollowaylaw9_Light_an) (c := bodyOf Tryz.f23) (args := [.agg #[.int .i64 s__Ip1, .int .i64 s__Handler2, s__Stack3.val, s__Back4.val, s__Mem5.val, .string s__Out6, .string s__In7, .int .i64 s__Read8, .int .i64 s__Status9, .int .i64 s__Code10]]) orc orc_wide Tryz.func23 (by kernel_rfl) (by kernel_rfl) (Eq.mp (by kernel_rfl : hollowaylaw9_Light_sh s__Ip1 s__Handler2 s__Stack3 s__Back4 s__Mem5 s__Out6 s__In7 s__Read8 s__Status9 s__Code10 w K = wpc orc Tryz.f23.ntmps hollowaylaw9_Light_an (bodyOf Tryz.f23) (argl 0 [.agg #[.int .i64 s__Ip1, .int .i64 s__Handler2, s__Stack3.val, s__Back4.val, s__Mem5.val, .string s__Out6, .string s__In7, .int .i64 s__Read8, .int .i64 s__Status9, .int .i64 s__Code10]]) w (retQ orc Tryz.f23.results.toList K)) h)

end Go.Proofs.YtkjpmkopnkkbmaaGreatDoor
