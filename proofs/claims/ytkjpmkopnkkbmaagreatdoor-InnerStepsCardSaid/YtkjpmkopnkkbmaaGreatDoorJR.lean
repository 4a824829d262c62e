/- The lifted texts of the packages hollowayref9 and hollowaylaw9. -/
import Derived.Test.YtkjpmkopnkkbmaaGreatDoorJ4

/- Functions of Hollowayref9, read without their frames; that each is enough. Printed by a program of mine (wip/lift/gen.py). -/
set_option maxRecDepth 100000
namespace Go.Proofs.YtkjpmkopnkkbmaaGreatDoor
open Go.RowKit

-- holloway/hollowayref9.Boot
-- holloway/hollowayref9.Right
def hollowayref9_Right_sh (s__Ip1 : Int) (s__Handler2 : Int) (s__Stack3 : Sl) (s__Back4 : Sl) (s__Mem5 : Sl) (s__Out6 : ByteArray) (s__In7 : ByteArray) (s__Read8 : Int) (s__Status9 : Int) (s__Code10 : Int) (w : World) (K : Value → World → Prop) : Prop :=
 ∀ (b11 : Nat) (w12 : World), b11 = w.heap.size → w12 = World.alloc w (.cells #[.int .i64 s__Ip1, .int .i64 s__Handler2, s__Stack3.val, s__Back4.val, s__Mem5.val, .string s__Out6, .string s__In7, .int .i64 s__Read8, .int .i64 s__Status9, .int .i64 s__Code10] T_api_State) →
 ∃ s13 : Sl, w12.cell? ⟨b11, 2, none⟩ = some (s13.val) ∧
 brB (decide ((s13.len : Int) ≤ (48 : Int)))
 (∃ s14 : Sl, w12.cell? ⟨b11, 3, none⟩ = some (s14.val) ∧
 brB (decide ((s14.len : Int) ≤ (48 : Int)))
 (∃ s15 : Sl, w12.cell? ⟨b11, 4, none⟩ = some (s15.val) ∧
 brB (decide ((s15.len : Int) ≤ (3000 : Int)))
 (∃ t16 : ByteArray, w12.cell? ⟨b11, 5, none⟩ = some (.string t16) ∧
 brB (decide ((t16.size : Int) ≤ (2000 : Int)))
 (∃ n17 : Int, w12.cell? ⟨b11, 7, none⟩ = some (.int .i64 n17) ∧
 brB (decide (n17 ≥ (0 : Int)))
 (∃ n18 : Int, w12.cell? ⟨b11, 7, none⟩ = some (.int .i64 n18) ∧
 ∃ t19 : ByteArray, w12.cell? ⟨b11, 6, none⟩ = some (.string t19) ∧
 brB (decide (n18 ≤ (t19.size : Int)))
 (∃ n20 : Int, w12.cell? ⟨b11, 8, none⟩ = some (.int .i64 n20) ∧
 brB (decide (n20 ≥ (0 : Int)))
 (∃ n21 : Int, w12.cell? ⟨b11, 8, none⟩ = some (.int .i64 n21) ∧
 K (.bool (decide (n21 ≤ (2 : Int)))) w12)
 (K (.bool false) w12))
 (K (.bool false) w12))
 (K (.bool false) w12))
 (K (.bool false) w12))
 (K (.bool false) w12))
 (K (.bool false) w12))
 (K (.bool false) w12)
def hollowayref9_Right_an : An := ⟨[], [], []⟩
theorem hollowayref9_Right_lift {s__Ip1 : Int} {s__Handler2 : Int} {s__Stack3 : Sl} {s__Back4 : Sl} {s__Mem5 : Sl} {s__Out6 : ByteArray} {s__In7 : ByteArray} {s__Read8 : Int} {s__Status9 : Int} {s__Code10 : Int} {w : World} {K : Value → World → Prop} (h : hollowayref9_Right_sh s__Ip1 s__Handler2 s__Stack3 s__Back4 s__Mem5 s__Out6 s__In7 s__Read8 s__Status9 s__Code10 w K) : Calls Tryz.prog fn_hollowayref9_Right #[.agg #[.int .i64 s__Ip1, .int .i64 s__Handler2, s__Stack3.val, s__Back4.val, s__Mem5.val, .string s__Out6, .string s__In7, .int .i64 s__Read8, .int .i64 s__Status9, .int .i64 s__Code10]] w fun e w' => ∃ v, e = .returned v ∧ K v w' :=
   lift_calls (A := hollowayref9_Right_an) (c := bodyOf Tryz.f14) (args := [.agg #[.int .i64 s__Ip1, .int .i64 s__Handler2, s__Stack3.val, s__Back4.val, s__Mem5.val, .string s__Out6, .string s__In7, .int .i64 s__Read8, .int .i64 s__Status9, .int .i64 s__Code10]]) orc orc_wide Tryz.func14 (by kernel_rfl) (by kernel_rfl) (Eq.mp (by kernel_rfl : hollowayref9_Right_sh s__Ip1 s__Handler2 s__Stack3 s__Back4 s__Mem5 s__Out6 s__In7 s__Read8 s__Status9 s__Code10 w K = wpc orc Tryz.f14.ntmps hollowayref9_Right_an (bodyOf Tryz.f14) (argl 0 [.agg #[.int .i64 s__Ip1, .int .i64 s__Handler2, s__Stack3.val, s__Back4.val, s__Mem5.val, .string s__Out6, .string s__In7, .int .i64 s__Read8, .int .i64 s__Status9, .int .i64 s__Code10]]) w (retQ orc Tryz.f14.results.toList K)) h)

-- holloway/hollowayref9.Enter
-- holloway/hollowayref9.Fault
def hollowayref9_Fault_sh (s__Ip1 : Int) (s__Handler2 : Int) (s__Stack3 : Sl) (s__Back4 : Sl) (s__Mem5 : Sl) (s__Out6 : ByteArray) (s__In7 : ByteArray) (s__Read8 : Int) (s__Status9 : Int) (s__Code10 : Int) (code11 : Int) (w : World) (K : Value → World → Prop) : Prop :=
 ∀ (b12 : Nat) (w13 : World), b12 = w.heap.size → w13 = World.alloc w (.cells #[.int .i64 s__Ip1, .int .i64 s__Handler2, s__Stack3.val, s__Back4.val, s__Mem5.val, .string s__Out6, .string s__In7, .int .i64 s__Read8, .int .i64 s__Status9, .int .i64 s__Code10] T_api_State) →
 ∀ (b14 : Nat) (w15 : World), b14 = w13.heap.size → w15 = World.alloc w13 (.cells #[.int .i64 (0 : Int), .int .i64 (0 : Int), .slice none 0 0, .slice none 0 0, .slice none 0 0, .string (bs []), .string (bs []), .int .i64 (0 : Int), .int .i64 (0 : Int), .int .i64 (0 : Int)] T_api_State) →
 ∃ n16 : Int, w15.cell? ⟨b12, 1, none⟩ = some (.int .i64 n16) ∧
 ∃ J4 : Bool → World → Prop, (∀ (b25 : Bool) (w24 : World), J4 b25 w24 →
 brB b25
 (∃ s26 : Sl, w24.cell? ⟨b12, 3, none⟩ = some (s26.val) ∧
 ∃ a27 : Addr, s26.ptr = some a27 ∧ 0 ≤ (wr (n16 - (1 : Int))) ∧ (wr (n16 - (1 : Int))) < (s26.len : Int) ∧
 ∃ n28 : Int, w24.cell? (Addr.add a27 (Int.toNat (wr (n16 - (1 : Int))) * 1)) = some (.int .i64 n28) ∧
 ∀ w29 : World, w29 = World.drew w24 →
 ∃ S30 : World → Prop, S30 w29 ∧
 ∃ s31 : Sl, held S30 ⟨b12, 3, none⟩ (s31.val) ∧
 ∃ a32 : Addr, s31.ptr = some a32 ∧ 0 ≤ (wr (n16 - (2 : Int))) ∧ (wr (n16 - (2 : Int))) < (s31.len : Int) ∧
 ∃ n33 : Int, held S30 (Addr.add a32 (Int.toNat (wr (n16 - (2 : Int))) * 1)) (.int .i64 n33) ∧
 ∃ s34 : Sl, held S30 ⟨b12, 3, none⟩ (s34.val) ∧
 ∃ a35 : Addr, s34.ptr = some a35 ∧ 0 ≤ (wr (n16 - (3 : Int))) ∧ (wr (n16 - (3 : Int))) < (s34.len : Int) ∧
 ∃ n36 : Int, held S30 (Addr.add a35 (Int.toNat (wr (n16 - (3 : Int))) * 1)) (.int .i64 n36) ∧
 wrOk w29 ⟨b12, 1, none⟩ 1 ∧ ∀ w37 : World, w37 = stW w29 ⟨b12, 1, none⟩ 0 [.int .i64 n33] →
 S30 w37 ∧
 wrOk w37 ⟨b12, 0, none⟩ 1 ∧ ∀ w38 : World, w38 = stW w37 ⟨b12, 0, none⟩ 0 [.int .i64 n36] →
 ∃ s39 : Sl, w38.cell? ⟨b12, 3, none⟩ = some (s39.val) ∧
 0 ≤ (wr (n16 - (3 : Int))) ∧ (wr (n16 - (3 : Int))) ≤ (s39.cap : Int) ∧ ∀ s40 : Sl, s40 = Sl.sub s39.ptr s39.cap 0 (Int.toNat (wr (n16 - (3 : Int)))) 1 →
 ∃ s41 : Sl, ∃ w42 : World, (Builtin.append_ #[T_sl_int, T_sl_int] T_sl_int #[.slice none 0 0, s40.val]).run Tryz.prog w38 = .ok (s41.val) w42 ∧
 wrOk w42 ⟨b12, 3, none⟩ 1 ∧ ∀ w43 : World, w43 = stW w42 ⟨b12, 3, none⟩ 0 [s41.val] →
 ∃ s44 : Sl, w43.cell? ⟨b12, 2, none⟩ = some (s44.val) ∧
 ∃ s45 : Sl, w43.cell? ⟨b12, 2, none⟩ = some (s45.val) ∧
 0 ≤ (imin n28 (s45.len : Int)) ∧ (imin n28 (s45.len : Int)) ≤ (s44.cap : Int) ∧ ∀ s46 : Sl, s46 = Sl.sub s44.ptr s44.cap 0 (Int.toNat (imin n28 (s45.len : Int))) 1 →
 ∃ s47 : Sl, ∃ w48 : World, (Builtin.append_ #[T_sl_int, T_sl_int] T_sl_int #[.slice none 0 0, s46.val]).run Tryz.prog w43 = .ok (s47.val) w48 ∧
 ∃ (I1 : Sl → World → Prop) (μ1 : Sl → World → Nat), I1 s47 w48 ∧ ∀ (l50 : Sl) (w49 : World), I1 l50 w49 →
 brB (decide ((l50.len : Int) < n28))
 (∀ (b51 : Nat) (w52 : World), b51 = w49.heap.size → w52 = World.alloc w49 (.cells #[.int .i64 (0 : Int)] T_int) →
 ∃ s53 : Sl, ∃ w54 : World, (Builtin.append_ #[T_sl_int, T_sl_int] T_sl_int #[l50.val, .slice (some ⟨b51, 0, none⟩) 1 1]).run Tryz.prog w52 = .ok (s53.val) w54 ∧
 I1 s53 w54 ∧ μ1 s53 w54 < μ1 l50 w49)
 (∀ (b55 : Nat) (w56 : World), b55 = w49.heap.size → w56 = World.alloc w49 (.cells #[.int .i64 code11] T_int) →
 ∃ s57 : Sl, ∃ w58 : World, (Builtin.append_ #[T_sl_int, T_sl_int] T_sl_int #[l50.val, .slice (some ⟨b55, 0, none⟩) 1 1]).run Tryz.prog w56 = .ok (s57.val) w58 ∧
 wrOk w58 ⟨b12, 2, none⟩ 1 ∧ ∀ w59 : World, w59 = stW w58 ⟨b12, 2, none⟩ 0 [s57.val] →
 ∃ n_Ip60 : Int, ∃ n_Handler61 : Int, ∃ s_Stack62 : Sl, ∃ s_Back63 : Sl, ∃ s_Mem64 : Sl, ∃ t_Out65 : ByteArray, ∃ t_In66 : ByteArray, ∃ n_Read67 : Int, ∃ n_Status68 : Int, ∃ n_Code69 : Int, w59.cell? ⟨b12, 0, none⟩ = some (.int .i64 n_Ip60) ∧ w59.cell? ⟨b12, 1, none⟩ = some (.int .i64 n_Handler61) ∧ w59.cell? ⟨b12, 2, none⟩ = some (s_Stack62.val) ∧ w59.cell? ⟨b12, 3, none⟩ = some (s_Back63.val) ∧ w59.cell? ⟨b12, 4, none⟩ = some (s_Mem64.val) ∧ w59.cell? ⟨b12, 5, none⟩ = some (.string t_Out65) ∧ w59.cell? ⟨b12, 6, none⟩ = some (.string t_In66) ∧ w59.cell? ⟨b12, 7, none⟩ = some (.int .i64 n_Read67) ∧ w59.cell? ⟨b12, 8, none⟩ = some (.int .i64 n_Status68) ∧ w59.cell? ⟨b12, 9, none⟩ = some (.int .i64 n_Code69) ∧
 wrOk w59 ⟨b14, 0, none⟩ 10 ∧ ∀ w70 : World, w70 = stW w59 ⟨b14, 0, none⟩ 0 [.int .i64 n_Ip60, .int .i64 n_Handler61, s_Stack62.val, s_Back63.val, s_Mem64.val, .string t_Out65, .string t_In66, .int .i64 n_Read67, .int .i64 n_Status68, .int .i64 n_Code69] →
 ∃ r_Ip71 : Int, ∃ r_Handler72 : Int, ∃ r_Stack73 : Sl, ∃ r_Back74 : Sl, ∃ r_Mem75 : Sl, ∃ r_Out76 : ByteArray, ∃ r_In77 : ByteArray, ∃ r_Read78 : Int, ∃ r_Status79 : Int, ∃ r_Code80 : Int, w70.cell? ⟨b14, 0, none⟩ = some (.int .i64 r_Ip71) ∧ w70.cell? ⟨b14, 1, none⟩ = some (.int .i64 r_Handler72) ∧ w70.cell? ⟨b14, 2, none⟩ = some (r_Stack73.val) ∧ w70.cell? ⟨b14, 3, none⟩ = some (r_Back74.val) ∧ w70.cell? ⟨b14, 4, none⟩ = some (r_Mem75.val) ∧ w70.cell? ⟨b14, 5, none⟩ = some (.string r_Out76) ∧ w70.cell? ⟨b14, 6, none⟩ = some (.string r_In77) ∧ w70.cell? ⟨b14, 7, none⟩ = some (.int .i64 r_Read78) ∧ w70.cell? ⟨b14, 8, none⟩ = some (.int .i64 r_Status79) ∧ w70.cell? ⟨b14, 9, none⟩ = some (.int .i64 r_Code80) ∧
 K (.agg #[.int .i64 r_Ip71, .int .i64 r_Handler72, r_Stack73.val, r_Back74.val, r_Mem75.val, .string r_Out76, .string r_In77, .int .i64 r_Read78, .int .i64 r_Status79, .int .i64 r_Code80]) w70))
 (wrOk w24 ⟨b12, 8, none⟩ 1 ∧ ∀ w81 : World, w81 = stW w24 ⟨b12, 8, none⟩ 0 [.int .i64 (2 : Int)] →
 wrOk w81 ⟨b12, 9, none⟩ 1 ∧ ∀ w82 : World, w82 = stW w81 ⟨b12, 9, none⟩ 0 [.int .i64 code11] →
 ∃ n_Ip83 : Int, ∃ n_Handler84 : Int, ∃ s_Stack85 : Sl, ∃ s_Back86 : Sl, ∃ s_Mem87 : Sl, ∃ t_Out88 : ByteArray, ∃ t_In89 : ByteArray, ∃ n_Read90 : Int, ∃ n_Status91 : Int, ∃ n_Code92 : Int, w82.cell? ⟨b12, 0, none⟩ = some (.int .i64 n_Ip83) ∧ w82.cell? ⟨b12, 1, none⟩ = some (.int .i64 n_Handler84) ∧ w82.cell? ⟨b12, 2, none⟩ = some (s_Stack85.val) ∧ w82.cell? ⟨b12, 3, none⟩ = some (s_Back86.val) ∧ w82.cell? ⟨b12, 4, none⟩ = some (s_Mem87.val) ∧ w82.cell? ⟨b12, 5, none⟩ = some (.string t_Out88) ∧ w82.cell? ⟨b12, 6, none⟩ = some (.string t_In89) ∧ w82.cell? ⟨b12, 7, none⟩ = some (.int .i64 n_Read90) ∧ w82.cell? ⟨b12, 8, none⟩ = some (.int .i64 n_Status91) ∧ w82.cell? ⟨b12, 9, none⟩ = some (.int .i64 n_Code92) ∧
 wrOk w82 ⟨b14, 0, none⟩ 10 ∧ ∀ w93 : World, w93 = stW w82 ⟨b14, 0, none⟩ 0 [.int .i64 n_Ip83, .int .i64 n_Handler84, s_Stack85.val, s_Back86.val, s_Mem87.val, .string t_Out88, .string t_In89, .int .i64 n_Read90, .int .i64 n_Status91, .int .i64 n_Code92] →
 ∃ r_Ip94 : Int, ∃ r_Handler95 : Int, ∃ r_Stack96 : Sl, ∃ r_Back97 : Sl, ∃ r_Mem98 : Sl, ∃ r_Out99 : ByteArray, ∃ r_In100 : ByteArray, ∃ r_Read101 : Int, ∃ r_Status102 : Int, ∃ r_Code103 : Int, w93.cell? ⟨b14, 0, none⟩ = some (.int .i64 r_Ip94) ∧ w93.cell? ⟨b14, 1, none⟩ = some (.int .i64 r_Handler95) ∧ w93.cell? ⟨b14, 2, none⟩ = some (r_Stack96.val) ∧ w93.cell? ⟨b14, 3, none⟩ = some (r_Back97.val) ∧ w93.cell? ⟨b14, 4, none⟩ = some (r_Mem98.val) ∧ w93.cell? ⟨b14, 5, none⟩ = some (.string r_Out99) ∧ w93.cell? ⟨b14, 6, none⟩ = some (.string r_In100) ∧ w93.cell? ⟨b14, 7, none⟩ = some (.int .i64 r_Read101) ∧ w93.cell? ⟨b14, 8, none⟩ = some (.int .i64 r_Status102) ∧ w93.cell? ⟨b14, 9, none⟩ = some (.int .i64 r_Code103) ∧
 K (.agg #[.int .i64 r_Ip94, .int .i64 r_Handler95, r_Stack96.val, r_Back97.val, r_Mem98.val, .string r_Out99, .string r_In100, .int .i64 r_Read101, .int .i64 r_Status102, .int .i64 r_Code103]) w93)) ∧
 brB (decide (n16 ≥ (3 : Int)))
 (∃ s17 : Sl, w15.cell? ⟨b12, 3, none⟩ = some (s17.val) ∧
 brB (decide (n16 ≤ (s17.len : Int)))
 (∃ s18 : Sl, w15.cell? ⟨b12, 3, none⟩ = some (s18.val) ∧
 ∃ a19 : Addr, s18.ptr = some a19 ∧ 0 ≤ (wr (n16 - (1 : Int))) ∧ (wr (n16 - (1 : Int))) < (s18.len : Int) ∧
 ∃ n20 : Int, w15.cell? (Addr.add a19 (Int.toNat (wr (n16 - (1 : Int))) * 1)) = some (.int .i64 n20) ∧
 brB (decide (n20 ≥ (0 : Int)))
 (∃ s21 : Sl, w15.cell? ⟨b12, 3, none⟩ = some (s21.val) ∧
 ∃ a22 : Addr, s21.ptr = some a22 ∧ 0 ≤ (wr (n16 - (1 : Int))) ∧ (wr (n16 - (1 : Int))) < (s21.len : Int) ∧
 ∃ n23 : Int, w15.cell? (Addr.add a22 (Int.toNat (wr (n16 - (1 : Int))) * 1)) = some (.int .i64 n23) ∧
 J4 (decide (n23 < (48 : Int))) w15)
 (J4 false w15))
 (J4 false w15))
 (J4 false w15)
def hollowayref9_Fault_an : An := ⟨[(7, [(7, .sl)])], [(4, (14, .st 0 (.st 1 (.st 2 (.st 3 (.st 4 (.st 5 (.st 6 (.st 7 (.st 8 (.st 9 (.st 10 (.st 11 (.st 12 (.ef 13 .done))))))))))))), 1))], [(3, [(36, .bool)])]⟩
theorem hollowayref9_Fault_lift {s__Ip1 : Int} {s__Handler2 : Int} {s__Stack3 : Sl} {s__Back4 : Sl} {s__Mem5 : Sl} {s__Out6 : ByteArray} {s__In7 : ByteArray} {s__Read8 : Int} {s__Status9 : Int} {s__Code10 : Int} {code11 : Int} {w : World} {K : Value → World → Prop} (h : hollowayref9_Fault_sh s__Ip1 s__Handler2 s__Stack3 s__Back4 s__Mem5 s__Out6 s__In7 s__Read8 s__Status9 s__Code10 code11 w K) : Calls Tryz.prog fn_hollowayref9_Fault #[.agg #[.int .i64 s__Ip1, .int .i64 s__Handler2, s__Stack3.val, s__Back4.val, s__Mem5.val, .string s__Out6, .string s__In7, .int .i64 s__Read8, .int .i64 s__Status9, .int .i64 s__Code10], .int .i64 code11] w fun e w' => ∃ v, e = .returned v ∧ K v w' :=
   lift_calls (A := hollowayref9_Fault_an) (c := bodyOf Tryz.f20) (args := [.agg #[.int .i64 s__Ip1, .int .i64 s__Handler2, s__Stack3.val, s__Back4.val, s__Mem5.val, .string s__Out6, .string s__In7, .int .i64 s__Read8, .int .i64 s__Status9, .int .i64 s__Code10], .int .i64 code11]) orc orc_wide Tryz.func20 (by kernel_rfl) (by kernel_rfl) (Eq.mp (by kernel_rfl : hollowayref9_Fault_sh s__Ip1 s__Handler2 s__Stack3 s__Back4 s__Mem5 s__Out6 s__In7 s__Read8 s__Status9 s__Code10 code11 w K = wpc orc Tryz.f20.ntmps hollowayref9_Fault_an (bodyOf Tryz.f20) (argl 0 [.agg #[.int .i64 s__Ip1, .int .i64 s__Handler2, s__Stack3.val, s__Back4.val, s__Mem5.val, .string s__Out6, .string s__In7, .int .i64 s__Read8, .int .i64 s__Status9, .int .i64 s__Code10], .int .i64 code11]) w (retQ orc Tryz.f20.results.toList K)) h)

-- holloway/hollowayref9.Step
def hollowayref9_Step_sh (was_Ip1 : Int) (was_Handler2 : Int) (was_Stack3 : Sl) (was_Back4 : Sl) (was_Mem5 : Sl) (was_Out6 : ByteArray) (was_In7 : ByteArray) (was_Read8 : Int) (was_Status9 : Int) (was_Code10 : Int) (w : World) (K : Value → World → Prop) : Prop :=
 ∀ (b11 : Nat) (w12 : World), b11 = w.heap.size → w12 = World.alloc w (.cells #[.int .i64 was_Ip1, .int .i64 was_Handler2, was_Stack3.val, was_Back4.val, was_Mem5.val, .string was_Out6, .string was_In7, .int .i64 was_Read8, .int .i64 was_Status9, .int .i64 was_Code10] T_api_State) →
 ∀ (b13 : Nat) (w14 : World), b13 = w12.heap.size → w14 = World.alloc w12 (.cells #[.int .i64 (0 : Int), .int .i64 (0 : Int), .slice none 0 0, .slice none 0 0, .slice none 0 0, .string (bs []), .string (bs []), .int .i64 (0 : Int), .int .i64 (0 : Int), .int .i64 (0 : Int)] T_api_State) →
 ∃ n15 : Int, w14.cell? ⟨b11, 8, none⟩ = some (.int .i64 n15) ∧
 brB (n15 != (0 : Int))
 (∃ n_Ip16 : Int, ∃ n_Handler17 : Int, ∃ s_Stack18 : Sl, ∃ s_Back19 : Sl, ∃ s_Mem20 : Sl, ∃ t_Out21 : ByteArray, ∃ t_In22 : ByteArray, ∃ n_Read23 : Int, ∃ n_Status24 : Int, ∃ n_Code25 : Int, w14.cell? ⟨b11, 0, none⟩ = some (.int .i64 n_Ip16) ∧ w14.cell? ⟨b11, 1, none⟩ = some (.int .i64 n_Handler17) ∧ w14.cell? ⟨b11, 2, none⟩ = some (s_Stack18.val) ∧ w14.cell? ⟨b11, 3, none⟩ = some (s_Back19.val) ∧ w14.cell? ⟨b11, 4, none⟩ = some (s_Mem20.val) ∧ w14.cell? ⟨b11, 5, none⟩ = some (.string t_Out21) ∧ w14.cell? ⟨b11, 6, none⟩ = some (.string t_In22) ∧ w14.cell? ⟨b11, 7, none⟩ = some (.int .i64 n_Read23) ∧ w14.cell? ⟨b11, 8, none⟩ = some (.int .i64 n_Status24) ∧ w14.cell? ⟨b11, 9, none⟩ = some (.int .i64 n_Code25) ∧
 wrOk w14 ⟨b13, 0, none⟩ 10 ∧ ∀ w26 : World, w26 = stW w14 ⟨b13, 0, none⟩ 0 [.int .i64 n_Ip16, .int .i64 n_Handler17, s_Stack18.val, s_Back19.val, s_Mem20.val, .string t_Out21, .string t_In22, .int .i64 n_Read23, .int .i64 n_Status24, .int .i64 n_Code25] →
 ∃ r_Ip27 : Int, ∃ r_Handler28 : Int, ∃ r_Stack29 : Sl, ∃ r_Back30 : Sl, ∃ r_Mem31 : Sl, ∃ r_Out32 : ByteArray, ∃ r_In33 : ByteArray, ∃ r_Read34 : Int, ∃ r_Status35 : Int, ∃ r_Code36 : Int, w26.cell? ⟨b13, 0, none⟩ = some (.int .i64 r_Ip27) ∧ w26.cell? ⟨b13, 1, none⟩ = some (.int .i64 r_Handler28) ∧ w26.cell? ⟨b13, 2, none⟩ = some (r_Stack29.val) ∧ w26.cell? ⟨b13, 3, none⟩ = some (r_Back30.val) ∧ w26.cell? ⟨b13, 4, none⟩ = some (r_Mem31.val) ∧ w26.cell? ⟨b13, 5, none⟩ = some (.string r_Out32) ∧ w26.cell? ⟨b13, 6, none⟩ = some (.string r_In33) ∧ w26.cell? ⟨b13, 7, none⟩ = some (.int .i64 r_Read34) ∧ w26.cell? ⟨b13, 8, none⟩ = some (.int .i64 r_Status35) ∧ w26.cell? ⟨b13, 9, none⟩ = some (.int .i64 r_Code36) ∧
 K (.agg #[.int .i64 r_Ip27, .int .i64 r_Handler28, r_Stack29.val, r_Back30.val, r_Mem31.val, .string r_Out32, .string r_In33, .int .i64 r_Read34, .int .i64 r_Status35, .int .i64 r_Code36]) w26)
 (∃ n_Ip37 : Int, ∃ n_Handler38 : Int, ∃ s_Stack39 : Sl, ∃ s_Back40 : Sl, ∃ s_Mem41 : Sl, ∃ t_Out42 : ByteArray, ∃ t_In43 : ByteArray, ∃ n_Read44 : Int, ∃ n_Status45 : Int, ∃ n_Code46 : Int, w14.cell? ⟨b11, 0, none⟩ = some (.int .i64 n_Ip37) ∧ w14.cell? ⟨b11, 1, none⟩ = some (.int .i64 n_Handler38) ∧ w14.cell? ⟨b11, 2, none⟩ = some (s_Stack39.val) ∧ w14.cell? ⟨b11, 3, none⟩ = some (s_Back40.val) ∧ w14.cell? ⟨b11, 4, none⟩ = some (s_Mem41.val) ∧ w14.cell? ⟨b11, 5, none⟩ = some (.string t_Out42) ∧ w14.cell? ⟨b11, 6, none⟩ = some (.string t_In43) ∧ w14.cell? ⟨b11, 7, none⟩ = some (.int .i64 n_Read44) ∧ w14.cell? ⟨b11, 8, none⟩ = some (.int .i64 n_Status45) ∧ w14.cell? ⟨b11, 9, none⟩ = some (.int .i64 n_Code46) ∧
 Calls Tryz.prog fn_hollowayref9_Copy #[.agg #[.int .i64 n_Ip37, .int .i64 n_Handler38, s_Stack39.val, s_Back40.val, s_Mem41.val, .string t_Out42, .string t_In43, .int .i64 n_Read44, .int .i64 n_Status45, .int .i64 n_Code46]] w14 fun e47 w48 => ∃ n_Ip49 : Int, ∃ n_Handler50 : Int, ∃ s_Stack51 : Sl, ∃ s_Back52 : Sl, ∃ s_Mem53 : Sl, ∃ t_Out54 : ByteArray, ∃ t_In55 : ByteArray, ∃ n_Read56 : Int, ∃ n_Status57 : Int, ∃ n_Code58 : Int, e47 = .returned (.agg #[.int .i64 n_Ip49, .int .i64 n_Handler50, s_Stack51.val, s_Back52.val, s_Mem53.val, .string t_Out54, .string t_In55, .int .i64 n_Read56, .int .i64 n_Status57, .int .i64 n_Code58]) ∧
 ∀ (b59 : Nat) (w60 : World), b59 = w48.heap.size → w60 = World.alloc w48 (.cells #[.int .i64 (0 : Int), .int .i64 (0 : Int), .slice none 0 0, .slice none 0 0, .slice none 0 0, .string (bs []), .string (bs []), .int .i64 (0 : Int), .int .i64 (0 : Int), .int .i64 (0 : Int)] T_api_State) →
 wrOk w60 ⟨b59, 0, none⟩ 10 ∧ ∀ w61 : World, w61 = stW w60 ⟨b59, 0, none⟩ 0 [.int .i64 n_Ip49, .int .i64 n_Handler50, s_Stack51.val, s_Back52.val, s_Mem53.val, .string t_Out54, .string t_In55, .int .i64 n_Read56, .int .i64 n_Status57, .int .i64 n_Code58] →
 ∃ J7 : Bool → World → Prop, (∀ (b66 : Bool) (w65 : World), J7 b66 w65 →
 brB b66
 (∃ n_Ip67 : Int, ∃ n_Handler68 : Int, ∃ s_Stack69 : Sl, ∃ s_Back70 : Sl, ∃ s_Mem71 : Sl, ∃ t_Out72 : ByteArray, ∃ t_In73 : ByteArray, ∃ n_Read74 : Int, ∃ n_Status75 : Int, ∃ n_Code76 : Int, w65.cell? ⟨b11, 0, none⟩ = some (.int .i64 n_Ip67) ∧ w65.cell? ⟨b11, 1, none⟩ = some (.int .i64 n_Handler68) ∧ w65.cell? ⟨b11, 2, none⟩ = some (s_Stack69.val) ∧ w65.cell? ⟨b11, 3, none⟩ = some (s_Back70.val) ∧ w65.cell? ⟨b11, 4, none⟩ = some (s_Mem71.val) ∧ w65.cell? ⟨b11, 5, none⟩ = some (.string t_Out72) ∧ w65.cell? ⟨b11, 6, none⟩ = some (.string t_In73) ∧ w65.cell? ⟨b11, 7, none⟩ = some (.int .i64 n_Read74) ∧ w65.cell? ⟨b11, 8, none⟩ = some (.int .i64 n_Status75) ∧ w65.cell? ⟨b11, 9, none⟩ = some (.int .i64 n_Code76) ∧
 Calls Tryz.prog fn_hollowayref9_Fault #[.agg #[.int .i64 n_Ip67, .int .i64 n_Handler68, s_Stack69.val, s_Back70.val, s_Mem71.val, .string t_Out72, .string t_In73, .int .i64 n_Read74, .int .i64 n_Status75, .int .i64 n_Code76], .int .i64 (-9 : Int)] w65 fun e77 w78 => ∃ n_Ip79 : Int, ∃ n_Handler80 : Int, ∃ s_Stack81 : Sl, ∃ s_Back82 : Sl, ∃ s_Mem83 : Sl, ∃ t_Out84 : ByteArray, ∃ t_In85 : ByteArray, ∃ n_Read86 : Int, ∃ n_Status87 : Int, ∃ n_Code88 : Int, e77 = .returned (.agg #[.int .i64 n_Ip79, .int .i64 n_Handler80, s_Stack81.val, s_Back82.val, s_Mem83.val, .string t_Out84, .string t_In85, .int .i64 n_Read86, .int .i64 n_Status87, .int .i64 n_Code88]) ∧
 wrOk w78 ⟨b13, 0, none⟩ 10 ∧ ∀ w89 : World, w89 = stW w78 ⟨b13, 0, none⟩ 0 [.int .i64 n_Ip79, .int .i64 n_Handler80, s_Stack81.val, s_Back82.val, s_Mem83.val, .string t_Out84, .string t_In85, .int .i64 n_Read86, .int .i64 n_Status87, .int .i64 n_Code88] →
 ∃ r_Ip90 : Int, ∃ r_Handler91 : Int, ∃ r_Stack92 : Sl, ∃ r_Back93 : Sl, ∃ r_Mem94 : Sl, ∃ r_Out95 : ByteArray, ∃ r_In96 : ByteArray, ∃ r_Read97 : Int, ∃ r_Status98 : Int, ∃ r_Code99 : Int, w89.cell? ⟨b13, 0, none⟩ = some (.int .i64 r_Ip90) ∧ w89.cell? ⟨b13, 1, none⟩ = some (.int .i64 r_Handler91) ∧ w89.cell? ⟨b13, 2, none⟩ = some (r_Stack92.val) ∧ w89.cell? ⟨b13, 3, none⟩ = some (r_Back93.val) ∧ w89.cell? ⟨b13, 4, none⟩ = some (r_Mem94.val) ∧ w89.cell? ⟨b13, 5, none⟩ = some (.string r_Out95) ∧ w89.cell? ⟨b13, 6, none⟩ = some (.string r_In96) ∧ w89.cell? ⟨b13, 7, none⟩ = some (.int .i64 r_Read97) ∧ w89.cell? ⟨b13, 8, none⟩ = some (.int .i64 r_Status98) ∧ w89.cell? ⟨b13, 9, none⟩ = some (.int .i64 r_Code99) ∧
 K (.agg #[.int .i64 r_Ip90, .int .i64 r_Handler91, r_Stack92.val, r_Back93.val, r_Mem94.val, .string r_Out95, .string r_In96, .int .i64 r_Read97, .int .i64 r_Status98, .int .i64 r_Code99]) w89)
 (∃ s100 : Sl, w65.cell? ⟨b59, 4, none⟩ = some (s100.val) ∧
 ∃ n101 : Int, w65.cell? ⟨b59, 0, none⟩ = some (.int .i64 n101) ∧
 ∃ a102 : Addr, s100.ptr = some a102 ∧ 0 ≤ n101 ∧ n101 < (s100.len : Int) ∧
 ∃ n103 : Int, w65.cell? (Addr.add a102 (Int.toNat n101 * 1)) = some (.int .i64 n103) ∧
 brB (decide (n103 ≥ (64 : Int)))
 (∃ s104 : Sl, w65.cell? ⟨b59, 3, none⟩ = some (s104.val) ∧
 brB (decide ((s104.len : Int) ≥ (48 : Int)))
 (∃ n_Ip105 : Int, ∃ n_Handler106 : Int, ∃ s_Stack107 : Sl, ∃ s_Back108 : Sl, ∃ s_Mem109 : Sl, ∃ t_Out110 : ByteArray, ∃ t_In111 : ByteArray, ∃ n_Read112 : Int, ∃ n_Status113 : Int, ∃ n_Code114 : Int, w65.cell? ⟨b11, 0, none⟩ = some (.int .i64 n_Ip105) ∧ w65.cell? ⟨b11, 1, none⟩ = some (.int .i64 n_Handler106) ∧ w65.cell? ⟨b11, 2, none⟩ = some (s_Stack107.val) ∧ w65.cell? ⟨b11, 3, none⟩ = some (s_Back108.val) ∧ w65.cell? ⟨b11, 4, none⟩ = some (s_Mem109.val) ∧ w65.cell? ⟨b11, 5, none⟩ = some (.string t_Out110) ∧ w65.cell? ⟨b11, 6, none⟩ = some (.string t_In111) ∧ w65.cell? ⟨b11, 7, none⟩ = some (.int .i64 n_Read112) ∧ w65.cell? ⟨b11, 8, none⟩ = some (.int .i64 n_Status113) ∧ w65.cell? ⟨b11, 9, none⟩ = some (.int .i64 n_Code114) ∧
 Calls Tryz.prog fn_hollowayref9_Fault #[.agg #[.int .i64 n_Ip105, .int .i64 n_Handler106, s_Stack107.val, s_Back108.val, s_Mem109.val, .string t_Out110, .string t_In111, .int .i64 n_Read112, .int .i64 n_Status113, .int .i64 n_Code114], .int .i64 (-5 : Int)] w65 fun e115 w116 => ∃ n_Ip117 : Int, ∃ n_Handler118 : Int, ∃ s_Stack119 : Sl, ∃ s_Back120 : Sl, ∃ s_Mem121 : Sl, ∃ t_Out122 : ByteArray, ∃ t_In123 : ByteArray, ∃ n_Read124 : Int, ∃ n_Status125 : Int, ∃ n_Code126 : Int, e115 = .returned (.agg #[.int .i64 n_Ip117, .int .i64 n_Handler118, s_Stack119.val, s_Back120.val, s_Mem121.val, .string t_Out122, .string t_In123, .int .i64 n_Read124, .int .i64 n_Status125, .int .i64 n_Code126]) ∧
 wrOk w116 ⟨b13, 0, none⟩ 10 ∧ ∀ w127 : World, w127 = stW w116 ⟨b13, 0, none⟩ 0 [.int .i64 n_Ip117, .int .i64 n_Handler118, s_Stack119.val, s_Back120.val, s_Mem121.val, .string t_Out122, .string t_In123, .int .i64 n_Read124, .int .i64 n_Status125, .int .i64 n_Code126] →
 ∃ r_Ip128 : Int, ∃ r_Handler129 : Int, ∃ r_Stack130 : Sl, ∃ r_Back131 : Sl, ∃ r_Mem132 : Sl, ∃ r_Out133 : ByteArray, ∃ r_In134 : ByteArray, ∃ r_Read135 : Int, ∃ r_Status136 : Int, ∃ r_Code137 : Int, w127.cell? ⟨b13, 0, none⟩ = some (.int .i64 r_Ip128) ∧ w127.cell? ⟨b13, 1, none⟩ = some (.int .i64 r_Handler129) ∧ w127.cell? ⟨b13, 2, none⟩ = some (r_Stack130.val) ∧ w127.cell? ⟨b13, 3, none⟩ = some (r_Back131.val) ∧ w127.cell? ⟨b13, 4, none⟩ = some (r_Mem132.val) ∧ w127.cell? ⟨b13, 5, none⟩ = some (.string r_Out133) ∧ w127.cell? ⟨b13, 6, none⟩ = some (.string r_In134) ∧ w127.cell? ⟨b13, 7, none⟩ = some (.int .i64 r_Read135) ∧ w127.cell? ⟨b13, 8, none⟩ = some (.int .i64 r_Status136) ∧ w127.cell? ⟨b13, 9, none⟩ = some (.int .i64 r_Code137) ∧
 K (.agg #[.int .i64 r_Ip128, .int .i64 r_Handler129, r_Stack130.val, r_Back131.val, r_Mem132.val, .string r_Out133, .string r_In134, .int .i64 r_Read135, .int .i64 r_Status136, .int .i64 r_Code137]) w127)
 (∃ s138 : Sl, w65.cell? ⟨b59, 3, none⟩ = some (s138.val) ∧
 ∃ n139 : Int, w65.cell? ⟨b59, 0, none⟩ = some (.int .i64 n139) ∧
 ∀ (b140 : Nat) (w141 : World), b140 = w65.heap.size → w141 = World.alloc w65 (.cells #[.int .i64 (wr (n139 + (1 : Int)))] T_int) →
 ∃ s142 : Sl, ∃ w143 : World, (Builtin.append_ #[T_sl_int, T_sl_int] T_sl_int #[s138.val, .slice (some ⟨b140, 0, none⟩) 1 1]).run Tryz.prog w141 = .ok (s142.val) w143 ∧
 wrOk w143 ⟨b59, 3, none⟩ 1 ∧ ∀ w144 : World, w144 = stW w143 ⟨b59, 3, none⟩ 0 [s142.val] →
 wrOk w144 ⟨b59, 0, none⟩ 1 ∧ ∀ w145 : World, w145 = stW w144 ⟨b59, 0, none⟩ 0 [.int .i64 n103] →
 ∃ n_Ip146 : Int, ∃ n_Handler147 : Int, ∃ s_Stack148 : Sl, ∃ s_Back149 : Sl, ∃ s_Mem150 : Sl, ∃ t_Out151 : ByteArray, ∃ t_In152 : ByteArray, ∃ n_Read153 : Int, ∃ n_Status154 : Int, ∃ n_Code155 : Int, w145.cell? ⟨b59, 0, none⟩ = some (.int .i64 n_Ip146) ∧ w145.cell? ⟨b59, 1, none⟩ = some (.int .i64 n_Handler147) ∧ w145.cell? ⟨b59, 2, none⟩ = some (s_Stack148.val) ∧ w145.cell? ⟨b59, 3, none⟩ = some (s_Back149.val) ∧ w145.cell? ⟨b59, 4, none⟩ = some (s_Mem150.val) ∧ w145.cell? ⟨b59, 5, none⟩ = some (.string t_Out151) ∧ w145.cell? ⟨b59, 6, none⟩ = some (.string t_In152) ∧ w145.cell? ⟨b59, 7, none⟩ = some (.int .i64 n_Read153) ∧ w145.cell? ⟨b59, 8, none⟩ = some (.int .i64 n_Status154) ∧ w145.cell? ⟨b59, 9, none⟩ = some (.int .i64 n_Code155) ∧
 wrOk w145 ⟨b13, 0, none⟩ 10 ∧ ∀ w156 : World, w156 = stW w145 ⟨b13, 0, none⟩ 0 [.int .i64 n_Ip146, .int .i64 n_Handler147, s_Stack148.val, s_Back149.val, s_Mem150.val, .string t_Out151, .string t_In152, .int .i64 n_Read153, .int .i64 n_Status154, .int .i64 n_Code155] →
 ∃ r_Ip157 : Int, ∃ r_Handler158 : Int, ∃ r_Stack159 : Sl, ∃ r_Back160 : Sl, ∃ r_Mem161 : Sl, ∃ r_Out162 : ByteArray, ∃ r_In163 : ByteArray, ∃ r_Read164 : Int, ∃ r_Status165 : Int, ∃ r_Code166 : Int, w156.cell? ⟨b13, 0, none⟩ = some (.int .i64 r_Ip157) ∧ w156.cell? ⟨b13, 1, none⟩ = some (.int .i64 r_Handler158) ∧ w156.cell? ⟨b13, 2, none⟩ = some (r_Stack159.val) ∧ w156.cell? ⟨b13, 3, none⟩ = some (r_Back160.val) ∧ w156.cell? ⟨b13, 4, none⟩ = some (r_Mem161.val) ∧ w156.cell? ⟨b13, 5, none⟩ = some (.string r_Out162) ∧ w156.cell? ⟨b13, 6, none⟩ = some (.string r_In163) ∧ w156.cell? ⟨b13, 7, none⟩ = some (.int .i64 r_Read164) ∧ w156.cell? ⟨b13, 8, none⟩ = some (.int .i64 r_Status165) ∧ w156.cell? ⟨b13, 9, none⟩ = some (.int .i64 r_Code166) ∧
 K (.agg #[.int .i64 r_Ip157, .int .i64 r_Handler158, r_Stack159.val, r_Back160.val, r_Mem161.val, .string r_Out162, .string r_In163, .int .i64 r_Read164, .int .i64 r_Status165, .int .i64 r_Code166]) w156))
 (Calls Tryz.prog fn_hollowayref1_Op #[.int .i64 n103] w65 fun e167 w168 => ∃ b169 : Bool, e167 = .returned (.bool b169) ∧
 brB (!b169)
 (∃ n_Ip170 : Int, ∃ n_Handler171 : Int, ∃ s_Stack172 : Sl, ∃ s_Back173 : Sl, ∃ s_Mem174 : Sl, ∃ t_Out175 : ByteArray, ∃ t_In176 : ByteArray, ∃ n_Read177 : Int, ∃ n_Status178 : Int, ∃ n_Code179 : Int, w168.cell? ⟨b11, 0, none⟩ = some (.int .i64 n_Ip170) ∧ w168.cell? ⟨b11, 1, none⟩ = some (.int .i64 n_Handler171) ∧ w168.cell? ⟨b11, 2, none⟩ = some (s_Stack172.val) ∧ w168.cell? ⟨b11, 3, none⟩ = some (s_Back173.val) ∧ w168.cell? ⟨b11, 4, none⟩ = some (s_Mem174.val) ∧ w168.cell? ⟨b11, 5, none⟩ = some (.string t_Out175) ∧ w168.cell? ⟨b11, 6, none⟩ = some (.string t_In176) ∧ w168.cell? ⟨b11, 7, none⟩ = some (.int .i64 n_Read177) ∧ w168.cell? ⟨b11, 8, none⟩ = some (.int .i64 n_Status178) ∧ w168.cell? ⟨b11, 9, none⟩ = some (.int .i64 n_Code179) ∧
 Calls Tryz.prog fn_hollowayref9_Fault #[.agg #[.int .i64 n_Ip170, .int .i64 n_Handler171, s_Stack172.val, s_Back173.val, s_Mem174.val, .string t_Out175, .string t_In176, .int .i64 n_Read177, .int .i64 n_Status178, .int .i64 n_Code179], .int .i64 (-13 : Int)] w168 fun e180 w181 => ∃ n_Ip182 : Int, ∃ n_Handler183 : Int, ∃ s_Stack184 : Sl, ∃ s_Back185 : Sl, ∃ s_Mem186 : Sl, ∃ t_Out187 : ByteArray, ∃ t_In188 : ByteArray, ∃ n_Read189 : Int, ∃ n_Status190 : Int, ∃ n_Code191 : Int, e180 = .returned (.agg #[.int .i64 n_Ip182, .int .i64 n_Handler183, s_Stack184.val, s_Back185.val, s_Mem186.val, .string t_Out187, .string t_In188, .int .i64 n_Read189, .int .i64 n_Status190, .int .i64 n_Code191]) ∧
 wrOk w181 ⟨b13, 0, none⟩ 10 ∧ ∀ w192 : World, w192 = stW w181 ⟨b13, 0, none⟩ 0 [.int .i64 n_Ip182, .int .i64 n_Handler183, s_Stack184.val, s_Back185.val, s_Mem186.val, .string t_Out187, .string t_In188, .int .i64 n_Read189, .int .i64 n_Status190, .int .i64 n_Code191] →
 ∃ r_Ip193 : Int, ∃ r_Handler194 : Int, ∃ r_Stack195 : Sl, ∃ r_Back196 : Sl, ∃ r_Mem197 : Sl, ∃ r_Out198 : ByteArray, ∃ r_In199 : ByteArray, ∃ r_Read200 : Int, ∃ r_Status201 : Int, ∃ r_Code202 : Int, w192.cell? ⟨b13, 0, none⟩ = some (.int .i64 r_Ip193) ∧ w192.cell? ⟨b13, 1, none⟩ = some (.int .i64 r_Handler194) ∧ w192.cell? ⟨b13, 2, none⟩ = some (r_Stack195.val) ∧ w192.cell? ⟨b13, 3, none⟩ = some (r_Back196.val) ∧ w192.cell? ⟨b13, 4, none⟩ = some (r_Mem197.val) ∧ w192.cell? ⟨b13, 5, none⟩ = some (.string r_Out198) ∧ w192.cell? ⟨b13, 6, none⟩ = some (.string r_In199) ∧ w192.cell? ⟨b13, 7, none⟩ = some (.int .i64 r_Read200) ∧ w192.cell? ⟨b13, 8, none⟩ = some (.int .i64 r_Status201) ∧ w192.cell? ⟨b13, 9, none⟩ = some (.int .i64 r_Code202) ∧
 K (.agg #[.int .i64 r_Ip193, .int .i64 r_Handler194, r_Stack195.val, r_Back196.val, r_Mem197.val, .string r_Out198, .string r_In199, .int .i64 r_Read200, .int .i64 r_Status201, .int .i64 r_Code202]) w192)
 (∃ J22 : Int → World → Prop, (∀ (arg601 : Int) (w245 : World), J22 arg601 w245 →
 Calls Tryz.prog fn_hollowayref1_Moves #[.int .i64 n103] w245 fun e246 w247 => ∃ n248 : Int, ∃ n249 : Int, ∃ n250 : Int, ∃ n251 : Int, e246 = .returned (.tuple #[.int .i64 n248, .int .i64 n249, .int .i64 n250, .int .i64 n251]) ∧
 ∀ w252 : World, w252 = World.drew w247 →
 ∃ s253 : Sl, held (Lw w252) ⟨b59, 2, none⟩ (s253.val) ∧
 ∃ s254 : Sl, held (Lw w252) ⟨b59, 3, none⟩ (s254.val) ∧
 brB (decide ((s253.len : Int) < n248))
 (∃ n_Ip255 : Int, ∃ n_Handler256 : Int, ∃ s_Stack257 : Sl, ∃ s_Back258 : Sl, ∃ s_Mem259 : Sl, ∃ t_Out260 : ByteArray, ∃ t_In261 : ByteArray, ∃ n_Read262 : Int, ∃ n_Status263 : Int, ∃ n_Code264 : Int, w252.cell? ⟨b11, 0, none⟩ = some (.int .i64 n_Ip255) ∧ w252.cell? ⟨b11, 1, none⟩ = some (.int .i64 n_Handler256) ∧ w252.cell? ⟨b11, 2, none⟩ = some (s_Stack257.val) ∧ w252.cell? ⟨b11, 3, none⟩ = some (s_Back258.val) ∧ w252.cell? ⟨b11, 4, none⟩ = some (s_Mem259.val) ∧ w252.cell? ⟨b11, 5, none⟩ = some (.string t_Out260) ∧ w252.cell? ⟨b11, 6, none⟩ = some (.string t_In261) ∧ w252.cell? ⟨b11, 7, none⟩ = some (.int .i64 n_Read262) ∧ w252.cell? ⟨b11, 8, none⟩ = some (.int .i64 n_Status263) ∧ w252.cell? ⟨b11, 9, none⟩ = some (.int .i64 n_Code264) ∧
 Calls Tryz.prog fn_hollowayref9_Fault #[.agg #[.int .i64 n_Ip255, .int .i64 n_Handler256, s_Stack257.val, s_Back258.val, s_Mem259.val, .string t_Out260, .string t_In261, .int .i64 n_Read262, .int .i64 n_Status263, .int .i64 n_Code264], .int .i64 (-4 : Int)] w252 fun e265 w266 => ∃ n_Ip267 : Int, ∃ n_Handler268 : Int, ∃ s_Stack269 : Sl, ∃ s_Back270 : Sl, ∃ s_Mem271 : Sl, ∃ t_Out272 : ByteArray, ∃ t_In273 : ByteArray, ∃ n_Read274 : Int, ∃ n_Status275 : Int, ∃ n_Code276 : Int, e265 = .returned (.agg #[.int .i64 n_Ip267, .int .i64 n_Handler268, s_Stack269.val, s_Back270.val, s_Mem271.val, .string t_Out272, .string t_In273, .int .i64 n_Read274, .int .i64 n_Status275, .int .i64 n_Code276]) ∧
 wrOk w266 ⟨b13, 0, none⟩ 10 ∧ ∀ w277 : World, w277 = stW w266 ⟨b13, 0, none⟩ 0 [.int .i64 n_Ip267, .int .i64 n_Handler268, s_Stack269.val, s_Back270.val, s_Mem271.val, .string t_Out272, .string t_In273, .int .i64 n_Read274, .int .i64 n_Status275, .int .i64 n_Code276] →
 ∃ r_Ip278 : Int, ∃ r_Handler279 : Int, ∃ r_Stack280 : Sl, ∃ r_Back281 : Sl, ∃ r_Mem282 : Sl, ∃ r_Out283 : ByteArray, ∃ r_In284 : ByteArray, ∃ r_Read285 : Int, ∃ r_Status286 : Int, ∃ r_Code287 : Int, w277.cell? ⟨b13, 0, none⟩ = some (.int .i64 r_Ip278) ∧ w277.cell? ⟨b13, 1, none⟩ = some (.int .i64 r_Handler279) ∧ w277.cell? ⟨b13, 2, none⟩ = some (r_Stack280.val) ∧ w277.cell? ⟨b13, 3, none⟩ = some (r_Back281.val) ∧ w277.cell? ⟨b13, 4, none⟩ = some (r_Mem282.val) ∧ w277.cell? ⟨b13, 5, none⟩ = some (.string r_Out283) ∧ w277.cell? ⟨b13, 6, none⟩ = some (.string r_In284) ∧ w277.cell? ⟨b13, 7, none⟩ = some (.int .i64 r_Read285) ∧ w277.cell? ⟨b13, 8, none⟩ = some (.int .i64 r_Status286) ∧ w277.cell? ⟨b13, 9, none⟩ = some (.int .i64 r_Code287) ∧
 K (.agg #[.int .i64 r_Ip278, .int .i64 r_Handler279, r_Stack280.val, r_Back281.val, r_Mem282.val, .string r_Out283, .string r_In284, .int .i64 r_Read285, .int .i64 r_Status286, .int .i64 r_Code287]) w277)
 (brB (decide ((s254.len : Int) < n249))
 (∃ n_Ip288 : Int, ∃ n_Handler289 : Int, ∃ s_Stack290 : Sl, ∃ s_Back291 : Sl, ∃ s_Mem292 : Sl, ∃ t_Out293 : ByteArray, ∃ t_In294 : ByteArray, ∃ n_Read295 : Int, ∃ n_Status296 : Int, ∃ n_Code297 : Int, w252.cell? ⟨b11, 0, none⟩ = some (.int .i64 n_Ip288) ∧ w252.cell? ⟨b11, 1, none⟩ = some (.int .i64 n_Handler289) ∧ w252.cell? ⟨b11, 2, none⟩ = some (s_Stack290.val) ∧ w252.cell? ⟨b11, 3, none⟩ = some (s_Back291.val) ∧ w252.cell? ⟨b11, 4, none⟩ = some (s_Mem292.val) ∧ w252.cell? ⟨b11, 5, none⟩ = some (.string t_Out293) ∧ w252.cell? ⟨b11, 6, none⟩ = some (.string t_In294) ∧ w252.cell? ⟨b11, 7, none⟩ = some (.int .i64 n_Read295) ∧ w252.cell? ⟨b11, 8, none⟩ = some (.int .i64 n_Status296) ∧ w252.cell? ⟨b11, 9, none⟩ = some (.int .i64 n_Code297) ∧
 Calls Tryz.prog fn_hollowayref9_Fault #[.agg #[.int .i64 n_Ip288, .int .i64 n_Handler289, s_Stack290.val, s_Back291.val, s_Mem292.val, .string t_Out293, .string t_In294, .int .i64 n_Read295, .int .i64 n_Status296, .int .i64 n_Code297], .int .i64 (-6 : Int)] w252 fun e298 w299 => ∃ n_Ip300 : Int, ∃ n_Handler301 : Int, ∃ s_Stack302 : Sl, ∃ s_Back303 : Sl, ∃ s_Mem304 : Sl, ∃ t_Out305 : ByteArray, ∃ t_In306 : ByteArray, ∃ n_Read307 : Int, ∃ n_Status308 : Int, ∃ n_Code309 : Int, e298 = .returned (.agg #[.int .i64 n_Ip300, .int .i64 n_Handler301, s_Stack302.val, s_Back303.val, s_Mem304.val, .string t_Out305, .string t_In306, .int .i64 n_Read307, .int .i64 n_Status308, .int .i64 n_Code309]) ∧
 wrOk w299 ⟨b13, 0, none⟩ 10 ∧ ∀ w310 : World, w310 = stW w299 ⟨b13, 0, none⟩ 0 [.int .i64 n_Ip300, .int .i64 n_Handler301, s_Stack302.val, s_Back303.val, s_Mem304.val, .string t_Out305, .string t_In306, .int .i64 n_Read307, .int .i64 n_Status308, .int .i64 n_Code309] →
 ∃ r_Ip311 : Int, ∃ r_Handler312 : Int, ∃ r_Stack313 : Sl, ∃ r_Back314 : Sl, ∃ r_Mem315 : Sl, ∃ r_Out316 : ByteArray, ∃ r_In317 : ByteArray, ∃ r_Read318 : Int, ∃ r_Status319 : Int, ∃ r_Code320 : Int, w310.cell? ⟨b13, 0, none⟩ = some (.int .i64 r_Ip311) ∧ w310.cell? ⟨b13, 1, none⟩ = some (.int .i64 r_Handler312) ∧ w310.cell? ⟨b13, 2, none⟩ = some (r_Stack313.val) ∧ w310.cell? ⟨b13, 3, none⟩ = some (r_Back314.val) ∧ w310.cell? ⟨b13, 4, none⟩ = some (r_Mem315.val) ∧ w310.cell? ⟨b13, 5, none⟩ = some (.string r_Out316) ∧ w310.cell? ⟨b13, 6, none⟩ = some (.string r_In317) ∧ w310.cell? ⟨b13, 7, none⟩ = some (.int .i64 r_Read318) ∧ w310.cell? ⟨b13, 8, none⟩ = some (.int .i64 r_Status319) ∧ w310.cell? ⟨b13, 9, none⟩ = some (.int .i64 r_Code320) ∧
 K (.agg #[.int .i64 r_Ip311, .int .i64 r_Handler312, r_Stack313.val, r_Back314.val, r_Mem315.val, .string r_Out316, .string r_In317, .int .i64 r_Read318, .int .i64 r_Status319, .int .i64 r_Code320]) w310)
 (brB (decide ((wr ((wr ((s253.len : Int) - n248)) + n250)) > (48 : Int)))
 (∃ n_Ip321 : Int, ∃ n_Handler322 : Int, ∃ s_Stack323 : Sl, ∃ s_Back324 : Sl, ∃ s_Mem325 : Sl, ∃ t_Out326 : ByteArray, ∃ t_In327 : ByteArray, ∃ n_Read328 : Int, ∃ n_Status329 : Int, ∃ n_Code330 : Int, w252.cell? ⟨b11, 0, none⟩ = some (.int .i64 n_Ip321) ∧ w252.cell? ⟨b11, 1, none⟩ = some (.int .i64 n_Handler322) ∧ w252.cell? ⟨b11, 2, none⟩ = some (s_Stack323.val) ∧ w252.cell? ⟨b11, 3, none⟩ = some (s_Back324.val) ∧ w252.cell? ⟨b11, 4, none⟩ = some (s_Mem325.val) ∧ w252.cell? ⟨b11, 5, none⟩ = some (.string t_Out326) ∧ w252.cell? ⟨b11, 6, none⟩ = some (.string t_In327) ∧ w252.cell? ⟨b11, 7, none⟩ = some (.int .i64 n_Read328) ∧ w252.cell? ⟨b11, 8, none⟩ = some (.int .i64 n_Status329) ∧ w252.cell? ⟨b11, 9, none⟩ = some (.int .i64 n_Code330) ∧
 Calls Tryz.prog fn_hollowayref9_Fault #[.agg #[.int .i64 n_Ip321, .int .i64 n_Handler322, s_Stack323.val, s_Back324.val, s_Mem325.val, .string t_Out326, .string t_In327, .int .i64 n_Read328, .int .i64 n_Status329, .int .i64 n_Code330], .int .i64 (-3 : Int)] w252 fun e331 w332 => ∃ n_Ip333 : Int, ∃ n_Handler334 : Int, ∃ s_Stack335 : Sl, ∃ s_Back336 : Sl, ∃ s_Mem337 : Sl, ∃ t_Out338 : ByteArray, ∃ t_In339 : ByteArray, ∃ n_Read340 : Int, ∃ n_Status341 : Int, ∃ n_Code342 : Int, e331 = .returned (.agg #[.int .i64 n_Ip333, .int .i64 n_Handler334, s_Stack335.val, s_Back336.val, s_Mem337.val, .string t_Out338, .string t_In339, .int .i64 n_Read340, .int .i64 n_Status341, .int .i64 n_Code342]) ∧
 wrOk w332 ⟨b13, 0, none⟩ 10 ∧ ∀ w343 : World, w343 = stW w332 ⟨b13, 0, none⟩ 0 [.int .i64 n_Ip333, .int .i64 n_Handler334, s_Stack335.val, s_Back336.val, s_Mem337.val, .string t_Out338, .string t_In339, .int .i64 n_Read340, .int .i64 n_Status341, .int .i64 n_Code342] →
 ∃ r_Ip344 : Int, ∃ r_Handler345 : Int, ∃ r_Stack346 : Sl, ∃ r_Back347 : Sl, ∃ r_Mem348 : Sl, ∃ r_Out349 : ByteArray, ∃ r_In350 : ByteArray, ∃ r_Read351 : Int, ∃ r_Status352 : Int, ∃ r_Code353 : Int, w343.cell? ⟨b13, 0, none⟩ = some (.int .i64 r_Ip344) ∧ w343.cell? ⟨b13, 1, none⟩ = some (.int .i64 r_Handler345) ∧ w343.cell? ⟨b13, 2, none⟩ = some (r_Stack346.val) ∧ w343.cell? ⟨b13, 3, none⟩ = some (r_Back347.val) ∧ w343.cell? ⟨b13, 4, none⟩ = some (r_Mem348.val) ∧ w343.cell? ⟨b13, 5, none⟩ = some (.string r_Out349) ∧ w343.cell? ⟨b13, 6, none⟩ = some (.string r_In350) ∧ w343.cell? ⟨b13, 7, none⟩ = some (.int .i64 r_Read351) ∧ w343.cell? ⟨b13, 8, none⟩ = some (.int .i64 r_Status352) ∧ w343.cell? ⟨b13, 9, none⟩ = some (.int .i64 r_Code353) ∧
 K (.agg #[.int .i64 r_Ip344, .int .i64 r_Handler345, r_Stack346.val, r_Back347.val, r_Mem348.val, .string r_Out349, .string r_In350, .int .i64 r_Read351, .int .i64 r_Status352, .int .i64 r_Code353]) w343)
 (brB (decide ((wr ((wr ((s254.len : Int) - n249)) + n251)) > (48 : Int)))
 (∃ n_Ip354 : Int, ∃ n_Handler355 : Int, ∃ s_Stack356 : Sl, ∃ s_Back357 : Sl, ∃ s_Mem358 : Sl, ∃ t_Out359 : ByteArray, ∃ t_In360 : ByteArray, ∃ n_Read361 : Int, ∃ n_Status362 : Int, ∃ n_Code363 : Int, w252.cell? ⟨b11, 0, none⟩ = some (.int .i64 n_Ip354) ∧ w252.cell? ⟨b11, 1, none⟩ = some (.int .i64 n_Handler355) ∧ w252.cell? ⟨b11, 2, none⟩ = some (s_Stack356.val) ∧ w252.cell? ⟨b11, 3, none⟩ = some (s_Back357.val) ∧ w252.cell? ⟨b11, 4, none⟩ = some (s_Mem358.val) ∧ w252.cell? ⟨b11, 5, none⟩ = some (.string t_Out359) ∧ w252.cell? ⟨b11, 6, none⟩ = some (.string t_In360) ∧ w252.cell? ⟨b11, 7, none⟩ = some (.int .i64 n_Read361) ∧ w252.cell? ⟨b11, 8, none⟩ = some (.int .i64 n_Status362) ∧ w252.cell? ⟨b11, 9, none⟩ = some (.int .i64 n_Code363) ∧
 Calls Tryz.prog fn_hollowayref9_Fault #[.agg #[.int .i64 n_Ip354, .int .i64 n_Handler355, s_Stack356.val, s_Back357.val, s_Mem358.val, .string t_Out359, .string t_In360, .int .i64 n_Read361, .int .i64 n_Status362, .int .i64 n_Code363], .int .i64 (-5 : Int)] w252 fun e364 w365 => ∃ n_Ip366 : Int, ∃ n_Handler367 : Int, ∃ s_Stack368 : Sl, ∃ s_Back369 : Sl, ∃ s_Mem370 : Sl, ∃ t_Out371 : ByteArray, ∃ t_In372 : ByteArray, ∃ n_Read373 : Int, ∃ n_Status374 : Int, ∃ n_Code375 : Int, e364 = .returned (.agg #[.int .i64 n_Ip366, .int .i64 n_Handler367, s_Stack368.val, s_Back369.val, s_Mem370.val, .string t_Out371, .string t_In372, .int .i64 n_Read373, .int .i64 n_Status374, .int .i64 n_Code375]) ∧
 wrOk w365 ⟨b13, 0, none⟩ 10 ∧ ∀ w376 : World, w376 = stW w365 ⟨b13, 0, none⟩ 0 [.int .i64 n_Ip366, .int .i64 n_Handler367, s_Stack368.val, s_Back369.val, s_Mem370.val, .string t_Out371, .string t_In372, .int .i64 n_Read373, .int .i64 n_Status374, .int .i64 n_Code375] →
 ∃ r_Ip377 : Int, ∃ r_Handler378 : Int, ∃ r_Stack379 : Sl, ∃ r_Back380 : Sl, ∃ r_Mem381 : Sl, ∃ r_Out382 : ByteArray, ∃ r_In383 : ByteArray, ∃ r_Read384 : Int, ∃ r_Status385 : Int, ∃ r_Code386 : Int, w376.cell? ⟨b13, 0, none⟩ = some (.int .i64 r_Ip377) ∧ w376.cell? ⟨b13, 1, none⟩ = some (.int .i64 r_Handler378) ∧ w376.cell? ⟨b13, 2, none⟩ = some (r_Stack379.val) ∧ w376.cell? ⟨b13, 3, none⟩ = some (r_Back380.val) ∧ w376.cell? ⟨b13, 4, none⟩ = some (r_Mem381.val) ∧ w376.cell? ⟨b13, 5, none⟩ = some (.string r_Out382) ∧ w376.cell? ⟨b13, 6, none⟩ = some (.string r_In383) ∧ w376.cell? ⟨b13, 7, none⟩ = some (.int .i64 r_Read384) ∧ w376.cell? ⟨b13, 8, none⟩ = some (.int .i64 r_Status385) ∧ w376.cell? ⟨b13, 9, none⟩ = some (.int .i64 r_Code386) ∧
 K (.agg #[.int .i64 r_Ip377, .int .i64 r_Handler378, r_Stack379.val, r_Back380.val, r_Mem381.val, .string r_Out382, .string r_In383, .int .i64 r_Read384, .int .i64 r_Status385, .int .i64 r_Code386]) w376)
 (∃ J39 : Int → World → Prop, (∀ (p413 : Int) (w390 : World), J39 p413 w390 →
 ∃ J41 : Int → World → Prop, (∀ (q412 : Int) (w394 : World), J41 q412 w394 →
 ∃ J43 : Int → World → Prop, (∀ (r633 : Int) (w398 : World), J43 r633 w398 →
 ∃ n399 : Int, w398.cell? ⟨b59, 0, none⟩ = some (.int .i64 n399) ∧
 wrOk w398 ⟨b59, 0, none⟩ 1 ∧ ∀ w400 : World, w400 = stW w398 ⟨b59, 0, none⟩ 0 [.int .i64 (wr (n399 + (1 : Int)))] →
 ∃ J46 : World → Prop, (∀ (w406 : World), J46  w406 →
 ∃ s407 : Sl, w406.cell? ⟨b59, 2, none⟩ = some (s407.val) ∧
 0 ≤ (wr ((s253.len : Int) - n248)) ∧ (wr ((s253.len : Int) - n248)) ≤ (s407.cap : Int) ∧ ∀ s408 : Sl, s408 = Sl.sub s407.ptr s407.cap 0 (Int.toNat (wr ((s253.len : Int) - n248))) 1 →
 Calls Tryz.prog fn_hollowayref1_IsTwo #[.int .i64 n103] w406 fun e409 w410 => ∃ b411 : Bool, e409 = .returned (.bool b411) ∧
 brB b411
 (Calls Tryz.prog fn_hollowayref1_Two #[.int .i64 n103, .int .i64 q412, .int .i64 p413] w410 fun e414 w415 => ∃ n416 : Int, ∃ b417 : Bool, e414 = .returned (.tuple #[.int .i64 n416, .bool b417]) ∧
 brB (!b417)
 (∃ n_Ip418 : Int, ∃ n_Handler419 : Int, ∃ s_Stack420 : Sl, ∃ s_Back421 : Sl, ∃ s_Mem422 : Sl, ∃ t_Out423 : ByteArray, ∃ t_In424 : ByteArray, ∃ n_Read425 : Int, ∃ n_Status426 : Int, ∃ n_Code427 : Int, w415.cell? ⟨b11, 0, none⟩ = some (.int .i64 n_Ip418) ∧ w415.cell? ⟨b11, 1, none⟩ = some (.int .i64 n_Handler419) ∧ w415.cell? ⟨b11, 2, none⟩ = some (s_Stack420.val) ∧ w415.cell? ⟨b11, 3, none⟩ = some (s_Back421.val) ∧ w415.cell? ⟨b11, 4, none⟩ = some (s_Mem422.val) ∧ w415.cell? ⟨b11, 5, none⟩ = some (.string t_Out423) ∧ w415.cell? ⟨b11, 6, none⟩ = some (.string t_In424) ∧ w415.cell? ⟨b11, 7, none⟩ = some (.int .i64 n_Read425) ∧ w415.cell? ⟨b11, 8, none⟩ = some (.int .i64 n_Status426) ∧ w415.cell? ⟨b11, 9, none⟩ = some (.int .i64 n_Code427) ∧
 Calls Tryz.prog fn_hollowayref9_Fault #[.agg #[.int .i64 n_Ip418, .int .i64 n_Handler419, s_Stack420.val, s_Back421.val, s_Mem422.val, .string t_Out423, .string t_In424, .int .i64 n_Read425, .int .i64 n_Status426, .int .i64 n_Code427], .int .i64 (-10 : Int)] w415 fun e428 w429 => ∃ n_Ip430 : Int, ∃ n_Handler431 : Int, ∃ s_Stack432 : Sl, ∃ s_Back433 : Sl, ∃ s_Mem434 : Sl, ∃ t_Out435 : ByteArray, ∃ t_In436 : ByteArray, ∃ n_Read437 : Int, ∃ n_Status438 : Int, ∃ n_Code439 : Int, e428 = .returned (.agg #[.int .i64 n_Ip430, .int .i64 n_Handler431, s_Stack432.val, s_Back433.val, s_Mem434.val, .string t_Out435, .string t_In436, .int .i64 n_Read437, .int .i64 n_Status438, .int .i64 n_Code439]) ∧
 wrOk w429 ⟨b13, 0, none⟩ 10 ∧ ∀ w440 : World, w440 = stW w429 ⟨b13, 0, none⟩ 0 [.int .i64 n_Ip430, .int .i64 n_Handler431, s_Stack432.val, s_Back433.val, s_Mem434.val, .string t_Out435, .string t_In436, .int .i64 n_Read437, .int .i64 n_Status438, .int .i64 n_Code439] →
 ∃ r_Ip441 : Int, ∃ r_Handler442 : Int, ∃ r_Stack443 : Sl, ∃ r_Back444 : Sl, ∃ r_Mem445 : Sl, ∃ r_Out446 : ByteArray, ∃ r_In447 : ByteArray, ∃ r_Read448 : Int, ∃ r_Status449 : Int, ∃ r_Code450 : Int, w440.cell? ⟨b13, 0, none⟩ = some (.int .i64 r_Ip441) ∧ w440.cell? ⟨b13, 1, none⟩ = some (.int .i64 r_Handler442) ∧ w440.cell? ⟨b13, 2, none⟩ = some (r_Stack443.val) ∧ w440.cell? ⟨b13, 3, none⟩ = some (r_Back444.val) ∧ w440.cell? ⟨b13, 4, none⟩ = some (r_Mem445.val) ∧ w440.cell? ⟨b13, 5, none⟩ = some (.string r_Out446) ∧ w440.cell? ⟨b13, 6, none⟩ = some (.string r_In447) ∧ w440.cell? ⟨b13, 7, none⟩ = some (.int .i64 r_Read448) ∧ w440.cell? ⟨b13, 8, none⟩ = some (.int .i64 r_Status449) ∧ w440.cell? ⟨b13, 9, none⟩ = some (.int .i64 r_Code450) ∧
 K (.agg #[.int .i64 r_Ip441, .int .i64 r_Handler442, r_Stack443.val, r_Back444.val, r_Mem445.val, .string r_Out446, .string r_In447, .int .i64 r_Read448, .int .i64 r_Status449, .int .i64 r_Code450]) w440)
 (∀ (b451 : Nat) (w452 : World), b451 = w415.heap.size → w452 = World.alloc w415 (.cells #[.int .i64 n416] T_int) →
 ∃ s453 : Sl, ∃ w454 : World, (Builtin.append_ #[T_sl_int, T_sl_int] T_sl_int #[s408.val, .slice (some ⟨b451, 0, none⟩) 1 1]).run Tryz.prog w452 = .ok (s453.val) w454 ∧
 wrOk w454 ⟨b59, 2, none⟩ 1 ∧ ∀ w455 : World, w455 = stW w454 ⟨b59, 2, none⟩ 0 [s453.val] →
 ∃ n_Ip456 : Int, ∃ n_Handler457 : Int, ∃ s_Stack458 : Sl, ∃ s_Back459 : Sl, ∃ s_Mem460 : Sl, ∃ t_Out461 : ByteArray, ∃ t_In462 : ByteArray, ∃ n_Read463 : Int, ∃ n_Status464 : Int, ∃ n_Code465 : Int, w455.cell? ⟨b59, 0, none⟩ = some (.int .i64 n_Ip456) ∧ w455.cell? ⟨b59, 1, none⟩ = some (.int .i64 n_Handler457) ∧ w455.cell? ⟨b59, 2, none⟩ = some (s_Stack458.val) ∧ w455.cell? ⟨b59, 3, none⟩ = some (s_Back459.val) ∧ w455.cell? ⟨b59, 4, none⟩ = some (s_Mem460.val) ∧ w455.cell? ⟨b59, 5, none⟩ = some (.string t_Out461) ∧ w455.cell? ⟨b59, 6, none⟩ = some (.string t_In462) ∧ w455.cell? ⟨b59, 7, none⟩ = some (.int .i64 n_Read463) ∧ w455.cell? ⟨b59, 8, none⟩ = some (.int .i64 n_Status464) ∧ w455.cell? ⟨b59, 9, none⟩ = some (.int .i64 n_Code465) ∧
 wrOk w455 ⟨b13, 0, none⟩ 10 ∧ ∀ w466 : World, w466 = stW w455 ⟨b13, 0, none⟩ 0 [.int .i64 n_Ip456, .int .i64 n_Handler457, s_Stack458.val, s_Back459.val, s_Mem460.val, .string t_Out461, .string t_In462, .int .i64 n_Read463, .int .i64 n_Status464, .int .i64 n_Code465] →
 ∃ r_Ip467 : Int, ∃ r_Handler468 : Int, ∃ r_Stack469 : Sl, ∃ r_Back470 : Sl, ∃ r_Mem471 : Sl, ∃ r_Out472 : ByteArray, ∃ r_In473 : ByteArray, ∃ r_Read474 : Int, ∃ r_Status475 : Int, ∃ r_Code476 : Int, w466.cell? ⟨b13, 0, none⟩ = some (.int .i64 r_Ip467) ∧ w466.cell? ⟨b13, 1, none⟩ = some (.int .i64 r_Handler468) ∧ w466.cell? ⟨b13, 2, none⟩ = some (r_Stack469.val) ∧ w466.cell? ⟨b13, 3, none⟩ = some (r_Back470.val) ∧ w466.cell? ⟨b13, 4, none⟩ = some (r_Mem471.val) ∧ w466.cell? ⟨b13, 5, none⟩ = some (.string r_Out472) ∧ w466.cell? ⟨b13, 6, none⟩ = some (.string r_In473) ∧ w466.cell? ⟨b13, 7, none⟩ = some (.int .i64 r_Read474) ∧ w466.cell? ⟨b13, 8, none⟩ = some (.int .i64 r_Status475) ∧ w466.cell? ⟨b13, 9, none⟩ = some (.int .i64 r_Code476) ∧
 K (.agg #[.int .i64 r_Ip467, .int .i64 r_Handler468, r_Stack469.val, r_Back470.val, r_Mem471.val, .string r_Out472, .string r_In473, .int .i64 r_Read474, .int .i64 r_Status475, .int .i64 r_Code476]) w466))
 (Calls Tryz.prog fn_hollowayref1_IsOne #[.int .i64 n103] w410 fun e477 w478 => ∃ b479 : Bool, e477 = .returned (.bool b479) ∧
 brB b479
 (Calls Tryz.prog fn_hollowayref1_One #[.int .i64 n103, .int .i64 p413] w478 fun e480 w481 => ∃ n482 : Int, ∃ b483 : Bool, e480 = .returned (.tuple #[.int .i64 n482, .bool b483]) ∧
 ∀ (b484 : Nat) (w485 : World), b484 = w481.heap.size → w485 = World.alloc w481 (.cells #[.int .i64 n482] T_int) →
 ∃ s486 : Sl, ∃ w487 : World, (Builtin.append_ #[T_sl_int, T_sl_int] T_sl_int #[s408.val, .slice (some ⟨b484, 0, none⟩) 1 1]).run Tryz.prog w485 = .ok (s486.val) w487 ∧
 wrOk w487 ⟨b59, 2, none⟩ 1 ∧ ∀ w488 : World, w488 = stW w487 ⟨b59, 2, none⟩ 0 [s486.val] →
 ∃ n_Ip489 : Int, ∃ n_Handler490 : Int, ∃ s_Stack491 : Sl, ∃ s_Back492 : Sl, ∃ s_Mem493 : Sl, ∃ t_Out494 : ByteArray, ∃ t_In495 : ByteArray, ∃ n_Read496 : Int, ∃ n_Status497 : Int, ∃ n_Code498 : Int, w488.cell? ⟨b59, 0, none⟩ = some (.int .i64 n_Ip489) ∧ w488.cell? ⟨b59, 1, none⟩ = some (.int .i64 n_Handler490) ∧ w488.cell? ⟨b59, 2, none⟩ = some (s_Stack491.val) ∧ w488.cell? ⟨b59, 3, none⟩ = some (s_Back492.val) ∧ w488.cell? ⟨b59, 4, none⟩ = some (s_Mem493.val) ∧ w488.cell? ⟨b59, 5, none⟩ = some (.string t_Out494) ∧ w488.cell? ⟨b59, 6, none⟩ = some (.string t_In495) ∧ w488.cell? ⟨b59, 7, none⟩ = some (.int .i64 n_Read496) ∧ w488.cell? ⟨b59, 8, none⟩ = some (.int .i64 n_Status497) ∧ w488.cell? ⟨b59, 9, none⟩ = some (.int .i64 n_Code498) ∧
 wrOk w488 ⟨b13, 0, none⟩ 10 ∧ ∀ w499 : World, w499 = stW w488 ⟨b13, 0, none⟩ 0 [.int .i64 n_Ip489, .int .i64 n_Handler490, s_Stack491.val, s_Back492.val, s_Mem493.val, .string t_Out494, .string t_In495, .int .i64 n_Read496, .int .i64 n_Status497, .int .i64 n_Code498] →
 ∃ r_Ip500 : Int, ∃ r_Handler501 : Int, ∃ r_Stack502 : Sl, ∃ r_Back503 : Sl, ∃ r_Mem504 : Sl, ∃ r_Out505 : ByteArray, ∃ r_In506 : ByteArray, ∃ r_Read507 : Int, ∃ r_Status508 : Int, ∃ r_Code509 : Int, w499.cell? ⟨b13, 0, none⟩ = some (.int .i64 r_Ip500) ∧ w499.cell? ⟨b13, 1, none⟩ = some (.int .i64 r_Handler501) ∧ w499.cell? ⟨b13, 2, none⟩ = some (r_Stack502.val) ∧ w499.cell? ⟨b13, 3, none⟩ = some (r_Back503.val) ∧ w499.cell? ⟨b13, 4, none⟩ = some (r_Mem504.val) ∧ w499.cell? ⟨b13, 5, none⟩ = some (.string r_Out505) ∧ w499.cell? ⟨b13, 6, none⟩ = some (.string r_In506) ∧ w499.cell? ⟨b13, 7, none⟩ = some (.int .i64 r_Read507) ∧ w499.cell? ⟨b13, 8, none⟩ = some (.int .i64 r_Status508) ∧ w499.cell? ⟨b13, 9, none⟩ = some (.int .i64 r_Code509) ∧
 K (.agg #[.int .i64 r_Ip500, .int .i64 r_Handler501, r_Stack502.val, r_Back503.val, r_Mem504.val, .string r_Out505, .string r_In506, .int .i64 r_Read507, .int .i64 r_Status508, .int .i64 r_Code509]) w499)
 (∃ J62 : World → Prop, (∀ (w924 : World), J62  w924 →
 ∃ n_Ip925 : Int, ∃ n_Handler926 : Int, ∃ s_Stack927 : Sl, ∃ s_Back928 : Sl, ∃ s_Mem929 : Sl, ∃ t_Out930 : ByteArray, ∃ t_In931 : ByteArray, ∃ n_Read932 : Int, ∃ n_Status933 : Int, ∃ n_Code934 : Int, w924.cell? ⟨b59, 0, none⟩ = some (.int .i64 n_Ip925) ∧ w924.cell? ⟨b59, 1, none⟩ = some (.int .i64 n_Handler926) ∧ w924.cell? ⟨b59, 2, none⟩ = some (s_Stack927.val) ∧ w924.cell? ⟨b59, 3, none⟩ = some (s_Back928.val) ∧ w924.cell? ⟨b59, 4, none⟩ = some (s_Mem929.val) ∧ w924.cell? ⟨b59, 5, none⟩ = some (.string t_Out930) ∧ w924.cell? ⟨b59, 6, none⟩ = some (.string t_In931) ∧ w924.cell? ⟨b59, 7, none⟩ = some (.int .i64 n_Read932) ∧ w924.cell? ⟨b59, 8, none⟩ = some (.int .i64 n_Status933) ∧ w924.cell? ⟨b59, 9, none⟩ = some (.int .i64 n_Code934) ∧
 wrOk w924 ⟨b13, 0, none⟩ 10 ∧ ∀ w935 : World, w935 = stW w924 ⟨b13, 0, none⟩ 0 [.int .i64 n_Ip925, .int .i64 n_Handler926, s_Stack927.val, s_Back928.val, s_Mem929.val, .string t_Out930, .string t_In931, .int .i64 n_Read932, .int .i64 n_Status933, .int .i64 n_Code934] →
 ∃ r_Ip936 : Int, ∃ r_Handler937 : Int, ∃ r_Stack938 : Sl, ∃ r_Back939 : Sl, ∃ r_Mem940 : Sl, ∃ r_Out941 : ByteArray, ∃ r_In942 : ByteArray, ∃ r_Read943 : Int, ∃ r_Status944 : Int, ∃ r_Code945 : Int, w935.cell? ⟨b13, 0, none⟩ = some (.int .i64 r_Ip936) ∧ w935.cell? ⟨b13, 1, none⟩ = some (.int .i64 r_Handler937) ∧ w935.cell? ⟨b13, 2, none⟩ = some (r_Stack938.val) ∧ w935.cell? ⟨b13, 3, none⟩ = some (r_Back939.val) ∧ w935.cell? ⟨b13, 4, none⟩ = some (r_Mem940.val) ∧ w935.cell? ⟨b13, 5, none⟩ = some (.string r_Out941) ∧ w935.cell? ⟨b13, 6, none⟩ = some (.string r_In942) ∧ w935.cell? ⟨b13, 7, none⟩ = some (.int .i64 r_Read943) ∧ w935.cell? ⟨b13, 8, none⟩ = some (.int .i64 r_Status944) ∧ w935.cell? ⟨b13, 9, none⟩ = some (.int .i64 r_Code945) ∧
 K (.agg #[.int .i64 r_Ip936, .int .i64 r_Handler937, r_Stack938.val, r_Back939.val, r_Mem940.val, .string r_Out941, .string r_In942, .int .i64 r_Read943, .int .i64 r_Status944, .int .i64 r_Code945]) w935) ∧
 brB (n103 == (0 : Int))
 (∃ n510 : Int, w478.cell? ⟨b59, 0, none⟩ = some (.int .i64 n510) ∧
 wrOk w478 ⟨b59, 0, none⟩ 1 ∧ ∀ w511 : World, w511 = stW w478 ⟨b59, 0, none⟩ 0 [.int .i64 (wr (n510 - (1 : Int)))] →
 wrOk w511 ⟨b59, 8, none⟩ 1 ∧ ∀ w512 : World, w512 = stW w511 ⟨b59, 8, none⟩ 0 [.int .i64 (1 : Int)] →
 J62  w512)
 (brB (n103 == (1 : Int))
 (∃ n513 : Int, w478.cell? ⟨b59, 1, none⟩ = some (.int .i64 n513) ∧
 ∃ J69 : Bool → World → Prop, (∀ (b515 : Bool) (w514 : World), J69 b515 w514 →
 brB b515
 (∃ n_Ip516 : Int, ∃ n_Handler517 : Int, ∃ s_Stack518 : Sl, ∃ s_Back519 : Sl, ∃ s_Mem520 : Sl, ∃ t_Out521 : ByteArray, ∃ t_In522 : ByteArray, ∃ n_Read523 : Int, ∃ n_Status524 : Int, ∃ n_Code525 : Int, w514.cell? ⟨b11, 0, none⟩ = some (.int .i64 n_Ip516) ∧ w514.cell? ⟨b11, 1, none⟩ = some (.int .i64 n_Handler517) ∧ w514.cell? ⟨b11, 2, none⟩ = some (s_Stack518.val) ∧ w514.cell? ⟨b11, 3, none⟩ = some (s_Back519.val) ∧ w514.cell? ⟨b11, 4, none⟩ = some (s_Mem520.val) ∧ w514.cell? ⟨b11, 5, none⟩ = some (.string t_Out521) ∧ w514.cell? ⟨b11, 6, none⟩ = some (.string t_In522) ∧ w514.cell? ⟨b11, 7, none⟩ = some (.int .i64 n_Read523) ∧ w514.cell? ⟨b11, 8, none⟩ = some (.int .i64 n_Status524) ∧ w514.cell? ⟨b11, 9, none⟩ = some (.int .i64 n_Code525) ∧
 Calls Tryz.prog fn_hollowayref9_Fault #[.agg #[.int .i64 n_Ip516, .int .i64 n_Handler517, s_Stack518.val, s_Back519.val, s_Mem520.val, .string t_Out521, .string t_In522, .int .i64 n_Read523, .int .i64 n_Status524, .int .i64 n_Code525], .int .i64 (-25 : Int)] w514 fun e526 w527 => ∃ n_Ip528 : Int, ∃ n_Handler529 : Int, ∃ s_Stack530 : Sl, ∃ s_Back531 : Sl, ∃ s_Mem532 : Sl, ∃ t_Out533 : ByteArray, ∃ t_In534 : ByteArray, ∃ n_Read535 : Int, ∃ n_Status536 : Int, ∃ n_Code537 : Int, e526 = .returned (.agg #[.int .i64 n_Ip528, .int .i64 n_Handler529, s_Stack530.val, s_Back531.val, s_Mem532.val, .string t_Out533, .string t_In534, .int .i64 n_Read535, .int .i64 n_Status536, .int .i64 n_Code537]) ∧
 wrOk w527 ⟨b13, 0, none⟩ 10 ∧ ∀ w538 : World, w538 = stW w527 ⟨b13, 0, none⟩ 0 [.int .i64 n_Ip528, .int .i64 n_Handler529, s_Stack530.val, s_Back531.val, s_Mem532.val, .string t_Out533, .string t_In534, .int .i64 n_Read535, .int .i64 n_Status536, .int .i64 n_Code537] →
 ∃ r_Ip539 : Int, ∃ r_Handler540 : Int, ∃ r_Stack541 : Sl, ∃ r_Back542 : Sl, ∃ r_Mem543 : Sl, ∃ r_Out544 : ByteArray, ∃ r_In545 : ByteArray, ∃ r_Read546 : Int, ∃ r_Status547 : Int, ∃ r_Code548 : Int, w538.cell? ⟨b13, 0, none⟩ = some (.int .i64 r_Ip539) ∧ w538.cell? ⟨b13, 1, none⟩ = some (.int .i64 r_Handler540) ∧ w538.cell? ⟨b13, 2, none⟩ = some (r_Stack541.val) ∧ w538.cell? ⟨b13, 3, none⟩ = some (r_Back542.val) ∧ w538.cell? ⟨b13, 4, none⟩ = some (r_Mem543.val) ∧ w538.cell? ⟨b13, 5, none⟩ = some (.string r_Out544) ∧ w538.cell? ⟨b13, 6, none⟩ = some (.string r_In545) ∧ w538.cell? ⟨b13, 7, none⟩ = some (.int .i64 r_Read546) ∧ w538.cell? ⟨b13, 8, none⟩ = some (.int .i64 r_Status547) ∧ w538.cell? ⟨b13, 9, none⟩ = some (.int .i64 r_Code548) ∧
 K (.agg #[.int .i64 r_Ip539, .int .i64 r_Handler540, r_Stack541.val, r_Back542.val, r_Mem543.val, .string r_Out544, .string r_In545, .int .i64 r_Read546, .int .i64 r_Status547, .int .i64 r_Code548]) w538)
 (brB (decide ((s253.len : Int) ≥ (48 : Int)))
 (∃ n_Ip549 : Int, ∃ n_Handler550 : Int, ∃ s_Stack551 : Sl, ∃ s_Back552 : Sl, ∃ s_Mem553 : Sl, ∃ t_Out554 : ByteArray, ∃ t_In555 : ByteArray, ∃ n_Read556 : Int, ∃ n_Status557 : Int, ∃ n_Code558 : Int, w514.cell? ⟨b11, 0, none⟩ = some (.int .i64 n_Ip549) ∧ w514.cell? ⟨b11, 1, none⟩ = some (.int .i64 n_Handler550) ∧ w514.cell? ⟨b11, 2, none⟩ = some (s_Stack551.val) ∧ w514.cell? ⟨b11, 3, none⟩ = some (s_Back552.val) ∧ w514.cell? ⟨b11, 4, none⟩ = some (s_Mem553.val) ∧ w514.cell? ⟨b11, 5, none⟩ = some (.string t_Out554) ∧ w514.cell? ⟨b11, 6, none⟩ = some (.string t_In555) ∧ w514.cell? ⟨b11, 7, none⟩ = some (.int .i64 n_Read556) ∧ w514.cell? ⟨b11, 8, none⟩ = some (.int .i64 n_Status557) ∧ w514.cell? ⟨b11, 9, none⟩ = some (.int .i64 n_Code558) ∧
 Calls Tryz.prog fn_hollowayref9_Fault #[.agg #[.int .i64 n_Ip549, .int .i64 n_Handler550, s_Stack551.val, s_Back552.val, s_Mem553.val, .string t_Out554, .string t_In555, .int .i64 n_Read556, .int .i64 n_Status557, .int .i64 n_Code558], .int .i64 (-3 : Int)] w514 fun e559 w560 => ∃ n_Ip561 : Int, ∃ n_Handler562 : Int, ∃ s_Stack563 : Sl, ∃ s_Back564 : Sl, ∃ s_Mem565 : Sl, ∃ t_Out566 : ByteArray, ∃ t_In567 : ByteArray, ∃ n_Read568 : Int, ∃ n_Status569 : Int, ∃ n_Code570 : Int, e559 = .returned (.agg #[.int .i64 n_Ip561, .int .i64 n_Handler562, s_Stack563.val, s_Back564.val, s_Mem565.val, .string t_Out566, .string t_In567, .int .i64 n_Read568, .int .i64 n_Status569, .int .i64 n_Code570]) ∧
 wrOk w560 ⟨b13, 0, none⟩ 10 ∧ ∀ w571 : World, w571 = stW w560 ⟨b13, 0, none⟩ 0 [.int .i64 n_Ip561, .int .i64 n_Handler562, s_Stack563.val, s_Back564.val, s_Mem565.val, .string t_Out566, .string t_In567, .int .i64 n_Read568, .int .i64 n_Status569, .int .i64 n_Code570] →
 ∃ r_Ip572 : Int, ∃ r_Handler573 : Int, ∃ r_Stack574 : Sl, ∃ r_Back575 : Sl, ∃ r_Mem576 : Sl, ∃ r_Out577 : ByteArray, ∃ r_In578 : ByteArray, ∃ r_Read579 : Int, ∃ r_Status580 : Int, ∃ r_Code581 : Int, w571.cell? ⟨b13, 0, none⟩ = some (.int .i64 r_Ip572) ∧ w571.cell? ⟨b13, 1, none⟩ = some (.int .i64 r_Handler573) ∧ w571.cell? ⟨b13, 2, none⟩ = some (r_Stack574.val) ∧ w571.cell? ⟨b13, 3, none⟩ = some (r_Back575.val) ∧ w571.cell? ⟨b13, 4, none⟩ = some (r_Mem576.val) ∧ w571.cell? ⟨b13, 5, none⟩ = some (.string r_Out577) ∧ w571.cell? ⟨b13, 6, none⟩ = some (.string r_In578) ∧ w571.cell? ⟨b13, 7, none⟩ = some (.int .i64 r_Read579) ∧ w571.cell? ⟨b13, 8, none⟩ = some (.int .i64 r_Status580) ∧ w571.cell? ⟨b13, 9, none⟩ = some (.int .i64 r_Code581) ∧
 K (.agg #[.int .i64 r_Ip572, .int .i64 r_Handler573, r_Stack574.val, r_Back575.val, r_Mem576.val, .string r_Out577, .string r_In578, .int .i64 r_Read579, .int .i64 r_Status580, .int .i64 r_Code581]) w571)
 (∀ w582 : World, w582 = World.drew w514 →
 ∃ S583 : World → Prop, S583 w582 ∧
 ∃ s584 : Sl, held S583 ⟨b59, 3, none⟩ (s584.val) ∧
 ∃ a585 : Addr, s584.ptr = some a585 ∧ 0 ≤ (wr (n513 - (3 : Int))) ∧ (wr (n513 - (3 : Int))) < (s584.len : Int) ∧
 ∃ n586 : Int, held S583 (Addr.add a585 (Int.toNat (wr (n513 - (3 : Int))) * 1)) (.int .i64 n586) ∧
 ∃ s587 : Sl, held S583 ⟨b59, 3, none⟩ (s587.val) ∧
 ∃ a588 : Addr, s587.ptr = some a588 ∧ 0 ≤ (wr (n513 - (2 : Int))) ∧ (wr (n513 - (2 : Int))) < (s587.len : Int) ∧
 ∃ n589 : Int, held S583 (Addr.add a588 (Int.toNat (wr (n513 - (2 : Int))) * 1)) (.int .i64 n589) ∧
 wrOk w582 ⟨b59, 0, none⟩ 1 ∧ ∀ w590 : World, w590 = stW w582 ⟨b59, 0, none⟩ 0 [.int .i64 n586] →
 S583 w590 ∧
 wrOk w590 ⟨b59, 1, none⟩ 1 ∧ ∀ w591 : World, w591 = stW w590 ⟨b59, 1, none⟩ 0 [.int .i64 n589] →
 ∃ s592 : Sl, w591.cell? ⟨b59, 3, none⟩ = some (s592.val) ∧
 0 ≤ (wr (n513 - (3 : Int))) ∧ (wr (n513 - (3 : Int))) ≤ (s592.cap : Int) ∧ ∀ s593 : Sl, s593 = Sl.sub s592.ptr s592.cap 0 (Int.toNat (wr (n513 - (3 : Int)))) 1 →
 wrOk w591 ⟨b59, 3, none⟩ 1 ∧ ∀ w594 : World, w594 = stW w591 ⟨b59, 3, none⟩ 0 [s593.val] →
 ∃ s595 : Sl, w594.cell? ⟨b59, 2, none⟩ = some (s595.val) ∧
 ∀ (b596 : Nat) (w597 : World), b596 = w594.heap.size → w597 = World.alloc w594 (.cells #[.int .i64 (0 : Int)] T_int) →
 ∃ s598 : Sl, ∃ w599 : World, (Builtin.append_ #[T_sl_int, T_sl_int] T_sl_int #[s595.val, .slice (some ⟨b596, 0, none⟩) 1 1]).run Tryz.prog w597 = .ok (s598.val) w599 ∧
 wrOk w599 ⟨b59, 2, none⟩ 1 ∧ ∀ w600 : World, w600 = stW w599 ⟨b59, 2, none⟩ 0 [s598.val] →
 J62  w600))) ∧
 brB (decide (n513 < (3 : Int)))
 (J69 true w478)
 (J69 ((s254.len : Int) != n513) w478))
 (brB (n103 == (2 : Int))
 (∀ (b602 : Nat) (w603 : World), b602 = w478.heap.size → w603 = World.alloc w478 (.cells #[.int .i64 arg601] T_int) →
 ∃ s604 : Sl, ∃ w605 : World, (Builtin.append_ #[T_sl_int, T_sl_int] T_sl_int #[s408.val, .slice (some ⟨b602, 0, none⟩) 1 1]).run Tryz.prog w603 = .ok (s604.val) w605 ∧
 wrOk w605 ⟨b59, 2, none⟩ 1 ∧ ∀ w606 : World, w606 = stW w605 ⟨b59, 2, none⟩ 0 [s604.val] →
 J62  w606)
 (brB (n103 == (3 : Int))
 (wrOk w478 ⟨b59, 0, none⟩ 1 ∧ ∀ w607 : World, w607 = stW w478 ⟨b59, 0, none⟩ 0 [.int .i64 arg601] →
 J62  w607)
 (brB (n103 == (4 : Int))
 (wrOk w478 ⟨b59, 2, none⟩ 1 ∧ ∀ w608 : World, w608 = stW w478 ⟨b59, 2, none⟩ 0 [s408.val] →
 brB (p413 == (0 : Int))
 (wrOk w608 ⟨b59, 0, none⟩ 1 ∧ ∀ w609 : World, w609 = stW w608 ⟨b59, 0, none⟩ 0 [.int .i64 arg601] →
 J62  w609)
 (J62  w608))
 (brB (n103 == (5 : Int))
 (∃ s610 : Sl, w478.cell? ⟨b59, 3, none⟩ = some (s610.val) ∧
 ∃ a611 : Addr, s610.ptr = some a611 ∧ 0 ≤ (wr ((s254.len : Int) - (1 : Int))) ∧ (wr ((s254.len : Int) - (1 : Int))) < (s610.len : Int) ∧
 ∃ n612 : Int, w478.cell? (Addr.add a611 (Int.toNat (wr ((s254.len : Int) - (1 : Int))) * 1)) = some (.int .i64 n612) ∧
 wrOk w478 ⟨b59, 0, none⟩ 1 ∧ ∀ w613 : World, w613 = stW w478 ⟨b59, 0, none⟩ 0 [.int .i64 n612] →
 ∃ s614 : Sl, w613.cell? ⟨b59, 3, none⟩ = some (s614.val) ∧
 0 ≤ (wr ((s254.len : Int) - (1 : Int))) ∧ (wr ((s254.len : Int) - (1 : Int))) ≤ (s614.cap : Int) ∧ ∀ s615 : Sl, s615 = Sl.sub s614.ptr s614.cap 0 (Int.toNat (wr ((s254.len : Int) - (1 : Int)))) 1 →
 wrOk w613 ⟨b59, 3, none⟩ 1 ∧ ∀ w616 : World, w616 = stW w613 ⟨b59, 3, none⟩ 0 [s615.val] →
 J62  w616)
 (brB (n103 == (6 : Int))
 (∀ (b617 : Nat) (w618 : World), b617 = w478.heap.size → w618 = World.alloc w478 (.cells #[.int .i64 p413, .int .i64 p413] T_int) →
 ∃ s619 : Sl, ∃ w620 : World, (Builtin.append_ #[T_sl_int, T_sl_int] T_sl_int #[s408.val, .slice (some ⟨b617, 0, none⟩) 2 2]).run Tryz.prog w618 = .ok (s619.val) w620 ∧
 wrOk w620 ⟨b59, 2, none⟩ 1 ∧ ∀ w621 : World, w621 = stW w620 ⟨b59, 2, none⟩ 0 [s619.val] →
 J62  w621)
 (brB (n103 == (7 : Int))
 (wrOk w478 ⟨b59, 2, none⟩ 1 ∧ ∀ w622 : World, w622 = stW w478 ⟨b59, 2, none⟩ 0 [s408.val] →
 J62  w622)
 (brB (n103 == (8 : Int))
 (∀ (b623 : Nat) (w624 : World), b623 = w478.heap.size → w624 = World.alloc w478 (.cells #[.int .i64 p413, .int .i64 q412] T_int) →
 ∃ s625 : Sl, ∃ w626 : World, (Builtin.append_ #[T_sl_int, T_sl_int] T_sl_int #[s408.val, .slice (some ⟨b623, 0, none⟩) 2 2]).run Tryz.prog w624 = .ok (s625.val) w626 ∧
 wrOk w626 ⟨b59, 2, none⟩ 1 ∧ ∀ w627 : World, w627 = stW w626 ⟨b59, 2, none⟩ 0 [s625.val] →
 J62  w627)
 (brB (n103 == (9 : Int))
 (∀ (b628 : Nat) (w629 : World), b628 = w478.heap.size → w629 = World.alloc w478 (.cells #[.int .i64 q412, .int .i64 p413, .int .i64 q412] T_int) →
 ∃ s630 : Sl, ∃ w631 : World, (Builtin.append_ #[T_sl_int, T_sl_int] T_sl_int #[s408.val, .slice (some ⟨b628, 0, none⟩) 3 3]).run Tryz.prog w629 = .ok (s630.val) w631 ∧
 wrOk w631 ⟨b59, 2, none⟩ 1 ∧ ∀ w632 : World, w632 = stW w631 ⟨b59, 2, none⟩ 0 [s630.val] →
 J62  w632)
 (brB (n103 == (10 : Int))
 (∀ (b634 : Nat) (w635 : World), b634 = w478.heap.size → w635 = World.alloc w478 (.cells #[.int .i64 q412, .int .i64 p413, .int .i64 r633] T_int) →
 ∃ s636 : Sl, ∃ w637 : World, (Builtin.append_ #[T_sl_int, T_sl_int] T_sl_int #[s408.val, .slice (some ⟨b634, 0, none⟩) 3 3]).run Tryz.prog w635 = .ok (s636.val) w637 ∧
 wrOk w637 ⟨b59, 2, none⟩ 1 ∧ ∀ w638 : World, w638 = stW w637 ⟨b59, 2, none⟩ 0 [s636.val] →
 J62  w638)
 (∃ J88 : Bool → World → Prop, (∀ (b640 : Bool) (w639 : World), J88 b640 w639 →
 brB b640
 (∃ J92 : Bool → World → Prop, (∀ (b643 : Bool) (w642 : World), J92 b643 w642 →
 brB b643
 (∃ n_Ip644 : Int, ∃ n_Handler645 : Int, ∃ s_Stack646 : Sl, ∃ s_Back647 : Sl, ∃ s_Mem648 : Sl, ∃ t_Out649 : ByteArray, ∃ t_In650 : ByteArray, ∃ n_Read651 : Int, ∃ n_Status652 : Int, ∃ n_Code653 : Int, w642.cell? ⟨b11, 0, none⟩ = some (.int .i64 n_Ip644) ∧ w642.cell? ⟨b11, 1, none⟩ = some (.int .i64 n_Handler645) ∧ w642.cell? ⟨b11, 2, none⟩ = some (s_Stack646.val) ∧ w642.cell? ⟨b11, 3, none⟩ = some (s_Back647.val) ∧ w642.cell? ⟨b11, 4, none⟩ = some (s_Mem648.val) ∧ w642.cell? ⟨b11, 5, none⟩ = some (.string t_Out649) ∧ w642.cell? ⟨b11, 6, none⟩ = some (.string t_In650) ∧ w642.cell? ⟨b11, 7, none⟩ = some (.int .i64 n_Read651) ∧ w642.cell? ⟨b11, 8, none⟩ = some (.int .i64 n_Status652) ∧ w642.cell? ⟨b11, 9, none⟩ = some (.int .i64 n_Code653) ∧
 Calls Tryz.prog fn_hollowayref9_Fault #[.agg #[.int .i64 n_Ip644, .int .i64 n_Handler645, s_Stack646.val, s_Back647.val, s_Mem648.val, .string t_Out649, .string t_In650, .int .i64 n_Read651, .int .i64 n_Status652, .int .i64 n_Code653], .int .i64 (-9 : Int)] w642 fun e654 w655 => ∃ n_Ip656 : Int, ∃ n_Handler657 : Int, ∃ s_Stack658 : Sl, ∃ s_Back659 : Sl, ∃ s_Mem660 : Sl, ∃ t_Out661 : ByteArray, ∃ t_In662 : ByteArray, ∃ n_Read663 : Int, ∃ n_Status664 : Int, ∃ n_Code665 : Int, e654 = .returned (.agg #[.int .i64 n_Ip656, .int .i64 n_Handler657, s_Stack658.val, s_Back659.val, s_Mem660.val, .string t_Out661, .string t_In662, .int .i64 n_Read663, .int .i64 n_Status664, .int .i64 n_Code665]) ∧
 wrOk w655 ⟨b13, 0, none⟩ 10 ∧ ∀ w666 : World, w666 = stW w655 ⟨b13, 0, none⟩ 0 [.int .i64 n_Ip656, .int .i64 n_Handler657, s_Stack658.val, s_Back659.val, s_Mem660.val, .string t_Out661, .string t_In662, .int .i64 n_Read663, .int .i64 n_Status664, .int .i64 n_Code665] →
 ∃ r_Ip667 : Int, ∃ r_Handler668 : Int, ∃ r_Stack669 : Sl, ∃ r_Back670 : Sl, ∃ r_Mem671 : Sl, ∃ r_Out672 : ByteArray, ∃ r_In673 : ByteArray, ∃ r_Read674 : Int, ∃ r_Status675 : Int, ∃ r_Code676 : Int, w666.cell? ⟨b13, 0, none⟩ = some (.int .i64 r_Ip667) ∧ w666.cell? ⟨b13, 1, none⟩ = some (.int .i64 r_Handler668) ∧ w666.cell? ⟨b13, 2, none⟩ = some (r_Stack669.val) ∧ w666.cell? ⟨b13, 3, none⟩ = some (r_Back670.val) ∧ w666.cell? ⟨b13, 4, none⟩ = some (r_Mem671.val) ∧ w666.cell? ⟨b13, 5, none⟩ = some (.string r_Out672) ∧ w666.cell? ⟨b13, 6, none⟩ = some (.string r_In673) ∧ w666.cell? ⟨b13, 7, none⟩ = some (.int .i64 r_Read674) ∧ w666.cell? ⟨b13, 8, none⟩ = some (.int .i64 r_Status675) ∧ w666.cell? ⟨b13, 9, none⟩ = some (.int .i64 r_Code676) ∧
 K (.agg #[.int .i64 r_Ip667, .int .i64 r_Handler668, r_Stack669.val, r_Back670.val, r_Mem671.val, .string r_Out672, .string r_In673, .int .i64 r_Read674, .int .i64 r_Status675, .int .i64 r_Code676]) w666)
 (wrOk w642 ⟨b59, 2, none⟩ 1 ∧ ∀ w677 : World, w677 = stW w642 ⟨b59, 2, none⟩ 0 [s408.val] →
 brB (n103 == (30 : Int))
 (∃ s678 : Sl, w677.cell? ⟨b59, 4, none⟩ = some (s678.val) ∧
 ∃ a679 : Addr, s678.ptr = some a679 ∧ 0 ≤ p413 ∧ p413 < (s678.len : Int) ∧
 ∃ n680 : Int, w677.cell? (Addr.add a679 (Int.toNat p413 * 1)) = some (.int .i64 n680) ∧
 ∀ (b681 : Nat) (w682 : World), b681 = w677.heap.size → w682 = World.alloc w677 (.cells #[.int .i64 n680] T_int) →
 ∃ s683 : Sl, ∃ w684 : World, (Builtin.append_ #[T_sl_int, T_sl_int] T_sl_int #[s408.val, .slice (some ⟨b681, 0, none⟩) 1 1]).run Tryz.prog w682 = .ok (s683.val) w684 ∧
 wrOk w684 ⟨b59, 2, none⟩ 1 ∧ ∀ w685 : World, w685 = stW w684 ⟨b59, 2, none⟩ 0 [s683.val] →
 J62  w685)
 (brB (n103 == (31 : Int))
 (∃ s686 : Sl, w677.cell? ⟨b59, 4, none⟩ = some (s686.val) ∧
 ∃ a687 : Addr, s686.ptr = some a687 ∧ 0 ≤ p413 ∧ p413 < (s686.len : Int) ∧
 wrOk w677 (Addr.add a687 (Int.toNat p413 * 1)) 1 ∧ ∀ w688 : World, w688 = stW w677 (Addr.add a687 (Int.toNat p413 * 1)) 0 [.int .i64 q412] →
 J62  w688)
 (∀ w689 : World, w689 = World.drew w677 →
 ∃ s690 : Sl, held (Lw w689) ⟨b59, 4, none⟩ (s690.val) ∧
 ∃ s691 : Sl, held (Lw w689) ⟨b59, 4, none⟩ (s691.val) ∧
 ∃ a692 : Addr, s691.ptr = some a692 ∧ 0 ≤ p413 ∧ p413 < (s691.len : Int) ∧
 ∃ n693 : Int, held (Lw w689) (Addr.add a692 (Int.toNat p413 * 1)) (.int .i64 n693) ∧
 ∃ a694 : Addr, s690.ptr = some a694 ∧ 0 ≤ p413 ∧ p413 < (s690.len : Int) ∧
 wrOk w689 (Addr.add a694 (Int.toNat p413 * 1)) 1 ∧ ∀ w695 : World, w695 = stW w689 (Addr.add a694 (Int.toNat p413 * 1)) 0 [.int .i64 (wr (n693 + q412))] →
 J62  w695)))) ∧
 brB (decide (p413 < (0 : Int)))
 (J92 true w639)
 (∃ s641 : Sl, w639.cell? ⟨b59, 4, none⟩ = some (s641.val) ∧
 J92 (decide (p413 ≥ (s641.len : Int))) w639))
 (brB (n103 == (33 : Int))
 (wrOk w639 ⟨b59, 2, none⟩ 1 ∧ ∀ w696 : World, w696 = stW w639 ⟨b59, 2, none⟩ 0 [s408.val] →
 ∃ s697 : Sl, w696.cell? ⟨b59, 3, none⟩ = some (s697.val) ∧
 ∀ (b698 : Nat) (w699 : World), b698 = w696.heap.size → w699 = World.alloc w696 (.cells #[.int .i64 p413] T_int) →
 ∃ s700 : Sl, ∃ w701 : World, (Builtin.append_ #[T_sl_int, T_sl_int] T_sl_int #[s697.val, .slice (some ⟨b698, 0, none⟩) 1 1]).run Tryz.prog w699 = .ok (s700.val) w701 ∧
 wrOk w701 ⟨b59, 3, none⟩ 1 ∧ ∀ w702 : World, w702 = stW w701 ⟨b59, 3, none⟩ 0 [s700.val] →
 J62  w702)
 (brB (n103 == (34 : Int))
 (∃ s703 : Sl, w639.cell? ⟨b59, 3, none⟩ = some (s703.val) ∧
 ∃ a704 : Addr, s703.ptr = some a704 ∧ 0 ≤ (wr ((s254.len : Int) - (1 : Int))) ∧ (wr ((s254.len : Int) - (1 : Int))) < (s703.len : Int) ∧
 ∃ n705 : Int, w639.cell? (Addr.add a704 (Int.toNat (wr ((s254.len : Int) - (1 : Int))) * 1)) = some (.int .i64 n705) ∧
 ∀ (b706 : Nat) (w707 : World), b706 = w639.heap.size → w707 = World.alloc w639 (.cells #[.int .i64 n705] T_int) →
 ∃ s708 : Sl, ∃ w709 : World, (Builtin.append_ #[T_sl_int, T_sl_int] T_sl_int #[s408.val, .slice (some ⟨b706, 0, none⟩) 1 1]).run Tryz.prog w707 = .ok (s708.val) w709 ∧
 wrOk w709 ⟨b59, 2, none⟩ 1 ∧ ∀ w710 : World, w710 = stW w709 ⟨b59, 2, none⟩ 0 [s708.val] →
 ∃ s711 : Sl, w710.cell? ⟨b59, 3, none⟩ = some (s711.val) ∧
 0 ≤ (wr ((s254.len : Int) - (1 : Int))) ∧ (wr ((s254.len : Int) - (1 : Int))) ≤ (s711.cap : Int) ∧ ∀ s712 : Sl, s712 = Sl.sub s711.ptr s711.cap 0 (Int.toNat (wr ((s254.len : Int) - (1 : Int)))) 1 →
 wrOk w710 ⟨b59, 3, none⟩ 1 ∧ ∀ w713 : World, w713 = stW w710 ⟨b59, 3, none⟩ 0 [s712.val] →
 J62  w713)
 (brB (n103 == (35 : Int))
 (∃ s714 : Sl, w639.cell? ⟨b59, 3, none⟩ = some (s714.val) ∧
 ∃ a715 : Addr, s714.ptr = some a715 ∧ 0 ≤ (wr ((s254.len : Int) - (1 : Int))) ∧ (wr ((s254.len : Int) - (1 : Int))) < (s714.len : Int) ∧
 ∃ n716 : Int, w639.cell? (Addr.add a715 (Int.toNat (wr ((s254.len : Int) - (1 : Int))) * 1)) = some (.int .i64 n716) ∧
 ∀ (b717 : Nat) (w718 : World), b717 = w639.heap.size → w718 = World.alloc w639 (.cells #[.int .i64 n716] T_int) →
 ∃ s719 : Sl, ∃ w720 : World, (Builtin.append_ #[T_sl_int, T_sl_int] T_sl_int #[s408.val, .slice (some ⟨b717, 0, none⟩) 1 1]).run Tryz.prog w718 = .ok (s719.val) w720 ∧
 wrOk w720 ⟨b59, 2, none⟩ 1 ∧ ∀ w721 : World, w721 = stW w720 ⟨b59, 2, none⟩ 0 [s719.val] →
 J62  w721)
 (brB (n103 == (36 : Int))
 (wrOk w639 ⟨b59, 2, none⟩ 1 ∧ ∀ w722 : World, w722 = stW w639 ⟨b59, 2, none⟩ 0 [s408.val] →
 ∃ s723 : Sl, w722.cell? ⟨b59, 3, none⟩ = some (s723.val) ∧
 ∀ (b724 : Nat) (w725 : World), b724 = w722.heap.size → w725 = World.alloc w722 (.cells #[.int .i64 q412, .int .i64 p413] T_int) →
 ∃ s726 : Sl, ∃ w727 : World, (Builtin.append_ #[T_sl_int, T_sl_int] T_sl_int #[s723.val, .slice (some ⟨b724, 0, none⟩) 2 2]).run Tryz.prog w725 = .ok (s726.val) w727 ∧
 wrOk w727 ⟨b59, 3, none⟩ 1 ∧ ∀ w728 : World, w728 = stW w727 ⟨b59, 3, none⟩ 0 [s726.val] →
 J62  w728)
 (∃ J105 : Bool → World → Prop, (∀ (b730 : Bool) (w729 : World), J105 b730 w729 →
 brB b730
 (wrOk w729 ⟨b59, 2, none⟩ 1 ∧ ∀ w731 : World, w731 = stW w729 ⟨b59, 2, none⟩ 0 [s408.val] →
 ∃ J109 : Int → World → Prop, (∀ (step740 : Int) (w732 : World), J109 step740 w732 →
 ∀ w733 : World, w733 = World.drew w732 →
 ∃ s734 : Sl, held (Lw w733) ⟨b59, 3, none⟩ (s734.val) ∧
 ∃ a735 : Addr, s734.ptr = some a735 ∧ 0 ≤ (wr ((s254.len : Int) - (1 : Int))) ∧ (wr ((s254.len : Int) - (1 : Int))) < (s734.len : Int) ∧
 ∃ n736 : Int, held (Lw w733) (Addr.add a735 (Int.toNat (wr ((s254.len : Int) - (1 : Int))) * 1)) (.int .i64 n736) ∧
 ∃ s737 : Sl, held (Lw w733) ⟨b59, 3, none⟩ (s737.val) ∧
 ∃ a738 : Addr, s737.ptr = some a738 ∧ 0 ≤ (wr ((s254.len : Int) - (2 : Int))) ∧ (wr ((s254.len : Int) - (2 : Int))) < (s737.len : Int) ∧
 ∃ n739 : Int, held (Lw w733) (Addr.add a738 (Int.toNat (wr ((s254.len : Int) - (2 : Int))) * 1)) (.int .i64 n739) ∧
 ∃ J113 : Bool → World → Prop, (∀ (ends745 : Bool) (w744 : World), J113 ends745 w744 →
 brB ends745
 (∃ s746 : Sl, w744.cell? ⟨b59, 3, none⟩ = some (s746.val) ∧
 0 ≤ (wr ((s254.len : Int) - (2 : Int))) ∧ (wr ((s254.len : Int) - (2 : Int))) ≤ (s746.cap : Int) ∧ ∀ s747 : Sl, s747 = Sl.sub s746.ptr s746.cap 0 (Int.toNat (wr ((s254.len : Int) - (2 : Int)))) 1 →
 wrOk w744 ⟨b59, 3, none⟩ 1 ∧ ∀ w748 : World, w748 = stW w744 ⟨b59, 3, none⟩ 0 [s747.val] →
 J62  w748)
 (∃ s749 : Sl, w744.cell? ⟨b59, 3, none⟩ = some (s749.val) ∧
 ∃ a750 : Addr, s749.ptr = some a750 ∧ 0 ≤ (wr ((s254.len : Int) - (1 : Int))) ∧ (wr ((s254.len : Int) - (1 : Int))) < (s749.len : Int) ∧
 wrOk w744 (Addr.add a750 (Int.toNat (wr ((s254.len : Int) - (1 : Int))) * 1)) 1 ∧ ∀ w751 : World, w751 = stW w744 (Addr.add a750 (Int.toNat (wr ((s254.len : Int) - (1 : Int))) * 1)) 0 [.int .i64 (wr (n736 + step740))] →
 wrOk w751 ⟨b59, 0, none⟩ 1 ∧ ∀ w752 : World, w752 = stW w751 ⟨b59, 0, none⟩ 0 [.int .i64 arg601] →
 J62  w752)) ∧
 brB (n103 == (38 : Int))
 (Calls Tryz.prog fn_hollowayref1_Crosses #[.int .i64 (wr (n736 - n739)), .int .i64 step740] w733 fun e741 w742 => ∃ b743 : Bool, e741 = .returned (.bool b743) ∧
 J113 b743 w742)
 (J113 ((wr (n736 + step740)) == n739) w733)) ∧
 brB (n103 == (38 : Int))
 (J109 p413 w731)
 (J109 (1 : Int) w731))
 (brB (n103 == (39 : Int))
 (∃ s753 : Sl, w729.cell? ⟨b59, 3, none⟩ = some (s753.val) ∧
 ∃ a754 : Addr, s753.ptr = some a754 ∧ 0 ≤ (wr ((s254.len : Int) - (3 : Int))) ∧ (wr ((s254.len : Int) - (3 : Int))) < (s753.len : Int) ∧
 ∃ n755 : Int, w729.cell? (Addr.add a754 (Int.toNat (wr ((s254.len : Int) - (3 : Int))) * 1)) = some (.int .i64 n755) ∧
 ∀ (b756 : Nat) (w757 : World), b756 = w729.heap.size → w757 = World.alloc w729 (.cells #[.int .i64 n755] T_int) →
 ∃ s758 : Sl, ∃ w759 : World, (Builtin.append_ #[T_sl_int, T_sl_int] T_sl_int #[s408.val, .slice (some ⟨b756, 0, none⟩) 1 1]).run Tryz.prog w757 = .ok (s758.val) w759 ∧
 wrOk w759 ⟨b59, 2, none⟩ 1 ∧ ∀ w760 : World, w760 = stW w759 ⟨b59, 2, none⟩ 0 [s758.val] →
 J62  w760)
 (brB (n103 == (40 : Int))
 (∃ s761 : Sl, w729.cell? ⟨b59, 3, none⟩ = some (s761.val) ∧
 0 ≤ (wr ((s254.len : Int) - (2 : Int))) ∧ (wr ((s254.len : Int) - (2 : Int))) ≤ (s761.cap : Int) ∧ ∀ s762 : Sl, s762 = Sl.sub s761.ptr s761.cap 0 (Int.toNat (wr ((s254.len : Int) - (2 : Int)))) 1 →
 wrOk w729 ⟨b59, 3, none⟩ 1 ∧ ∀ w763 : World, w763 = stW w729 ⟨b59, 3, none⟩ 0 [s762.val] →
 J62  w763)
 (∃ J119 : Bool → World → Prop, (∀ (b765 : Bool) (w764 : World), J119 b765 w764 →
 brB b765
 (∀ (b766 : Nat) (w767 : World), b766 = w764.heap.size → w767 = World.alloc w764 (.cells #[.int .u8 (IntKind.wrap .u8 (iand .i64 p413 (255 : Int)))] T_uint8) →
 ∃ t768 : ByteArray, ∃ w769 : World, (convert T_sl_uint8 T_string (.slice (some ⟨b766, 0, none⟩) 1 1)).run Tryz.prog w767 = .ok (.string t768) w769 ∧
 ∃ J122 : ByteArray → World → Prop, (∀ (t775 : ByteArray) (w773 : World), J122 t775 w773 →
 ∃ t774 : ByteArray, w773.cell? ⟨b59, 5, none⟩ = some (.string t774) ∧
 brB (decide ((wr ((t774.size : Int) + (t775.size : Int))) > (2000 : Int)))
 (∃ n_Ip776 : Int, ∃ n_Handler777 : Int, ∃ s_Stack778 : Sl, ∃ s_Back779 : Sl, ∃ s_Mem780 : Sl, ∃ t_Out781 : ByteArray, ∃ t_In782 : ByteArray, ∃ n_Read783 : Int, ∃ n_Status784 : Int, ∃ n_Code785 : Int, w773.cell? ⟨b11, 0, none⟩ = some (.int .i64 n_Ip776) ∧ w773.cell? ⟨b11, 1, none⟩ = some (.int .i64 n_Handler777) ∧ w773.cell? ⟨b11, 2, none⟩ = some (s_Stack778.val) ∧ w773.cell? ⟨b11, 3, none⟩ = some (s_Back779.val) ∧ w773.cell? ⟨b11, 4, none⟩ = some (s_Mem780.val) ∧ w773.cell? ⟨b11, 5, none⟩ = some (.string t_Out781) ∧ w773.cell? ⟨b11, 6, none⟩ = some (.string t_In782) ∧ w773.cell? ⟨b11, 7, none⟩ = some (.int .i64 n_Read783) ∧ w773.cell? ⟨b11, 8, none⟩ = some (.int .i64 n_Status784) ∧ w773.cell? ⟨b11, 9, none⟩ = some (.int .i64 n_Code785) ∧
 Calls Tryz.prog fn_hollowayref9_Fault #[.agg #[.int .i64 n_Ip776, .int .i64 n_Handler777, s_Stack778.val, s_Back779.val, s_Mem780.val, .string t_Out781, .string t_In782, .int .i64 n_Read783, .int .i64 n_Status784, .int .i64 n_Code785], .int .i64 (-57 : Int)] w773 fun e786 w787 => ∃ n_Ip788 : Int, ∃ n_Handler789 : Int, ∃ s_Stack790 : Sl, ∃ s_Back791 : Sl, ∃ s_Mem792 : Sl, ∃ t_Out793 : ByteArray, ∃ t_In794 : ByteArray, ∃ n_Read795 : Int, ∃ n_Status796 : Int, ∃ n_Code797 : Int, e786 = .returned (.agg #[.int .i64 n_Ip788, .int .i64 n_Handler789, s_Stack790.val, s_Back791.val, s_Mem792.val, .string t_Out793, .string t_In794, .int .i64 n_Read795, .int .i64 n_Status796, .int .i64 n_Code797]) ∧
 wrOk w787 ⟨b13, 0, none⟩ 10 ∧ ∀ w798 : World, w798 = stW w787 ⟨b13, 0, none⟩ 0 [.int .i64 n_Ip788, .int .i64 n_Handler789, s_Stack790.val, s_Back791.val, s_Mem792.val, .string t_Out793, .string t_In794, .int .i64 n_Read795, .int .i64 n_Status796, .int .i64 n_Code797] →
 ∃ r_Ip799 : Int, ∃ r_Handler800 : Int, ∃ r_Stack801 : Sl, ∃ r_Back802 : Sl, ∃ r_Mem803 : Sl, ∃ r_Out804 : ByteArray, ∃ r_In805 : ByteArray, ∃ r_Read806 : Int, ∃ r_Status807 : Int, ∃ r_Code808 : Int, w798.cell? ⟨b13, 0, none⟩ = some (.int .i64 r_Ip799) ∧ w798.cell? ⟨b13, 1, none⟩ = some (.int .i64 r_Handler800) ∧ w798.cell? ⟨b13, 2, none⟩ = some (r_Stack801.val) ∧ w798.cell? ⟨b13, 3, none⟩ = some (r_Back802.val) ∧ w798.cell? ⟨b13, 4, none⟩ = some (r_Mem803.val) ∧ w798.cell? ⟨b13, 5, none⟩ = some (.string r_Out804) ∧ w798.cell? ⟨b13, 6, none⟩ = some (.string r_In805) ∧ w798.cell? ⟨b13, 7, none⟩ = some (.int .i64 r_Read806) ∧ w798.cell? ⟨b13, 8, none⟩ = some (.int .i64 r_Status807) ∧ w798.cell? ⟨b13, 9, none⟩ = some (.int .i64 r_Code808) ∧
 K (.agg #[.int .i64 r_Ip799, .int .i64 r_Handler800, r_Stack801.val, r_Back802.val, r_Mem803.val, .string r_Out804, .string r_In805, .int .i64 r_Read806, .int .i64 r_Status807, .int .i64 r_Code808]) w798)
 (wrOk w773 ⟨b59, 2, none⟩ 1 ∧ ∀ w809 : World, w809 = stW w773 ⟨b59, 2, none⟩ 0 [s408.val] →
 ∃ t810 : ByteArray, w809.cell? ⟨b59, 5, none⟩ = some (.string t810) ∧
 ((t810).size : Int) + ((t775).size : Int) ≤ 9223372036854775807 ∧ wrOk w809 ⟨b59, 5, none⟩ 1 ∧ ∀ w811 : World, w811 = stW w809 ⟨b59, 5, none⟩ 0 [.string (t810 ++ t775)] →
 J62  w811)) ∧
 brB (n103 == (42 : Int))
 (Calls Tryz.prog fn_hollowayref1_Put #[.int .i64 p413, .int .i64 (10 : Int)] w769 fun e770 w771 => ∃ t772 : ByteArray, e770 = .returned (.string t772) ∧
 ((t772).size : Int) + (((bs [32])).size : Int) ≤ 9223372036854775807 ∧ J122 (t772 ++ (bs [32])) w771)
 (J122 t768 w769))
 (brB (n103 == (43 : Int))
 (∃ J130 : Int → World → Prop, (∀ (v819 : Int) (w818 : World), J130 v819 w818 →
 ∀ (b820 : Nat) (w821 : World), b820 = w818.heap.size → w821 = World.alloc w818 (.cells #[.int .i64 v819] T_int) →
 ∃ s822 : Sl, ∃ w823 : World, (Builtin.append_ #[T_sl_int, T_sl_int] T_sl_int #[s408.val, .slice (some ⟨b820, 0, none⟩) 1 1]).run Tryz.prog w821 = .ok (s822.val) w823 ∧
 wrOk w823 ⟨b59, 2, none⟩ 1 ∧ ∀ w824 : World, w824 = stW w823 ⟨b59, 2, none⟩ 0 [s822.val] →
 J62  w824) ∧
 ∃ n812 : Int, w764.cell? ⟨b59, 7, none⟩ = some (.int .i64 n812) ∧
 ∃ t813 : ByteArray, w764.cell? ⟨b59, 6, none⟩ = some (.string t813) ∧
 brB (decide (n812 < (t813.size : Int)))
 (∃ t814 : ByteArray, w764.cell? ⟨b59, 6, none⟩ = some (.string t814) ∧
 ∃ n815 : Int, w764.cell? ⟨b59, 7, none⟩ = some (.int .i64 n815) ∧
 0 ≤ n815 ∧ n815 < (t814.size : Int) ∧
 ∃ n816 : Int, w764.cell? ⟨b59, 7, none⟩ = some (.int .i64 n816) ∧
 wrOk w764 ⟨b59, 7, none⟩ 1 ∧ ∀ w817 : World, w817 = stW w764 ⟨b59, 7, none⟩ 0 [.int .i64 (wr (n816 + (1 : Int)))] →
 J130 (wr (sb t814 n815)) w817)
 (J130 (-1 : Int) w764))
 (brB (n103 == (44 : Int))
 (∃ J135 : Bool → World → Prop, (∀ (b827 : Bool) (w826 : World), J135 b827 w826 →
 brB b827
 (∃ n_Ip828 : Int, ∃ n_Handler829 : Int, ∃ s_Stack830 : Sl, ∃ s_Back831 : Sl, ∃ s_Mem832 : Sl, ∃ t_Out833 : ByteArray, ∃ t_In834 : ByteArray, ∃ n_Read835 : Int, ∃ n_Status836 : Int, ∃ n_Code837 : Int, w826.cell? ⟨b11, 0, none⟩ = some (.int .i64 n_Ip828) ∧ w826.cell? ⟨b11, 1, none⟩ = some (.int .i64 n_Handler829) ∧ w826.cell? ⟨b11, 2, none⟩ = some (s_Stack830.val) ∧ w826.cell? ⟨b11, 3, none⟩ = some (s_Back831.val) ∧ w826.cell? ⟨b11, 4, none⟩ = some (s_Mem832.val) ∧ w826.cell? ⟨b11, 5, none⟩ = some (.string t_Out833) ∧ w826.cell? ⟨b11, 6, none⟩ = some (.string t_In834) ∧ w826.cell? ⟨b11, 7, none⟩ = some (.int .i64 n_Read835) ∧ w826.cell? ⟨b11, 8, none⟩ = some (.int .i64 n_Status836) ∧ w826.cell? ⟨b11, 9, none⟩ = some (.int .i64 n_Code837) ∧
 Calls Tryz.prog fn_hollowayref9_Fault #[.agg #[.int .i64 n_Ip828, .int .i64 n_Handler829, s_Stack830.val, s_Back831.val, s_Mem832.val, .string t_Out833, .string t_In834, .int .i64 n_Read835, .int .i64 n_Status836, .int .i64 n_Code837], .int .i64 (-13 : Int)] w826 fun e838 w839 => ∃ n_Ip840 : Int, ∃ n_Handler841 : Int, ∃ s_Stack842 : Sl, ∃ s_Back843 : Sl, ∃ s_Mem844 : Sl, ∃ t_Out845 : ByteArray, ∃ t_In846 : ByteArray, ∃ n_Read847 : Int, ∃ n_Status848 : Int, ∃ n_Code849 : Int, e838 = .returned (.agg #[.int .i64 n_Ip840, .int .i64 n_Handler841, s_Stack842.val, s_Back843.val, s_Mem844.val, .string t_Out845, .string t_In846, .int .i64 n_Read847, .int .i64 n_Status848, .int .i64 n_Code849]) ∧
 wrOk w839 ⟨b13, 0, none⟩ 10 ∧ ∀ w850 : World, w850 = stW w839 ⟨b13, 0, none⟩ 0 [.int .i64 n_Ip840, .int .i64 n_Handler841, s_Stack842.val, s_Back843.val, s_Mem844.val, .string t_Out845, .string t_In846, .int .i64 n_Read847, .int .i64 n_Status848, .int .i64 n_Code849] →
 ∃ r_Ip851 : Int, ∃ r_Handler852 : Int, ∃ r_Stack853 : Sl, ∃ r_Back854 : Sl, ∃ r_Mem855 : Sl, ∃ r_Out856 : ByteArray, ∃ r_In857 : ByteArray, ∃ r_Read858 : Int, ∃ r_Status859 : Int, ∃ r_Code860 : Int, w850.cell? ⟨b13, 0, none⟩ = some (.int .i64 r_Ip851) ∧ w850.cell? ⟨b13, 1, none⟩ = some (.int .i64 r_Handler852) ∧ w850.cell? ⟨b13, 2, none⟩ = some (r_Stack853.val) ∧ w850.cell? ⟨b13, 3, none⟩ = some (r_Back854.val) ∧ w850.cell? ⟨b13, 4, none⟩ = some (r_Mem855.val) ∧ w850.cell? ⟨b13, 5, none⟩ = some (.string r_Out856) ∧ w850.cell? ⟨b13, 6, none⟩ = some (.string r_In857) ∧ w850.cell? ⟨b13, 7, none⟩ = some (.int .i64 r_Read858) ∧ w850.cell? ⟨b13, 8, none⟩ = some (.int .i64 r_Status859) ∧ w850.cell? ⟨b13, 9, none⟩ = some (.int .i64 r_Code860) ∧
 K (.agg #[.int .i64 r_Ip851, .int .i64 r_Handler852, r_Stack853.val, r_Back854.val, r_Mem855.val, .string r_Out856, .string r_In857, .int .i64 r_Read858, .int .i64 r_Status859, .int .i64 r_Code860]) w850)
 (wrOk w826 ⟨b59, 2, none⟩ 1 ∧ ∀ w861 : World, w861 = stW w826 ⟨b59, 2, none⟩ 0 [s408.val] →
 ∃ s862 : Sl, w861.cell? ⟨b59, 3, none⟩ = some (s862.val) ∧
 ∃ n863 : Int, w861.cell? ⟨b59, 0, none⟩ = some (.int .i64 n863) ∧
 ∀ (b864 : Nat) (w865 : World), b864 = w861.heap.size → w865 = World.alloc w861 (.cells #[.int .i64 n863] T_int) →
 ∃ s866 : Sl, ∃ w867 : World, (Builtin.append_ #[T_sl_int, T_sl_int] T_sl_int #[s862.val, .slice (some ⟨b864, 0, none⟩) 1 1]).run Tryz.prog w865 = .ok (s866.val) w867 ∧
 wrOk w867 ⟨b59, 3, none⟩ 1 ∧ ∀ w868 : World, w868 = stW w867 ⟨b59, 3, none⟩ 0 [s866.val] →
 wrOk w868 ⟨b59, 0, none⟩ 1 ∧ ∀ w869 : World, w869 = stW w868 ⟨b59, 0, none⟩ 0 [.int .i64 p413] →
 J62  w869)) ∧
 brB (decide (p413 < (64 : Int)))
 (J135 true w764)
 (∃ s825 : Sl, w764.cell? ⟨b59, 4, none⟩ = some (s825.val) ∧
 J135 (decide (p413 ≥ (s825.len : Int))) w764))
 (brB (n103 == (45 : Int))
 (wrOk w764 ⟨b59, 2, none⟩ 1 ∧ ∀ w870 : World, w870 = stW w764 ⟨b59, 2, none⟩ 0 [s408.val] →
 brB (p413 != (0 : Int))
 (∃ n871 : Int, w870.cell? ⟨b11, 0, none⟩ = some (.int .i64 n871) ∧
 wrOk w870 ⟨b59, 0, none⟩ 1 ∧ ∀ w872 : World, w872 = stW w870 ⟨b59, 0, none⟩ 0 [.int .i64 n871] →
 ∃ n_Ip873 : Int, ∃ n_Handler874 : Int, ∃ s_Stack875 : Sl, ∃ s_Back876 : Sl, ∃ s_Mem877 : Sl, ∃ t_Out878 : ByteArray, ∃ t_In879 : ByteArray, ∃ n_Read880 : Int, ∃ n_Status881 : Int, ∃ n_Code882 : Int, w872.cell? ⟨b59, 0, none⟩ = some (.int .i64 n_Ip873) ∧ w872.cell? ⟨b59, 1, none⟩ = some (.int .i64 n_Handler874) ∧ w872.cell? ⟨b59, 2, none⟩ = some (s_Stack875.val) ∧ w872.cell? ⟨b59, 3, none⟩ = some (s_Back876.val) ∧ w872.cell? ⟨b59, 4, none⟩ = some (s_Mem877.val) ∧ w872.cell? ⟨b59, 5, none⟩ = some (.string t_Out878) ∧ w872.cell? ⟨b59, 6, none⟩ = some (.string t_In879) ∧ w872.cell? ⟨b59, 7, none⟩ = some (.int .i64 n_Read880) ∧ w872.cell? ⟨b59, 8, none⟩ = some (.int .i64 n_Status881) ∧ w872.cell? ⟨b59, 9, none⟩ = some (.int .i64 n_Code882) ∧
 Calls Tryz.prog fn_hollowayref9_Fault #[.agg #[.int .i64 n_Ip873, .int .i64 n_Handler874, s_Stack875.val, s_Back876.val, s_Mem877.val, .string t_Out878, .string t_In879, .int .i64 n_Read880, .int .i64 n_Status881, .int .i64 n_Code882], .int .i64 p413] w872 fun e883 w884 => ∃ n_Ip885 : Int, ∃ n_Handler886 : Int, ∃ s_Stack887 : Sl, ∃ s_Back888 : Sl, ∃ s_Mem889 : Sl, ∃ t_Out890 : ByteArray, ∃ t_In891 : ByteArray, ∃ n_Read892 : Int, ∃ n_Status893 : Int, ∃ n_Code894 : Int, e883 = .returned (.agg #[.int .i64 n_Ip885, .int .i64 n_Handler886, s_Stack887.val, s_Back888.val, s_Mem889.val, .string t_Out890, .string t_In891, .int .i64 n_Read892, .int .i64 n_Status893, .int .i64 n_Code894]) ∧
 wrOk w884 ⟨b13, 0, none⟩ 10 ∧ ∀ w895 : World, w895 = stW w884 ⟨b13, 0, none⟩ 0 [.int .i64 n_Ip885, .int .i64 n_Handler886, s_Stack887.val, s_Back888.val, s_Mem889.val, .string t_Out890, .string t_In891, .int .i64 n_Read892, .int .i64 n_Status893, .int .i64 n_Code894] →
 ∃ r_Ip896 : Int, ∃ r_Handler897 : Int, ∃ r_Stack898 : Sl, ∃ r_Back899 : Sl, ∃ r_Mem900 : Sl, ∃ r_Out901 : ByteArray, ∃ r_In902 : ByteArray, ∃ r_Read903 : Int, ∃ r_Status904 : Int, ∃ r_Code905 : Int, w895.cell? ⟨b13, 0, none⟩ = some (.int .i64 r_Ip896) ∧ w895.cell? ⟨b13, 1, none⟩ = some (.int .i64 r_Handler897) ∧ w895.cell? ⟨b13, 2, none⟩ = some (r_Stack898.val) ∧ w895.cell? ⟨b13, 3, none⟩ = some (r_Back899.val) ∧ w895.cell? ⟨b13, 4, none⟩ = some (r_Mem900.val) ∧ w895.cell? ⟨b13, 5, none⟩ = some (.string r_Out901) ∧ w895.cell? ⟨b13, 6, none⟩ = some (.string r_In902) ∧ w895.cell? ⟨b13, 7, none⟩ = some (.int .i64 r_Read903) ∧ w895.cell? ⟨b13, 8, none⟩ = some (.int .i64 r_Status904) ∧ w895.cell? ⟨b13, 9, none⟩ = some (.int .i64 r_Code905) ∧
 K (.agg #[.int .i64 r_Ip896, .int .i64 r_Handler897, r_Stack898.val, r_Back899.val, r_Mem900.val, .string r_Out901, .string r_In902, .int .i64 r_Read903, .int .i64 r_Status904, .int .i64 r_Code905]) w895)
 (J62  w870))
 (brB (n103 == (46 : Int))
 (wrOk w764 ⟨b59, 2, none⟩ 1 ∧ ∀ w906 : World, w906 = stW w764 ⟨b59, 2, none⟩ 0 [s408.val] →
 ∃ s907 : Sl, w906.cell? ⟨b59, 3, none⟩ = some (s907.val) ∧
 ∃ n908 : Int, w906.cell? ⟨b59, 0, none⟩ = some (.int .i64 n908) ∧
 ∃ n909 : Int, w906.cell? ⟨b59, 1, none⟩ = some (.int .i64 n909) ∧
 ∀ (b910 : Nat) (w911 : World), b910 = w906.heap.size → w911 = World.alloc w906 (.cells #[.int .i64 n908, .int .i64 n909, .int .i64 (s408.len : Int)] T_int) →
 ∃ s912 : Sl, ∃ w913 : World, (Builtin.append_ #[T_sl_int, T_sl_int] T_sl_int #[s907.val, .slice (some ⟨b910, 0, none⟩) 3 3]).run Tryz.prog w911 = .ok (s912.val) w913 ∧
 wrOk w913 ⟨b59, 3, none⟩ 1 ∧ ∀ w914 : World, w914 = stW w913 ⟨b59, 3, none⟩ 0 [s912.val] →
 ∃ s915 : Sl, w914.cell? ⟨b59, 3, none⟩ = some (s915.val) ∧
 wrOk w914 ⟨b59, 1, none⟩ 1 ∧ ∀ w916 : World, w916 = stW w914 ⟨b59, 1, none⟩ 0 [.int .i64 (s915.len : Int)] →
 ∃ s917 : Sl, w916.cell? ⟨b59, 3, none⟩ = some (s917.val) ∧
 ∀ (b918 : Nat) (w919 : World), b918 = w916.heap.size → w919 = World.alloc w916 (.cells #[.int .i64 (1 : Int)] T_int) →
 ∃ s920 : Sl, ∃ w921 : World, (Builtin.append_ #[T_sl_int, T_sl_int] T_sl_int #[s917.val, .slice (some ⟨b918, 0, none⟩) 1 1]).run Tryz.prog w919 = .ok (s920.val) w921 ∧
 wrOk w921 ⟨b59, 3, none⟩ 1 ∧ ∀ w922 : World, w922 = stW w921 ⟨b59, 3, none⟩ 0 [s920.val] →
 wrOk w922 ⟨b59, 0, none⟩ 1 ∧ ∀ w923 : World, w923 = stW w922 ⟨b59, 0, none⟩ 0 [.int .i64 p413] →
 J62  w923)
 (J62  w764)))))) ∧
 brB (n103 == (41 : Int))
 (J119 (n103 == (41 : Int)) w729)
 (J119 (n103 == (42 : Int)) w729))))) ∧
 brB (n103 == (37 : Int))
 (J105 (n103 == (37 : Int)) w639)
 (J105 (n103 == (38 : Int)) w639))))))) ∧
 brB (n103 == (30 : Int))
 (J88 (n103 == (30 : Int)) w478)
 (brB (n103 == (31 : Int))
 (J88 (n103 == (31 : Int)) w478)
 (J88 (n103 == (32 : Int)) w478)))))))))))))))) ∧
 Calls Tryz.prog fn_hollowayref1_Arg #[.int .i64 n103] w400 fun e401 w402 => ∃ b403 : Bool, e401 = .returned (.bool b403) ∧
 brB b403
 (∃ n404 : Int, w402.cell? ⟨b59, 0, none⟩ = some (.int .i64 n404) ∧
 wrOk w402 ⟨b59, 0, none⟩ 1 ∧ ∀ w405 : World, w405 = stW w402 ⟨b59, 0, none⟩ 0 [.int .i64 (wr (n404 + (1 : Int)))] →
 J46  w405)
 (J46  w402)) ∧
 brB (decide ((s253.len : Int) > (2 : Int)))
 (∃ s395 : Sl, w394.cell? ⟨b59, 2, none⟩ = some (s395.val) ∧
 ∃ a396 : Addr, s395.ptr = some a396 ∧ 0 ≤ (wr ((s253.len : Int) - (3 : Int))) ∧ (wr ((s253.len : Int) - (3 : Int))) < (s395.len : Int) ∧
 ∃ n397 : Int, w394.cell? (Addr.add a396 (Int.toNat (wr ((s253.len : Int) - (3 : Int))) * 1)) = some (.int .i64 n397) ∧
 J43 n397 w394)
 (J43 (0 : Int) w394)) ∧
 brB (decide ((s253.len : Int) > (1 : Int)))
 (∃ s391 : Sl, w390.cell? ⟨b59, 2, none⟩ = some (s391.val) ∧
 ∃ a392 : Addr, s391.ptr = some a392 ∧ 0 ≤ (wr ((s253.len : Int) - (2 : Int))) ∧ (wr ((s253.len : Int) - (2 : Int))) < (s391.len : Int) ∧
 ∃ n393 : Int, w390.cell? (Addr.add a392 (Int.toNat (wr ((s253.len : Int) - (2 : Int))) * 1)) = some (.int .i64 n393) ∧
 J41 n393 w390)
 (J41 (0 : Int) w390)) ∧
 brB (decide ((s253.len : Int) > (0 : Int)))
 (∃ s387 : Sl, w252.cell? ⟨b59, 2, none⟩ = some (s387.val) ∧
 ∃ a388 : Addr, s387.ptr = some a388 ∧ 0 ≤ (wr ((s253.len : Int) - (1 : Int))) ∧ (wr ((s253.len : Int) - (1 : Int))) < (s387.len : Int) ∧
 ∃ n389 : Int, w252.cell? (Addr.add a388 (Int.toNat (wr ((s253.len : Int) - (1 : Int))) * 1)) = some (.int .i64 n389) ∧
 J39 n389 w252)
 (J39 (0 : Int) w252)))))) ∧
 Calls Tryz.prog fn_hollowayref1_Arg #[.int .i64 n103] w168 fun e203 w204 => ∃ b205 : Bool, e203 = .returned (.bool b205) ∧
 brB b205
 (∃ n206 : Int, w204.cell? ⟨b59, 0, none⟩ = some (.int .i64 n206) ∧
 ∃ s207 : Sl, w204.cell? ⟨b59, 4, none⟩ = some (s207.val) ∧
 brB (decide ((wr (n206 + (1 : Int))) ≥ (s207.len : Int)))
 (∃ n_Ip208 : Int, ∃ n_Handler209 : Int, ∃ s_Stack210 : Sl, ∃ s_Back211 : Sl, ∃ s_Mem212 : Sl, ∃ t_Out213 : ByteArray, ∃ t_In214 : ByteArray, ∃ n_Read215 : Int, ∃ n_Status216 : Int, ∃ n_Code217 : Int, w204.cell? ⟨b11, 0, none⟩ = some (.int .i64 n_Ip208) ∧ w204.cell? ⟨b11, 1, none⟩ = some (.int .i64 n_Handler209) ∧ w204.cell? ⟨b11, 2, none⟩ = some (s_Stack210.val) ∧ w204.cell? ⟨b11, 3, none⟩ = some (s_Back211.val) ∧ w204.cell? ⟨b11, 4, none⟩ = some (s_Mem212.val) ∧ w204.cell? ⟨b11, 5, none⟩ = some (.string t_Out213) ∧ w204.cell? ⟨b11, 6, none⟩ = some (.string t_In214) ∧ w204.cell? ⟨b11, 7, none⟩ = some (.int .i64 n_Read215) ∧ w204.cell? ⟨b11, 8, none⟩ = some (.int .i64 n_Status216) ∧ w204.cell? ⟨b11, 9, none⟩ = some (.int .i64 n_Code217) ∧
 Calls Tryz.prog fn_hollowayref9_Fault #[.agg #[.int .i64 n_Ip208, .int .i64 n_Handler209, s_Stack210.val, s_Back211.val, s_Mem212.val, .string t_Out213, .string t_In214, .int .i64 n_Read215, .int .i64 n_Status216, .int .i64 n_Code217], .int .i64 (-9 : Int)] w204 fun e218 w219 => ∃ n_Ip220 : Int, ∃ n_Handler221 : Int, ∃ s_Stack222 : Sl, ∃ s_Back223 : Sl, ∃ s_Mem224 : Sl, ∃ t_Out225 : ByteArray, ∃ t_In226 : ByteArray, ∃ n_Read227 : Int, ∃ n_Status228 : Int, ∃ n_Code229 : Int, e218 = .returned (.agg #[.int .i64 n_Ip220, .int .i64 n_Handler221, s_Stack222.val, s_Back223.val, s_Mem224.val, .string t_Out225, .string t_In226, .int .i64 n_Read227, .int .i64 n_Status228, .int .i64 n_Code229]) ∧
 wrOk w219 ⟨b13, 0, none⟩ 10 ∧ ∀ w230 : World, w230 = stW w219 ⟨b13, 0, none⟩ 0 [.int .i64 n_Ip220, .int .i64 n_Handler221, s_Stack222.val, s_Back223.val, s_Mem224.val, .string t_Out225, .string t_In226, .int .i64 n_Read227, .int .i64 n_Status228, .int .i64 n_Code229] →
 ∃ r_Ip231 : Int, ∃ r_Handler232 : Int, ∃ r_Stack233 : Sl, ∃ r_Back234 : Sl, ∃ r_Mem235 : Sl, ∃ r_Out236 : ByteArray, ∃ r_In237 : ByteArray, ∃ r_Read238 : Int, ∃ r_Status239 : Int, ∃ r_Code240 : Int, w230.cell? ⟨b13, 0, none⟩ = some (.int .i64 r_Ip231) ∧ w230.cell? ⟨b13, 1, none⟩ = some (.int .i64 r_Handler232) ∧ w230.cell? ⟨b13, 2, none⟩ = some (r_Stack233.val) ∧ w230.cell? ⟨b13, 3, none⟩ = some (r_Back234.val) ∧ w230.cell? ⟨b13, 4, none⟩ = some (r_Mem235.val) ∧ w230.cell? ⟨b13, 5, none⟩ = some (.string r_Out236) ∧ w230.cell? ⟨b13, 6, none⟩ = some (.string r_In237) ∧ w230.cell? ⟨b13, 7, none⟩ = some (.int .i64 r_Read238) ∧ w230.cell? ⟨b13, 8, none⟩ = some (.int .i64 r_Status239) ∧ w230.cell? ⟨b13, 9, none⟩ = some (.int .i64 r_Code240) ∧
 K (.agg #[.int .i64 r_Ip231, .int .i64 r_Handler232, r_Stack233.val, r_Back234.val, r_Mem235.val, .string r_Out236, .string r_In237, .int .i64 r_Read238, .int .i64 r_Status239, .int .i64 r_Code240]) w230)
 (∃ s241 : Sl, w204.cell? ⟨b59, 4, none⟩ = some (s241.val) ∧
 ∃ n242 : Int, w204.cell? ⟨b59, 0, none⟩ = some (.int .i64 n242) ∧
 ∃ a243 : Addr, s241.ptr = some a243 ∧ 0 ≤ (wr (n242 + (1 : Int))) ∧ (wr (n242 + (1 : Int))) < (s241.len : Int) ∧
 ∃ n244 : Int, w204.cell? (Addr.add a243 (Int.toNat (wr (n242 + (1 : Int))) * 1)) = some (.int .i64 n244) ∧
 J22 n244 w204))
 (J22 (0 : Int) w204))))) ∧
 ∃ n62 : Int, w61.cell? ⟨b59, 0, none⟩ = some (.int .i64 n62) ∧
 brB (decide (n62 < (0 : Int)))
 (J7 true w61)
 (∃ n63 : Int, w61.cell? ⟨b59, 0, none⟩ = some (.int .i64 n63) ∧
 ∃ s64 : Sl, w61.cell? ⟨b59, 4, none⟩ = some (s64.val) ∧
 J7 (decide (n63 ≥ (s64.len : Int))) w61))
def hollowayref9_Step_an : An := ⟨[], [(21, (8, .st 0 (.st 1 (.st 2 (.st 3 (.st 4 (.st 5 (.st 6 (.st 7 .done))))))), 0)), (61, (14, .st 0 (.st 1 (.st 2 (.st 3 (.st 4 (.st 5 (.st 6 (.st 7 (.st 8 (.st 9 (.st 10 (.st 11 (.st 12 (.ef 13 .done))))))))))))), 1)), (92, (11, .st 0 (.st 1 (.st 2 (.st 3 (.st 4 (.st 5 (.st 6 (.st 7 (.st 8 (.st 9 (.st 10 .done)))))))))), 0)), (114, (14, .st 0 (.st 1 (.st 2 (.st 3 (.st 4 (.st 5 (.st 6 (.st 7 (.st 8 (.st 9 (.st 10 (.st 11 (.st 12 (.st 13 .done))))))))))))), 0))], [(5, [(43, .bool)]), (58, [(228, .bool)]), (89, [(344, .bool)]), (118, [(24, .bool)]), (114, [(21, .int .i64)]), (131, [(25, .str)]), (140, [(26, .int .i64)]), (143, [(561, .bool)]), (128, [(499, .bool)]), (110, [(430, .bool)]), (88, [(332, .bool)]), (158, []), (40, []), (37, [(14, .int .i64)]), (35, [(13, .int .i64)]), (33, [(12, .int .i64)]), (20, [(5, .int .i64)])]⟩
theorem hollowayref9_Step_lift {was_Ip1 : Int} {was_Handler2 : Int} {was_Stack3 : Sl} {was_Back4 : Sl} {was_Mem5 : Sl} {was_Out6 : ByteArray} {was_In7 : ByteArray} {was_Read8 : Int} {was_Status9 : Int} {was_Code10 : Int} {w : World} {K : Value → World → Prop} (h : hollowayref9_Step_sh was_Ip1 was_Handler2 was_Stack3 was_Back4 was_Mem5 was_Out6 was_In7 was_Read8 was_Status9 was_Code10 w K) : Calls Tryz.prog fn_hollowayref9_Step #[.agg #[.int .i64 was_Ip1, .int .i64 was_Handler2, was_Stack3.val, was_Back4.val, was_Mem5.val, .string was_Out6, .string was_In7, .int .i64 was_Read8, .int .i64 was_Status9, .int .i64 was_Code10]] w fun e w' => ∃ v, e = .returned v ∧ K v w' :=
   lift_calls (A := hollowayref9_Step_an) (c := bodyOf Tryz.f25) (args := [.agg #[.int .i64 was_Ip1, .int .i64 was_Handler2, was_Stack3.val, was_Back4.val, was_Mem5.val, .string was_Out6, .string was_In7, .int .i64 was_Read8, .int .i64 was_Status9, .int .i64 was_Code10]]) orc orc_wide Tryz.func25 (by kernel_rfl) (by kernel_rfl) (Eq.mp (by kernel_rfl : hollowayref9_Step_sh was_Ip1 was_Handler2 was_Stack3 was_Back4 was_Mem5 was_Out6 was_In7 was_Read8 was_Status9 was_Code10 w K = wpc orc Tryz.f25.ntmps hollowayref9_Step_an (bodyOf Tryz.f25) (argl 0 [.agg #[.int .i64 was_Ip1, .int .i64 was_Handler2, was_Stack3.val, was_Back4.val, was_Mem5.val, .string was_Out6, .string was_In7, .int .i64 was_Read8, .int .i64 was_Status9, .int .i64 was_Code10]]) w (retQ orc Tryz.f25.results.toList K)) h)

-- holloway/hollowayref9.Run
def hollowayref9_Run_j1 (b12 : Nat) (I1 : Int → World → Prop) (fuel18 : Int) (μ1 : Int → World → Nat) (w16 : World) (b14 : Nat) (b22 : Bool) (w21 : World) (K : Value → World → Prop) : Prop :=
 brB b22
 (∃ n_Ip23 : Int, ∃ n_Handler24 : Int, ∃ s_Stack25 : Sl, ∃ s_Back26 : Sl, ∃ s_Mem27 : Sl, ∃ t_Out28 : ByteArray, ∃ t_In29 : ByteArray, ∃ n_Read30 : Int, ∃ n_Status31 : Int, ∃ n_Code32 : Int, w21.cell? ⟨b12, 0, none⟩ = some (.int .i64 n_Ip23) ∧ w21.cell? ⟨b12, 1, none⟩ = some (.int .i64 n_Handler24) ∧ w21.cell? ⟨b12, 2, none⟩ = some (s_Stack25.val) ∧ w21.cell? ⟨b12, 3, none⟩ = some (s_Back26.val) ∧ w21.cell? ⟨b12, 4, none⟩ = some (s_Mem27.val) ∧ w21.cell? ⟨b12, 5, none⟩ = some (.string t_Out28) ∧ w21.cell? ⟨b12, 6, none⟩ = some (.string t_In29) ∧ w21.cell? ⟨b12, 7, none⟩ = some (.int .i64 n_Read30) ∧ w21.cell? ⟨b12, 8, none⟩ = some (.int .i64 n_Status31) ∧ w21.cell? ⟨b12, 9, none⟩ = some (.int .i64 n_Code32) ∧
 Calls Tryz.prog fn_hollowayref9_Step #[.agg #[.int .i64 n_Ip23, .int .i64 n_Handler24, s_Stack25.val, s_Back26.val, s_Mem27.val, .string t_Out28, .string t_In29, .int .i64 n_Read30, .int .i64 n_Status31, .int .i64 n_Code32]] w21 fun e33 w34 => ∃ n_Ip35 : Int, ∃ n_Handler36 : Int, ∃ s_Stack37 : Sl, ∃ s_Back38 : Sl, ∃ s_Mem39 : Sl, ∃ t_Out40 : ByteArray, ∃ t_In41 : ByteArray, ∃ n_Read42 : Int, ∃ n_Status43 : Int, ∃ n_Code44 : Int, e33 = .returned (.agg #[.int .i64 n_Ip35, .int .i64 n_Handler36, s_Stack37.val, s_Back38.val, s_Mem39.val, .string t_Out40, .string t_In41, .int .i64 n_Read42, .int .i64 n_Status43, .int .i64 n_Code44]) ∧
 wrOk w34 ⟨b12, 0, none⟩ 10 ∧ ∀ w45 : World, w45 = stW w34 ⟨b12, 0, none⟩ 0 [.int .i64 n_Ip35, .int .i64 n_Handler36, s_Stack37.val, s_Back38.val, s_Mem39.val, .string t_Out40, .string t_In41, .int .i64 n_Read42, .int .i64 n_Status43, .int .i64 n_Code44] →
 I1 (wr (fuel18 - (1 : Int))) w45 ∧ μ1 (wr (fuel18 - (1 : Int))) w45 < μ1 fuel18 w16)
 (∃ n_Ip46 : Int, ∃ n_Handler47 : Int, ∃ s_Stack48 : Sl, ∃ s_Back49 : Sl, ∃ s_Mem50 : Sl, ∃ t_Out51 : ByteArray, ∃ t_In52 : ByteArray, ∃ n_Read53 : Int, ∃ n_Status54 : Int, ∃ n_Code55 : Int, w21.cell? ⟨b12, 0, none⟩ = some (.int .i64 n_Ip46) ∧ w21.cell? ⟨b12, 1, none⟩ = some (.int .i64 n_Handler47) ∧ w21.cell? ⟨b12, 2, none⟩ = some (s_Stack48.val) ∧ w21.cell? ⟨b12, 3, none⟩ = some (s_Back49.val) ∧ w21.cell? ⟨b12, 4, none⟩ = some (s_Mem50.val) ∧ w21.cell? ⟨b12, 5, none⟩ = some (.string t_Out51) ∧ w21.cell? ⟨b12, 6, none⟩ = some (.string t_In52) ∧ w21.cell? ⟨b12, 7, none⟩ = some (.int .i64 n_Read53) ∧ w21.cell? ⟨b12, 8, none⟩ = some (.int .i64 n_Status54) ∧ w21.cell? ⟨b12, 9, none⟩ = some (.int .i64 n_Code55) ∧
 wrOk w21 ⟨b14, 0, none⟩ 10 ∧ ∀ w56 : World, w56 = stW w21 ⟨b14, 0, none⟩ 0 [.int .i64 n_Ip46, .int .i64 n_Handler47, s_Stack48.val, s_Back49.val, s_Mem50.val, .string t_Out51, .string t_In52, .int .i64 n_Read53, .int .i64 n_Status54, .int .i64 n_Code55] →
 ∃ r_Ip57 : Int, ∃ r_Handler58 : Int, ∃ r_Stack59 : Sl, ∃ r_Back60 : Sl, ∃ r_Mem61 : Sl, ∃ r_Out62 : ByteArray, ∃ r_In63 : ByteArray, ∃ r_Read64 : Int, ∃ r_Status65 : Int, ∃ r_Code66 : Int, w56.cell? ⟨b14, 0, none⟩ = some (.int .i64 r_Ip57) ∧ w56.cell? ⟨b14, 1, none⟩ = some (.int .i64 r_Handler58) ∧ w56.cell? ⟨b14, 2, none⟩ = some (r_Stack59.val) ∧ w56.cell? ⟨b14, 3, none⟩ = some (r_Back60.val) ∧ w56.cell? ⟨b14, 4, none⟩ = some (r_Mem61.val) ∧ w56.cell? ⟨b14, 5, none⟩ = some (.string r_Out62) ∧ w56.cell? ⟨b14, 6, none⟩ = some (.string r_In63) ∧ w56.cell? ⟨b14, 7, none⟩ = some (.int .i64 r_Read64) ∧ w56.cell? ⟨b14, 8, none⟩ = some (.int .i64 r_Status65) ∧ w56.cell? ⟨b14, 9, none⟩ = some (.int .i64 r_Code66) ∧
 K (.tuple #[.agg #[.int .i64 r_Ip57, .int .i64 r_Handler58, r_Stack59.val, r_Back60.val, r_Mem61.val, .string r_Out62, .string r_In63, .int .i64 r_Read64, .int .i64 r_Status65, .int .i64 r_Code66], .int .i64 fuel18]) w56)
def hollowayref9_Run_sh (s__Ip1 : Int) (s__Handler2 : Int) (s__Stack3 : Sl) (s__Back4 : Sl) (s__Mem5 : Sl) (s__Out6 : ByteArray) (s__In7 : ByteArray) (s__Read8 : Int) (s__Status9 : Int) (s__Code10 : Int) (fuel11 : Int) (w : World) (K : Value → World → Prop) : Prop :=
 ∀ (b12 : Nat) (w13 : World), b12 = w.heap.size → w13 = World.alloc w (.cells #[.int .i64 s__Ip1, .int .i64 s__Handler2, s__Stack3.val, s__Back4.val, s__Mem5.val, .string s__Out6, .string s__In7, .int .i64 s__Read8, .int .i64 s__Status9, .int .i64 s__Code10] T_api_State) →
 ∀ (b14 : Nat) (w15 : World), b14 = w13.heap.size → w15 = World.alloc w13 (.cells #[.int .i64 (0 : Int), .int .i64 (0 : Int), .slice none 0 0, .slice none 0 0, .slice none 0 0, .string (bs []), .string (bs []), .int .i64 (0 : Int), .int .i64 (0 : Int), .int .i64 (0 : Int)] T_api_State) →
 ∃ (I1 : Int → World → Prop) (μ1 : Int → World → Nat), I1 fuel11 w15 ∧ ∀ (fuel18 : Int) (w16 : World), I1 fuel18 w16 →
 ∃ n17 : Int, w16.cell? ⟨b12, 8, none⟩ = some (.int .i64 n17) ∧
 brB (n17 == (0 : Int))
 (hollowayref9_Run_j1 b12 I1 fuel18 (μ1) w16 b14 (decide (fuel18 > (0 : Int))) w16 K)
 (hollowayref9_Run_j1 b12 I1 fuel18 (μ1) w16 b14 false w16 K)
def hollowayref9_Run_an : An := ⟨[(1, [(1, .int .i64)])], [], []⟩
theorem hollowayref9_Run_lift {s__Ip1 : Int} {s__Handler2 : Int} {s__Stack3 : Sl} {s__Back4 : Sl} {s__Mem5 : Sl} {s__Out6 : ByteArray} {s__In7 : ByteArray} {s__Read8 : Int} {s__Status9 : Int} {s__Code10 : Int} {fuel11 : Int} {w : World} {K : Value → World → Prop} (h : hollowayref9_Run_sh s__Ip1 s__Handler2 s__Stack3 s__Back4 s__Mem5 s__Out6 s__In7 s__Read8 s__Status9 s__Code10 fuel11 w K) : Calls Tryz.prog fn_hollowayref9_Run #[.agg #[.int .i64 s__Ip1, .int .i64 s__Handler2, s__Stack3.val, s__Back4.val, s__Mem5.val, .string s__Out6, .string s__In7, .int .i64 s__Read8, .int .i64 s__Status9, .int .i64 s__Code10], .int .i64 fuel11] w fun e w' => ∃ v, e = .returned v ∧ K v w' :=
   lift_calls (A := hollowayref9_Run_an) (c := bodyOf Tryz.f27) (args := [.agg #[.int .i64 s__Ip1, .int .i64 s__Handler2, s__Stack3.val, s__Back4.val, s__Mem5.val, .string s__Out6, .string s__In7, .int .i64 s__Read8, .int .i64 s__Status9, .int .i64 s__Code10], .int .i64 fuel11]) orc orc_wide Tryz.func27 (by kernel_rfl) (by kernel_rfl) (Eq.mp (by kernel_rfl : hollowayref9_Run_sh s__Ip1 s__Handler2 s__Stack3 s__Back4 s__Mem5 s__Out6 s__In7 s__Read8 s__Status9 s__Code10 fuel11 w K = wpc orc Tryz.f27.ntmps hollowayref9_Run_an (bodyOf Tryz.f27) (argl 0 [.agg #[.int .i64 s__Ip1, .int .i64 s__Handler2, s__Stack3.val, s__Back4.val, s__Mem5.val, .string s__Out6, .string s__In7, .int .i64 s__Read8, .int .i64 s__Status9, .int .i64 s__Code10], .int .i64 fuel11]) w (retQ orc Tryz.f27.results.toList K)) h)

-- holloway/hollowayref9.Copy
def hollowayref9_Copy_sh (s__Ip1 : Int) (s__Handler2 : Int) (s__Stack3 : Sl) (s__Back4 : Sl) (s__Mem5 : Sl) (s__Out6 : ByteArray) (s__In7 : ByteArray) (s__Read8 : Int) (s__Status9 : Int) (s__Code10 : Int) (w : World) (K : Value → World → Prop) : Prop :=
 ∀ (b11 : Nat) (w12 : World), b11 = w.heap.size → w12 = World.alloc w (.cells #[.int .i64 s__Ip1, .int .i64 s__Handler2, s__Stack3.val, s__Back4.val, s__Mem5.val, .string s__Out6, .string s__In7, .int .i64 s__Read8, .int .i64 s__Status9, .int .i64 s__Code10] T_api_State) →
 ∀ (b13 : Nat) (w14 : World), b13 = w12.heap.size → w14 = World.alloc w12 (.cells #[.int .i64 (0 : Int), .int .i64 (0 : Int), .slice none 0 0, .slice none 0 0, .slice none 0 0, .string (bs []), .string (bs []), .int .i64 (0 : Int), .int .i64 (0 : Int), .int .i64 (0 : Int)] T_api_State) →
 ∃ s15 : Sl, w14.cell? ⟨b11, 2, none⟩ = some (s15.val) ∧
 ∃ s16 : Sl, ∃ w17 : World, (Builtin.append_ #[T_sl_int, T_sl_int] T_sl_int #[.slice none 0 0, s15.val]).run Tryz.prog w14 = .ok (s16.val) w17 ∧
 wrOk w17 ⟨b11, 2, none⟩ 1 ∧ ∀ w18 : World, w18 = stW w17 ⟨b11, 2, none⟩ 0 [s16.val] →
 ∃ s19 : Sl, w18.cell? ⟨b11, 3, none⟩ = some (s19.val) ∧
 ∃ s20 : Sl, ∃ w21 : World, (Builtin.append_ #[T_sl_int, T_sl_int] T_sl_int #[.slice none 0 0, s19.val]).run Tryz.prog w18 = .ok (s20.val) w21 ∧
 wrOk w21 ⟨b11, 3, none⟩ 1 ∧ ∀ w22 : World, w22 = stW w21 ⟨b11, 3, none⟩ 0 [s20.val] →
 ∃ s23 : Sl, w22.cell? ⟨b11, 4, none⟩ = some (s23.val) ∧
 ∃ s24 : Sl, ∃ w25 : World, (Builtin.append_ #[T_sl_int, T_sl_int] T_sl_int #[.slice none 0 0, s23.val]).run Tryz.prog w22 = .ok (s24.val) w25 ∧
 wrOk w25 ⟨b11, 4, none⟩ 1 ∧ ∀ w26 : World, w26 = stW w25 ⟨b11, 4, none⟩ 0 [s24.val] →
 ∃ n_Ip27 : Int, ∃ n_Handler28 : Int, ∃ s_Stack29 : Sl, ∃ s_Back30 : Sl, ∃ s_Mem31 : Sl, ∃ t_Out32 : ByteArray, ∃ t_In33 : ByteArray, ∃ n_Read34 : Int, ∃ n_Status35 : Int, ∃ n_Code36 : Int, w26.cell? ⟨b11, 0, none⟩ = some (.int .i64 n_Ip27) ∧ w26.cell? ⟨b11, 1, none⟩ = some (.int .i64 n_Handler28) ∧ w26.cell? ⟨b11, 2, none⟩ = some (s_Stack29.val) ∧ w26.cell? ⟨b11, 3, none⟩ = some (s_Back30.val) ∧ w26.cell? ⟨b11, 4, none⟩ = some (s_Mem31.val) ∧ w26.cell? ⟨b11, 5, none⟩ = some (.string t_Out32) ∧ w26.cell? ⟨b11, 6, none⟩ = some (.string t_In33) ∧ w26.cell? ⟨b11, 7, none⟩ = some (.int .i64 n_Read34) ∧ w26.cell? ⟨b11, 8, none⟩ = some (.int .i64 n_Status35) ∧ w26.cell? ⟨b11, 9, none⟩ = some (.int .i64 n_Code36) ∧
 wrOk w26 ⟨b13, 0, none⟩ 10 ∧ ∀ w37 : World, w37 = stW w26 ⟨b13, 0, none⟩ 0 [.int .i64 n_Ip27, .int .i64 n_Handler28, s_Stack29.val, s_Back30.val, s_Mem31.val, .string t_Out32, .string t_In33, .int .i64 n_Read34, .int .i64 n_Status35, .int .i64 n_Code36] →
 ∃ r_Ip38 : Int, ∃ r_Handler39 : Int, ∃ r_Stack40 : Sl, ∃ r_Back41 : Sl, ∃ r_Mem42 : Sl, ∃ r_Out43 : ByteArray, ∃ r_In44 : ByteArray, ∃ r_Read45 : Int, ∃ r_Status46 : Int, ∃ r_Code47 : Int, w37.cell? ⟨b13, 0, none⟩ = some (.int .i64 r_Ip38) ∧ w37.cell? ⟨b13, 1, none⟩ = some (.int .i64 r_Handler39) ∧ w37.cell? ⟨b13, 2, none⟩ = some (r_Stack40.val) ∧ w37.cell? ⟨b13, 3, none⟩ = some (r_Back41.val) ∧ w37.cell? ⟨b13, 4, none⟩ = some (r_Mem42.val) ∧ w37.cell? ⟨b13, 5, none⟩ = some (.string r_Out43) ∧ w37.cell? ⟨b13, 6, none⟩ = some (.string r_In44) ∧ w37.cell? ⟨b13, 7, none⟩ = some (.int .i64 r_Read45) ∧ w37.cell? ⟨b13, 8, none⟩ = some (.int .i64 r_Status46) ∧ w37.cell? ⟨b13, 9, none⟩ = some (.int .i64 r_Code47) ∧
 K (.agg #[.int .i64 r_Ip38, .int .i64 r_Handler39, r_Stack40.val, r_Back41.val, r_Mem42.val, .string r_Out43, .string r_In44, .int .i64 r_Read45, .int .i64 r_Status46, .int .i64 r_Code47]) w37
def hollowayref9_Copy_an : An := ⟨[], [], []⟩
theorem hollowayref9_Copy_lift {s__Ip1 : Int} {s__Handler2 : Int} {s__Stack3 : Sl} {s__Back4 : Sl} {s__Mem5 : Sl} {s__Out6 : ByteArray} {s__In7 : ByteArray} {s__Read8 : Int} {s__Status9 : Int} {s__Code10 : Int} {w : World} {K : Value → World → Prop} (h : hollowayref9_Copy_sh s__Ip1 s__Handler2 s__Stack3 s__Back4 s__Mem5 s__Out6 s__In7 s__Read8 s__Status9 s__Code10 w K) : Calls Tryz.prog fn_hollowayref9_Copy #[.agg #[.int .i64 s__Ip1, .int .i64 s__Handler2, s__Stack3.val, s__Back4.val, s__Mem5.val, .string s__Out6, .string s__In7, .int .i64 s__Read8, .int .i64 s__Status9, .int .i64 s__Code10]] w fun e w' => ∃ v, e = .returned v ∧ K v w' :=
   lift_calls (A := hollowayref9_Copy_an) (c := bodyOf Tryz.f31) (args := [.agg #[.int .i64 s__Ip1, .int .i64 s__Handler2, s__Stack3.val, s__Back4.val, s__Mem5.val, .string s__Out6, .string s__In7, .int .i64 s__Read8, .int .i64 s__Status9, .int .i64 s__Code10]]) orc orc_wide Tryz.func31 (by kernel_rfl) (by kernel_rfl) (Eq.mp (by kernel_rfl : hollowayref9_Copy_sh s__Ip1 s__Handler2 s__Stack3 s__Back4 s__Mem5 s__Out6 s__In7 s__Read8 s__Status9 s__Code10 w K = wpc orc Tryz.f31.ntmps hollowayref9_Copy_an (bodyOf Tryz.f31) (argl 0 [.agg #[.int .i64 s__Ip1, .int .i64 s__Handler2, s__Stack3.val, s__Back4.val, s__Mem5.val, .string s__Out6, .string s__In7, .int .i64 s__Read8, .int .i64 s__Status9, .int .i64 s__Code10]]) w (retQ orc Tryz.f31.results.toList K)) h)

-- holloway/hollowayref9.Record
-- holloway/hollowayref9.Cells
-- holloway/hollowayref9.faults
end Go.Proofs.YtkjpmkopnkkbmaaGreatDoor

/- Functions of Hollowaylaw9, read without their frames; that each is enough. Printed by a program of mine (wip/lift/gen.py). -/
set_option maxRecDepth 100000
namespace Go.Proofs.YtkjpmkopnkkbmaaGreatDoor
open Go.RowKit

-- holloway/hollowaylaw9.InnerBegins
-- holloway/hollowaylaw9.InnerSteps
def hollowaylaw9_InnerSteps_sh (s__Ip1 : Int) (s__Handler2 : Int) (s__Stack3 : Sl) (s__Back4 : Sl) (s__Mem5 : Sl) (s__Out6 : ByteArray) (s__In7 : ByteArray) (s__Read8 : Int) (s__Status9 : Int) (s__Code10 : Int) (n_11 : Int) (fuel12 : Int) (w : World) (K : Value → World → Prop) : Prop :=
 ∀ (b13 : Nat) (w14 : World), b13 = w.heap.size → w14 = World.alloc w (.cells #[.int .i64 s__Ip1, .int .i64 s__Handler2, s__Stack3.val, s__Back4.val, s__Mem5.val, .string s__Out6, .string s__In7, .int .i64 s__Read8, .int .i64 s__Status9, .int .i64 s__Code10] T_api_State) →
 ∃ J3 : Bool → World → Prop, (∀ (b32 : Bool) (w31 : World), J3 b32 w31 →
 brB b32
 (Calls Tryz.prog fn_hollowaylaw9_alive #[] w31 fun e33 w34 => ∃ b35 : Bool, e33 = .returned (.bool b35) ∧
 K (.bool b35) w34)
 (∀ (b36 : Nat) (w37 : World), b36 = w31.heap.size → w37 = World.alloc w31 (.cells #[.slice none 0 0, .slice none 0 0, .slice none 0 0, .slice none 0 0, .slice none 0 0, .slice none 0 0, .slice none 0 0, .slice none 0 0, .slice none 0 0, .slice none 0 0, .slice none 0 0, .slice none 0 0] T_hollowaybook_Book) →
 ∀ w38 : World, w38 = World.drew w37 →
 ∃ S39 : World → Prop, S39 w38 ∧
 ∃ n_Ip40 : Int, ∃ n_Handler41 : Int, ∃ s_Stack42 : Sl, ∃ s_Back43 : Sl, ∃ s_Mem44 : Sl, ∃ t_Out45 : ByteArray, ∃ t_In46 : ByteArray, ∃ n_Read47 : Int, ∃ n_Status48 : Int, ∃ n_Code49 : Int, held S39 ⟨b13, 0, none⟩ (.int .i64 n_Ip40) ∧ held S39 ⟨b13, 1, none⟩ (.int .i64 n_Handler41) ∧ held S39 ⟨b13, 2, none⟩ (s_Stack42.val) ∧ held S39 ⟨b13, 3, none⟩ (s_Back43.val) ∧ held S39 ⟨b13, 4, none⟩ (s_Mem44.val) ∧ held S39 ⟨b13, 5, none⟩ (.string t_Out45) ∧ held S39 ⟨b13, 6, none⟩ (.string t_In46) ∧ held S39 ⟨b13, 7, none⟩ (.int .i64 n_Read47) ∧ held S39 ⟨b13, 8, none⟩ (.int .i64 n_Status48) ∧ held S39 ⟨b13, 9, none⟩ (.int .i64 n_Code49) ∧
 ∃ n_Ip50 : Int, ∃ n_Handler51 : Int, ∃ s_Stack52 : Sl, ∃ s_Back53 : Sl, ∃ s_Mem54 : Sl, ∃ t_Out55 : ByteArray, ∃ t_In56 : ByteArray, ∃ n_Read57 : Int, ∃ n_Status58 : Int, ∃ n_Code59 : Int, held S39 ⟨b13, 0, none⟩ (.int .i64 n_Ip50) ∧ held S39 ⟨b13, 1, none⟩ (.int .i64 n_Handler51) ∧ held S39 ⟨b13, 2, none⟩ (s_Stack52.val) ∧ held S39 ⟨b13, 3, none⟩ (s_Back53.val) ∧ held S39 ⟨b13, 4, none⟩ (s_Mem54.val) ∧ held S39 ⟨b13, 5, none⟩ (.string t_Out55) ∧ held S39 ⟨b13, 6, none⟩ (.string t_In56) ∧ held S39 ⟨b13, 7, none⟩ (.int .i64 n_Read57) ∧ held S39 ⟨b13, 8, none⟩ (.int .i64 n_Status58) ∧ held S39 ⟨b13, 9, none⟩ (.int .i64 n_Code59) ∧
 ∃ Z60 : List (Nat × List Value) → World → Prop, Z60 [] w38 ∧
 (∀ lg61 : List (Nat × List Value), ∀ w62 : World, S39 w62 → Z60 lg61 w62 →
 ∀ (b63 : Nat) (w64 : World), b63 = w62.heap.size → w64 = World.alloc w62 (.cells #[.int .i64 (0 : Int), .int .i64 (0 : Int), .slice none 0 0, .slice none 0 0, .slice none 0 0, .string (bs []), .string (bs []), .int .i64 (0 : Int), .int .i64 (0 : Int), .int .i64 (0 : Int)] T_api_State) →
 S39 w64 ∧ True ∧ Z60 (lg61 ++ [(2, ([.pointer (some ⟨b63, 0, none⟩)] : List Value))]) w64) ∧
 (∀ lg65 : List (Nat × List Value), ∀ w66 : World, S39 w66 → Z60 lg65 w66 →
 ∀ (b67 : Nat) (w68 : World), b67 = w66.heap.size → w68 = World.alloc w66 (.cells #[.int .i64 (0 : Int), .int .i64 (0 : Int), .slice none 0 0, .slice none 0 0, .slice none 0 0, .string (bs []), .string (bs []), .int .i64 (0 : Int), .int .i64 (0 : Int), .int .i64 (0 : Int)] T_api_State) →
 S39 w68 ∧ True ∧ Z60 (lg65 ++ [(3, ([.pointer (some ⟨b67, 0, none⟩)] : List Value))]) w68) ∧
 ∀ lg69 : List (Nat × List Value), ∀ w70 : World, S39 w70 → Z60 lg69 w70 →
 ∀ (x71 : Nat), (2, ([.pointer (some ⟨x71, 0, none⟩)] : List Value)) ∈ lg69 →
 ∀ (y72 : Nat), (3, ([.pointer (some ⟨y72, 0, none⟩)] : List Value)) ∈ lg69 →
 wrOk w70 ⟨x71, 0, none⟩ 10 ∧ ∀ w73 : World, w73 = stW w70 ⟨x71, 0, none⟩ 0 [.int .i64 n_Ip40, .int .i64 n_Handler41, s_Stack42.val, s_Back43.val, s_Mem44.val, .string t_Out45, .string t_In46, .int .i64 n_Read47, .int .i64 n_Status48, .int .i64 n_Code49] →
 S39 w73 ∧
 wrOk w73 ⟨y72, 0, none⟩ 10 ∧ ∀ w74 : World, w74 = stW w73 ⟨y72, 0, none⟩ 0 [.int .i64 n_Ip50, .int .i64 n_Handler51, s_Stack52.val, s_Back53.val, s_Mem54.val, .string t_Out55, .string t_In56, .int .i64 n_Read57, .int .i64 n_Status58, .int .i64 n_Code59] →
 ∃ (I1 : Int → World → Prop) (μ1 : Int → World → Nat), I1 (0 : Int) w74 ∧ ∀ (i76 : Int) (w75 : World), I1 i76 w75 →
 brB (decide (i76 < n_11))
 (∃ n_Ip77 : Int, ∃ n_Handler78 : Int, ∃ s_Stack79 : Sl, ∃ s_Back80 : Sl, ∃ s_Mem81 : Sl, ∃ t_Out82 : ByteArray, ∃ t_In83 : ByteArray, ∃ n_Read84 : Int, ∃ n_Status85 : Int, ∃ n_Code86 : Int, w75.cell? ⟨x71, 0, none⟩ = some (.int .i64 n_Ip77) ∧ w75.cell? ⟨x71, 1, none⟩ = some (.int .i64 n_Handler78) ∧ w75.cell? ⟨x71, 2, none⟩ = some (s_Stack79.val) ∧ w75.cell? ⟨x71, 3, none⟩ = some (s_Back80.val) ∧ w75.cell? ⟨x71, 4, none⟩ = some (s_Mem81.val) ∧ w75.cell? ⟨x71, 5, none⟩ = some (.string t_Out82) ∧ w75.cell? ⟨x71, 6, none⟩ = some (.string t_In83) ∧ w75.cell? ⟨x71, 7, none⟩ = some (.int .i64 n_Read84) ∧ w75.cell? ⟨x71, 8, none⟩ = some (.int .i64 n_Status85) ∧ w75.cell? ⟨x71, 9, none⟩ = some (.int .i64 n_Code86) ∧
 Calls Tryz.prog fn_hollowaybook_LentState #[.agg #[.int .i64 n_Ip77, .int .i64 n_Handler78, s_Stack79.val, s_Back80.val, s_Mem81.val, .string t_Out82, .string t_In83, .int .i64 n_Read84, .int .i64 n_Status85, .int .i64 n_Code86]] w75 fun e87 w88 => ∃ n_Ip89 : Int, ∃ n_Handler90 : Int, ∃ s_Stack91 : Sl, ∃ s_Back92 : Sl, ∃ s_Mem93 : Sl, ∃ t_Out94 : ByteArray, ∃ t_In95 : ByteArray, ∃ n_Read96 : Int, ∃ n_Status97 : Int, ∃ n_Code98 : Int, e87 = .returned (.agg #[.int .i64 n_Ip89, .int .i64 n_Handler90, s_Stack91.val, s_Back92.val, s_Mem93.val, .string t_Out94, .string t_In95, .int .i64 n_Read96, .int .i64 n_Status97, .int .i64 n_Code98]) ∧
 ∀ (b99 : Nat) (w100 : World), b99 = w88.heap.size → w100 = World.alloc w88 (.cells #[.int .i64 (0 : Int), .int .i64 (0 : Int), .slice none 0 0, .slice none 0 0, .slice none 0 0, .string (bs []), .string (bs []), .int .i64 (0 : Int), .int .i64 (0 : Int), .int .i64 (0 : Int)] T_api_State) →
 wrOk w100 ⟨b99, 0, none⟩ 10 ∧ ∀ w101 : World, w101 = stW w100 ⟨b99, 0, none⟩ 0 [.int .i64 n_Ip89, .int .i64 n_Handler90, s_Stack91.val, s_Back92.val, s_Mem93.val, .string t_Out94, .string t_In95, .int .i64 n_Read96, .int .i64 n_Status97, .int .i64 n_Code98] →
 ∀ w102 : World, w102 = World.drew w101 →
 ∃ S103 : World → Prop, S103 w102 ∧
 ∃ n_Ip104 : Int, ∃ n_Handler105 : Int, ∃ s_Stack106 : Sl, ∃ s_Back107 : Sl, ∃ s_Mem108 : Sl, ∃ t_Out109 : ByteArray, ∃ t_In110 : ByteArray, ∃ n_Read111 : Int, ∃ n_Status112 : Int, ∃ n_Code113 : Int, held S103 ⟨b99, 0, none⟩ (.int .i64 n_Ip104) ∧ held S103 ⟨b99, 1, none⟩ (.int .i64 n_Handler105) ∧ held S103 ⟨b99, 2, none⟩ (s_Stack106.val) ∧ held S103 ⟨b99, 3, none⟩ (s_Back107.val) ∧ held S103 ⟨b99, 4, none⟩ (s_Mem108.val) ∧ held S103 ⟨b99, 5, none⟩ (.string t_Out109) ∧ held S103 ⟨b99, 6, none⟩ (.string t_In110) ∧ held S103 ⟨b99, 7, none⟩ (.int .i64 n_Read111) ∧ held S103 ⟨b99, 8, none⟩ (.int .i64 n_Status112) ∧ held S103 ⟨b99, 9, none⟩ (.int .i64 n_Code113) ∧
 ∃ n_Ip114 : Int, ∃ n_Handler115 : Int, ∃ s_Stack116 : Sl, ∃ s_Back117 : Sl, ∃ s_Mem118 : Sl, ∃ t_Out119 : ByteArray, ∃ t_In120 : ByteArray, ∃ n_Read121 : Int, ∃ n_Status122 : Int, ∃ n_Code123 : Int, held S103 ⟨y72, 0, none⟩ (.int .i64 n_Ip114) ∧ held S103 ⟨y72, 1, none⟩ (.int .i64 n_Handler115) ∧ held S103 ⟨y72, 2, none⟩ (s_Stack116.val) ∧ held S103 ⟨y72, 3, none⟩ (s_Back117.val) ∧ held S103 ⟨y72, 4, none⟩ (s_Mem118.val) ∧ held S103 ⟨y72, 5, none⟩ (.string t_Out119) ∧ held S103 ⟨y72, 6, none⟩ (.string t_In120) ∧ held S103 ⟨y72, 7, none⟩ (.int .i64 n_Read121) ∧ held S103 ⟨y72, 8, none⟩ (.int .i64 n_Status122) ∧ held S103 ⟨y72, 9, none⟩ (.int .i64 n_Code123) ∧
 ∃ Z124 : List (Nat × List Value) → World → Prop, Z124 [] w102 ∧
 (∀ lg125 : List (Nat × List Value), ∀ w126 : World, S103 w126 → Z124 lg125 w126 →
 Calls Tryz.prog fn_inner_Step #[.agg #[.int .i64 n_Ip104, .int .i64 n_Handler105, s_Stack106.val, s_Back107.val, s_Mem108.val, .string t_Out109, .string t_In110, .int .i64 n_Read111, .int .i64 n_Status112, .int .i64 n_Code113]] w126 fun e127 w128 => ∃ n_Ip129 : Int, ∃ n_Handler130 : Int, ∃ s_Stack131 : Sl, ∃ s_Back132 : Sl, ∃ s_Mem133 : Sl, ∃ t_Out134 : ByteArray, ∃ t_In135 : ByteArray, ∃ n_Read136 : Int, ∃ n_Status137 : Int, ∃ n_Code138 : Int, e127 = .returned (.agg #[.int .i64 n_Ip129, .int .i64 n_Handler130, s_Stack131.val, s_Back132.val, s_Mem133.val, .string t_Out134, .string t_In135, .int .i64 n_Read136, .int .i64 n_Status137, .int .i64 n_Code138]) ∧
 S103 w128 ∧ True ∧ Z124 (lg125 ++ [(1, ([.int .i64 n_Ip129, .int .i64 n_Handler130, s_Stack131.val, s_Back132.val, s_Mem133.val, .string t_Out134, .string t_In135, .int .i64 n_Read136, .int .i64 n_Status137, .int .i64 n_Code138] : List Value))]) w128) ∧
 (∀ lg139 : List (Nat × List Value), ∀ w140 : World, S103 w140 → Z124 lg139 w140 →
 Calls Tryz.prog fn_hollowayref9_Step #[.agg #[.int .i64 n_Ip114, .int .i64 n_Handler115, s_Stack116.val, s_Back117.val, s_Mem118.val, .string t_Out119, .string t_In120, .int .i64 n_Read121, .int .i64 n_Status122, .int .i64 n_Code123]] w140 fun e141 w142 => ∃ n_Ip143 : Int, ∃ n_Handler144 : Int, ∃ s_Stack145 : Sl, ∃ s_Back146 : Sl, ∃ s_Mem147 : Sl, ∃ t_Out148 : ByteArray, ∃ t_In149 : ByteArray, ∃ n_Read150 : Int, ∃ n_Status151 : Int, ∃ n_Code152 : Int, e141 = .returned (.agg #[.int .i64 n_Ip143, .int .i64 n_Handler144, s_Stack145.val, s_Back146.val, s_Mem147.val, .string t_Out148, .string t_In149, .int .i64 n_Read150, .int .i64 n_Status151, .int .i64 n_Code152]) ∧
 S103 w142 ∧ True ∧ Z124 (lg139 ++ [(3, ([.int .i64 n_Ip143, .int .i64 n_Handler144, s_Stack145.val, s_Back146.val, s_Mem147.val, .string t_Out148, .string t_In149, .int .i64 n_Read150, .int .i64 n_Status151, .int .i64 n_Code152] : List Value))]) w142) ∧
 (∀ lg153 : List (Nat × List Value), ∀ w154 : World, S103 w154 → Z124 lg153 w154 →
 ∀ (b155 : Nat) (w156 : World), b155 = w154.heap.size → w156 = World.alloc w154 (.cells #[.int .i64 (0 : Int), .int .i64 (0 : Int), .slice none 0 0, .slice none 0 0, .slice none 0 0, .string (bs []), .string (bs []), .int .i64 (0 : Int), .int .i64 (0 : Int), .int .i64 (0 : Int)] T_api_State) →
 S103 w156 ∧ True ∧ Z124 (lg153 ++ [(4, ([.pointer (some ⟨b155, 0, none⟩)] : List Value))]) w156) ∧
 (∀ lg157 : List (Nat × List Value), ∀ w158 : World, S103 w158 → Z124 lg157 w158 →
 ∀ (b159 : Nat) (w160 : World), b159 = w158.heap.size → w160 = World.alloc w158 (.cells #[.int .i64 (0 : Int), .int .i64 (0 : Int), .slice none 0 0, .slice none 0 0, .slice none 0 0, .string (bs []), .string (bs []), .int .i64 (0 : Int), .int .i64 (0 : Int), .int .i64 (0 : Int)] T_api_State) →
 S103 w160 ∧ True ∧ Z124 (lg157 ++ [(5, ([.pointer (some ⟨b159, 0, none⟩)] : List Value))]) w160) ∧
 ∀ lg161 : List (Nat × List Value), ∀ w162 : World, S103 w162 → Z124 lg161 w162 →
 ∀ (n163 : Int) (n164 : Int) (s165 : Sl) (s166 : Sl) (s167 : Sl) (t168 : ByteArray) (t169 : ByteArray) (n170 : Int) (n171 : Int) (n172 : Int), (1, ([.int .i64 n163, .int .i64 n164, s165.val, s166.val, s167.val, .string t168, .string t169, .int .i64 n170, .int .i64 n171, .int .i64 n172] : List Value)) ∈ lg161 →
 ∀ (n173 : Int) (n174 : Int) (s175 : Sl) (s176 : Sl) (s177 : Sl) (t178 : ByteArray) (t179 : ByteArray) (n180 : Int) (n181 : Int) (n182 : Int), (3, ([.int .i64 n173, .int .i64 n174, s175.val, s176.val, s177.val, .string t178, .string t179, .int .i64 n180, .int .i64 n181, .int .i64 n182] : List Value)) ∈ lg161 →
 ∀ (a183 : Nat), (4, ([.pointer (some ⟨a183, 0, none⟩)] : List Value)) ∈ lg161 →
 ∀ (b184 : Nat), (5, ([.pointer (some ⟨b184, 0, none⟩)] : List Value)) ∈ lg161 →
 wrOk w162 ⟨a183, 0, none⟩ 10 ∧ ∀ w185 : World, w185 = stW w162 ⟨a183, 0, none⟩ 0 [.int .i64 n163, .int .i64 n164, s165.val, s166.val, s167.val, .string t168, .string t169, .int .i64 n170, .int .i64 n171, .int .i64 n172] →
 wrOk w185 ⟨b184, 0, none⟩ 10 ∧ ∀ w186 : World, w186 = stW w185 ⟨b184, 0, none⟩ 0 [.int .i64 n173, .int .i64 n174, s175.val, s176.val, s177.val, .string t178, .string t179, .int .i64 n180, .int .i64 n181, .int .i64 n182] →
 ∃ J14 : World → Prop, (∀ (w199 : World), J14  w199 →
 ∃ J17 : Bool → World → Prop, (∀ (b260 : Bool) (w259 : World), J17 b260 w259 →
 brB b260
 (K (.bool false) w259)
 (∀ w261 : World, w261 = World.drew w259 →
 ∃ S262 : World → Prop, S262 w261 ∧
 ∃ n_Ip263 : Int, ∃ n_Handler264 : Int, ∃ s_Stack265 : Sl, ∃ s_Back266 : Sl, ∃ s_Mem267 : Sl, ∃ t_Out268 : ByteArray, ∃ t_In269 : ByteArray, ∃ n_Read270 : Int, ∃ n_Status271 : Int, ∃ n_Code272 : Int, held S262 ⟨a183, 0, none⟩ (.int .i64 n_Ip263) ∧ held S262 ⟨a183, 1, none⟩ (.int .i64 n_Handler264) ∧ held S262 ⟨a183, 2, none⟩ (s_Stack265.val) ∧ held S262 ⟨a183, 3, none⟩ (s_Back266.val) ∧ held S262 ⟨a183, 4, none⟩ (s_Mem267.val) ∧ held S262 ⟨a183, 5, none⟩ (.string t_Out268) ∧ held S262 ⟨a183, 6, none⟩ (.string t_In269) ∧ held S262 ⟨a183, 7, none⟩ (.int .i64 n_Read270) ∧ held S262 ⟨a183, 8, none⟩ (.int .i64 n_Status271) ∧ held S262 ⟨a183, 9, none⟩ (.int .i64 n_Code272) ∧
 ∃ n_Ip273 : Int, ∃ n_Handler274 : Int, ∃ s_Stack275 : Sl, ∃ s_Back276 : Sl, ∃ s_Mem277 : Sl, ∃ t_Out278 : ByteArray, ∃ t_In279 : ByteArray, ∃ n_Read280 : Int, ∃ n_Status281 : Int, ∃ n_Code282 : Int, held S262 ⟨b184, 0, none⟩ (.int .i64 n_Ip273) ∧ held S262 ⟨b184, 1, none⟩ (.int .i64 n_Handler274) ∧ held S262 ⟨b184, 2, none⟩ (s_Stack275.val) ∧ held S262 ⟨b184, 3, none⟩ (s_Back276.val) ∧ held S262 ⟨b184, 4, none⟩ (s_Mem277.val) ∧ held S262 ⟨b184, 5, none⟩ (.string t_Out278) ∧ held S262 ⟨b184, 6, none⟩ (.string t_In279) ∧ held S262 ⟨b184, 7, none⟩ (.int .i64 n_Read280) ∧ held S262 ⟨b184, 8, none⟩ (.int .i64 n_Status281) ∧ held S262 ⟨b184, 9, none⟩ (.int .i64 n_Code282) ∧
 wrOk w261 ⟨x71, 0, none⟩ 10 ∧ ∀ w283 : World, w283 = stW w261 ⟨x71, 0, none⟩ 0 [.int .i64 n_Ip263, .int .i64 n_Handler264, s_Stack265.val, s_Back266.val, s_Mem267.val, .string t_Out268, .string t_In269, .int .i64 n_Read270, .int .i64 n_Status271, .int .i64 n_Code272] →
 S262 w283 ∧
 wrOk w283 ⟨y72, 0, none⟩ 10 ∧ ∀ w284 : World, w284 = stW w283 ⟨y72, 0, none⟩ 0 [.int .i64 n_Ip273, .int .i64 n_Handler274, s_Stack275.val, s_Back276.val, s_Mem277.val, .string t_Out278, .string t_In279, .int .i64 n_Read280, .int .i64 n_Status281, .int .i64 n_Code282] →
 I1 (wr (i76 + (1 : Int))) w284 ∧ μ1 (wr (i76 + (1 : Int))) w284 < μ1 i76 w75)) ∧
 ∃ n_Ip200 : Int, ∃ n_Handler201 : Int, ∃ s_Stack202 : Sl, ∃ s_Back203 : Sl, ∃ s_Mem204 : Sl, ∃ t_Out205 : ByteArray, ∃ t_In206 : ByteArray, ∃ n_Read207 : Int, ∃ n_Status208 : Int, ∃ n_Code209 : Int, w199.cell? ⟨a183, 0, none⟩ = some (.int .i64 n_Ip200) ∧ w199.cell? ⟨a183, 1, none⟩ = some (.int .i64 n_Handler201) ∧ w199.cell? ⟨a183, 2, none⟩ = some (s_Stack202.val) ∧ w199.cell? ⟨a183, 3, none⟩ = some (s_Back203.val) ∧ w199.cell? ⟨a183, 4, none⟩ = some (s_Mem204.val) ∧ w199.cell? ⟨a183, 5, none⟩ = some (.string t_Out205) ∧ w199.cell? ⟨a183, 6, none⟩ = some (.string t_In206) ∧ w199.cell? ⟨a183, 7, none⟩ = some (.int .i64 n_Read207) ∧ w199.cell? ⟨a183, 8, none⟩ = some (.int .i64 n_Status208) ∧ w199.cell? ⟨a183, 9, none⟩ = some (.int .i64 n_Code209) ∧
 ∃ n_Ip210 : Int, ∃ n_Handler211 : Int, ∃ s_Stack212 : Sl, ∃ s_Back213 : Sl, ∃ s_Mem214 : Sl, ∃ t_Out215 : ByteArray, ∃ t_In216 : ByteArray, ∃ n_Read217 : Int, ∃ n_Status218 : Int, ∃ n_Code219 : Int, w199.cell? ⟨b184, 0, none⟩ = some (.int .i64 n_Ip210) ∧ w199.cell? ⟨b184, 1, none⟩ = some (.int .i64 n_Handler211) ∧ w199.cell? ⟨b184, 2, none⟩ = some (s_Stack212.val) ∧ w199.cell? ⟨b184, 3, none⟩ = some (s_Back213.val) ∧ w199.cell? ⟨b184, 4, none⟩ = some (s_Mem214.val) ∧ w199.cell? ⟨b184, 5, none⟩ = some (.string t_Out215) ∧ w199.cell? ⟨b184, 6, none⟩ = some (.string t_In216) ∧ w199.cell? ⟨b184, 7, none⟩ = some (.int .i64 n_Read217) ∧ w199.cell? ⟨b184, 8, none⟩ = some (.int .i64 n_Status218) ∧ w199.cell? ⟨b184, 9, none⟩ = some (.int .i64 n_Code219) ∧
 Calls Tryz.prog fn_hollowaybook_SameState #[.agg #[.int .i64 n_Ip200, .int .i64 n_Handler201, s_Stack202.val, s_Back203.val, s_Mem204.val, .string t_Out205, .string t_In206, .int .i64 n_Read207, .int .i64 n_Status208, .int .i64 n_Code209], .agg #[.int .i64 n_Ip210, .int .i64 n_Handler211, s_Stack212.val, s_Back213.val, s_Mem214.val, .string t_Out215, .string t_In216, .int .i64 n_Read217, .int .i64 n_Status218, .int .i64 n_Code219]] w199 fun e220 w221 => ∃ b222 : Bool, e220 = .returned (.bool b222) ∧
 brB (!b222)
 (J17 true w221)
 (∃ n_Ip223 : Int, ∃ n_Handler224 : Int, ∃ s_Stack225 : Sl, ∃ s_Back226 : Sl, ∃ s_Mem227 : Sl, ∃ t_Out228 : ByteArray, ∃ t_In229 : ByteArray, ∃ n_Read230 : Int, ∃ n_Status231 : Int, ∃ n_Code232 : Int, w221.cell? ⟨b99, 0, none⟩ = some (.int .i64 n_Ip223) ∧ w221.cell? ⟨b99, 1, none⟩ = some (.int .i64 n_Handler224) ∧ w221.cell? ⟨b99, 2, none⟩ = some (s_Stack225.val) ∧ w221.cell? ⟨b99, 3, none⟩ = some (s_Back226.val) ∧ w221.cell? ⟨b99, 4, none⟩ = some (s_Mem227.val) ∧ w221.cell? ⟨b99, 5, none⟩ = some (.string t_Out228) ∧ w221.cell? ⟨b99, 6, none⟩ = some (.string t_In229) ∧ w221.cell? ⟨b99, 7, none⟩ = some (.int .i64 n_Read230) ∧ w221.cell? ⟨b99, 8, none⟩ = some (.int .i64 n_Status231) ∧ w221.cell? ⟨b99, 9, none⟩ = some (.int .i64 n_Code232) ∧
 ∃ n_Ip233 : Int, ∃ n_Handler234 : Int, ∃ s_Stack235 : Sl, ∃ s_Back236 : Sl, ∃ s_Mem237 : Sl, ∃ t_Out238 : ByteArray, ∃ t_In239 : ByteArray, ∃ n_Read240 : Int, ∃ n_Status241 : Int, ∃ n_Code242 : Int, w221.cell? ⟨x71, 0, none⟩ = some (.int .i64 n_Ip233) ∧ w221.cell? ⟨x71, 1, none⟩ = some (.int .i64 n_Handler234) ∧ w221.cell? ⟨x71, 2, none⟩ = some (s_Stack235.val) ∧ w221.cell? ⟨x71, 3, none⟩ = some (s_Back236.val) ∧ w221.cell? ⟨x71, 4, none⟩ = some (s_Mem237.val) ∧ w221.cell? ⟨x71, 5, none⟩ = some (.string t_Out238) ∧ w221.cell? ⟨x71, 6, none⟩ = some (.string t_In239) ∧ w221.cell? ⟨x71, 7, none⟩ = some (.int .i64 n_Read240) ∧ w221.cell? ⟨x71, 8, none⟩ = some (.int .i64 n_Status241) ∧ w221.cell? ⟨x71, 9, none⟩ = some (.int .i64 n_Code242) ∧
 Calls Tryz.prog fn_hollowaybook_StaysState #[.agg #[.int .i64 n_Ip223, .int .i64 n_Handler224, s_Stack225.val, s_Back226.val, s_Mem227.val, .string t_Out228, .string t_In229, .int .i64 n_Read230, .int .i64 n_Status231, .int .i64 n_Code232], .agg #[.int .i64 n_Ip233, .int .i64 n_Handler234, s_Stack235.val, s_Back236.val, s_Mem237.val, .string t_Out238, .string t_In239, .int .i64 n_Read240, .int .i64 n_Status241, .int .i64 n_Code242]] w221 fun e243 w244 => ∃ b245 : Bool, e243 = .returned (.bool b245) ∧
 brB (!b245)
 (J17 true w244)
 (∃ n_Ip246 : Int, ∃ n_Handler247 : Int, ∃ s_Stack248 : Sl, ∃ s_Back249 : Sl, ∃ s_Mem250 : Sl, ∃ t_Out251 : ByteArray, ∃ t_In252 : ByteArray, ∃ n_Read253 : Int, ∃ n_Status254 : Int, ∃ n_Code255 : Int, w244.cell? ⟨a183, 0, none⟩ = some (.int .i64 n_Ip246) ∧ w244.cell? ⟨a183, 1, none⟩ = some (.int .i64 n_Handler247) ∧ w244.cell? ⟨a183, 2, none⟩ = some (s_Stack248.val) ∧ w244.cell? ⟨a183, 3, none⟩ = some (s_Back249.val) ∧ w244.cell? ⟨a183, 4, none⟩ = some (s_Mem250.val) ∧ w244.cell? ⟨a183, 5, none⟩ = some (.string t_Out251) ∧ w244.cell? ⟨a183, 6, none⟩ = some (.string t_In252) ∧ w244.cell? ⟨a183, 7, none⟩ = some (.int .i64 n_Read253) ∧ w244.cell? ⟨a183, 8, none⟩ = some (.int .i64 n_Status254) ∧ w244.cell? ⟨a183, 9, none⟩ = some (.int .i64 n_Code255) ∧
 Calls Tryz.prog fn_inner_Right #[.agg #[.int .i64 n_Ip246, .int .i64 n_Handler247, s_Stack248.val, s_Back249.val, s_Mem250.val, .string t_Out251, .string t_In252, .int .i64 n_Read253, .int .i64 n_Status254, .int .i64 n_Code255]] w244 fun e256 w257 => ∃ b258 : Bool, e256 = .returned (.bool b258) ∧
 J17 (!b258) w257))) ∧
 brB (decide (i76 < (10 : Int)))
 (∃ n_Ip187 : Int, ∃ n_Handler188 : Int, ∃ s_Stack189 : Sl, ∃ s_Back190 : Sl, ∃ s_Mem191 : Sl, ∃ t_Out192 : ByteArray, ∃ t_In193 : ByteArray, ∃ n_Read194 : Int, ∃ n_Status195 : Int, ∃ n_Code196 : Int, w186.cell? ⟨a183, 0, none⟩ = some (.int .i64 n_Ip187) ∧ w186.cell? ⟨a183, 1, none⟩ = some (.int .i64 n_Handler188) ∧ w186.cell? ⟨a183, 2, none⟩ = some (s_Stack189.val) ∧ w186.cell? ⟨a183, 3, none⟩ = some (s_Back190.val) ∧ w186.cell? ⟨a183, 4, none⟩ = some (s_Mem191.val) ∧ w186.cell? ⟨a183, 5, none⟩ = some (.string t_Out192) ∧ w186.cell? ⟨a183, 6, none⟩ = some (.string t_In193) ∧ w186.cell? ⟨a183, 7, none⟩ = some (.int .i64 n_Read194) ∧ w186.cell? ⟨a183, 8, none⟩ = some (.int .i64 n_Status195) ∧ w186.cell? ⟨a183, 9, none⟩ = some (.int .i64 n_Code196) ∧
 Calls Tryz.prog fn_hollowaybook_Book_State #[.pointer (some ⟨b36, 0, none⟩), .agg #[.int .i64 n_Ip187, .int .i64 n_Handler188, s_Stack189.val, s_Back190.val, s_Mem191.val, .string t_Out192, .string t_In193, .int .i64 n_Read194, .int .i64 n_Status195, .int .i64 n_Code196]] w186 fun e197 w198 => e197 = .returned (.tuple #[]) ∧
 J14  w198)
 (J14  w186))
 (∃ n_Ip285 : Int, ∃ n_Handler286 : Int, ∃ s_Stack287 : Sl, ∃ s_Back288 : Sl, ∃ s_Mem289 : Sl, ∃ t_Out290 : ByteArray, ∃ t_In291 : ByteArray, ∃ n_Read292 : Int, ∃ n_Status293 : Int, ∃ n_Code294 : Int, w75.cell? ⟨b13, 0, none⟩ = some (.int .i64 n_Ip285) ∧ w75.cell? ⟨b13, 1, none⟩ = some (.int .i64 n_Handler286) ∧ w75.cell? ⟨b13, 2, none⟩ = some (s_Stack287.val) ∧ w75.cell? ⟨b13, 3, none⟩ = some (s_Back288.val) ∧ w75.cell? ⟨b13, 4, none⟩ = some (s_Mem289.val) ∧ w75.cell? ⟨b13, 5, none⟩ = some (.string t_Out290) ∧ w75.cell? ⟨b13, 6, none⟩ = some (.string t_In291) ∧ w75.cell? ⟨b13, 7, none⟩ = some (.int .i64 n_Read292) ∧ w75.cell? ⟨b13, 8, none⟩ = some (.int .i64 n_Status293) ∧ w75.cell? ⟨b13, 9, none⟩ = some (.int .i64 n_Code294) ∧
 Calls Tryz.prog fn_hollowaybook_LentState #[.agg #[.int .i64 n_Ip285, .int .i64 n_Handler286, s_Stack287.val, s_Back288.val, s_Mem289.val, .string t_Out290, .string t_In291, .int .i64 n_Read292, .int .i64 n_Status293, .int .i64 n_Code294]] w75 fun e295 w296 => ∃ n_Ip297 : Int, ∃ n_Handler298 : Int, ∃ s_Stack299 : Sl, ∃ s_Back300 : Sl, ∃ s_Mem301 : Sl, ∃ t_Out302 : ByteArray, ∃ t_In303 : ByteArray, ∃ n_Read304 : Int, ∃ n_Status305 : Int, ∃ n_Code306 : Int, e295 = .returned (.agg #[.int .i64 n_Ip297, .int .i64 n_Handler298, s_Stack299.val, s_Back300.val, s_Mem301.val, .string t_Out302, .string t_In303, .int .i64 n_Read304, .int .i64 n_Status305, .int .i64 n_Code306]) ∧
 ∀ (b307 : Nat) (w308 : World), b307 = w296.heap.size → w308 = World.alloc w296 (.cells #[.int .i64 (0 : Int), .int .i64 (0 : Int), .slice none 0 0, .slice none 0 0, .slice none 0 0, .string (bs []), .string (bs []), .int .i64 (0 : Int), .int .i64 (0 : Int), .int .i64 (0 : Int)] T_api_State) →
 wrOk w308 ⟨b307, 0, none⟩ 10 ∧ ∀ w309 : World, w309 = stW w308 ⟨b307, 0, none⟩ 0 [.int .i64 n_Ip297, .int .i64 n_Handler298, s_Stack299.val, s_Back300.val, s_Mem301.val, .string t_Out302, .string t_In303, .int .i64 n_Read304, .int .i64 n_Status305, .int .i64 n_Code306] →
 ∃ n_Ip310 : Int, ∃ n_Handler311 : Int, ∃ s_Stack312 : Sl, ∃ s_Back313 : Sl, ∃ s_Mem314 : Sl, ∃ t_Out315 : ByteArray, ∃ t_In316 : ByteArray, ∃ n_Read317 : Int, ∃ n_Status318 : Int, ∃ n_Code319 : Int, w309.cell? ⟨b307, 0, none⟩ = some (.int .i64 n_Ip310) ∧ w309.cell? ⟨b307, 1, none⟩ = some (.int .i64 n_Handler311) ∧ w309.cell? ⟨b307, 2, none⟩ = some (s_Stack312.val) ∧ w309.cell? ⟨b307, 3, none⟩ = some (s_Back313.val) ∧ w309.cell? ⟨b307, 4, none⟩ = some (s_Mem314.val) ∧ w309.cell? ⟨b307, 5, none⟩ = some (.string t_Out315) ∧ w309.cell? ⟨b307, 6, none⟩ = some (.string t_In316) ∧ w309.cell? ⟨b307, 7, none⟩ = some (.int .i64 n_Read317) ∧ w309.cell? ⟨b307, 8, none⟩ = some (.int .i64 n_Status318) ∧ w309.cell? ⟨b307, 9, none⟩ = some (.int .i64 n_Code319) ∧
 Calls Tryz.prog fn_inner_Run #[.agg #[.int .i64 n_Ip310, .int .i64 n_Handler311, s_Stack312.val, s_Back313.val, s_Mem314.val, .string t_Out315, .string t_In316, .int .i64 n_Read317, .int .i64 n_Status318, .int .i64 n_Code319], .int .i64 fuel12] w309 fun e320 w321 => ∃ n_Ip322 : Int, ∃ n_Handler323 : Int, ∃ s_Stack324 : Sl, ∃ s_Back325 : Sl, ∃ s_Mem326 : Sl, ∃ t_Out327 : ByteArray, ∃ t_In328 : ByteArray, ∃ n_Read329 : Int, ∃ n_Status330 : Int, ∃ n_Code331 : Int, ∃ n332 : Int, e320 = .returned (.tuple #[.agg #[.int .i64 n_Ip322, .int .i64 n_Handler323, s_Stack324.val, s_Back325.val, s_Mem326.val, .string t_Out327, .string t_In328, .int .i64 n_Read329, .int .i64 n_Status330, .int .i64 n_Code331], .int .i64 n332]) ∧
 ∀ (b333 : Nat) (w334 : World), b333 = w321.heap.size → w334 = World.alloc w321 (.cells #[.int .i64 (0 : Int), .int .i64 (0 : Int), .slice none 0 0, .slice none 0 0, .slice none 0 0, .string (bs []), .string (bs []), .int .i64 (0 : Int), .int .i64 (0 : Int), .int .i64 (0 : Int)] T_api_State) →
 wrOk w334 ⟨b333, 0, none⟩ 10 ∧ ∀ w335 : World, w335 = stW w334 ⟨b333, 0, none⟩ 0 [.int .i64 n_Ip322, .int .i64 n_Handler323, s_Stack324.val, s_Back325.val, s_Mem326.val, .string t_Out327, .string t_In328, .int .i64 n_Read329, .int .i64 n_Status330, .int .i64 n_Code331] →
 ∃ n_Ip336 : Int, ∃ n_Handler337 : Int, ∃ s_Stack338 : Sl, ∃ s_Back339 : Sl, ∃ s_Mem340 : Sl, ∃ t_Out341 : ByteArray, ∃ t_In342 : ByteArray, ∃ n_Read343 : Int, ∃ n_Status344 : Int, ∃ n_Code345 : Int, w335.cell? ⟨b13, 0, none⟩ = some (.int .i64 n_Ip336) ∧ w335.cell? ⟨b13, 1, none⟩ = some (.int .i64 n_Handler337) ∧ w335.cell? ⟨b13, 2, none⟩ = some (s_Stack338.val) ∧ w335.cell? ⟨b13, 3, none⟩ = some (s_Back339.val) ∧ w335.cell? ⟨b13, 4, none⟩ = some (s_Mem340.val) ∧ w335.cell? ⟨b13, 5, none⟩ = some (.string t_Out341) ∧ w335.cell? ⟨b13, 6, none⟩ = some (.string t_In342) ∧ w335.cell? ⟨b13, 7, none⟩ = some (.int .i64 n_Read343) ∧ w335.cell? ⟨b13, 8, none⟩ = some (.int .i64 n_Status344) ∧ w335.cell? ⟨b13, 9, none⟩ = some (.int .i64 n_Code345) ∧
 Calls Tryz.prog fn_hollowayref9_Run #[.agg #[.int .i64 n_Ip336, .int .i64 n_Handler337, s_Stack338.val, s_Back339.val, s_Mem340.val, .string t_Out341, .string t_In342, .int .i64 n_Read343, .int .i64 n_Status344, .int .i64 n_Code345], .int .i64 fuel12] w335 fun e346 w347 => ∃ n_Ip348 : Int, ∃ n_Handler349 : Int, ∃ s_Stack350 : Sl, ∃ s_Back351 : Sl, ∃ s_Mem352 : Sl, ∃ t_Out353 : ByteArray, ∃ t_In354 : ByteArray, ∃ n_Read355 : Int, ∃ n_Status356 : Int, ∃ n_Code357 : Int, ∃ n358 : Int, e346 = .returned (.tuple #[.agg #[.int .i64 n_Ip348, .int .i64 n_Handler349, s_Stack350.val, s_Back351.val, s_Mem352.val, .string t_Out353, .string t_In354, .int .i64 n_Read355, .int .i64 n_Status356, .int .i64 n_Code357], .int .i64 n358]) ∧
 ∀ (b359 : Nat) (w360 : World), b359 = w347.heap.size → w360 = World.alloc w347 (.cells #[.int .i64 (0 : Int), .int .i64 (0 : Int), .slice none 0 0, .slice none 0 0, .slice none 0 0, .string (bs []), .string (bs []), .int .i64 (0 : Int), .int .i64 (0 : Int), .int .i64 (0 : Int)] T_api_State) →
 wrOk w360 ⟨b359, 0, none⟩ 10 ∧ ∀ w361 : World, w361 = stW w360 ⟨b359, 0, none⟩ 0 [.int .i64 n_Ip348, .int .i64 n_Handler349, s_Stack350.val, s_Back351.val, s_Mem352.val, .string t_Out353, .string t_In354, .int .i64 n_Read355, .int .i64 n_Status356, .int .i64 n_Code357] →
 ∃ n_Ip362 : Int, ∃ n_Handler363 : Int, ∃ s_Stack364 : Sl, ∃ s_Back365 : Sl, ∃ s_Mem366 : Sl, ∃ t_Out367 : ByteArray, ∃ t_In368 : ByteArray, ∃ n_Read369 : Int, ∃ n_Status370 : Int, ∃ n_Code371 : Int, w361.cell? ⟨b333, 0, none⟩ = some (.int .i64 n_Ip362) ∧ w361.cell? ⟨b333, 1, none⟩ = some (.int .i64 n_Handler363) ∧ w361.cell? ⟨b333, 2, none⟩ = some (s_Stack364.val) ∧ w361.cell? ⟨b333, 3, none⟩ = some (s_Back365.val) ∧ w361.cell? ⟨b333, 4, none⟩ = some (s_Mem366.val) ∧ w361.cell? ⟨b333, 5, none⟩ = some (.string t_Out367) ∧ w361.cell? ⟨b333, 6, none⟩ = some (.string t_In368) ∧ w361.cell? ⟨b333, 7, none⟩ = some (.int .i64 n_Read369) ∧ w361.cell? ⟨b333, 8, none⟩ = some (.int .i64 n_Status370) ∧ w361.cell? ⟨b333, 9, none⟩ = some (.int .i64 n_Code371) ∧
 Calls Tryz.prog fn_hollowaybook_Book_State #[.pointer (some ⟨b36, 0, none⟩), .agg #[.int .i64 n_Ip362, .int .i64 n_Handler363, s_Stack364.val, s_Back365.val, s_Mem366.val, .string t_Out367, .string t_In368, .int .i64 n_Read369, .int .i64 n_Status370, .int .i64 n_Code371]] w361 fun e372 w373 => e372 = .returned (.tuple #[]) ∧
 ∃ n_Ip374 : Int, ∃ n_Handler375 : Int, ∃ s_Stack376 : Sl, ∃ s_Back377 : Sl, ∃ s_Mem378 : Sl, ∃ t_Out379 : ByteArray, ∃ t_In380 : ByteArray, ∃ n_Read381 : Int, ∃ n_Status382 : Int, ∃ n_Code383 : Int, w373.cell? ⟨b333, 0, none⟩ = some (.int .i64 n_Ip374) ∧ w373.cell? ⟨b333, 1, none⟩ = some (.int .i64 n_Handler375) ∧ w373.cell? ⟨b333, 2, none⟩ = some (s_Stack376.val) ∧ w373.cell? ⟨b333, 3, none⟩ = some (s_Back377.val) ∧ w373.cell? ⟨b333, 4, none⟩ = some (s_Mem378.val) ∧ w373.cell? ⟨b333, 5, none⟩ = some (.string t_Out379) ∧ w373.cell? ⟨b333, 6, none⟩ = some (.string t_In380) ∧ w373.cell? ⟨b333, 7, none⟩ = some (.int .i64 n_Read381) ∧ w373.cell? ⟨b333, 8, none⟩ = some (.int .i64 n_Status382) ∧ w373.cell? ⟨b333, 9, none⟩ = some (.int .i64 n_Code383) ∧
 ∃ n_Ip384 : Int, ∃ n_Handler385 : Int, ∃ s_Stack386 : Sl, ∃ s_Back387 : Sl, ∃ s_Mem388 : Sl, ∃ t_Out389 : ByteArray, ∃ t_In390 : ByteArray, ∃ n_Read391 : Int, ∃ n_Status392 : Int, ∃ n_Code393 : Int, w373.cell? ⟨b359, 0, none⟩ = some (.int .i64 n_Ip384) ∧ w373.cell? ⟨b359, 1, none⟩ = some (.int .i64 n_Handler385) ∧ w373.cell? ⟨b359, 2, none⟩ = some (s_Stack386.val) ∧ w373.cell? ⟨b359, 3, none⟩ = some (s_Back387.val) ∧ w373.cell? ⟨b359, 4, none⟩ = some (s_Mem388.val) ∧ w373.cell? ⟨b359, 5, none⟩ = some (.string t_Out389) ∧ w373.cell? ⟨b359, 6, none⟩ = some (.string t_In390) ∧ w373.cell? ⟨b359, 7, none⟩ = some (.int .i64 n_Read391) ∧ w373.cell? ⟨b359, 8, none⟩ = some (.int .i64 n_Status392) ∧ w373.cell? ⟨b359, 9, none⟩ = some (.int .i64 n_Code393) ∧
 Calls Tryz.prog fn_hollowaybook_SameState #[.agg #[.int .i64 n_Ip374, .int .i64 n_Handler375, s_Stack376.val, s_Back377.val, s_Mem378.val, .string t_Out379, .string t_In380, .int .i64 n_Read381, .int .i64 n_Status382, .int .i64 n_Code383], .agg #[.int .i64 n_Ip384, .int .i64 n_Handler385, s_Stack386.val, s_Back387.val, s_Mem388.val, .string t_Out389, .string t_In390, .int .i64 n_Read391, .int .i64 n_Status392, .int .i64 n_Code393]] w373 fun e394 w395 => ∃ b396 : Bool, e394 = .returned (.bool b396) ∧
 brB b396
 (brB (n332 == n358)
 (∃ n_Ip397 : Int, ∃ n_Handler398 : Int, ∃ s_Stack399 : Sl, ∃ s_Back400 : Sl, ∃ s_Mem401 : Sl, ∃ t_Out402 : ByteArray, ∃ t_In403 : ByteArray, ∃ n_Read404 : Int, ∃ n_Status405 : Int, ∃ n_Code406 : Int, w395.cell? ⟨b307, 0, none⟩ = some (.int .i64 n_Ip397) ∧ w395.cell? ⟨b307, 1, none⟩ = some (.int .i64 n_Handler398) ∧ w395.cell? ⟨b307, 2, none⟩ = some (s_Stack399.val) ∧ w395.cell? ⟨b307, 3, none⟩ = some (s_Back400.val) ∧ w395.cell? ⟨b307, 4, none⟩ = some (s_Mem401.val) ∧ w395.cell? ⟨b307, 5, none⟩ = some (.string t_Out402) ∧ w395.cell? ⟨b307, 6, none⟩ = some (.string t_In403) ∧ w395.cell? ⟨b307, 7, none⟩ = some (.int .i64 n_Read404) ∧ w395.cell? ⟨b307, 8, none⟩ = some (.int .i64 n_Status405) ∧ w395.cell? ⟨b307, 9, none⟩ = some (.int .i64 n_Code406) ∧
 ∃ n_Ip407 : Int, ∃ n_Handler408 : Int, ∃ s_Stack409 : Sl, ∃ s_Back410 : Sl, ∃ s_Mem411 : Sl, ∃ t_Out412 : ByteArray, ∃ t_In413 : ByteArray, ∃ n_Read414 : Int, ∃ n_Status415 : Int, ∃ n_Code416 : Int, w395.cell? ⟨b13, 0, none⟩ = some (.int .i64 n_Ip407) ∧ w395.cell? ⟨b13, 1, none⟩ = some (.int .i64 n_Handler408) ∧ w395.cell? ⟨b13, 2, none⟩ = some (s_Stack409.val) ∧ w395.cell? ⟨b13, 3, none⟩ = some (s_Back410.val) ∧ w395.cell? ⟨b13, 4, none⟩ = some (s_Mem411.val) ∧ w395.cell? ⟨b13, 5, none⟩ = some (.string t_Out412) ∧ w395.cell? ⟨b13, 6, none⟩ = some (.string t_In413) ∧ w395.cell? ⟨b13, 7, none⟩ = some (.int .i64 n_Read414) ∧ w395.cell? ⟨b13, 8, none⟩ = some (.int .i64 n_Status415) ∧ w395.cell? ⟨b13, 9, none⟩ = some (.int .i64 n_Code416) ∧
 Calls Tryz.prog fn_hollowaybook_StaysState #[.agg #[.int .i64 n_Ip397, .int .i64 n_Handler398, s_Stack399.val, s_Back400.val, s_Mem401.val, .string t_Out402, .string t_In403, .int .i64 n_Read404, .int .i64 n_Status405, .int .i64 n_Code406], .agg #[.int .i64 n_Ip407, .int .i64 n_Handler408, s_Stack409.val, s_Back410.val, s_Mem411.val, .string t_Out412, .string t_In413, .int .i64 n_Read414, .int .i64 n_Status415, .int .i64 n_Code416]] w395 fun e417 w418 => ∃ b419 : Bool, e417 = .returned (.bool b419) ∧
 brB b419
 (Calls Tryz.prog fn_hollowaybook_Book_Apart #[.pointer (some ⟨b36, 0, none⟩)] w418 fun e420 w421 => ∃ b422 : Bool, e420 = .returned (.bool b422) ∧
 K (.bool b422) w421)
 (K (.bool false) w418))
 (K (.bool false) w395))
 (K (.bool false) w395)))) ∧
 ∃ n_Ip15 : Int, ∃ n_Handler16 : Int, ∃ s_Stack17 : Sl, ∃ s_Back18 : Sl, ∃ s_Mem19 : Sl, ∃ t_Out20 : ByteArray, ∃ t_In21 : ByteArray, ∃ n_Read22 : Int, ∃ n_Status23 : Int, ∃ n_Code24 : Int, w14.cell? ⟨b13, 0, none⟩ = some (.int .i64 n_Ip15) ∧ w14.cell? ⟨b13, 1, none⟩ = some (.int .i64 n_Handler16) ∧ w14.cell? ⟨b13, 2, none⟩ = some (s_Stack17.val) ∧ w14.cell? ⟨b13, 3, none⟩ = some (s_Back18.val) ∧ w14.cell? ⟨b13, 4, none⟩ = some (s_Mem19.val) ∧ w14.cell? ⟨b13, 5, none⟩ = some (.string t_Out20) ∧ w14.cell? ⟨b13, 6, none⟩ = some (.string t_In21) ∧ w14.cell? ⟨b13, 7, none⟩ = some (.int .i64 n_Read22) ∧ w14.cell? ⟨b13, 8, none⟩ = some (.int .i64 n_Status23) ∧ w14.cell? ⟨b13, 9, none⟩ = some (.int .i64 n_Code24) ∧
 Calls Tryz.prog fn_hollowaylaw9_Light #[.agg #[.int .i64 n_Ip15, .int .i64 n_Handler16, s_Stack17.val, s_Back18.val, s_Mem19.val, .string t_Out20, .string t_In21, .int .i64 n_Read22, .int .i64 n_Status23, .int .i64 n_Code24]] w14 fun e25 w26 => ∃ b27 : Bool, e25 = .returned (.bool b27) ∧
 brB (!b27)
 (J3 true w26)
 (brB (decide (n_11 < (0 : Int)))
 (J3 true w26)
 (brB (decide (n_11 > (60 : Int)))
 (J3 true w26)
 (brB (decide (fuel12 > (300 : Int)))
 (J3 true w26)
 (Calls Tryz.prog fn_hollowaylaw9_alive #[] w26 fun e28 w29 => ∃ b30 : Bool, e28 = .returned (.bool b30) ∧
 J3 (!b30) w29))))
def hollowaylaw9_InnerSteps_an : An := ⟨[(6, [(10, .int .i64)])], [(4, (5, .st 0 (.st 1 (.log [(2, false, [.blk]), (3, false, [.blk])] (.ef 4 .done))), 1)), (9, (6, .st 0 (.st 2 (.log [(1, true, [.int .i64, .int .i64, .sl, .sl, .sl, .str, .str, .int .i64, .int .i64, .int .i64]), (3, true, [.int .i64, .int .i64, .sl, .sl, .sl, .str, .str, .int .i64, .int .i64, .int .i64]), (4, false, [.blk]), (5, false, [.blk])] (.done))), 1)), (14, (3, .st 0 (.st 1 (.ef 2 .done)), 1))], [(2, [(37, .bool)]), (13, [(73, .bool)]), (12, [])]⟩
theorem hollowaylaw9_InnerSteps_lift {s__Ip1 : Int} {s__Handler2 : Int} {s__Stack3 : Sl} {s__Back4 : Sl} {s__Mem5 : Sl} {s__Out6 : ByteArray} {s__In7 : ByteArray} {s__Read8 : Int} {s__Status9 : Int} {s__Code10 : Int} {n_11 : Int} {fuel12 : Int} {w : World} {K : Value → World → Prop} (h : hollowaylaw9_InnerSteps_sh s__Ip1 s__Handler2 s__Stack3 s__Back4 s__Mem5 s__Out6 s__In7 s__Read8 s__Status9 s__Code10 n_11 fuel12 w K) : Calls Tryz.prog fn_hollowaylaw9_InnerSteps #[.agg #[.int .i64 s__Ip1, .int .i64 s__Handler2, s__Stack3.val, s__Back4.val, s__Mem5.val, .string s__Out6, .string s__In7, .int .i64 s__Read8, .int .i64 s__Status9, .int .i64 s__Code10], .int .i64 n_11, .int .i64 fuel12] w fun e w' => ∃ v, e = .returned v ∧ K v w' :=
   lift_calls (A := hollowaylaw9_InnerSteps_an) (c := bodyOf Tryz.f4) (args := [.agg #[.int .i64 s__Ip1, .int .i64 s__Handler2, s__Stack3.val, s__Back4.val, s__Mem5.val, .string s__Out6, .string s__In7, .int .i64 s__Read8, .int .i64 s__Status9, .int .i64 s__Code10], .int .i64 n_11, .int .i64 fuel12]) orc orc_wide Tryz.func4 (by kernel_rfl) (by kernel_rfl) (Eq.mp (by kernel_rfl : hollowaylaw9_InnerSteps_sh s__Ip1 s__Handler2 s__Stack3 s__Back4 s__Mem5 s__Out6 s__In7 s__Read8 s__Status9 s__Code10 n_11 fuel12 w K = wpc orc Tryz.f4.ntmps hollowaylaw9_InnerSteps_an (bodyOf Tryz.f4) (argl 0 [.agg #[.int .i64 s__Ip1, .int .i64 s__Handler2, s__Stack3.val, s__Back4.val, s__Mem5.val, .string s__Out6, .string s__In7, .int .i64 s__Read8, .int .i64 s__Status9, .int .i64 s__Code10], .int .i64 n_11, .int .i64 fuel12]) w (retQ orc Tryz.f4.results.toList K)) h)

-- holloway/hollowaylaw9.alive
def hollowaylaw9_alive_sh  (w : World) (K : Value → World → Prop) : Prop :=
 Calls Tryz.prog fn_inner_Boot #[.int .i64 (300 : Int), .string (bs [])] w fun e1 w2 => ∃ n_Ip3 : Int, ∃ n_Handler4 : Int, ∃ s_Stack5 : Sl, ∃ s_Back6 : Sl, ∃ s_Mem7 : Sl, ∃ t_Out8 : ByteArray, ∃ t_In9 : ByteArray, ∃ n_Read10 : Int, ∃ n_Status11 : Int, ∃ n_Code12 : Int, e1 = .returned (.agg #[.int .i64 n_Ip3, .int .i64 n_Handler4, s_Stack5.val, s_Back6.val, s_Mem7.val, .string t_Out8, .string t_In9, .int .i64 n_Read10, .int .i64 n_Status11, .int .i64 n_Code12]) ∧
 ∀ (b13 : Nat) (w14 : World), b13 = w2.heap.size → w14 = World.alloc w2 (.cells #[.int .i64 (0 : Int), .int .i64 (0 : Int), .slice none 0 0, .slice none 0 0, .slice none 0 0, .string (bs []), .string (bs []), .int .i64 (0 : Int), .int .i64 (0 : Int), .int .i64 (0 : Int)] T_api_State) →
 wrOk w14 ⟨b13, 0, none⟩ 10 ∧ ∀ w15 : World, w15 = stW w14 ⟨b13, 0, none⟩ 0 [.int .i64 n_Ip3, .int .i64 n_Handler4, s_Stack5.val, s_Back6.val, s_Mem7.val, .string t_Out8, .string t_In9, .int .i64 n_Read10, .int .i64 n_Status11, .int .i64 n_Code12] →
 ∃ J4 : Bool → World → Prop, (∀ (b21 : Bool) (w20 : World), J4 b21 w20 →
 brB b21
 (K (.bool false) w20)
 (∀ w22 : World, w22 = World.drew w20 →
 ∃ S23 : World → Prop, S23 w22 ∧
 ∃ s24 : Sl, held S23 ⟨b13, 4, none⟩ (s24.val) ∧
 ∃ s25 : Sl, held S23 ⟨b13, 4, none⟩ (s25.val) ∧
 ∃ s26 : Sl, held S23 ⟨b13, 4, none⟩ (s26.val) ∧
 ∃ s27 : Sl, held S23 ⟨b13, 4, none⟩ (s27.val) ∧
 ∃ s28 : Sl, held S23 ⟨b13, 4, none⟩ (s28.val) ∧
 ∃ a29 : Addr, s24.ptr = some a29 ∧ 0 ≤ (192 : Int) ∧ (192 : Int) < (s24.len : Int) ∧
 wrOk w22 (Addr.add a29 (Int.toNat (192 : Int) * 1)) 1 ∧ ∀ w30 : World, w30 = stW w22 (Addr.add a29 (Int.toNat (192 : Int) * 1)) 0 [.int .i64 (2 : Int)] →
 S23 w30 ∧
 ∃ a31 : Addr, s25.ptr = some a31 ∧ 0 ≤ (193 : Int) ∧ (193 : Int) < (s25.len : Int) ∧
 wrOk w30 (Addr.add a31 (Int.toNat (193 : Int) * 1)) 1 ∧ ∀ w32 : World, w32 = stW w30 (Addr.add a31 (Int.toNat (193 : Int) * 1)) 0 [.int .i64 (3 : Int)] →
 S23 w32 ∧
 ∃ a33 : Addr, s26.ptr = some a33 ∧ 0 ≤ (194 : Int) ∧ (194 : Int) < (s26.len : Int) ∧
 wrOk w32 (Addr.add a33 (Int.toNat (194 : Int) * 1)) 1 ∧ ∀ w34 : World, w34 = stW w32 (Addr.add a33 (Int.toNat (194 : Int) * 1)) 0 [.int .i64 (6 : Int)] →
 S23 w34 ∧
 ∃ a35 : Addr, s27.ptr = some a35 ∧ 0 ≤ (195 : Int) ∧ (195 : Int) < (s27.len : Int) ∧
 wrOk w34 (Addr.add a35 (Int.toNat (195 : Int) * 1)) 1 ∧ ∀ w36 : World, w36 = stW w34 (Addr.add a35 (Int.toNat (195 : Int) * 1)) 0 [.int .i64 (13 : Int)] →
 S23 w36 ∧
 ∃ a37 : Addr, s28.ptr = some a37 ∧ 0 ≤ (196 : Int) ∧ (196 : Int) < (s28.len : Int) ∧
 wrOk w36 (Addr.add a37 (Int.toNat (196 : Int) * 1)) 1 ∧ ∀ w38 : World, w38 = stW w36 (Addr.add a37 (Int.toNat (196 : Int) * 1)) 0 [.int .i64 (5 : Int)] →
 ∃ n_Ip39 : Int, ∃ n_Handler40 : Int, ∃ s_Stack41 : Sl, ∃ s_Back42 : Sl, ∃ s_Mem43 : Sl, ∃ t_Out44 : ByteArray, ∃ t_In45 : ByteArray, ∃ n_Read46 : Int, ∃ n_Status47 : Int, ∃ n_Code48 : Int, w38.cell? ⟨b13, 0, none⟩ = some (.int .i64 n_Ip39) ∧ w38.cell? ⟨b13, 1, none⟩ = some (.int .i64 n_Handler40) ∧ w38.cell? ⟨b13, 2, none⟩ = some (s_Stack41.val) ∧ w38.cell? ⟨b13, 3, none⟩ = some (s_Back42.val) ∧ w38.cell? ⟨b13, 4, none⟩ = some (s_Mem43.val) ∧ w38.cell? ⟨b13, 5, none⟩ = some (.string t_Out44) ∧ w38.cell? ⟨b13, 6, none⟩ = some (.string t_In45) ∧ w38.cell? ⟨b13, 7, none⟩ = some (.int .i64 n_Read46) ∧ w38.cell? ⟨b13, 8, none⟩ = some (.int .i64 n_Status47) ∧ w38.cell? ⟨b13, 9, none⟩ = some (.int .i64 n_Code48) ∧
 Calls Tryz.prog fn_inner_Enter #[.agg #[.int .i64 n_Ip39, .int .i64 n_Handler40, s_Stack41.val, s_Back42.val, s_Mem43.val, .string t_Out44, .string t_In45, .int .i64 n_Read46, .int .i64 n_Status47, .int .i64 n_Code48], .int .i64 (192 : Int)] w38 fun e49 w50 => ∃ n_Ip51 : Int, ∃ n_Handler52 : Int, ∃ s_Stack53 : Sl, ∃ s_Back54 : Sl, ∃ s_Mem55 : Sl, ∃ t_Out56 : ByteArray, ∃ t_In57 : ByteArray, ∃ n_Read58 : Int, ∃ n_Status59 : Int, ∃ n_Code60 : Int, e49 = .returned (.agg #[.int .i64 n_Ip51, .int .i64 n_Handler52, s_Stack53.val, s_Back54.val, s_Mem55.val, .string t_Out56, .string t_In57, .int .i64 n_Read58, .int .i64 n_Status59, .int .i64 n_Code60]) ∧
 Calls Tryz.prog fn_inner_Run #[.agg #[.int .i64 n_Ip51, .int .i64 n_Handler52, s_Stack53.val, s_Back54.val, s_Mem55.val, .string t_Out56, .string t_In57, .int .i64 n_Read58, .int .i64 n_Status59, .int .i64 n_Code60], .int .i64 (99 : Int)] w50 fun e61 w62 => ∃ n_Ip63 : Int, ∃ n_Handler64 : Int, ∃ s_Stack65 : Sl, ∃ s_Back66 : Sl, ∃ s_Mem67 : Sl, ∃ t_Out68 : ByteArray, ∃ t_In69 : ByteArray, ∃ n_Read70 : Int, ∃ n_Status71 : Int, ∃ n_Code72 : Int, ∃ n73 : Int, e61 = .returned (.tuple #[.agg #[.int .i64 n_Ip63, .int .i64 n_Handler64, s_Stack65.val, s_Back66.val, s_Mem67.val, .string t_Out68, .string t_In69, .int .i64 n_Read70, .int .i64 n_Status71, .int .i64 n_Code72], .int .i64 n73]) ∧
 ∀ (b74 : Nat) (w75 : World), b74 = w62.heap.size → w75 = World.alloc w62 (.cells #[.int .i64 (0 : Int), .int .i64 (0 : Int), .slice none 0 0, .slice none 0 0, .slice none 0 0, .string (bs []), .string (bs []), .int .i64 (0 : Int), .int .i64 (0 : Int), .int .i64 (0 : Int)] T_api_State) →
 wrOk w75 ⟨b74, 0, none⟩ 10 ∧ ∀ w76 : World, w76 = stW w75 ⟨b74, 0, none⟩ 0 [.int .i64 n_Ip63, .int .i64 n_Handler64, s_Stack65.val, s_Back66.val, s_Mem67.val, .string t_Out68, .string t_In69, .int .i64 n_Read70, .int .i64 n_Status71, .int .i64 n_Code72] →
 ∃ n77 : Int, w76.cell? ⟨b74, 8, none⟩ = some (.int .i64 n77) ∧
 brB (n77 == (1 : Int))
 (∃ s78 : Sl, w76.cell? ⟨b74, 2, none⟩ = some (s78.val) ∧
 brB ((s78.len : Int) == (1 : Int))
 (∃ s79 : Sl, w76.cell? ⟨b74, 2, none⟩ = some (s79.val) ∧
 ∃ a80 : Addr, s79.ptr = some a80 ∧ 0 ≤ (0 : Int) ∧ (0 : Int) < (s79.len : Int) ∧
 ∃ n81 : Int, w76.cell? (Addr.add a80 (Int.toNat (0 : Int) * 1)) = some (.int .i64 n81) ∧
 brB (n81 == (9 : Int))
 (K (.bool (n73 == (94 : Int))) w76)
 (K (.bool false) w76))
 (K (.bool false) w76))
 (K (.bool false) w76))) ∧
 ∃ s16 : Sl, w15.cell? ⟨b13, 4, none⟩ = some (s16.val) ∧
 brB ((s16.len : Int) != (300 : Int))
 (J4 true w15)
 (∃ s17 : Sl, w15.cell? ⟨b13, 4, none⟩ = some (s17.val) ∧
 ∃ a18 : Addr, s17.ptr = some a18 ∧ 0 ≤ (76 : Int) ∧ (76 : Int) < (s17.len : Int) ∧
 ∃ n19 : Int, w15.cell? (Addr.add a18 (Int.toNat (76 : Int) * 1)) = some (.int .i64 n19) ∧
 J4 (n19 != (6 : Int)) w15)
def hollowaylaw9_alive_an : An := ⟨[], [(4, (18, .st 0 (.st 1 (.st 2 (.st 3 (.st 4 (.st 5 (.st 6 (.st 7 (.st 8 (.st 9 (.st 10 (.ef 11 (.st 12 (.ef 13 (.st 14 (.ef 15 (.st 16 (.ef 17 .done))))))))))))))))), 1))], [(3, [(15, .bool)])]⟩
theorem hollowaylaw9_alive_lift  {w : World} {K : Value → World → Prop} (h : hollowaylaw9_alive_sh  w K) : Calls Tryz.prog fn_hollowaylaw9_alive #[] w fun e w' => ∃ v, e = .returned v ∧ K v w' :=
   lift_calls (A := hollowaylaw9_alive_an) (c := bodyOf Tryz.f8) (args := []) orc orc_wide Tryz.func8 (by kernel_rfl) (by kernel_rfl) (Eq.mp (by kernel_rfl : hollowaylaw9_alive_sh  w K = wpc orc Tryz.f8.ntmps hollowaylaw9_alive_an (bodyOf Tryz.f8) (argl 0 []) w (retQ orc Tryz.f8.results.toList K)) h)

-- holloway/hollowaylaw9.Light
def hollowaylaw9_Light_sh (s__Ip1 : Int) (s__Handler2 : Int) (s__Stack3 : Sl) (s__Back4 : Sl) (s__Mem5 : Sl) (s__Out6 : ByteArray) (s__In7 : ByteArray) (s__Read8 : Int) (s__Status9 : Int) (s__Code10 : Int) (w : World) (K : Value → World → Prop) : Prop :=
 ∀ (b11 : Nat) (w12 : World), b11 = w.heap.size → w12 = World.alloc w (.cells #[.int .i64 s__Ip1, .int .i64 s__Handler2, s__Stack3.val, s__Back4.val, s__Mem5.val, .string s__Out6, .string s__In7, .int .i64 s__Read8, .int .i64 s__Status9, .int .i64 s__Code10] T_api_State) →
 ∃ s13 : Sl, w12.cell? ⟨b11, 4, none⟩ = some (s13.val) ∧
 brB (decide ((s13.len : Int) ≤ (700 : Int)))
 (∃ t14 : ByteArray, w12.cell? ⟨b11, 6, none⟩ = some (.string t14) ∧
 brB (decide ((t14.size : Int) ≤ (300 : Int)))
 (∃ n_Ip15 : Int, ∃ n_Handler16 : Int, ∃ s_Stack17 : Sl, ∃ s_Back18 : Sl, ∃ s_Mem19 : Sl, ∃ t_Out20 : ByteArray, ∃ t_In21 : ByteArray, ∃ n_Read22 : Int, ∃ n_Status23 : Int, ∃ n_Code24 : Int, w12.cell? ⟨b11, 0, none⟩ = some (.int .i64 n_Ip15) ∧ w12.cell? ⟨b11, 1, none⟩ = some (.int .i64 n_Handler16) ∧ w12.cell? ⟨b11, 2, none⟩ = some (s_Stack17.val) ∧ w12.cell? ⟨b11, 3, none⟩ = some (s_Back18.val) ∧ w12.cell? ⟨b11, 4, none⟩ = some (s_Mem19.val) ∧ w12.cell? ⟨b11, 5, none⟩ = some (.string t_Out20) ∧ w12.cell? ⟨b11, 6, none⟩ = some (.string t_In21) ∧ w12.cell? ⟨b11, 7, none⟩ = some (.int .i64 n_Read22) ∧ w12.cell? ⟨b11, 8, none⟩ = some (.int .i64 n_Status23) ∧ w12.cell? ⟨b11, 9, none⟩ = some (.int .i64 n_Code24) ∧
 Calls Tryz.prog fn_hollowayref9_Right #[.agg #[.int .i64 n_Ip15, .int .i64 n_Handler16, s_Stack17.val, s_Back18.val, s_Mem19.val, .string t_Out20, .string t_In21, .int .i64 n_Read22, .int .i64 n_Status23, .int .i64 n_Code24]] w12 fun e25 w26 => ∃ b27 : Bool, e25 = .returned (.bool b27) ∧
 K (.bool b27) w26)
 (K (.bool false) w12))
 (K (.bool false) w12)
def hollowaylaw9_Light_an : An := ⟨[], [], []⟩
theorem hollowaylaw9_Light_lift {s__Ip1 : Int} {s__Handler2 : Int} {s__Stack3 : Sl} {s__Back4 : Sl} {s__Mem5 : Sl} {s__Out6 : ByteArray} {s__In7 : ByteArray} {s__Read8 : Int} {s__Status9 : Int} {s__Code10 : Int} {w : World} {K : Value → World → Prop} (h : hollowaylaw9_Light_sh s__Ip1 s__Handler2 s__Stack3 s__Back4 s__Mem5 s__Out6 s__In7 s__Read8 s__Status9 s__Code10 w K) : Calls Tryz.prog fn_hollowaylaw9_Light #[.agg #[.int .i64 s__Ip1, .int .i64 s__Handler2, s__Stack3.val, s__Back4.val, s__Mem5.val, .string s__Out6, .string s__In7, .int .i64 s__Read8, .int .i64 s__Status9, .int .i64 s__Code10]] w fun e w' => ∃ v, e = .returned v ∧ K v w' :=
   lift_calls (A := hollowaylaw9_Light_an) (c := bodyOf Tryz.f23) (args := [.agg #[.int .i64 s__Ip1, .int .i64 s__Handler2, s__Stack3.val, s__Back4.val, s__Mem5.val, .string s__Out6, .string s__In7, .int .i64 s__Read8, .int .i64 s__Status9, .int .i64 s__Code10]]) orc orc_wide Tryz.func23 (by kernel_rfl) (by kernel_rfl) (Eq.mp (by kernel_rfl : hollowaylaw9_Light_sh s__Ip1 s__Handler2 s__Stack3 s__Back4 s__Mem5 s__Out6 s__In7 s__Read8 s__Status9 s__Code10 w K = wpc orc Tryz.f23.ntmps hollowaylaw9_Light_an (bodyOf Tryz.f23) (argl 0 [.agg #[.int .i64 s__Ip1, .int .i64 s__Handler2, s__Stack3.val, s__Back4.val, s__Mem5.val, .string s__Out6, .string s__In7, .int .i64 s__Read8, .int .i64 s__Status9, .int .i64 s__Code10]]) w (retQ orc Tryz.f23.results.toList K)) h)

end Go.Proofs.YtkjpmkopnkkbmaaGreatDoor
